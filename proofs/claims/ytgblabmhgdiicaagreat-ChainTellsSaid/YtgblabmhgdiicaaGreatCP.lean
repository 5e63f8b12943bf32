/-
  Contracts of functions of the program and of the document, each for every input that its premises name.
-/
import Derived.Test.YtgblabmhgdiicaaGreatCX
import Derived.Test.YtgblabmhgdiicaaGreatFRK
set_option linter.unusedSectionVars false
set_option maxRecDepth 100000
set_option maxHeartbeats 4000000
set_option linter.unusedVariables false
set_option linter.unusedSimpArgs false
open Go Go.AX
namespace Go.Proofs.YtgblabmhgdiicaaGreat.Tb
theorem fn_l20tells : FnOk Tryz.prog 5 Tryz.f5 := ⟨Tryz.func5, by kernel_rfl, by kernel_rfl, by kernel_rfl⟩
theorem l20tells_c (p : Pn) (n sure off ledger k : Int) (hp : pnR p) (hs : u64R sure) (ho : u64R off) (hl : u64R ledger) (hk : u64R k) : PCx Tryz.prog 5 [.agg p.c, ii n, uu sure, uu off, uu ledger, uu k] (bl true) := by
  refine PC.le ?_
  have cLg := pLong_c p
  cases hlg : longP p with
  | true =>
    rw [hlg] at cLg
    clear hlg
    refine PC_of_VC tabOk (draw_ok mixed tabOk) fn_l20tells rfl ?_
    repeat' ((conv => whnf); first | with_reducible refine zol ?_ | ((with_reducible refine fk (fun hc => ?_) fun hc => ?_) <;> first | exact absurd hc (by decide) | (exfalso; simp only [*, reduceCtorEq, Bool.not_true, Bool.not_false] at hc; done) | skip) | (refine zll ?_; (conv => whnf); refine ⟨_, cLg, ?_⟩) | (refine zll ?_; (conv => whnf); refine ⟨_, l20awake_c, ?_⟩) | ((with_reducible apply And.intro); focus (first | rfl | exact znb rfl | omega | (simp only [zlc, zln, zlm, zla]; omega))))
    repeat' first | (with_reducible first | exact ⟨⟩ | exact rfl | exact lr _) | ((conv => whnf); with_reducible first | apply And.intro | exact ⟨⟩) | exact rfl | exact fun h => h | exact lr _
    all_goals try (conv => whnf)
  | false =>
  rw [hlg] at cLg
  have hB := longP_B hlg
  have hJ : PnJ p := ⟨⟨hB, fun c hc => ⟨(hp.2.2.1 c hc).1.1, (hp.2.2.1 c hc).2.2.2.2.1⟩, fun l hl => ⟨(hp.2.2.2.1 l hl).2.2.2.1.1, (hp.2.2.2.1 l hl).2.2.2.1.2, (hp.2.2.2.1 l hl).2.2.2.2.1.1⟩⟩, fun l hl => (hp.2.2.2.1 l hl).2.2.2.2.1⟩
  have c1 := cFind_c p n sure off hJ.ok hs.1
  have c2 := r20Find_c p n sure off hJ hs ho
  have c3 := cOff_c p n sure ledger k hJ.ok hs.1
  have c4 := r20Off_c p n sure ledger k hJ hs
  have c5 := cLength_c p n sure hJ.ok hs.1
  have c6 := r20Length_c p n sure hJ hs
  have c7 := cAll_c p n sure hJ.ok hs.1
  have c8 := r20All_c p n sure hJ hs
  have c9 := cGone_c p n hJ.ok
  have ca := r20Gone_c p n hJ
  have cb := cKeep_c p hB
  have cc := r20Keep_c p hJ.i
  have cd := sameSp_c (allC p n sure) (allC p n sure)
  have ce := sameIds_c (goneC p n).1 (goneC p n).1
  have cf := sameIds_c (keepC p) (keepC p)
  rw [decide_eq_true rfl] at cd ce cf
  obtain ⟨⟨x1, x2⟩, hx⟩ : ∃ x, x = findC p n sure off := ⟨_, rfl⟩
  obtain ⟨⟨y1, y2⟩, hy⟩ : ∃ x, x = offC p n sure ledger k := ⟨_, rfl⟩
  obtain ⟨⟨z1, z2, z3⟩, hz⟩ : ∃ x, x = goneC p n := ⟨_, rfl⟩
  obtain ⟨le, hle⟩ : ∃ x, x = lengthC p n sure := ⟨_, rfl⟩
  obtain ⟨al, hal⟩ : ∃ x, x = allC p n sure := ⟨_, rfl⟩
  obtain ⟨ke, hke⟩ : ∃ x, x = keepC p := ⟨_, rfl⟩
  rw [← hx] at c1 c2
  rw [← hy] at c3 c4
  rw [← hz] at c9 ca ce
  rw [← hle] at c5 c6
  rw [← hal] at c7 c8 cd
  rw [← hke] at cb cc cf
  dsimp only at c1 c2 c3 c4 c9 ca ce
  clear hx hy hz hle hal hke hlg hJ hB
  have b1 : (!(x1.offset == x1.offset && (x1.ledger == x1.ledger && x1.n == x1.n))) = false := by simp
  have b2 : (x2 != x2) = false := by simp
  have b3 : (y1 != y1) = false := by simp
  have b4 : (y2 != y2) = false := by simp
  have b5 : (le != le) = false := by simp
  have b6 : (z2 == z2) = true := by simp
  have b7 : (z3 == z3) = true := by simp
  refine PC_of_VC tabOk (draw_ok mixed tabOk) fn_l20tells rfl ?_
  repeat' ((conv => whnf); first | with_reducible refine zol ?_ | ((with_reducible refine fk (fun hc => ?_) fun hc => ?_) <;> first | exact absurd hc (by decide) | (exfalso; simp only [*, reduceCtorEq, Bool.not_true, Bool.not_false] at hc; done) | skip) | (refine zll ?_; (conv => whnf); refine ⟨_, cLg, ?_⟩) | (refine zll ?_; (conv => whnf); refine ⟨_, c1, ?_⟩) | (refine zll ?_; (conv => whnf); refine ⟨_, c2, ?_⟩) | (refine zll ?_; (conv => whnf); refine ⟨_, c3, ?_⟩) | (refine zll ?_; (conv => whnf); refine ⟨_, c4, ?_⟩) | (refine zll ?_; (conv => whnf); refine ⟨_, c5, ?_⟩) | (refine zll ?_; (conv => whnf); refine ⟨_, c6, ?_⟩) | (refine zll ?_; (conv => whnf); refine ⟨_, c7, ?_⟩) | (refine zll ?_; (conv => whnf); refine ⟨_, c8, ?_⟩) | (refine zll ?_; (conv => whnf); refine ⟨_, c9, ?_⟩) | (refine zll ?_; (conv => whnf); refine ⟨_, ca, ?_⟩) | (refine zll ?_; (conv => whnf); refine ⟨_, cb, ?_⟩) | (refine zll ?_; (conv => whnf); refine ⟨_, cc, ?_⟩) | (refine zll ?_; (conv => whnf); refine ⟨_, cd, ?_⟩) | (refine zll ?_; (conv => whnf); refine ⟨_, ce, ?_⟩) | (refine zll ?_; (conv => whnf); refine ⟨_, cf, ?_⟩) | (refine zll ?_; (conv => whnf); refine ⟨_, l20awake_c, ?_⟩) | ((with_reducible apply And.intro); focus (first | rfl | exact znb rfl | omega | (simp only [zlc, zln, zlm, zla]; omega))))
  repeat' first | (with_reducible first | exact ⟨⟩ | exact rfl | exact lr _) | ((conv => whnf); with_reducible first | apply And.intro | exact ⟨⟩) | exact rfl | exact fun h => h | exact lr _
  all_goals try (conv => whnf)
end Go.Proofs.YtgblabmhgdiicaaGreat.Tb

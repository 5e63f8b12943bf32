/-
  Contracts of functions of the program and of the document, each for every input that its premises name.
-/
import Derived.Test.YtgblabmhgdiicaaGreatCJ
import Derived.Test.YtgblabmhgdiicaaGreatAe
set_option linter.unusedSectionVars false
set_option maxRecDepth 100000
set_option maxHeartbeats 4000000
set_option linter.unusedVariables false
set_option linter.unusedSimpArgs false
open Go Go.AX
namespace Go.Proofs.YtgblabmhgdiicaaGreat.Tb
theorem fn_sameIds : FnOk Tryz.prog 20 Tryz.f20 := ⟨Tryz.func20, by kernel_rfl, by kernel_rfl, by kernel_rfl⟩
theorem sameIds_c (a b : List Int) : PCx Tryz.prog 20 [slU a, slU b] (bl (decide (a = b))) := by
  refine PC.le (PC_bd fn_sameIds fun hbd => ?_)
  have hba : a.length ≤ 9223372036854775807 := by have := hbd.1; simpa [bdP, slU] using this
  have ea : ((List.map uRow a).length : Int) = (a.length : Int) := by rw [List.length_map]
  have eb : ((List.map uRow b).length : Int) = (b.length : Int) := by rw [List.length_map]
  by_cases hl : a.length = b.length
  case neg =>
    have d0 : ((a.length : Int) != (b.length : Int)) = true := by simp; omega
    have e : decide (a = b) = false := by simp only [zdf]; intro e; subst e; exact hl rfl
    rw [e]
    refine PC_of_VC tabOk (draw_ok mixed tabOk) fn_sameIds rfl ?_
    repeat' ((conv => whnf); first | with_reducible refine zol ?_ | ((with_reducible refine fk (fun hc => ?_) fun hc => ?_) <;> first | exact absurd hc (by decide) | (exfalso; simp only [*, reduceCtorEq] at hc; done) | skip) | rewrite [ea] | rewrite [eb] | ((with_reducible apply And.intro); focus (first | rfl | exact znb rfl | omega | (simp only [zlc, zln, zlm, zla]; omega))))
    repeat' first | (with_reducible first | exact ⟨⟩ | exact rfl | exact lr _) | ((conv => whnf); with_reducible first | apply And.intro | exact ⟨⟩) | exact rfl | exact fun h => h | exact lr _
    all_goals try (conv => whnf)
  have d0 : ((a.length : Int) != (b.length : Int)) = false := by simp; omega
  have hlh : Hd (a.length = b.length) := ⟨hl⟩
  clear hl
  refine PC_of_VC tabOk (draw_ok mixed tabOk) fn_sameIds rfl ?_
  repeat' ((conv => whnf); first | with_reducible refine zol ?_ | ((with_reducible refine fk (fun hc => ?_) fun hc => ?_) <;> first | exact absurd hc (by decide) | (exfalso; simp only [*, reduceCtorEq] at hc; done) | skip) | rewrite [ea] | rewrite [eb] | ((with_reducible apply And.intro); focus (first | rfl | exact znb rfl | omega | (simp only [zlc, zln, zlm, zla]; omega))))
  refine ⟨{k : Nat // k ≤ a.length ∧ ∀ j (hj : j < a.length), j < k → a[j] = b[j]'(by have := hlh.out; omega)}, fun ⟨k, _⟩ => ⟨[(0, .pv (slU a)), (1, .pv (slU b)), (5, .pv (ii k))], 1000000000, []⟩, fun ⟨k, _⟩ => a.length - k, ⟨⟨0, by simp⟩, ent_of ?_⟩, ?_⟩
  · repeat' first
      | fail
      | with_reducible exact True.intro
      | with_reducible exact rfl
      | with_reducible exact leRs_refl _
      | ((conv => whnf); with_reducible apply And.intro)
      | ((conv => whnf); with_reducible exact True.intro)
      | exact rfl
      | exact fun h => h
      | exact leRs_refl _
    all_goals try (conv => whnf)
  rintro ⟨k, hk, hn⟩
  by_cases hlt : k < a.length
  · have d1 : decide ((k : Int) < (a.length : Int)) = true := by simp only [zdt]; omega
    have eW : IntKind.i64.wrap ((k : Int) + 1) = ((k + 1 : Nat) : Int) := by rw [wrapI (by omega) (by omega)]; omega
    have r1 := rowK uRow a k hlt
    have r2 := rowK uRow b k (by have := hlh.out; omega)
    by_cases hq : a[k] = b[k]'(by have := hlh.out; omega)
    · have hg : ∀ j (hj : j < a.length), j < k + 1 → a[j] = b[j]'(by have := hlh.out; omega) := by
        intro j hj hjk
        rcases Nat.lt_succ_iff_lt_or_eq.1 hjk with hj' | rfl
        · exact hn j hj hj'
        · exact hq
      rw [← hq] at r2
      clear hq
      repeat' ((conv => whnf); first | with_reducible refine zol ?_ | ((with_reducible refine fk (fun hc => ?_) fun hc => ?_) <;> first | exact absurd hc (by decide) | (exfalso; simp only [*, reduceCtorEq, Bool.not_true, Bool.not_false] at hc; done) | skip) | rewrite [ea] | ((refine ⟨_, r1, ?_⟩)) | ((refine ⟨_, r2, ?_⟩)) | ((with_reducible apply And.intro); focus (first | rfl | exact znb rfl | omega | (simp only [zlc, zln, zlm, zla]; omega))))
      all_goals first
        | (exfalso; simp at hc; done)
        | (refine ⟨⟨k + 1, hlt, hg⟩, dec_lt hlt, ent_of ?_⟩
           (repeat' first | (with_reducible first | exact ⟨⟩ | exact rfl | exact lr _) | ((conv => whnf); with_reducible first | apply And.intro | exact ⟨⟩) | exact rfl | exact fun h => h | exact lr _); (all_goals try (conv => whnf))
           all_goals exact eW)
    · have e : decide (a = b) = false := by
        simp only [zdf]; intro e; subst e; exact hq rfl
      rw [e]
      repeat' ((conv => whnf); first | with_reducible refine zol ?_ | ((with_reducible refine fk (fun hc => ?_) fun hc => ?_) <;> first | exact absurd hc (by decide) | (exfalso; simp only [*, reduceCtorEq, Bool.not_true, Bool.not_false] at hc; done) | skip) | rewrite [ea] | ((refine ⟨_, r1, ?_⟩)) | ((refine ⟨_, r2, ?_⟩)) | ((with_reducible apply And.intro); focus (first | rfl | exact znb rfl | omega | (simp only [zlc, zln, zlm, zla]; omega))))
      all_goals first
        | (exact absurd (Go.AX.Int.eqOf _ _ hc) hq)
        | ((repeat' first | (with_reducible first | exact ⟨⟩ | exact rfl | exact lr _) | ((conv => whnf); with_reducible first | apply And.intro | exact ⟨⟩) | exact rfl | exact fun h => h | exact lr _); (all_goals try (conv => whnf)); done)
  · have d1 : decide ((k : Int) < (a.length : Int)) = false := by simp only [zdf]; omega
    have e : decide (a = b) = true := by
      simp only [zdt]
      exact List.ext_getElem hlh.out fun j h1 h2 => hn j h1 (by omega)
    rw [e]
    repeat' ((conv => whnf); first | with_reducible refine zol ?_ | ((with_reducible refine fk (fun hc => ?_) fun hc => ?_) <;> first | exact absurd hc (by decide) | (exfalso; simp only [*, reduceCtorEq, Bool.not_true, Bool.not_false] at hc; done) | skip) | rewrite [ea] | ((with_reducible apply And.intro); focus (first | rfl | exact znb rfl | omega | (simp only [zlc, zln, zlm, zla]; omega))))
    repeat' first | (with_reducible first | exact ⟨⟩ | exact rfl | exact lr _) | ((conv => whnf); with_reducible first | apply And.intro | exact ⟨⟩) | exact rfl | exact fun h => h | exact lr _
    all_goals try (conv => whnf)
theorem fn_sameSp : FnOk Tryz.prog 13 Tryz.f13 := ⟨Tryz.func13, by kernel_rfl, by kernel_rfl, by kernel_rfl⟩
theorem sameSp_c (a b : List Sp) : PCx Tryz.prog 13 [slS a, slS b] (bl (decide (a = b))) := by
  refine PC.le (PC_bd fn_sameSp fun hbd => ?_)
  have hba : a.length ≤ 9223372036854775807 := by have := hbd.1; simpa [bdP, slS] using this
  have ea : ((List.map Sp.c a).length : Int) = (a.length : Int) := by rw [List.length_map]
  have eb : ((List.map Sp.c b).length : Int) = (b.length : Int) := by rw [List.length_map]
  by_cases hl : a.length = b.length
  case neg =>
    have d0 : ((a.length : Int) != (b.length : Int)) = true := by simp; omega
    have e : decide (a = b) = false := by simp only [zdf]; intro e; subst e; exact hl rfl
    rw [e]
    refine PC_of_VC tabOk (draw_ok mixed tabOk) fn_sameSp rfl ?_
    repeat' ((conv => whnf); first | with_reducible refine zol ?_ | ((with_reducible refine fk (fun hc => ?_) fun hc => ?_) <;> first | exact absurd hc (by decide) | (exfalso; simp only [*, reduceCtorEq] at hc; done) | skip) | rewrite [ea] | rewrite [eb] | ((with_reducible apply And.intro); focus (first | rfl | exact znb rfl | omega | (simp only [zlc, zln, zlm, zla]; omega))))
    repeat' first | (with_reducible first | exact ⟨⟩ | exact rfl | exact lr _) | ((conv => whnf); with_reducible first | apply And.intro | exact ⟨⟩) | exact rfl | exact fun h => h | exact lr _
    all_goals try (conv => whnf)
  have d0 : ((a.length : Int) != (b.length : Int)) = false := by simp; omega
  have hlh : Hd (a.length = b.length) := ⟨hl⟩
  clear hl
  refine PC_of_VC tabOk (draw_ok mixed tabOk) fn_sameSp rfl ?_
  repeat' ((conv => whnf); first | with_reducible refine zol ?_ | ((with_reducible refine fk (fun hc => ?_) fun hc => ?_) <;> first | exact absurd hc (by decide) | (exfalso; simp only [*, reduceCtorEq] at hc; done) | skip) | rewrite [ea] | rewrite [eb] | ((with_reducible apply And.intro); focus (first | rfl | exact znb rfl | omega | (simp only [zlc, zln, zlm, zla]; omega))))
  refine ⟨{k : Nat // k ≤ a.length ∧ ∀ j (hj : j < a.length), j < k → a[j] = b[j]'(by have := hlh.out; omega)}, fun ⟨k, _⟩ => ⟨[(0, .pv (slS a)), (1, .pv (slS b)), (5, .pv (ii k))], 1000000000, []⟩, fun ⟨k, _⟩ => a.length - k, ⟨⟨0, by simp⟩, ent_of ?_⟩, ?_⟩
  · repeat' first
      | fail
      | with_reducible exact True.intro
      | with_reducible exact rfl
      | with_reducible exact leRs_refl _
      | ((conv => whnf); with_reducible apply And.intro)
      | ((conv => whnf); with_reducible exact True.intro)
      | exact rfl
      | exact fun h => h
      | exact leRs_refl _
    all_goals try (conv => whnf)
  rintro ⟨k, hk, hn⟩
  by_cases hlt : k < a.length
  · have d1 : decide ((k : Int) < (a.length : Int)) = true := by simp only [zdt]; omega
    have eW : IntKind.i64.wrap ((k : Int) + 1) = ((k + 1 : Nat) : Int) := by rw [wrapI (by omega) (by omega)]; omega
    have r1 := rowK Sp.c a k hlt
    have r2 := rowK Sp.c b k (by have := hlh.out; omega)
    by_cases hq : a[k] = b[k]'(by have := hlh.out; omega)
    · have hg : ∀ j (hj : j < a.length), j < k + 1 → a[j] = b[j]'(by have := hlh.out; omega) := by
        intro j hj hjk
        rcases Nat.lt_succ_iff_lt_or_eq.1 hjk with hj' | rfl
        · exact hn j hj hj'
        · exact hq
      rw [← hq] at r2
      clear hq
      repeat' ((conv => whnf); first | with_reducible refine zol ?_ | ((with_reducible refine fk (fun hc => ?_) fun hc => ?_) <;> first | exact absurd hc (by decide) | (exfalso; simp only [*, reduceCtorEq, Bool.not_true, Bool.not_false] at hc; done) | skip) | rewrite [ea] | ((refine ⟨_, r1, ?_⟩)) | ((refine ⟨_, r2, ?_⟩)) | ((with_reducible apply And.intro); focus (first | rfl | exact znb rfl | omega | (simp only [zlc, zln, zlm, zla]; omega))))
      all_goals first
        | (exfalso; simp at hc; done)
        | (refine ⟨⟨k + 1, hlt, hg⟩, dec_lt hlt, ent_of ?_⟩
           (repeat' first | (with_reducible first | exact ⟨⟩ | exact rfl | exact lr _) | ((conv => whnf); with_reducible first | apply And.intro | exact ⟨⟩) | exact rfl | exact fun h => h | exact lr _); (all_goals try (conv => whnf))
           all_goals exact eW)
    · have e : decide (a = b) = false := by
        simp only [zdf]; intro e; subst e; exact hq rfl
      rw [e]
      repeat' ((conv => whnf); first | with_reducible refine zol ?_ | ((with_reducible refine fk (fun hc => ?_) fun hc => ?_) <;> first | exact absurd hc (by decide) | (exfalso; simp only [*, reduceCtorEq, Bool.not_true, Bool.not_false] at hc; done) | skip) | rewrite [ea] | ((refine ⟨_, r1, ?_⟩)) | ((refine ⟨_, r2, ?_⟩)) | ((with_reducible apply And.intro); focus (first | rfl | exact znb rfl | omega | (simp only [zlc, zln, zlm, zla]; omega))))
      all_goals first
        | (exact absurd (Go.AX.Sp.eqOf _ _ hc) hq)
        | ((repeat' first | (with_reducible first | exact ⟨⟩ | exact rfl | exact lr _) | ((conv => whnf); with_reducible first | apply And.intro | exact ⟨⟩) | exact rfl | exact fun h => h | exact lr _); (all_goals try (conv => whnf)); done)
  · have d1 : decide ((k : Int) < (a.length : Int)) = false := by simp only [zdf]; omega
    have e : decide (a = b) = true := by
      simp only [zdt]
      exact List.ext_getElem hlh.out fun j h1 h2 => hn j h1 (by omega)
    rw [e]
    repeat' ((conv => whnf); first | with_reducible refine zol ?_ | ((with_reducible refine fk (fun hc => ?_) fun hc => ?_) <;> first | exact absurd hc (by decide) | (exfalso; simp only [*, reduceCtorEq, Bool.not_true, Bool.not_false] at hc; done) | skip) | rewrite [ea] | ((with_reducible apply And.intro); focus (first | rfl | exact znb rfl | omega | (simp only [zlc, zln, zlm, zla]; omega))))
    repeat' first | (with_reducible first | exact ⟨⟩ | exact rfl | exact lr _) | ((conv => whnf); with_reducible first | apply And.intro | exact ⟨⟩) | exact rfl | exact fun h => h | exact lr _
    all_goals try (conv => whnf)
theorem fn_longFrags : FnOk Tryz.prog 23 Tryz.f23 := ⟨Tryz.func23, by kernel_rfl, by kernel_rfl, by kernel_rfl⟩
theorem longFrags_c (l : List Fr) : PCx Tryz.prog 23 [slF l] (bl (longF l)) := by
  refine PC.le (PC_bd fn_longFrags fun hb => ?_)
  have hb : l.length ≤ 9223372036854775807 := by simpa [bdL, bdP, slF] using hb
  refine PC_of_VC tabOk (draw_ok mixed tabOk) fn_longFrags rfl ?_
  repeat' ((conv => whnf); first | with_reducible refine zol ?_ | ((with_reducible refine fk (fun hc => ?_) fun hc => ?_) <;> first | exact absurd hc (by decide) | (exfalso; simp only [*, reduceCtorEq] at hc; done) | skip) | ((with_reducible apply And.intro); focus (first | rfl | exact znb rfl | omega | (simp only [zlc, zln, zlm, zla]; omega))))
  · repeat' first
      | fail
      | with_reducible exact True.intro
      | with_reducible exact rfl
      | with_reducible exact leRs_refl _
      | ((conv => whnf); with_reducible apply And.intro)
      | ((conv => whnf); with_reducible exact True.intro)
      | exact rfl
      | exact fun h => h
      | exact leRs_refl _
    all_goals try (conv => whnf)
    simp [longF] at *; omega
  refine ⟨{k : Nat // k ≤ l.length ∧ ∀ j (hj : j < l.length), j < k → decide ((l[j].bookies.length : Int) > 30) = false}, fun ⟨k, _⟩ => ⟨[(0, .pv (slF l)), (3, .pv (ii k))], 1000000000, []⟩, fun ⟨k, _⟩ => l.length - k, ⟨⟨0, by simp⟩, ent_of ?_⟩, ?_⟩
  · repeat' first
      | fail
      | with_reducible exact True.intro
      | with_reducible exact rfl
      | with_reducible exact leRs_refl _
      | ((conv => whnf); with_reducible apply And.intro)
      | ((conv => whnf); with_reducible exact True.intro)
      | exact rfl
      | exact fun h => h
      | exact leRs_refl _
    all_goals try (conv => whnf)
  rintro ⟨k, hk, hn⟩
  repeat' ((conv => whnf); first | with_reducible refine zol ?_ | ((with_reducible refine fk (fun hc => ?_) fun hc => ?_) <;> first | exact absurd hc (by decide) | (exfalso; simp only [*, reduceCtorEq] at hc; done) | skip) | ((with_reducible apply And.intro); focus (first | rfl | exact znb rfl | omega | (simp only [zlc, zln, zlm, zla]; omega))))
  · have hlt : k < l.length := by simpa using hc
    refine ⟨_, rowK _ _ _ hlt, ?_⟩
    repeat' ((conv => whnf); first | with_reducible refine zol ?_ | ((with_reducible refine fk (fun hc => ?_) fun hc => ?_) <;> first | exact absurd hc (by decide) | (exfalso; simp only [*, reduceCtorEq] at hc; done) | skip) | ((with_reducible apply And.intro); focus (first | rfl | exact znb rfl | omega | (simp only [zlc, zln, zlm, zla]; omega))))
    · repeat' first
        | fail
        | with_reducible exact True.intro
        | with_reducible exact rfl
        | with_reducible exact leRs_refl _
        | ((conv => whnf); with_reducible apply And.intro)
        | ((conv => whnf); with_reducible exact True.intro)
        | exact rfl
        | exact fun h => h
        | exact leRs_refl _
      all_goals try (conv => whnf)
      rw [List.length_map] at hc
      have := List.any_eq_true.2 (⟨l[k], List.getElem_mem hlt, hc⟩ : ∃ x ∈ l, (fun f : Fr => decide ((f.bookies.length : Int) > 30)) x = true)
      simp only [longF, this, Bool.or_true]
    · repeat' ((conv => whnf)
               first
               | with_reducible refine zol ?_
               | ((with_reducible refine fk (fun hc => ?_) fun hc => ?_) <;> first | exact absurd hc (by decide) | (exfalso; simp only [*, reduceCtorEq] at hc; done) | skip)
               | ((with_reducible apply And.intro); focus (first | rfl | exact znb rfl | omega | (simp only [zlc, zln, zlm, zla]; omega))))
      refine ⟨⟨k + 1, hlt, step_lt hn fun _ => by rw [List.length_map] at hc; exact hc⟩, dec_lt hlt, ent_of ?_⟩
      repeat' first | (with_reducible first | exact ⟨⟩ | exact rfl | exact lr _) | ((conv => whnf); with_reducible first | apply And.intro | exact ⟨⟩) | exact rfl | exact fun h => h | exact lr _
      all_goals try (conv => whnf)
      exact wrapI (by omega) (by omega)
  · have hk : k = l.length := by simp at hc; omega
    subst hk
    repeat' first | (with_reducible first | exact ⟨⟩ | exact rfl | exact lr _) | ((conv => whnf); with_reducible first | apply And.intro | exact ⟨⟩) | exact rfl | exact fun h => h | exact lr _
    all_goals try (conv => whnf)
    have h1 : (l.any fun f => decide ((f.bookies.length : Int) > 30)) = false := by
      rw [List.any_eq_false]
      intro x hx
      have := all_of (q := fun f : Fr => decide ((f.bookies.length : Int) > 30) = false) hn x hx
      simpa using this
    simp only [longF, h1, Bool.or_false]
    simp at *
    omega
theorem fn_pLong : FnOk Tryz.prog 6 Tryz.f6 := ⟨Tryz.func6, by kernel_rfl, by kernel_rfl, by kernel_rfl⟩
theorem pLong_c (p : Pn) : PCx Tryz.prog 6 [.agg p.c] (bl (longP p)) := by
  refine PC.le ?_
  have e1 : ((List.map Ch.c p.channels).length : Int) = (p.channels.length : Int) := by rw [List.length_map]
  have e2 : ((List.map Lg.c p.ledgers).length : Int) = (p.ledgers.length : Int) := by rw [List.length_map]
  have e3 : ((List.map Pa.c p.past).length : Int) = (p.past.length : Int) := by rw [List.length_map]
  obtain ⟨X, hX⟩ : ∃ X, X = longP p := ⟨_, rfl⟩
  rw [← hX]
  unfold longP at hX
  obtain ⟨A, hA⟩ : ∃ A, A = p.channels.any longC := ⟨_, rfl⟩
  obtain ⟨B, hB⟩ : ∃ B, B = p.ledgers.any fun l => longF l.frags := ⟨_, rfl⟩
  rw [← hA, ← hB, ← e1, ← e2, ← e3] at hX
  refine PC_of_VC tabOk (draw_ok mixed tabOk) fn_pLong rfl ?_
  clear e1 e2 e3
  repeat' ((conv => whnf); first | with_reducible refine zol ?_ | ((with_reducible refine fk (fun hc => ?_) fun hc => ?_) <;> first | exact absurd hc (by decide) | (exfalso; simp only [*, reduceCtorEq] at hc; done) | skip) | ((with_reducible apply And.intro); focus (first | rfl | exact znb rfl | omega | (simp only [zlc, zln, zlm, zla]; omega))))
  all_goals try (focus (simp only [*, Bool.true_or, Bool.false_or, Bool.or_true] at hX; subst hX; (repeat' first | (with_reducible first | exact ⟨⟩ | exact rfl | exact lr _) | ((conv => whnf); with_reducible first | apply And.intro | exact ⟨⟩) | exact rfl | exact fun h => h | exact lr _); (all_goals try (conv => whnf)); done))
  have hb : p.channels.length ≤ 10 := by simp at *; omega
  have hbl : p.ledgers.length ≤ 60 := by simp at *; omega
  simp only [*, Bool.true_or, Bool.false_or, Bool.or_true] at hX
  rw [← hA, ← hB] at hX
  have e1 : ((List.map Ch.c p.channels).length : Int) = (p.channels.length : Int) := by rw [List.length_map]
  have e2 : ((List.map Lg.c p.ledgers).length : Int) = (p.ledgers.length : Int) := by rw [List.length_map]
  refine ⟨{k : Nat // k ≤ p.channels.length ∧ ∀ j (hj : j < p.channels.length), j < k → longC p.channels[j] = false}, fun ⟨k, _⟩ => ⟨[(1, .ptr 1002 0), (3, .pv (ii k))], 1000000000, [(1002, .var (p.c.map .pv))]⟩, fun ⟨k, _⟩ => p.channels.length - k, ⟨⟨0, by simp⟩, ent_of ?_⟩, ?_⟩
  · repeat' first
      | fail
      | with_reducible exact True.intro
      | with_reducible exact rfl
      | with_reducible exact leRs_refl _
      | ((conv => whnf); with_reducible apply And.intro)
      | ((conv => whnf); with_reducible exact True.intro)
      | exact rfl
      | exact fun h => h
      | exact leRs_refl _
    all_goals try (conv => whnf)
  rintro ⟨k, hk, hn⟩
  by_cases hlt : k < p.channels.length
  · have d0 : decide ((k : Int) < (p.channels.length : Int)) = true := by simp only [zdt]; omega
    have eW : IntKind.i64.wrap ((k : Int) + 1) = ((k + 1 : Nat) : Int) := by rw [wrapI (by omega) (by omega)]; omega
    have r1 := rowK Ch.c p.channels k hlt
    have hbad : longC p.channels[k] = true → X = true := by
      intro hq
      have : A = true := by rw [hA]; exact List.any_eq_true.2 ⟨_, List.getElem_mem hlt, hq⟩
      rw [hX, this, Bool.true_or]
    have hgood : longC p.channels[k] = false → ∀ j (hj : j < p.channels.length), j < k + 1 → longC p.channels[j] = false := fun hq => step_lt hn fun _ => hq
    clear hX hA hB
    obtain ⟨c, hc0⟩ : ∃ c, c = p.channels[k] := ⟨_, rfl⟩
    rw [← hc0] at r1 hbad hgood
    clear hc0
    have f1 : ((List.map uRow c.ledgers).length : Int) = (c.ledgers.length : Int) := by rw [List.length_map]
    have f2 : ((List.map Mk.c c.seen).length : Int) = (c.seen.length : Int) := by rw [List.length_map]
    have f3 : ((List.map Cu.c c.cursors).length : Int) = (c.cursors.length : Int) := by rw [List.length_map]
    unfold longC at hbad hgood
    cases hq : (decide ((c.ledgers.length : Int) > 60) || (decide ((c.seen.length : Int) > 60) || decide ((c.cursors.length : Int) > 60))) with
    | true =>
      have hXt := hbad hq
      clear hbad hgood
      subst hXt
      simp only [Bool.or_eq_true] at hq
      rcases hq with q1 | q2 | q3
      · repeat' ((conv => whnf)
                 first
                 | with_reducible refine zol ?_
                 | ((with_reducible refine fk (fun hc => ?_) fun hc => ?_) <;> first | exact absurd hc (by decide) | (exfalso; simp only [*, reduceCtorEq, Bool.not_true, Bool.not_false] at hc; done) | skip)
                 | rewrite [e1]
                 | rewrite [f1]
                 | rewrite [f2]
                 | rewrite [f3]
                 | ((refine ⟨_, r1, ?_⟩))
                 | ((with_reducible apply And.intro); focus (first | rfl | exact znb rfl | omega | (simp only [zlc, zln, zlm, zla]; omega))))
        all_goals (repeat' first | (with_reducible first | exact ⟨⟩ | exact rfl | exact lr _) | ((conv => whnf); with_reducible first | apply And.intro | exact ⟨⟩) | exact rfl | exact fun h => h | exact lr _); (all_goals try (conv => whnf))
      · repeat' ((conv => whnf)
                 first
                 | with_reducible refine zol ?_
                 | ((with_reducible refine fk (fun hc => ?_) fun hc => ?_) <;> first | exact absurd hc (by decide) | (exfalso; simp only [*, reduceCtorEq, Bool.not_true, Bool.not_false] at hc; done) | skip)
                 | rewrite [e1]
                 | rewrite [f1]
                 | rewrite [f2]
                 | rewrite [f3]
                 | ((refine ⟨_, r1, ?_⟩))
                 | ((with_reducible apply And.intro); focus (first | rfl | exact znb rfl | omega | (simp only [zlc, zln, zlm, zla]; omega))))
        all_goals (repeat' first | (with_reducible first | exact ⟨⟩ | exact rfl | exact lr _) | ((conv => whnf); with_reducible first | apply And.intro | exact ⟨⟩) | exact rfl | exact fun h => h | exact lr _); (all_goals try (conv => whnf))
      · repeat' ((conv => whnf)
                 first
                 | with_reducible refine zol ?_
                 | ((with_reducible refine fk (fun hc => ?_) fun hc => ?_) <;> first | exact absurd hc (by decide) | (exfalso; simp only [*, reduceCtorEq, Bool.not_true, Bool.not_false] at hc; done) | skip)
                 | rewrite [e1]
                 | rewrite [f1]
                 | rewrite [f2]
                 | rewrite [f3]
                 | ((refine ⟨_, r1, ?_⟩))
                 | ((with_reducible apply And.intro); focus (first | rfl | exact znb rfl | omega | (simp only [zlc, zln, zlm, zla]; omega))))
        all_goals (repeat' first | (with_reducible first | exact ⟨⟩ | exact rfl | exact lr _) | ((conv => whnf); with_reducible first | apply And.intro | exact ⟨⟩) | exact rfl | exact fun h => h | exact lr _); (all_goals try (conv => whnf))
    | false =>
      have hg := hgood hq
      clear hbad hgood
      simp only [Bool.or_eq_false_iff] at hq
      obtain ⟨q1, q2, q3⟩ := hq
      repeat' ((conv => whnf); first | with_reducible refine zol ?_ | ((with_reducible refine fk (fun hc => ?_) fun hc => ?_) <;> first | exact absurd hc (by decide) | (exfalso; simp only [*, reduceCtorEq, Bool.not_true, Bool.not_false] at hc; done) | skip) | rewrite [e1] | rewrite [f1] | rewrite [f2] | rewrite [f3] | ((refine ⟨_, r1, ?_⟩)) | ((with_reducible apply And.intro); focus (first | rfl | exact znb rfl | omega | (simp only [zlc, zln, zlm, zla]; omega))))
      refine ⟨⟨k + 1, hlt, hg⟩, dec_lt hlt, ent_of ?_⟩
      repeat' first | (with_reducible first | exact ⟨⟩ | exact rfl | exact lr _) | ((conv => whnf); with_reducible first | apply And.intro | exact ⟨⟩) | exact rfl | exact fun h => h | exact lr _
      all_goals try (conv => whnf)
      all_goals exact eW
  have hke : k = p.channels.length := by omega
  subst hke
  have d0 : decide ((p.channels.length : Int) < (p.channels.length : Int)) = false := by simp
  have hAf : A = false := by
    rw [hA, List.any_eq_false]
    exact fun x hx => by rw [all_of (q := fun c : Ch => longC c = false) hn x hx]; decide
  rw [hAf, Bool.false_or] at hX
  clear hA hAf
  repeat' ((conv => whnf); first | with_reducible refine zol ?_ | ((with_reducible refine fk (fun hc => ?_) fun hc => ?_) <;> first | exact absurd hc (by decide) | (exfalso; simp only [*, reduceCtorEq, Bool.not_true, Bool.not_false] at hc; done) | skip) | rewrite [e1] | ((with_reducible apply And.intro); focus (first | rfl | exact znb rfl | omega | (simp only [zlc, zln, zlm, zla]; omega))))
  refine ⟨{k : Nat // k ≤ p.ledgers.length ∧ ∀ j (hj : j < p.ledgers.length), j < k → longF p.ledgers[j].frags = false}, fun ⟨k, _⟩ => ⟨[(1, .ptr 1002 0), (5, .pv (ii k))], 1000000000, [(1002, .var (p.c.map .pv))]⟩, fun ⟨k, _⟩ => p.ledgers.length - k, ⟨⟨0, by simp⟩, ent_of ?_⟩, ?_⟩
  · repeat' first
      | fail
      | with_reducible exact True.intro
      | with_reducible exact rfl
      | with_reducible exact leRs_refl _
      | ((conv => whnf); with_reducible apply And.intro)
      | ((conv => whnf); with_reducible exact True.intro)
      | exact rfl
      | exact fun h => h
      | exact leRs_refl _
    all_goals try (conv => whnf)
  rintro ⟨k, hk2, hn2⟩
  by_cases hlt : k < p.ledgers.length
  · have d1 : decide ((k : Int) < (p.ledgers.length : Int)) = true := by simp only [zdt]; omega
    have eW : IntKind.i64.wrap ((k : Int) + 1) = ((k + 1 : Nat) : Int) := by rw [wrapI (by omega) (by omega)]; omega
    have r1 := rowK Lg.c p.ledgers k hlt
    have cL := longFrags_c p.ledgers[k].frags
    cases hq : longF p.ledgers[k].frags with
    | true =>
      have hXt : X = true := by
        rw [hX, hB]
        exact List.any_eq_true.2 ⟨_, List.getElem_mem hlt, hq⟩
      rw [hq] at cL
      clear hX hB hq
      subst hXt
      repeat' ((conv => whnf); first | with_reducible refine zol ?_ | ((with_reducible refine fk (fun hc => ?_) fun hc => ?_) <;> first | exact absurd hc (by decide) | (exfalso; simp only [*, reduceCtorEq, Bool.not_true, Bool.not_false] at hc; done) | skip) | rewrite [e2] | ((refine ⟨_, r1, ?_⟩)) | (refine zll ?_; (conv => whnf); refine ⟨_, cL, ?_⟩) | ((with_reducible apply And.intro); focus (first | rfl | exact znb rfl | omega | (simp only [zlc, zln, zlm, zla]; omega))))
      repeat' first | (with_reducible first | exact ⟨⟩ | exact rfl | exact lr _) | ((conv => whnf); with_reducible first | apply And.intro | exact ⟨⟩) | exact rfl | exact fun h => h | exact lr _
      all_goals try (conv => whnf)
    | false =>
      rw [hq] at cL
      have hg : ∀ j (hj : j < p.ledgers.length), j < k + 1 → longF p.ledgers[j].frags = false := step_lt hn2 fun _ => hq
      clear hq
      repeat' ((conv => whnf); first | with_reducible refine zol ?_ | ((with_reducible refine fk (fun hc => ?_) fun hc => ?_) <;> first | exact absurd hc (by decide) | (exfalso; simp only [*, reduceCtorEq, Bool.not_true, Bool.not_false] at hc; done) | skip) | rewrite [e2] | ((refine ⟨_, r1, ?_⟩)) | (refine zll ?_; (conv => whnf); refine ⟨_, cL, ?_⟩) | ((with_reducible apply And.intro); focus (first | rfl | exact znb rfl | omega | (simp only [zlc, zln, zlm, zla]; omega))))
      refine ⟨⟨k + 1, hlt, hg⟩, dec_lt hlt, ent_of ?_⟩
      repeat' first | (with_reducible first | exact ⟨⟩ | exact rfl | exact lr _) | ((conv => whnf); with_reducible first | apply And.intro | exact ⟨⟩) | exact rfl | exact fun h => h | exact lr _
      all_goals try (conv => whnf)
      all_goals exact eW
  · have hke : k = p.ledgers.length := by omega
    subst hke
    have d1 : decide ((p.ledgers.length : Int) < (p.ledgers.length : Int)) = false := by simp
    have hBf : X = false := by
      rw [hX, hB, List.any_eq_false]
      exact fun x hx => by rw [all_of (q := fun c : Lg => longF c.frags = false) hn2 x hx]; decide
    clear hX hB
    subst hBf
    repeat' ((conv => whnf); first | with_reducible refine zol ?_ | ((with_reducible refine fk (fun hc => ?_) fun hc => ?_) <;> first | exact absurd hc (by decide) | (exfalso; simp only [*, reduceCtorEq, Bool.not_true, Bool.not_false] at hc; done) | skip) | rewrite [e2] | ((with_reducible apply And.intro); focus (first | rfl | exact znb rfl | omega | (simp only [zlc, zln, zlm, zla]; omega))))
    repeat' first | (with_reducible first | exact ⟨⟩ | exact rfl | exact lr _) | ((conv => whnf); with_reducible first | apply And.intro | exact ⟨⟩) | exact rfl | exact fun h => h | exact lr _
    all_goals try (conv => whnf)
end Go.Proofs.YtgblabmhgdiicaaGreat.Tb

/-
  Contracts of functions of the program and of the document, each for every input that its premises name.
-/
import Derived.Test.YtgblabmhgdiicaaGreatCC
set_option linter.unusedSectionVars false
set_option maxRecDepth 100000
set_option maxHeartbeats 4000000
set_option linter.unusedVariables false
set_option linter.unusedSimpArgs false
open Go Go.AX
namespace Go.Proofs.YtgblabmhgdiicaaGreat.Tb
theorem cnt3 (a b c : Int) : [a, b, c].all cnt = (cnt a && (cnt b && cnt c)) := by simp
theorem cnt1 (a : Int) : [a].all cnt = cnt a := by simp
theorem countsP1_c (a : Int) : PCx Tryz.prog 28 [.sl false 1 [[uu a]]] (bl (cnt a)) := by
  rw [← cnt1]
  exact counts_c [a]
theorem countsP3_c (a b c : Int) : PCx Tryz.prog 28 [.sl false 1 [[uu a], [uu b], [uu c]]] (bl ((cnt a && (cnt b && cnt c)))) := by
  rw [← cnt3]
  exact counts_c [a, b, c]
theorem foldl_take {α β : Type} (f : β → α → β) (z : β) (l : List α) (k : Nat) (h : k < l.length) : (l.take (k + 1)).foldl f z = f ((l.take k).foldl f z) l[k] := by
  rw [List.take_succ_eq_append_getElem h, List.foldl_append]; rfl
theorem fn_pEnd : FnOk Tryz.prog 61 Tryz.f61 := ⟨Tryz.func61, by kernel_rfl, by kernel_rfl, by kernel_rfl⟩
theorem pEnd_c (p : Pn) (n : Int) (h : PnB p) : PCx Tryz.prog 61 [.agg p.c, ii n] (uu (endP p n)) := by
  refine PC.le ?_
  unfold endP
  cases hh : hasP p n with
  | false =>
    rw [if_neg (by decide)]
    have c := pHas_c p n
    rw [hh] at c
    refine PC_of_VC tabOk (draw_ok mixed tabOk) fn_pEnd rfl ?_
    repeat' ((conv => whnf); first | with_reducible refine zol ?_ | ((with_reducible refine fk (fun hc => ?_) fun hc => ?_) <;> first | exact absurd hc (by decide) | (exfalso; simp only [*, reduceCtorEq] at hc; done) | skip) | (refine zll ?_; (conv => whnf); refine ⟨_, c, ?_⟩) | ((with_reducible apply And.intro); focus (first | rfl | exact znb rfl | omega | (simp only [zlc, zln, zlm, zla]; omega))))
    repeat' first | (with_reducible first | exact ⟨⟩ | exact rfl | exact lr _) | ((conv => whnf); with_reducible first | apply And.intro | exact ⟨⟩) | exact rfl | exact fun h => h | exact lr _
    all_goals try (conv => whnf)
  | true =>
    rw [if_pos rfl]
    have c := pHas_c p n
    rw [hh] at c
    simp only [hasP, Bool.and_eq_true, decide_eq_true_eq] at hh
    have hb := h.channels
    obtain ⟨i, hi, rfl⟩ : ∃ i : Nat, i < p.channels.length ∧ n = ((i + 1 : Nat) : Int) := ⟨(n - 1).toNat, by omega, by omega⟩
    have eI : IntKind.i64.wrap (((i + 1 : Nat) : Int) - 1) = ((i : Nat) : Int) := by rw [wrapI (by omega) (by omega)]; omega
    have ec : chP p ((i + 1 : Nat) : Int) = p.channels[i] := by
      unfold chP
      rw [show (((i + 1 : Nat) : Int) - 1).toNat = i from by omega, getElem!_pos p.channels i hi]
    rw [ec]
    clear ec hh
    have hcb := (h.ch _ (List.getElem_mem hi)).ledgers
    obtain ⟨x, hx⟩ : ∃ x, x = p.channels[i] := ⟨_, rfl⟩
    rw [← hx] at hcb ⊢
    refine PC_of_VC tabOk (draw_ok mixed tabOk) fn_pEnd rfl ?_
    repeat' ((conv => whnf); first | with_reducible refine zol ?_ | ((with_reducible refine fk (fun hc => ?_) fun hc => ?_) <;> first | exact absurd hc (by decide) | (exfalso; simp only [*, reduceCtorEq] at hc; done) | skip) | (refine zll ?_; (conv => whnf); refine ⟨_, c, ?_⟩) | ((rewrite [eI])) | ((refine ⟨_, rowK _ _ _ hi, ?_⟩)) | ((with_reducible apply And.intro); focus (first | rfl | exact znb rfl | omega | (simp only [zlc, zln, zlm, zla]; omega))))
    refine ⟨{k : Nat // k ≤ x.ledgers.length}, fun ⟨k, _⟩ => ⟨[(2, .ptr 1002 0), (6, .pv (uu ((x.ledgers.take k).foldl (fun e id => addU e (findL p id).last) x.first))), (24, .pv (slU x.ledgers)), (25, .pv (ii x.ledgers.length)), (26, .pv (ii k))], 1000000000, [(1002, .var (p.c.map .pv))]⟩, fun ⟨k, _⟩ => x.ledgers.length - k, ⟨⟨0, by simp⟩, ent_of ?_⟩, ?_⟩
    · repeat' first
        | fail
        | with_reducible exact True.intro
        | with_reducible exact rfl
        | with_reducible exact leRs_refl _
        | ((conv => whnf); with_reducible apply And.intro)
        | ((conv => whnf); with_reducible exact True.intro)
        | exact rfl
        | exact fun h => h
        | exact leRs_refl _
      all_goals try (conv => whnf)
      all_goals (rw [hx]; first | rfl | exact leRs_refl _ | exact leR_refl _ | simp)
    rintro ⟨k, hk⟩
    clear c eI hi hx
    by_cases hlt : k < x.ledgers.length
    · have d0 : decide ((k : Int) < (x.ledgers.length : Int)) = true := by simp only [zdt]; omega
      have eW : IntKind.i64.wrap ((k : Int) + 1) = ((k + 1 : Nat) : Int) := by rw [wrapI (by omega) (by omega)]; omega
      repeat' ((conv => whnf); first | with_reducible refine zol ?_ | ((with_reducible refine fk (fun hc => ?_) fun hc => ?_) <;> first | exact absurd hc (by decide) | (exfalso; simp only [*, reduceCtorEq] at hc; done) | skip) | ((refine ⟨_, rowK _ _ _ hlt, ?_⟩)) | (refine zll ?_; (conv => whnf); refine ⟨_, pFind_c p _ h, ?_⟩) | ((with_reducible apply And.intro); focus (first | rfl | exact znb rfl | omega | (simp only [zlc, zln, zlm, zla]; omega))))
      refine ⟨⟨k + 1, hlt⟩, dec_lt hlt, ent_of ?_⟩
      repeat' first | (with_reducible first | exact ⟨⟩ | exact rfl | exact lr _) | ((conv => whnf); with_reducible first | apply And.intro | exact ⟨⟩) | exact rfl | exact fun h => h | exact lr _
      all_goals try (conv => whnf)
      all_goals first
        | exact eW
        | (rw [foldl_take _ _ _ _ hlt]; rfl)
    · have hke : k = x.ledgers.length := by omega
      subst hke
      have d0 : decide ((x.ledgers.length : Int) < (x.ledgers.length : Int)) = false := by simp
      repeat' ((conv => whnf); first | with_reducible refine zol ?_ | ((with_reducible refine fk (fun hc => ?_) fun hc => ?_) <;> first | exact absurd hc (by decide) | (exfalso; simp only [*, reduceCtorEq] at hc; done) | skip) | ((with_reducible apply And.intro); focus (first | rfl | exact znb rfl | omega | (simp only [zlc, zln, zlm, zla]; omega))))
      repeat' first | (with_reducible first | exact ⟨⟩ | exact rfl | exact lr _) | ((conv => whnf); with_reducible first | apply And.intro | exact ⟨⟩) | exact rfl | exact fun h => h | exact lr _
      all_goals try (conv => whnf)
      all_goals (rw [List.take_length]; rfl)
end Go.Proofs.YtgblabmhgdiicaaGreat.Tb

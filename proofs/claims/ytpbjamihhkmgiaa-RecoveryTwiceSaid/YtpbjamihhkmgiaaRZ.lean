/-
  Contracts of functions of the program and of the document, each for every input that its premises name.
-/
import Derived.Test.YtpbjamihhkmgiaaFA
import Derived.Test.YtpbjamihhkmgiaaAe
set_option linter.unusedSectionVars false
set_option maxRecDepth 100000
set_option maxHeartbeats 4000000
set_option linter.unusedVariables false
set_option linter.unusedSimpArgs false
open Go Go.AX
namespace Go.Proofs.Ytpbjamihhkmgiaa.Tb
def kept (p : Pl → Bool) (l : List Pl) (j : Nat) : List Pl := (l.take j).filter fun x => !p x
def delS (p : Pl → Bool) (l : List Pl) (jm : Nat × List Pl) : Prop := jm.1 ≤ l.length ∧ jm.2.length = l.length ∧ jm.2.take (kept p l jm.1).length = kept p l jm.1 ∧ jm.2.drop jm.1 = l.drop jm.1
theorem kept_le (p : Pl → Bool) (l : List Pl) (j : Nat) (h : j ≤ l.length) : (kept p l j).length ≤ j := by
  refine Nat.le_trans (List.length_filter_le _ _) ?_
  simp; omega
theorem kept_succ (p : Pl → Bool) (l : List Pl) (j : Nat) (h : j < l.length) : kept p l (j + 1) = if p l[j] then kept p l j else kept p l j ++ [l[j]] := by
  unfold kept
  rw [List.take_succ_eq_append_getElem h, List.filter_append]
  cases hp : p l[j] <;> simp [hp]
theorem delS_get {p : Pl → Bool} {l : List Pl} {j : Nat} {m : List Pl} (h : delS p l (j, m)) (hj : j < l.length) : ∃ hm : j < m.length, m[j] = l[j] := by
  obtain ⟨_, h2, _, h4⟩ := h
  simp only at h2 h4
  have hm : j < m.length := by omega
  refine ⟨hm, ?_⟩
  have := congrArg (fun x => x[0]?) h4
  simpa [hm, hj] using this
theorem delS_skip {p : Pl → Bool} {l : List Pl} {j : Nat} {m : List Pl} (h : delS p l (j, m)) (hj : j < l.length) (hp : p l[j] = true) : delS p l (j + 1, m) := by
  obtain ⟨h1, h2, h3, h4⟩ := h
  refine ⟨hj, h2, ?_, ?_⟩
  · simp only [kept_succ p l j hj, hp, if_true]; exact h3
  · simp only at h4 ⊢
    have := congrArg (fun x => x.drop 1) h4
    simpa using this
theorem delS_keep {p : Pl → Bool} {l : List Pl} {j : Nat} {m : List Pl} (h : delS p l (j, m)) (hj : j < l.length) (hp : p l[j] = false) : delS p l (j + 1, m.set (kept p l j).length l[j]) := by
  have hk := kept_le p l j (Nat.le_of_lt hj)
  obtain ⟨h1, h2, h3, h4⟩ := h
  simp only at h2 h3 h4
  refine ⟨hj, by simpa using h2, ?_, ?_⟩
  · simp only [kept_succ p l j hj, hp, Bool.false_eq_true, if_false, List.length_append, List.length_singleton]
    rw [List.take_succ_eq_append_getElem (by simp; omega), List.take_set_of_le (Nat.le_refl _), h3]
    simp
  · simp only
    have := congrArg (fun x => x.drop 1) h4
    rw [List.drop_set_of_lt (by omega)]
    simpa using this
theorem delS_first {p : Pl → Bool} {l : List Pl} (k : Nat) (hk : k < l.length) (h : ∀ j (hj : j < l.length), j < k → p l[j] = false) (hp : p l[k] = true) : delS p l (k + 1, l) ∧ (kept p l (k + 1)).length = k := by
  have h1 : kept p l k = l.take k := by
    unfold kept
    rw [List.filter_eq_self]
    intro x hx
    obtain ⟨j, hj, rfl⟩ := List.getElem_of_mem hx
    rw [List.length_take] at hj
    rw [List.getElem_take, h j (by omega) (by omega)]; rfl
  have h2 : kept p l (k + 1) = l.take k := by rw [kept_succ p l k hk, hp, if_pos rfl, h1]
  have h3 : (l.take k).length = k := by simp; omega
  exact ⟨⟨hk, rfl, by simp only [h2, h3], rfl⟩, by rw [h2, h3]⟩
theorem fn_deleteF : FnOk Try.prog 58 Try.f58 := ⟨Try.func58, by kernel_rfl, by kernel_rfl, by kernel_rfl⟩
theorem delF0_g (row : List PV) (l : List Pl) (f : FuncId) (p : Pl → Bool) (hp : ∀ x ∈ l, PCx Try.prog f ([] ++ ([.agg x.c] ++ [.eptr row 0])) (bl (p x))) (h0 : ∀ x ∈ l, p x = false) (hl : l.length ≤ 8796093022208) :
    GCx Try.prog 58 [.slw 1 0, .pv (.fn (.func f) [] [.eptr row 0])] [(1, .arr 38 0 2 (l.map Pl.c))] (.slw 1 0) [(1, .arr 38 0 2 (l.map Pl.c))] := by
  have hx : ixP p l = -1 := ixP_none p h0
  refine GC_of_VC tabOk (draw_ok mixed tabOk) fn_deleteF rfl ?_
  repeat' ((conv => whnf); first | with_reducible refine (Or.inl ?_ : VC _ _ _ _ _ ∨ _) | ((with_reducible refine fk (fun hc => ?_) fun hc => ?_) <;> first | exact absurd hc (by decide) | (exfalso; simp only [*, reduceCtorEq] at hc; done) | skip) | (refine Or.inl (Or.inl ?_); (conv => whnf); refine ⟨_, indexFuncPlace_c _ _ _ _ p hp, ?_⟩) | ((with_reducible apply And.intro); focus (first | rfl | exact Nat.le_of_ble_eq_true rfl | omega | (simp only [List.length_cons, List.length_nil, List.length_map, List.length_append]; omega))))
  · refine ⟨_, _, ⟨rfl, rfl⟩, ?_⟩
    repeat' first | (with_reducible first | exact ⟨⟩ | exact rfl | exact lr _) | ((conv => whnf); with_reducible first | apply And.intro | exact ⟨⟩) | exact rfl | exact id | exact lr _
    all_goals try (conv => whnf)
  · rw [hx] at hc
    simp at hc
theorem delF1s_g (row : List PV) (l : List Pl) (f : FuncId) (p : Pl → Bool) (hp : ∀ x ∈ l, PCx Try.prog f ([] ++ ([.agg x.c] ++ [.eptr row 0])) (bl (p x))) (h0 : ¬ ∀ x ∈ l, p x = false) (hl : l.length ≤ 8796093022208) :
    GCx Try.prog 58 [.slw 1 0, .pv (.fn (.func f) [] [.eptr row 0])] [(1, .arr 38 0 2 (l.map Pl.c))] (.sub 1 0 2 0 (l.filter fun x => !p x).length) [(1, .arr 38 0 2 ((l.filter fun x => !p x).map Pl.c ++ List.replicate (l.length - (l.filter fun x => !p x).length) [ii 0, uu 0]))] := by
  obtain ⟨ix, hix, hxe, hxp, hxf⟩ : ∃ k, ∃ hk : k < l.length, ixP p l = (k : Nat) ∧ p l[k] = true ∧ ∀ j (hj : j < l.length), j < k → p l[j] = false := by
    rcases ixP_spec p l with ⟨_, h⟩ | ⟨k, hk, h1, h2, h3⟩
    · exact absurd h h0
    · exact ⟨k, hk, h1, h2, h3⟩
  obtain ⟨hS, hK⟩ := delS_first ix hix hxf hxp
  refine GC_of_VC tabOk (draw_ok mixed tabOk) fn_deleteF rfl ?_
  repeat' ((conv => whnf); first | with_reducible refine (Or.inl ?_ : VC _ _ _ _ _ ∨ _) | ((with_reducible refine fk (fun hc => ?_) fun hc => ?_) <;> first | exact absurd hc (by decide) | (exfalso; simp only [*, reduceCtorEq] at hc; done) | skip) | (refine Or.inl (Or.inl ?_); (conv => whnf); refine ⟨_, indexFuncPlace_c _ _ _ _ p hp, ?_⟩) | ((with_reducible apply And.intro); focus (first | rfl | exact Nat.le_of_ble_eq_true rfl | omega | (simp only [List.length_cons, List.length_nil, List.length_map, List.length_append]; omega))))
  · rw [hxe] at hc
    simp at hc
  refine ⟨{jm : Nat × List Pl // delS p l jm}, fun ⟨(j, m), _⟩ => ⟨[(0, .slw 1 0), (1, .pv (.fn (.func f) [] [.eptr row 0])), (5, .pv (ii (kept p l j).length)), (6, .pv (ii j))], 1000000000, [(1, .arr 38 0 2 (m.map Pl.c))]⟩, fun ⟨(j, _), _⟩ => l.length - j, ⟨⟨(ix + 1, l), hS⟩, ent_of ?_⟩, ?_⟩
  · repeat' first
      | fail
      | with_reducible exact True.intro
      | with_reducible exact rfl
      | with_reducible exact leRs_refl _
      | ((conv => whnf); with_reducible apply And.intro)
      | ((conv => whnf); with_reducible exact True.intro)
      | exact rfl
      | exact id
      | exact leRs_refl _
    all_goals try (conv => whnf)
    · rw [hxe, hK]
    · rw [hxe]; exact wrapI (by omega) (by omega)
  rintro ⟨⟨j, m⟩, hj⟩
  obtain ⟨hj1, hj2, hj3, hj4⟩ := id hj
  simp only at hj1 hj2 hj3 hj4
  have hkl := kept_le p l j hj1
  repeat' ((conv => whnf); first | with_reducible refine (Or.inl ?_ : VC _ _ _ _ _ ∨ _) | ((with_reducible refine fk (fun hc => ?_) fun hc => ?_) <;> first | exact absurd hc (by decide) | (exfalso; simp only [*, reduceCtorEq] at hc; done) | skip) | ((with_reducible apply And.intro); focus (first | rfl | exact Nat.le_of_ble_eq_true rfl | omega | (simp only [List.length_cons, List.length_nil, List.length_map, List.length_append]; omega))))
  · have hlt : j < m.length := by simpa using hc
    have hlt2 : j < l.length := by omega
    obtain ⟨_, he⟩ := delS_get hj hlt2
    have hpj : PCx Try.prog f ([] ++ ([.agg (m[j]).c] ++ [.eptr row 0])) (bl (p m[j])) := hp _ (by rw [he]; exact List.getElem_mem hlt2)
    have hi : (kept p l j).length < m.length := by omega
    repeat' ((conv => whnf); first | with_reducible refine (Or.inl ?_ : VC _ _ _ _ _ ∨ _) | ((with_reducible refine fk (fun hc => ?_) fun hc => ?_) <;> first | exact absurd hc (by decide) | (exfalso; simp only [*, reduceCtorEq] at hc; done) | skip) | (((with_reducible apply And.intro); focus (simp only [List.length_map]; omega))) | ((refine ⟨_, rowK _ _ _ hlt, ?_⟩)) | ((refine ⟨_, rowK _ _ _ hi, ?_⟩)) | (refine Or.inl (Or.inl ?_); (conv => whnf); refine ⟨_, hpj, ?_⟩) | ((with_reducible apply And.intro); focus (first | rfl | exact Nat.le_of_ble_eq_true rfl | omega | (simp only [List.length_cons, List.length_nil, List.length_map, List.length_append]; omega))))
    · have hpf : p l[j] = false := by rw [← he]; simpa using hc
      refine ⟨⟨(j + 1, m.set (kept p l j).length l[j]), delS_keep hj hlt2 hpf⟩, dec_lt hlt2, ent_of ?_⟩
      have hks : (kept p l (j + 1)).length = (kept p l j).length + 1 := by rw [kept_succ p l j hlt2, hpf]; simp
      repeat' first | (with_reducible first | exact ⟨⟩ | exact rfl | exact lr _) | ((conv => whnf); with_reducible first | apply And.intro | exact ⟨⟩) | exact rfl | exact id | exact lr _
      all_goals try (conv => whnf)
      · refine leRs_of_eq ?_
        rw [← he, List.map_set]
        rfl
      · rw [wrapI (by omega) (by omega), hks]; omega
      · exact wrapI (by omega) (by omega)
    · have hpt : p l[j] = true := by rw [← he]; simpa using hc
      refine ⟨⟨(j + 1, m), delS_skip hj hlt2 hpt⟩, dec_lt hlt2, ent_of ?_⟩
      have hks : (kept p l (j + 1)).length = (kept p l j).length := by rw [kept_succ p l j hlt2, hpt]; simp
      repeat' first | (with_reducible first | exact ⟨⟩ | exact rfl | exact lr _) | ((conv => whnf); with_reducible first | apply And.intro | exact ⟨⟩) | exact rfl | exact id | exact lr _
      all_goals try (conv => whnf)
      · rw [hks]
      · exact wrapI (by omega) (by omega)
  · have hjl : j = l.length := by simp at hc; omega
    subst hjl
    have hkf : kept p l l.length = l.filter fun x => !p x := by unfold kept; rw [List.take_length]
    repeat' ((conv => whnf); first | with_reducible refine (Or.inl ?_ : VC _ _ _ _ _ ∨ _) | ((with_reducible refine fk (fun hc => ?_) fun hc => ?_) <;> first | exact absurd hc (by decide) | (exfalso; simp only [*, reduceCtorEq] at hc; done) | skip) | (((with_reducible apply And.intro); focus (simp only [List.length_map, List.length_append, List.length_take, List.length_drop, List.length_replicate]; omega))) | ((with_reducible apply And.intro); focus (first | rfl | exact Nat.le_of_ble_eq_true rfl | omega | (simp only [List.length_cons, List.length_nil, List.length_map, List.length_append]; omega))))
    refine ⟨_, _, ⟨rfl, rfl⟩, ?_⟩
    repeat' first | (with_reducible first | exact ⟨⟩ | exact rfl | exact lr _) | ((conv => whnf); with_reducible first | apply And.intro | exact ⟨⟩) | exact rfl | exact id | exact lr _
    all_goals try (conv => whnf)
    · refine leRs_of_eq ?_
      rw [← hkf, Int.toNat_natCast, List.length_map, ← List.map_take, hj3, List.drop_eq_nil_of_le (by simp), List.append_nil, hj2]
    · rw [hkf]; rfl
theorem delF1_g (row : List PV) (l : List Pl) (f : FuncId) (p : Pl → Bool) (hp : ∀ x ∈ l, PCx Try.prog f ([] ++ ([.agg x.c] ++ [.eptr row 0])) (bl (p x))) (h0 : ¬ ∀ x ∈ l, p x = false) (hl : l.length ≤ 8796093022208) :
    GCx Try.prog 58 [.slw 1 0, .pv (.fn (.func f) [] [.eptr row 0])] [(1, .arr 38 0 2 (l.map Pl.c))] (.slw 1 1) [(1, .arr 38 1 2 ((l.filter fun x => !p x).map Pl.c))] := by
  have h := GCx_cut (delF1s_g row l f p hp h0 hl) (by simp)
  rw [List.take_append_of_le_length (by simp), List.take_of_length_le (by simp)] at h
  exact h
end Go.Proofs.Ytpbjamihhkmgiaa.Tb

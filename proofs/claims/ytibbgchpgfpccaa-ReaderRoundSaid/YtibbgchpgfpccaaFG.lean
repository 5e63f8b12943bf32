/-
  Contracts of functions of the program and of the document, each for every input that its premises name.
-/
import Derived.Test.YtibbgchpgfpccaaFF
set_option maxRecDepth 100000
set_option maxHeartbeats 4000000
set_option linter.unusedVariables false
set_option linter.unusedSimpArgs false
open Go Go.AX
namespace Go.Proofs.Ytibbgchpgfpccaa.Tb
theorem r17ask_p (f : Ft) (a now : Int) (h0 : f.set ≠ []) (ha : 0 ≤ a ∧ a ≤ f.set.length) : PCx Try.prog 56 [.agg [uu f.ledger, uu f.n, slP f.set, ii f.at_, uu f.since, uu f.tag, ii f.done, bys f.body], ii a, uu now] (.tup [.agg (askP f a now).1.c, slR (askP f a now).2]) := r17ask_c f a now h0 ha
theorem fn_r17Take : FnOk Try.prog 25 Try.f25 := ⟨Try.func25, by kernel_rfl, by kernel_rfl, by kernel_rfl⟩
theorem r17Take_c (f : Ft) (now : Int) (r : Rs) (h : Ft.sm f) (hr : r.body.length ≤ 140737488355328) (ha : 0 ≤ f.at_ ∧ f.at_ < f.set.length) :
    PCx Try.prog 25 [.agg f.c, uu now, .agg r.c] (.tup [.agg (takeP f now r).1.c, slR (takeP f now r).2]) := by
  refine PC.le ?_
  have h2 := h.1
  have hw : IntKind.i64.wrap (f.at_ + 1) = f.at_ + 1 := wrapI (by omega) (by omega)
  have hne : f.set ≠ [] := by intro e; rw [e] at ha; simp at ha; omega
  have hlt : f.at_.toNat < f.set.length := by omega
  have hx : askedP f = f.set[f.at_.toNat] := by
    simp only [askedP]
    rw [if_neg (by omega), getElem!_pos f.set _ hlt]
  obtain ⟨X, hX⟩ : ∃ X, X = takeP f now r := ⟨_, rfl⟩
  rw [← hX]
  refine PC_of_VC tabOk (draw_ok mixed tabOk) fn_r17Take rfl ?_
  repeat' ((conv => whnf)
           first
           | with_reducible refine (Or.inl ?_ : VC _ _ _ _ _ ∨ _)
           | ((with_reducible refine (⟨fun hc => ?_, fun hc => ?_⟩ : (_ = true → _) ∧ (_ = false → _))) <;> first | exact absurd hc (by decide) | (exfalso; simp only [*, reduceCtorEq] at hc; done) | skip)
           | (refine Or.inl ?_; (conv => whnf); refine ⟨_, r17Copy_c f h, ?_⟩)
           | (refine Or.inl ?_; (conv => whnf); refine ⟨_, r14Has_c _ _ _, ?_⟩)
           | (refine Or.inl ?_; (conv => whnf); refine ⟨_, PCx_pre (r17ask_p f (f.at_ + 1) now hne (by omega)) ?_, ?_⟩; focus ((repeat' first | exact True.intro | exact rfl | exact id | assumption | exact leRs_refl _ | ((conv => whnf); with_reducible refine And.intro ?_ ?_) | ((conv => whnf); exact True.intro)); done))
           | ((refine ⟨_, rowE _ _ (k := f.at_.toNat) (by omega) hlt, ?_⟩))
           | ((with_reducible refine And.intro ?_ ?_); focus (first | rfl | exact Nat.le_of_ble_eq_true rfl | omega | (simp only [List.length_cons, List.length_nil, List.length_map, List.length_append]; omega))))
  all_goals try (exfalso; grind)
  all_goals
    first
    | (by_cases eX : X = (f, []); rotate_left; (focus (refine absurd ?_ eX; clear eX; subst hX; unfold takeP; grind)); subst eX)
    | (by_cases eX : X = ({ f with done := 1, body := r.body }, []); rotate_left; (focus (refine absurd ?_ eX; clear eX; subst hX; unfold takeP; grind)); subst eX)
    | (by_cases eX : X = askP f (f.at_ + 1) now; rotate_left; (focus (refine absurd ?_ eX; clear eX; subst hX; unfold takeP; grind)); subst eX)
    repeat' first
      | exact True.intro
      | exact rfl
      | exact id
      | exact leRs_refl _
      | ((conv => whnf); with_reducible refine And.intro ?_ ?_)
      | ((conv => whnf); exact True.intro)
theorem fn_r17Tick : FnOk Try.prog 23 Try.f23 := ⟨Try.func23, by kernel_rfl, by kernel_rfl, by kernel_rfl⟩
theorem r17Tick_c (f : Ft) (now : Int) (h : Ft.sm f) (ha : 0 ≤ f.at_ ∧ f.at_ < f.set.length) (hn : 0 ≤ now ∧ now ≤ 18446744073709551615) (hs : 0 ≤ f.since ∧ f.since ≤ 18446744073709551615) :
    PCx Try.prog 23 [.agg f.c, uu now] (.tup [.agg (tickP f now).1.c, slR (tickP f now).2]) := by
  refine PC.le ?_
  have h2 := h.1
  have hw : IntKind.i64.wrap (f.at_ + 1) = f.at_ + 1 := wrapI (by omega) (by omega)
  have hne : f.set ≠ [] := by intro e; rw [e] at ha; simp at ha; omega
  have hu (h : f.since ≤ now) : IntKind.u64.wrap (now - f.since) = now - f.since := wrapU (by omega) (by omega)
  obtain ⟨X, hX⟩ : ∃ X, X = tickP f now := ⟨_, rfl⟩
  rw [← hX]
  refine PC_of_VC tabOk (draw_ok mixed tabOk) fn_r17Tick rfl ?_
  repeat' ((conv => whnf)
           first
           | with_reducible refine (Or.inl ?_ : VC _ _ _ _ _ ∨ _)
           | ((with_reducible refine (⟨fun hc => ?_, fun hc => ?_⟩ : (_ = true → _) ∧ (_ = false → _))) <;> first | exact absurd hc (by decide) | (exfalso; simp only [*, reduceCtorEq] at hc; done) | skip)
           | (refine Or.inl ?_; (conv => whnf); refine ⟨_, r17Copy_c f h, ?_⟩)
           | (refine Or.inl ?_; (conv => whnf); refine ⟨_, PCx_pre (r17ask_p f (f.at_ + 1) now hne (by omega)) ?_, ?_⟩; focus ((repeat' first | exact True.intro | exact rfl | exact id | assumption | exact leRs_refl _ | ((conv => whnf); with_reducible refine And.intro ?_ ?_) | ((conv => whnf); exact True.intro)); done))
           | ((with_reducible refine And.intro ?_ ?_); focus (first | rfl | exact Nat.le_of_ble_eq_true rfl | omega | (simp only [List.length_cons, List.length_nil, List.length_map, List.length_append]; omega))))
  all_goals try (exfalso; grind)
  all_goals
    first
    | (by_cases eX : X = (f, []); rotate_left; (focus (refine absurd ?_ eX; clear eX; subst hX; unfold tickP; grind)); subst eX)
    | (by_cases eX : X = askP f (f.at_ + 1) now; rotate_left; (focus (refine absurd ?_ eX; clear eX; subst hX; unfold tickP; grind)); subst eX)
    repeat' first
      | exact True.intro
      | exact rfl
      | exact id
      | exact leRs_refl _
      | ((conv => whnf); with_reducible refine And.intro ?_ ?_)
      | ((conv => whnf); exact True.intro)
theorem fn_r17Moved : FnOk Try.prog 24 Try.f24 := ⟨Try.func24, by kernel_rfl, by kernel_rfl, by kernel_rfl⟩
theorem r17Moved_c (f : Ft) (now : Int) (l : Lg) (h : Ft.sm f) (hr : -9223372036854775808 ≤ l.closed ∧ l.closed ≤ 9223372036854775807 ∧ 0 ≤ l.last) (hf : frsOk l.frags) (hn : 1 ≤ f.n ∧ f.n ≤ 18446744073709551615) :
    PCx Try.prog 24 [.agg f.c, uu now, .agg l.c] (.tup [.agg (movedP f now l).1.c, slR (movedP f now l).2]) := by
  refine PC.le ?_
  obtain ⟨X, hX⟩ : ∃ X, X = movedP f now l := ⟨_, rfl⟩
  rw [← hX]
  refine PC_of_VC tabOk (draw_ok mixed tabOk) fn_r17Moved rfl ?_
  cases hm : mayLg l with
  | false =>
    repeat' ((conv => whnf)
             first
             | with_reducible refine (Or.inl ?_ : VC _ _ _ _ _ ∨ _)
             | ((with_reducible refine (⟨fun hc => ?_, fun hc => ?_⟩ : (_ = true → _) ∧ (_ = false → _))) <;> first | exact absurd hc (by decide) | (exfalso; simp only [*, reduceCtorEq] at hc; done) | skip)
             | (refine Or.inl ?_; (conv => whnf); refine ⟨_, r17Copy_c f h, ?_⟩)
             | (refine Or.inl ?_; (conv => whnf); refine ⟨_, r07Ledger_c _ hr, ?_⟩)
             | (refine Or.inl ?_; (conv => whnf); refine ⟨_, r14Set_c _ _ _ hf ⟨by omega, hn.2⟩, ?_⟩)
             | (refine Or.inl ?_; (conv => whnf); refine ⟨_, r14Same_c _ _, ?_⟩)
             | ((with_reducible refine And.intro ?_ ?_); focus (first | rfl | exact Nat.le_of_ble_eq_true rfl | omega | (simp only [List.length_cons, List.length_nil, List.length_map, List.length_append]; omega))))
    all_goals try (exfalso; grind)
    all_goals
      first
      | (by_cases eX : X = (f, []); rotate_left; (focus (refine absurd ?_ eX; clear eX; subst hX; unfold movedP; grind)); subst eX)
      repeat' first
        | exact True.intro
        | exact rfl
        | exact id
        | exact leRs_refl _
        | ((conv => whnf); with_reducible refine And.intro ?_ ?_)
        | ((conv => whnf); exact True.intro)
  | true =>
    have hs : setOf l.frags l.w f.n ≠ [] := by
      have := setOf_len hm hn.1
      intro h
      rw [h] at this
      simp at this
      omega
    repeat' ((conv => whnf)
             first
             | with_reducible refine (Or.inl ?_ : VC _ _ _ _ _ ∨ _)
             | ((with_reducible refine (⟨fun hc => ?_, fun hc => ?_⟩ : (_ = true → _) ∧ (_ = false → _))) <;> first | exact absurd hc (by decide) | (exfalso; simp only [*, reduceCtorEq] at hc; done) | skip)
             | (refine Or.inl ?_; (conv => whnf); refine ⟨_, r17Copy_c f h, ?_⟩)
             | (refine Or.inl ?_; (conv => whnf); refine ⟨_, r07Ledger_c _ hr, ?_⟩)
             | (refine Or.inl ?_; (conv => whnf); refine ⟨_, r14Set_c _ _ _ hf ⟨by omega, hn.2⟩, ?_⟩)
             | (refine Or.inl ?_; (conv => whnf); refine ⟨_, r14Same_c _ _, ?_⟩)
             | (refine Or.inl ?_; (conv => whnf); refine ⟨_, PCx_pre (r17ask_p { f with set := setOf l.frags l.w f.n } 0 now hs ⟨by omega, by omega⟩) ?_, ?_⟩; focus ((repeat' first | exact True.intro | exact rfl | exact id | assumption | exact leRs_refl _ | ((conv => whnf); with_reducible refine And.intro ?_ ?_) | ((conv => whnf); exact True.intro)); done))
             | ((with_reducible refine And.intro ?_ ?_); focus (first | rfl | exact Nat.le_of_ble_eq_true rfl | omega | (simp only [List.length_cons, List.length_nil, List.length_map, List.length_append]; omega))))
    all_goals try (exfalso; grind)
    all_goals
      first
      | (by_cases eX : X = (f, []); rotate_left; (focus (refine absurd ?_ eX; clear eX; subst hX; unfold movedP; grind)); subst eX)
      | (by_cases eX : X = askP { f with set := setOf l.frags l.w f.n } 0 now; rotate_left; (focus (refine absurd ?_ eX; clear eX; subst hX; unfold movedP; grind)); subst eX)
      repeat' first
        | exact True.intro
        | exact rfl
        | exact id
        | exact leRs_refl _
        | ((conv => whnf); with_reducible refine And.intro ?_ ?_)
        | ((conv => whnf); exact True.intro)
theorem fn_r17Same : FnOk Try.prog 18 Try.f18 := ⟨Try.func18, by kernel_rfl, by kernel_rfl, by kernel_rfl⟩
theorem r17Same_c (a b : Ft) : PCx Try.prog 18 [.agg a.c, .agg b.c] (bl (decide (a = b))) := by
  refine PC.le ?_
  rw [← sameP_iff]
  refine PC_of_VC tabOk (draw_ok mixed tabOk) fn_r17Same rfl ?_
  repeat' ((conv => whnf)
           first
           | with_reducible refine (Or.inl ?_ : VC _ _ _ _ _ ∨ _)
           | ((with_reducible refine (⟨fun hc => ?_, fun hc => ?_⟩ : (_ = true → _) ∧ (_ = false → _))) <;> first | exact absurd hc (by decide) | (exfalso; simp only [*, reduceCtorEq] at hc; done) | skip)
           | (refine Or.inl ?_; (conv => whnf); refine ⟨_, r14Same_c _ _, ?_⟩)
           | ((refine ⟨_, rfl, ?_⟩))
           | ((with_reducible refine And.intro ?_ ?_); focus (first | rfl | exact Nat.le_of_ble_eq_true rfl | omega | (simp only [List.length_cons, List.length_nil, List.length_map, List.length_append]; omega))))
  all_goals
    repeat' first
      | fail
      | exact True.intro
      | exact rfl
      | exact id
      | exact leRs_refl _
      | ((conv => whnf); with_reducible refine And.intro ?_ ?_)
      | ((conv => whnf); exact True.intro)
    all_goals try (conv => whnf)
    simp only [sameP, *, Bool.true_or, Bool.or_true, Bool.false_or, Bool.or_false, Bool.true_and, Bool.and_true, Bool.false_and, Bool.and_false, ByteArray.toList_mk]
theorem fn_r15Same : FnOk Try.prog 21 Try.f21 := ⟨Try.func21, by kernel_rfl, by kernel_rfl, by kernel_rfl⟩
theorem r15Same_c (l m : List Rq) (hkp : ∀ x ∈ l, x.keep.length ≤ 9223372036854775807) : PCx Try.prog 21 [slR l, slR m] (bl (decide (l = m))) := by
  refine PC.le (PC_bd fn_r15Same fun hb => ?_)
  have hb : l.length ≤ 9223372036854775807 ∧ m.length ≤ 9223372036854775807 := by simpa [bdL, bdP, slR] using hb
  refine PC_of_VC tabOk (draw_ok mixed tabOk) fn_r15Same rfl ?_
  by_cases hlen : l.length = m.length
  · repeat' ((conv => whnf)
             first
             | with_reducible refine (Or.inl ?_ : VC _ _ _ _ _ ∨ _)
             | ((with_reducible refine (⟨fun hc => ?_, fun hc => ?_⟩ : (_ = true → _) ∧ (_ = false → _))) <;> first | exact absurd hc (by decide) | (exfalso; simp only [*, reduceCtorEq] at hc; done) | skip)
             | ((with_reducible refine And.intro ?_ ?_); focus (first | rfl | exact Nat.le_of_ble_eq_true rfl | omega | (simp only [List.length_cons, List.length_nil, List.length_map, List.length_append]; omega))))
    · simp [hlen] at hc
    refine ⟨{k : Nat // k ≤ l.length ∧ ∀ j (hj : j < l.length), j < k → l[j] = m[j]}, fun ⟨k, _⟩ => ⟨[(0, .pv (slR l)), (1, .pv (slR m)), (5, .pv (ii k))], 1000000000, []⟩, fun ⟨k, _⟩ => l.length - k, ⟨⟨0, by simp⟩, ent_of ?_⟩, ?_⟩
    · repeat' first
        | fail
        | exact True.intro
        | exact rfl
        | exact id
        | exact leRs_refl _
        | ((conv => whnf); with_reducible refine And.intro ?_ ?_)
        | ((conv => whnf); exact True.intro)
      all_goals try (conv => whnf)
    rintro ⟨k, hk, hn⟩
    repeat' ((conv => whnf)
             first
             | with_reducible refine (Or.inl ?_ : VC _ _ _ _ _ ∨ _)
             | ((with_reducible refine (⟨fun hc => ?_, fun hc => ?_⟩ : (_ = true → _) ∧ (_ = false → _))) <;> first | exact absurd hc (by decide) | (exfalso; simp only [*, reduceCtorEq] at hc; done) | skip)
             | ((with_reducible refine And.intro ?_ ?_); focus (first | rfl | exact Nat.le_of_ble_eq_true rfl | omega | (simp only [List.length_cons, List.length_nil, List.length_map, List.length_append]; omega))))
    · have hlt : k < l.length := by simpa using hc
      have hlt2 : k < m.length := hlen ▸ hlt
      refine ⟨_, rowK _ _ _ hlt, ?_⟩
      have hbad : l[k] ≠ m[k] → decide (l = m) = false := fun h => by simp; rintro rfl; exact h rfl
      repeat' ((conv => whnf)
               first
               | with_reducible refine (Or.inl ?_ : VC _ _ _ _ _ ∨ _)
               | ((with_reducible refine (⟨fun hc => ?_, fun hc => ?_⟩ : (_ = true → _) ∧ (_ = false → _))) <;> first | exact absurd hc (by decide) | (exfalso; simp only [*, reduceCtorEq] at hc; done) | skip)
               | ((refine ⟨_, rowK _ _ _ hlt2, ?_⟩))
               | ((refine ⟨_, rfl, ?_⟩))
               | ((with_reducible refine And.intro ?_ ?_); focus (first | rfl | exact Nat.le_of_ble_eq_true rfl | omega | (simp only [List.length_cons, List.length_nil, List.length_map, List.length_append]; omega))))
      all_goals try (refine (fun hne : l[k] ≠ m[k] => ?_) ?_; rotate_left; (focus (intro e; grind)); (repeat' first | exact True.intro | exact rfl | exact id | exact leRs_refl _ | ((conv => whnf); with_reducible refine And.intro ?_ ?_) | ((conv => whnf); exact True.intro)); (all_goals try (conv => whnf)); exact (hbad hne).symm)
      have hxy : l[k].keep.length = m[k].keep.length := by simp at hc; omega
      have hall : l[k].keep = m[k].keep → l[k] = m[k] := by
        intro hkp
        simp only [ByteArray.toList_mk] at *
        generalize l[k] = x at *
        generalize m[k] = y at *
        obtain ⟨⟨x1, x2⟩, x3, x4, x5, x6, x7, x8, x9, x10⟩ := x
        obtain ⟨⟨y1, y2⟩, y3, y4, y5, y6, y7, y8, y9, y10⟩ := y
        simp at *
        simp [*]
      refine ⟨{i : Nat // i ≤ l[k].keep.length ∧ ∀ j (hj : j < l[k].keep.length), j < i → l[k].keep[j] = m[k].keep[j]}, fun ⟨i, _⟩ => ⟨[(0, .pv (slR l)), (1, .pv (slR m)), (5, .pv (ii k)), (6, .ptr 1006 0), (7, .ptr 1007 0), (8, .pv (ii i))], 1000000000, [(1006, .var (l[k].c.map .pv)), (1007, .var (m[k].c.map .pv))]⟩, fun ⟨i, _⟩ => l[k].keep.length - i, ⟨⟨0, by simp⟩, ent_of ?_⟩, ?_⟩
      · repeat' first
          | fail
          | exact True.intro
          | exact rfl
          | exact id
          | exact leRs_refl _
          | ((conv => whnf); with_reducible refine And.intro ?_ ?_)
          | ((conv => whnf); exact True.intro)
        all_goals try (conv => whnf)
      rintro ⟨i, hi, hin⟩
      have hkb := hkp _ (List.getElem_mem hlt)
      repeat' ((conv => whnf)
               first
               | with_reducible refine (Or.inl ?_ : VC _ _ _ _ _ ∨ _)
               | ((with_reducible refine (⟨fun hc => ?_, fun hc => ?_⟩ : (_ = true → _) ∧ (_ = false → _))) <;> first | exact absurd hc (by decide) | (exfalso; simp only [*, reduceCtorEq] at hc; done) | skip)
               | ((with_reducible refine And.intro ?_ ?_); focus (first | rfl | exact Nat.le_of_ble_eq_true rfl | omega | (simp only [List.length_cons, List.length_nil, List.length_map, List.length_append]; omega))))
      · have hil : i < l[k].keep.length := by simpa using hc
        refine ⟨_, rowK _ _ _ hil, ?_⟩
        repeat' ((conv => whnf)
                 first
                 | with_reducible refine (Or.inl ?_ : VC _ _ _ _ _ ∨ _)
                 | ((with_reducible refine (⟨fun hc => ?_, fun hc => ?_⟩ : (_ = true → _) ∧ (_ = false → _))) <;> first | exact absurd hc (by decide) | (exfalso; simp only [*, reduceCtorEq] at hc; done) | skip)
                 | ((refine ⟨_, rowK _ _ _ (hxy ▸ hil), ?_⟩))
                 | ((with_reducible refine And.intro ?_ ?_); focus (first | rfl | exact Nat.le_of_ble_eq_true rfl | omega | (simp only [List.length_cons, List.length_nil, List.length_map, List.length_append]; omega))))
        · repeat' first
            | fail
            | exact True.intro
            | exact rfl
            | exact id
            | exact leRs_refl _
            | ((conv => whnf); with_reducible refine And.intro ?_ ?_)
            | ((conv => whnf); exact True.intro)
          all_goals try (conv => whnf)
          refine (hbad fun e => ?_).symm
          simp only [e] at hc
          simp at hc
        · repeat' ((conv => whnf)
                   first
                   | with_reducible refine (Or.inl ?_ : VC _ _ _ _ _ ∨ _)
                   | ((with_reducible refine (⟨fun hc => ?_, fun hc => ?_⟩ : (_ = true → _) ∧ (_ = false → _))) <;> first | exact absurd hc (by decide) | (exfalso; simp only [*, reduceCtorEq] at hc; done) | skip)
                   | ((with_reducible refine And.intro ?_ ?_); focus (first | rfl | exact Nat.le_of_ble_eq_true rfl | omega | (simp only [List.length_cons, List.length_nil, List.length_map, List.length_append]; omega))))
          refine ⟨⟨i + 1, hil, step_lt hin fun _ => by simpa using hc⟩, dec_lt hil, ent_of ?_⟩
          repeat' first
            | fail
            | exact True.intro
            | exact rfl
            | exact id
            | exact leRs_refl _
            | ((conv => whnf); with_reducible refine And.intro ?_ ?_)
            | ((conv => whnf); exact True.intro)
          all_goals try (conv => whnf)
          exact wrapI (by omega) (by omega)
      · have : i = l[k].keep.length := by simp at hc; omega
        subst this
        repeat' ((conv => whnf)
                 first
                 | with_reducible refine (Or.inl ?_ : VC _ _ _ _ _ ∨ _)
                 | ((with_reducible refine (⟨fun hc => ?_, fun hc => ?_⟩ : (_ = true → _) ∧ (_ = false → _))) <;> first | exact absurd hc (by decide) | (exfalso; simp only [*, reduceCtorEq] at hc; done) | skip)
                 | ((with_reducible refine And.intro ?_ ?_); focus (first | rfl | exact Nat.le_of_ble_eq_true rfl | omega | (simp only [List.length_cons, List.length_nil, List.length_map, List.length_append]; omega))))
        refine ⟨⟨k + 1, hlt, step_lt hn fun _ => hall (List.ext_getElem hxy fun i h1 h2 => hin i h1 h1)⟩, dec_lt hlt, ent_of ?_⟩
        repeat' first
          | fail
          | exact True.intro
          | exact rfl
          | exact id
          | exact leRs_refl _
          | ((conv => whnf); with_reducible refine And.intro ?_ ?_)
          | ((conv => whnf); exact True.intro)
        all_goals try (conv => whnf)
        exact wrapI (by omega) (by omega)
    · repeat' first
        | fail
        | exact True.intro
        | exact rfl
        | exact id
        | exact leRs_refl _
        | ((conv => whnf); with_reducible refine And.intro ?_ ?_)
        | ((conv => whnf); exact True.intro)
      all_goals try (conv => whnf)
      have : k = l.length := by simp at hc; omega
      subst this
      simp
      exact List.ext_getElem hlen fun i h1 h2 => hn i h1 h1
  · repeat' ((conv => whnf)
             first
             | with_reducible refine (Or.inl ?_ : VC _ _ _ _ _ ∨ _)
             | ((with_reducible refine (⟨fun hc => ?_, fun hc => ?_⟩ : (_ = true → _) ∧ (_ = false → _))) <;> first | exact absurd hc (by decide) | (exfalso; simp only [*, reduceCtorEq] at hc; done) | skip)
             | ((with_reducible refine And.intro ?_ ?_); focus (first | rfl | exact Nat.le_of_ble_eq_true rfl | omega | (simp only [List.length_cons, List.length_nil, List.length_map, List.length_append]; omega))))
    · repeat' first
        | fail
        | exact True.intro
        | exact rfl
        | exact id
        | exact leRs_refl _
        | ((conv => whnf); with_reducible refine And.intro ?_ ?_)
        | ((conv => whnf); exact True.intro)
      all_goals try (conv => whnf)
      simp; rintro rfl; exact hlen rfl
    · exfalso; simp at hc; omega
end Go.Proofs.Ytibbgchpgfpccaa.Tb

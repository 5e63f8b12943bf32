/-
  Contracts of functions of the program and of the document, each for every input that its premises name.
-/
import Derived.Test.YtibbgchpgfpccaaGE
import Derived.Test.YtibbgchpgfpccaaAd
set_option maxRecDepth 100000
set_option maxHeartbeats 4000000
set_option linter.unusedVariables false
set_option linter.unusedSimpArgs false
open Go Go.AX
namespace Go.Proofs.Ytibbgchpgfpccaa.Tb
def Cp.big (c : Cp) : Prop := frsOk c.l.frags ∧ c.l.ok ∧ (0 ≤ c.n ∧ c.n ≤ 18446744073709551615) ∧ ∀ n, (setOf c.l.frags c.l.w n).length ≤ 1000000
theorem fn_con : FnOk Try.prog 66 Try.f66 := ⟨Try.func66, by kernel_rfl, by kernel_rfl, by kernel_rfl⟩
theorem con0P_g (c : Cp) (now : Int) (h : Cp.big c) (hL : hadL c.l c.from_ c.n = []) :
    GCx Try.prog 66 [.ptr 1 0, .pv (uu now)] [(1, .var (c.v (.pv (slP c.none))))] (.pv nilS) [(1, .var ((onC c now).1.v (.pv (slP (onC c now).1.none)))), (502, .var [.ptr 1 0]), (503, .var [.pv (uu now)]), (504, .var [.pv nilS])] := by
  obtain ⟨hf, hok, hn, hbig⟩ := h
  have hseq := had1_s c.l c.from_ c.n hok hf hn.1
  rw [hL] at hseq
  have e : onC c now = ({ c with none := [], body := [], phase := 3, n := 0 }, []) := by unfold onC; rw [hL]
  rw [e]
  refine GC_of_VC tabOk (draw_ok mixed tabOk) fn_con rfl ?_
  repeat' ((conv => whnf)
           first
           | with_reducible refine (Or.inl ?_ : VC _ _ _ _ _ ∨ _)
           | ((with_reducible refine (⟨fun hc => ?_, fun hc => ?_⟩ : (_ = true → _) ∧ (_ = false → _))) <;> first | exact absurd hc (by decide) | (exfalso; simp only [*, reduceCtorEq] at hc; done) | skip)
           | (refine Or.inl ?_; (conv => whnf); refine ⟨_, had_c _ _ _, ?_⟩)
           | ((with_reducible refine And.intro ?_ ?_); focus (first | rfl | exact Nat.le_of_ble_eq_true rfl | omega | (simp only [List.length_cons, List.length_nil, List.length_map, List.length_append]; omega))))
  refine ⟨_, _, _, hseq, Unit, fun _ _ => False, fun _ _ => ⟨[(2, .ptr 502 0), (3, .ptr 503 0), (4, .ptr 504 0), (24, .pv (.fn (.func 132) [] [.eptr c.l.c 0, .eptr [uu c.n] 0, .eptr c.from_.c 0]))], 1000000000, [(1, .var (({ c with none := [], body := [] } : Cp).v (.pv (slP [])))), (502, .var [.ptr 1 0]), (503, .var [.pv (uu now)]), (504, .var [.pv nilS])]⟩, ⟨(), ent_of ?_⟩, fun _ => rfl, fun _ _ => rfl, ?_, ?_⟩
  · repeat' first
      | fail
      | exact True.intro
      | exact rfl
      | exact id
      | exact leRs_refl _
      | ((conv => whnf); with_reducible refine And.intro ?_ ?_)
      | ((conv => whnf); exact True.intro)
    all_goals try (conv => whnf)
  · intro k x i hx
    simp at hx
  · intro i hi
    repeat' ((conv => whnf)
             first
             | with_reducible refine (Or.inl ?_ : VC _ _ _ _ _ ∨ _)
             | ((with_reducible refine (⟨fun hc => ?_, fun hc => ?_⟩ : (_ = true → _) ∧ (_ = false → _))) <;> first | exact absurd hc (by decide) | (exfalso; simp only [*, reduceCtorEq] at hc; done) | skip)
             | ((with_reducible refine And.intro ?_ ?_); focus (first | rfl | exact Nat.le_of_ble_eq_true rfl | omega | (simp only [List.length_cons, List.length_nil, List.length_map, List.length_append]; omega))))
    refine ⟨_, _, ⟨rfl, rfl⟩, ?_⟩
    repeat' first
      | fail
      | exact True.intro
      | exact rfl
      | exact id
      | exact leRs_refl _
      | ((conv => whnf); with_reducible refine And.intro ?_ ?_)
      | ((conv => whnf); exact True.intro)
    all_goals try (conv => whnf)
theorem con1P_g (c : Cp) (now : Int) (h : Cp.big c) (n0 : Int) (r : List Int) (hL : hadL c.l c.from_ c.n = n0 :: r) :
    GCx Try.prog 66 [.ptr 1 0, .pv (uu now)] [(1, .var (c.v (.pv (slP c.none))))] (.slw 1001 0)
      [(1, .var ((onC c now).1.v (.pv (slP (onC c now).1.none)))), (1001, .arr 49 0 10 ((onC c now).2.map Rq.c)), (502, .var [.ptr 1 0]), (503, .var [.pv (uu now)]), (504, .var [.slw 1001 0])] := by
  obtain ⟨hf, hok, hn, hbig⟩ := h
  have hseq := had1_s c.l c.from_ c.n hok hf hn.1
  have hm := hadL_mem (l := c.l) (from_ := c.from_) (behind := c.n) (n := n0) (by rw [hL]; simp)
  have hn0 : 0 ≤ n0 ∧ n0 ≤ 18446744073709551615 := by omega
  rw [hL] at hseq
  have e : onC c now = askC { c with none := [], body := [], phase := 1, n := n0, born := now } now := by unfold onC; rw [hL]
  rw [e]
  have hask := cask1_g { c with none := [], body := [], phase := 1, n := n0, born := now } now (by simp) hf hn0 (hbig n0)
  obtain ⟨⟨d, q⟩, hd⟩ : ∃ x, x = askC { c with none := [], body := [], phase := 1, n := n0, born := now } now := ⟨_, rfl⟩
  rw [← hd] at hask ⊢
  refine GC_of_VC tabOk (draw_ok mixed tabOk) fn_con rfl ?_
  repeat' ((conv => whnf)
           first
           | with_reducible refine (Or.inl ?_ : VC _ _ _ _ _ ∨ _)
           | ((with_reducible refine (⟨fun hc => ?_, fun hc => ?_⟩ : (_ = true → _) ∧ (_ = false → _))) <;> first | exact absurd hc (by decide) | (exfalso; simp only [*, reduceCtorEq] at hc; done) | skip)
           | (refine Or.inl ?_; (conv => whnf); refine ⟨_, had_c _ _ _, ?_⟩)
           | ((with_reducible refine And.intro ?_ ?_); focus (first | rfl | exact Nat.le_of_ble_eq_true rfl | omega | (simp only [List.length_cons, List.length_nil, List.length_map, List.length_append]; omega))))
  refine ⟨_, _, _, hseq, Unit, fun _ _ => False, fun _ _ => ⟨[(2, .ptr 502 0), (3, .ptr 503 0), (4, .ptr 504 0), (24, .pv (.fn (.func 132) [] [.eptr c.l.c 0, .eptr [uu c.n] 0, .eptr c.from_.c 0]))], 1000000000, [(1, .var (({ c with none := [], body := [] } : Cp).v (.pv (slP [])))), (502, .var [.ptr 1 0]), (503, .var [.pv (uu now)]), (504, .var [.pv nilS])]⟩, ⟨(), ent_of ?_⟩, fun _ => rfl, fun _ _ => rfl, ?_, ?_⟩
  · repeat' first
      | fail
      | exact True.intro
      | exact rfl
      | exact id
      | exact leRs_refl _
      | ((conv => whnf); with_reducible refine And.intro ?_ ?_)
      | ((conv => whnf); exact True.intro)
    all_goals try (conv => whnf)
  · intro k x i hx
    cases k with
    | succ k =>
      obtain ⟨n, _, rfl⟩ := List.mem_map.1 (List.mem_of_getElem? hx)
      (conv => whnf)
      intro h0
      exact (h0 (by simp)).elim
    | zero =>
      have hx : x = [uu n0] := by simpa using hx.symm
      subst hx
      (conv => whnf)
      intro _
      clear hx hd e hm hL hseq
      repeat' ((conv => whnf)
               first
               | with_reducible refine (Or.inl ?_ : VC _ _ _ _ _ ∨ _)
               | ((with_reducible refine (⟨fun hc => ?_, fun hc => ?_⟩ : (_ = true → _) ∧ (_ = false → _))) <;> first | exact absurd hc (by decide) | (exfalso; simp only [*, reduceCtorEq] at hc; done) | skip)
               | (refine Or.inr ?_; (conv => whnf); refine ⟨_, _, hask, ?_⟩)
               | ((with_reducible refine And.intro ?_ ?_); focus (first | rfl | exact Nat.le_of_ble_eq_true rfl | omega | (simp only [List.length_cons, List.length_nil, List.length_map, List.length_append]; omega))))
      clear hask
      (conv => whnf)
      refine ⟨_, _, ⟨rfl, rfl⟩, ?_⟩
      (conv => whnf)
      repeat' first
        | fail
        | exact True.intro
        | exact rfl
        | exact id
        | exact leRs_refl _
        | ((conv => whnf); with_reducible refine And.intro ?_ ?_)
        | ((conv => whnf); exact True.intro)
      all_goals try (conv => whnf)
  · intro i hi
    exact (hi (by simp)).elim
theorem con0S_g (c : Cp) (now : Int) (h : Cp.big c) (hL : hadL c.l c.from_ c.n = []) :
    GCx Try.prog 66 [.ptr 1 0, .pv (uu now)] [(1, .var (c.v (.slw 2 0))), (2, .arr 38 0 2 (c.none.map Pl.c))] (.pv nilS) [(1, .var ((onC c now).1.v (.pv (slP (onC c now).1.none)))), (2, .arr 38 0 2 (c.none.map Pl.c)), (502, .var [.ptr 1 0]), (503, .var [.pv (uu now)]), (504, .var [.pv nilS])] := by
  obtain ⟨hf, hok, hn, hbig⟩ := h
  have hseq := had1_s c.l c.from_ c.n hok hf hn.1
  rw [hL] at hseq
  have e : onC c now = ({ c with none := [], body := [], phase := 3, n := 0 }, []) := by unfold onC; rw [hL]
  rw [e]
  refine GC_of_VC tabOk (draw_ok mixed tabOk) fn_con rfl ?_
  repeat' ((conv => whnf)
           first
           | with_reducible refine (Or.inl ?_ : VC _ _ _ _ _ ∨ _)
           | ((with_reducible refine (⟨fun hc => ?_, fun hc => ?_⟩ : (_ = true → _) ∧ (_ = false → _))) <;> first | exact absurd hc (by decide) | (exfalso; simp only [*, reduceCtorEq] at hc; done) | skip)
           | (refine Or.inl ?_; (conv => whnf); refine ⟨_, had_c _ _ _, ?_⟩)
           | ((with_reducible refine And.intro ?_ ?_); focus (first | rfl | exact Nat.le_of_ble_eq_true rfl | omega | (simp only [List.length_cons, List.length_nil, List.length_map, List.length_append]; omega))))
  refine ⟨_, _, _, hseq, Unit, fun _ _ => False, fun _ _ => ⟨[(2, .ptr 502 0), (3, .ptr 503 0), (4, .ptr 504 0), (24, .pv (.fn (.func 132) [] [.eptr c.l.c 0, .eptr [uu c.n] 0, .eptr c.from_.c 0]))], 1000000000, [(1, .var (({ c with none := [], body := [] } : Cp).v (.pv (slP [])))), (502, .var [.ptr 1 0]), (503, .var [.pv (uu now)]), (504, .var [.pv nilS]), (2, .arr 38 0 2 (c.none.map Pl.c))]⟩, ⟨(), ent_of ?_⟩, fun _ => rfl, fun _ _ => rfl, ?_, ?_⟩
  · repeat' first
      | fail
      | exact True.intro
      | exact rfl
      | exact id
      | exact leRs_refl _
      | ((conv => whnf); with_reducible refine And.intro ?_ ?_)
      | ((conv => whnf); exact True.intro)
    all_goals try (conv => whnf)
  · intro k x i hx
    simp at hx
  · intro i hi
    repeat' ((conv => whnf)
             first
             | with_reducible refine (Or.inl ?_ : VC _ _ _ _ _ ∨ _)
             | ((with_reducible refine (⟨fun hc => ?_, fun hc => ?_⟩ : (_ = true → _) ∧ (_ = false → _))) <;> first | exact absurd hc (by decide) | (exfalso; simp only [*, reduceCtorEq] at hc; done) | skip)
             | ((with_reducible refine And.intro ?_ ?_); focus (first | rfl | exact Nat.le_of_ble_eq_true rfl | omega | (simp only [List.length_cons, List.length_nil, List.length_map, List.length_append]; omega))))
    refine ⟨_, _, ⟨rfl, rfl⟩, ?_⟩
    repeat' first
      | fail
      | exact True.intro
      | exact rfl
      | exact id
      | exact leRs_refl _
      | ((conv => whnf); with_reducible refine And.intro ?_ ?_)
      | ((conv => whnf); exact True.intro)
    all_goals try (conv => whnf)
theorem con1S_g (c : Cp) (now : Int) (h : Cp.big c) (n0 : Int) (r : List Int) (hL : hadL c.l c.from_ c.n = n0 :: r) :
    GCx Try.prog 66 [.ptr 1 0, .pv (uu now)] [(1, .var (c.v (.slw 2 0))), (2, .arr 38 0 2 (c.none.map Pl.c))] (.slw 1001 0)
      [(1, .var ((onC c now).1.v (.pv (slP (onC c now).1.none)))), (2, .arr 38 0 2 (c.none.map Pl.c)), (1001, .arr 49 0 10 ((onC c now).2.map Rq.c)), (502, .var [.ptr 1 0]), (503, .var [.pv (uu now)]), (504, .var [.slw 1001 0])] := by
  obtain ⟨hf, hok, hn, hbig⟩ := h
  have hseq := had1_s c.l c.from_ c.n hok hf hn.1
  have hm := hadL_mem (l := c.l) (from_ := c.from_) (behind := c.n) (n := n0) (by rw [hL]; simp)
  have hn0 : 0 ≤ n0 ∧ n0 ≤ 18446744073709551615 := by omega
  rw [hL] at hseq
  have e : onC c now = askC { c with none := [], body := [], phase := 1, n := n0, born := now } now := by unfold onC; rw [hL]
  rw [e]
  have hask := cask1_g { c with none := [], body := [], phase := 1, n := n0, born := now } now (by simp) hf hn0 (hbig n0)
  obtain ⟨⟨d, q⟩, hd⟩ : ∃ x, x = askC { c with none := [], body := [], phase := 1, n := n0, born := now } now := ⟨_, rfl⟩
  rw [← hd] at hask ⊢
  refine GC_of_VC tabOk (draw_ok mixed tabOk) fn_con rfl ?_
  repeat' ((conv => whnf)
           first
           | with_reducible refine (Or.inl ?_ : VC _ _ _ _ _ ∨ _)
           | ((with_reducible refine (⟨fun hc => ?_, fun hc => ?_⟩ : (_ = true → _) ∧ (_ = false → _))) <;> first | exact absurd hc (by decide) | (exfalso; simp only [*, reduceCtorEq] at hc; done) | skip)
           | (refine Or.inl ?_; (conv => whnf); refine ⟨_, had_c _ _ _, ?_⟩)
           | ((with_reducible refine And.intro ?_ ?_); focus (first | rfl | exact Nat.le_of_ble_eq_true rfl | omega | (simp only [List.length_cons, List.length_nil, List.length_map, List.length_append]; omega))))
  refine ⟨_, _, _, hseq, Unit, fun _ _ => False, fun _ _ => ⟨[(2, .ptr 502 0), (3, .ptr 503 0), (4, .ptr 504 0), (24, .pv (.fn (.func 132) [] [.eptr c.l.c 0, .eptr [uu c.n] 0, .eptr c.from_.c 0]))], 1000000000, [(1, .var (({ c with none := [], body := [] } : Cp).v (.pv (slP [])))), (502, .var [.ptr 1 0]), (503, .var [.pv (uu now)]), (504, .var [.pv nilS]), (2, .arr 38 0 2 (c.none.map Pl.c))]⟩, ⟨(), ent_of ?_⟩, fun _ => rfl, fun _ _ => rfl, ?_, ?_⟩
  · repeat' first
      | fail
      | exact True.intro
      | exact rfl
      | exact id
      | exact leRs_refl _
      | ((conv => whnf); with_reducible refine And.intro ?_ ?_)
      | ((conv => whnf); exact True.intro)
    all_goals try (conv => whnf)
  · intro k x i hx
    cases k with
    | succ k =>
      obtain ⟨n, _, rfl⟩ := List.mem_map.1 (List.mem_of_getElem? hx)
      (conv => whnf)
      intro h0
      exact (h0 (by simp)).elim
    | zero =>
      have hx : x = [uu n0] := by simpa using hx.symm
      subst hx
      (conv => whnf)
      intro _
      clear hx hd e hm hL hseq
      repeat' ((conv => whnf)
               first
               | with_reducible refine (Or.inl ?_ : VC _ _ _ _ _ ∨ _)
               | ((with_reducible refine (⟨fun hc => ?_, fun hc => ?_⟩ : (_ = true → _) ∧ (_ = false → _))) <;> first | exact absurd hc (by decide) | (exfalso; simp only [*, reduceCtorEq] at hc; done) | skip)
               | (refine Or.inr ?_; (conv => whnf); refine ⟨_, _, hask, ?_⟩)
               | ((with_reducible refine And.intro ?_ ?_); focus (first | rfl | exact Nat.le_of_ble_eq_true rfl | omega | (simp only [List.length_cons, List.length_nil, List.length_map, List.length_append]; omega))))
      clear hask
      (conv => whnf)
      refine ⟨_, _, ⟨rfl, rfl⟩, ?_⟩
      (conv => whnf)
      repeat' first
        | fail
        | exact True.intro
        | exact rfl
        | exact id
        | exact leRs_refl _
        | ((conv => whnf); with_reducible refine And.intro ?_ ?_)
        | ((conv => whnf); exact True.intro)
      all_goals try (conv => whnf)
  · intro i hi
    exact (hi (by simp)).elim
end Go.Proofs.Ytibbgchpgfpccaa.Tb

/-
  Contracts of functions of the program and of the document, each for every input that its premises name.
-/
import Derived.Test.YtibbgchpgfpccaaGD
set_option maxRecDepth 100000
set_option maxHeartbeats 4000000
set_option linter.unusedVariables false
set_option linter.unusedSimpArgs false
open Go Go.AX
namespace Go.Proofs.Ytibbgchpgfpccaa.Tb
theorem fn_ask1 : FnOk Try.prog 109 Try.f109 := ⟨Try.func109, by kernel_rfl, by kernel_rfl, by kernel_rfl⟩
theorem ask1_c (c : Cp) (x : Pl) : PCx Try.prog 109 ([] ++ ([.agg x.c] ++ [.eptr [.eptr c.c 0] 0])) (bl (c.none.any (· == x))) := by
  refine PC.le ?_
  refine PC_of_VC tabOk (draw_ok mixed tabOk) fn_ask1 rfl ?_
  repeat' ((conv => whnf)
           first
           | with_reducible refine (Or.inl ?_ : VC _ _ _ _ _ ∨ _)
           | ((with_reducible refine (⟨fun hc => ?_, fun hc => ?_⟩ : (_ = true → _) ∧ (_ = false → _))) <;> first | exact absurd hc (by decide) | (exfalso; simp only [*, reduceCtorEq] at hc; done) | skip)
           | (refine Or.inl ?_; (conv => whnf); refine ⟨_, containsPlace_c _ _ _, ?_⟩)
           | ((with_reducible refine And.intro ?_ ?_); focus (first | rfl | exact Nat.le_of_ble_eq_true rfl | omega | (simp only [List.length_cons, List.length_nil, List.length_map, List.length_append]; omega))))
  repeat' first
    | fail
    | exact True.intro
    | exact rfl
    | exact id
    | exact leRs_refl _
    | ((conv => whnf); with_reducible refine And.intro ?_ ?_)
    | ((conv => whnf); exact True.intro)
  all_goals try (conv => whnf)
theorem fn_ask2 : FnOk Try.prog 110 Try.f110 := ⟨Try.func110, by kernel_rfl, by kernel_rfl, by kernel_rfl⟩
theorem ask2_c (c : Cp) (x : Pl) : PCx Try.prog 110 ([] ++ ([.agg x.c] ++ [.eptr [.fn (.func 109) [] [.eptr [.eptr c.c 0] 0]] 0])) (bl (!c.none.any (· == x))) := by
  refine PC.le ?_
  refine PC_of_VC tabOk (draw_ok mixed tabOk) fn_ask2 rfl ?_
  repeat' ((conv => whnf)
           first
           | with_reducible refine (Or.inl ?_ : VC _ _ _ _ _ ∨ _)
           | ((with_reducible refine (⟨fun hc => ?_, fun hc => ?_⟩ : (_ = true → _) ∧ (_ = false → _))) <;> first | exact absurd hc (by decide) | (exfalso; simp only [*, reduceCtorEq] at hc; done) | skip)
           | (refine Or.inl ?_; (conv => whnf); refine ⟨_, ask1_c c x, ?_⟩)
           | ((with_reducible refine And.intro ?_ ?_); focus (first | rfl | exact Nat.le_of_ble_eq_true rfl | omega | (simp only [List.length_cons, List.length_nil, List.length_map, List.length_append]; omega))))
  repeat' first
    | fail
    | exact True.intro
    | exact rfl
    | exact id
    | exact leRs_refl _
    | ((conv => whnf); with_reducible refine And.intro ?_ ?_)
    | ((conv => whnf); exact True.intro)
  all_goals try (conv => whnf)
theorem fn_cask : FnOk Try.prog 70 Try.f70 := ⟨Try.func70, by kernel_rfl, by kernel_rfl, by kernel_rfl⟩
theorem cask2P_g (c : Cp) (now : Int) (h2 : c.phase = 2) (hb : c.body.length ≤ 140737488355328) :
    GCx Try.prog 70 [.ptr 1 0, .pv (uu now)] [(1, .var (c.v (.pv (slP c.none))))] (.slw 1001 0)
      [(1, .var ((askC c now).1.v (.pv (slP c.none)))), (1001, .arr 49 0 10 ((askC c now).2.map Rq.c))] := by
  have e : askC c now = ({ c with since := now }, [⟨c.to, 1, c.l.id, c.n, 0, c.l.last, 1, c.body, []⟩]) := by unfold askC; rw [if_pos h2]
  rw [e]
  refine GC_of_VC tabOk (draw_ok mixed tabOk) fn_cask rfl ?_
  repeat' ((conv => whnf)
           first
           | with_reducible refine (Or.inl ?_ : VC _ _ _ _ _ ∨ _)
           | ((with_reducible refine (⟨fun hc => ?_, fun hc => ?_⟩ : (_ = true → _) ∧ (_ = false → _))) <;> first | exact absurd hc (by decide) | (exfalso; simp only [*, reduceCtorEq] at hc; done) | skip)
           | (refine Or.inl ?_; (conv => whnf); refine ⟨_, cloneByte_c _ (by omega), ?_⟩)
           | ((with_reducible refine And.intro ?_ ?_); focus (first | rfl | exact Nat.le_of_ble_eq_true rfl | omega | (simp only [List.length_cons, List.length_nil, List.length_map, List.length_append]; omega))))
  · refine ⟨_, _, ⟨rfl, rfl⟩, ?_⟩
    repeat' first
      | fail
      | exact True.intro
      | exact rfl
      | exact id
      | exact leRs_refl _
      | ((conv => whnf); with_reducible refine And.intro ?_ ?_)
      | ((conv => whnf); exact True.intro)
    all_goals try (conv => whnf)
  all_goals (simp [h2] at hc)
theorem cask2S_g (c : Cp) (now : Int) (h2 : c.phase = 2) (hb : c.body.length ≤ 140737488355328) :
    GCx Try.prog 70 [.ptr 1 0, .pv (uu now)] [(1, .var (c.v (.slw 2 0))), (2, .arr 38 0 2 (c.none.map Pl.c))] (.slw 1001 0)
      [(1, .var ((askC c now).1.v (.slw 2 0))), (2, .arr 38 0 2 (c.none.map Pl.c)), (1001, .arr 49 0 10 ((askC c now).2.map Rq.c))] := by
  have e : askC c now = ({ c with since := now }, [⟨c.to, 1, c.l.id, c.n, 0, c.l.last, 1, c.body, []⟩]) := by unfold askC; rw [if_pos h2]
  rw [e]
  refine GC_of_VC tabOk (draw_ok mixed tabOk) fn_cask rfl ?_
  repeat' ((conv => whnf)
           first
           | with_reducible refine (Or.inl ?_ : VC _ _ _ _ _ ∨ _)
           | ((with_reducible refine (⟨fun hc => ?_, fun hc => ?_⟩ : (_ = true → _) ∧ (_ = false → _))) <;> first | exact absurd hc (by decide) | (exfalso; simp only [*, reduceCtorEq] at hc; done) | skip)
           | (refine Or.inl ?_; (conv => whnf); refine ⟨_, cloneByte_c _ (by omega), ?_⟩)
           | ((with_reducible refine And.intro ?_ ?_); focus (first | rfl | exact Nat.le_of_ble_eq_true rfl | omega | (simp only [List.length_cons, List.length_nil, List.length_map, List.length_append]; omega))))
  · refine ⟨_, _, ⟨rfl, rfl⟩, ?_⟩
    repeat' first
      | fail
      | exact True.intro
      | exact rfl
      | exact id
      | exact leRs_refl _
      | ((conv => whnf); with_reducible refine And.intro ?_ ?_)
      | ((conv => whnf); exact True.intro)
    all_goals try (conv => whnf)
  all_goals (simp [h2] at hc)
theorem cask1_g (c : Cp) (now : Int) (h2 : c.phase ≠ 2) (hf : frsOk c.l.frags) (hn : 0 ≤ c.n ∧ c.n ≤ 18446744073709551615) (hs : (setOf c.l.frags c.l.w c.n).length ≤ 1000000) :
    GCx Try.prog 70 [.ptr 1 0, .pv (uu now)] [(1, .var (c.v (.pv (slP c.none))))] (.slw 1001 0)
      [(1, .var ((askC c now).1.v (.pv (slP (askC c now).1.none)))), (1001, .arr 49 0 10 ((askC c now).2.map Rq.c))] := by
  have hol : (others c).length ≤ 1000000 := Nat.le_trans (List.length_filter_le _ _) hs
  obtain ⟨no, hno⟩ : ∃ no, no = if (others c).all fun p => c.none.any (· == p) then [] else c.none := ⟨_, rfl⟩
  have e : askC c now = ({ c with since := now, none := no }, ((others c).filter fun p => !no.any (· == p)).map fun p => ⟨p, 3, c.l.id, c.n, 0, 0, 0, [], []⟩) := by unfold askC; rw [if_neg h2, ← hno]
  rw [e]
  have fin : ∀ (tm : List (Nat × AV)), True := fun _ => trivial
  refine GC_of_VC tabOk (draw_ok mixed tabOk) fn_cask rfl ?_
  repeat' ((conv => whnf)
           first
           | with_reducible refine (Or.inl ?_ : VC _ _ _ _ _ ∨ _)
           | ((with_reducible refine (⟨fun hc => ?_, fun hc => ?_⟩ : (_ = true → _) ∧ (_ = false → _))) <;> first | exact absurd hc (by decide) | (exfalso; simp only [*, reduceCtorEq] at hc; done) | skip)
           | (refine Or.inl ?_; (conv => whnf); refine ⟨_, others_c { c with since := now } hf hn, ?_⟩)
           | (refine Or.inl ?_; (conv => whnf); refine ⟨_, containsFuncPlace_c _ _ _ _ _ fun x _ => ask2_c { c with since := now } x, ?_⟩)
           | ((with_reducible refine And.intro ?_ ?_); focus (first | rfl | exact Nat.le_of_ble_eq_true rfl | omega | (simp only [List.length_cons, List.length_nil, List.length_map, List.length_append]; omega))))
  · simp at hc; exact absurd hc h2
  · have hN : no = ([] : List Pl) := by
      rw [hno]
      have hc' : ((others c).any fun x => !c.none.any fun y => y == x) = !(others c).all fun p => c.none.any (· == p) := by rw [List.not_all_eq_any_not]
      have hc'' := hc
      change (!((others c).any fun x => !c.none.any fun y => y == x)) = _ at hc''
      rw [hc', Bool.not_not] at hc''
      rw [hc'']
      rfl
    subst hN
    clear hno
    refine ⟨{x : Nat × Int × Int × Int // x.1 ≤ (others c).length}, fun ⟨(k, a, b, q), _⟩ => ⟨[(2, .ptr 1002 0), (5, .ptr 1005 0), (7, .ptr 1007 0), (8, .slw 1008 0), (63, .pv (slP (others c))), (64, .pv (ii (others c).length)), (65, .pv (ii k))], 1000000000, [(1, .var (({ c with since := now, none := ([] : List Pl) } : Cp).v (.pv (slP ([] : List Pl))))), (1002, .var [.ptr 1 0]), (1005, .var [.pv (ii a), .pv (uu b), .pv (ii q), .pv (uu c.l.id), .pv (uu c.n), .pv (uu 0), .pv (uu 0), .pv (ii 0), .pv nilS, .pv nilS]), (1007, .var [.fn (.func 109) [] [.ptr 1002 0]]), (1008, .arr 49 0 10 (((((others c).take k).filter fun p => !(([] : List Pl)).any (· == p)).map fun p => (⟨p, 3, c.l.id, c.n, 0, 0, 0, [], []⟩ : Rq)).map Rq.c))]⟩, fun ⟨(k, _), _⟩ => (others c).length - k, ⟨⟨(0, 0, 0, 0), by simp⟩, ent_of ?_⟩, ?_⟩
    · repeat' first
        | fail
        | exact True.intro
        | exact rfl
        | exact id
        | exact leRs_refl _
        | ((conv => whnf); with_reducible refine And.intro ?_ ?_)
        | ((conv => whnf); exact True.intro)
      all_goals try (conv => whnf)
      rw [List.length_map]; rfl
    rintro ⟨⟨k, a, b, q⟩, hk⟩
    simp only at hk
    have hrl : (((others c).take k).filter fun p => !(([] : List Pl)).any (· == p)).length ≤ 1000000 := Nat.le_trans (List.length_filter_le _ _) (by rw [List.length_take]; omega)
    repeat' ((conv => whnf)
             first
             | with_reducible refine (Or.inl ?_ : VC _ _ _ _ _ ∨ _)
             | ((with_reducible refine (⟨fun hc => ?_, fun hc => ?_⟩ : (_ = true → _) ∧ (_ = false → _))) <;> first | exact absurd hc (by decide) | (exfalso; simp only [*, reduceCtorEq] at hc; done) | skip)
             | ((with_reducible refine And.intro ?_ ?_); focus (first | rfl | exact Nat.le_of_ble_eq_true rfl | omega | (simp only [List.length_cons, List.length_nil, List.length_map, List.length_append]; omega))))
    · have hlt : k < (others c).length := by simpa using hc
      refine ⟨_, rowK _ _ _ hlt, ?_⟩
      repeat' ((conv => whnf)
               first
               | with_reducible refine (Or.inl ?_ : VC _ _ _ _ _ ∨ _)
               | ((with_reducible refine (⟨fun hc => ?_, fun hc => ?_⟩ : (_ = true → _) ∧ (_ = false → _))) <;> first | exact absurd hc (by decide) | (exfalso; simp only [*, reduceCtorEq] at hc; done) | skip)
               | (refine Or.inl ?_; (conv => whnf); refine ⟨_, ask1_c { c with since := now, none := ([] : List Pl) } ((others c)[k]), ?_⟩)
               | (((with_reducible refine And.intro ?_ ?_); focus (simp only [List.length_map, List.length_cons, List.length_nil]; omega)))
               | ((with_reducible refine And.intro ?_ ?_); focus (first | rfl | exact Nat.le_of_ble_eq_true rfl | omega | (simp only [List.length_cons, List.length_nil, List.length_map, List.length_append]; omega))))
      · refine ⟨⟨(k + 1, (others c)[k].node, (others c)[k].serial, 3), hlt⟩, dec_lt hlt, ent_of ?_⟩
        have hfs := filter_take_succ (fun p => !(([] : List Pl)).any (· == p)) (others c) k hlt
        rw [if_pos hc] at hfs
        repeat' first
          | fail
          | exact True.intro
          | exact rfl
          | exact id
          | exact leRs_refl _
          | ((conv => whnf); with_reducible refine And.intro ?_ ?_)
          | ((conv => whnf); exact True.intro)
        all_goals try (conv => whnf)
        · rw [hfs, List.map_append, List.map_append]
          refine leRs_app (leRs_refl _) ?_
          repeat' first
            | fail
            | exact True.intro
            | exact rfl
            | exact id
            | exact leRs_refl _
            | ((conv => whnf); with_reducible refine And.intro ?_ ?_)
            | ((conv => whnf); exact True.intro)
          all_goals try (conv => whnf)
        · exact wrapI (by omega) (by omega)
      · refine ⟨⟨(k + 1, a, b, q), hlt⟩, dec_lt hlt, ent_of ?_⟩
        have hfs := filter_take_succ (fun p => !(([] : List Pl)).any (· == p)) (others c) k hlt
        rw [if_neg (by rw [Bool.not_eq_true]; exact hc)] at hfs
        repeat' first
          | fail
          | exact True.intro
          | exact rfl
          | exact id
          | exact leRs_refl _
          | ((conv => whnf); with_reducible refine And.intro ?_ ?_)
          | ((conv => whnf); exact True.intro)
        all_goals try (conv => whnf)
        · rw [hfs]
          exact leRs_refl _
        · exact wrapI (by omega) (by omega)
    · repeat' ((conv => whnf)
               first
               | with_reducible refine (Or.inl ?_ : VC _ _ _ _ _ ∨ _)
               | ((with_reducible refine (⟨fun hc => ?_, fun hc => ?_⟩ : (_ = true → _) ∧ (_ = false → _))) <;> first | exact absurd hc (by decide) | (exfalso; simp only [*, reduceCtorEq] at hc; done) | skip)
               | ((with_reducible refine And.intro ?_ ?_); focus (first | rfl | exact Nat.le_of_ble_eq_true rfl | omega | (simp only [List.length_cons, List.length_nil, List.length_map, List.length_append]; omega))))
      have hke : k = (others c).length := by simp at hc; omega
      subst hke
      rw [List.take_length]
      refine ⟨_, _, ⟨rfl, rfl⟩, ?_⟩
      repeat' first
        | fail
        | exact True.intro
        | exact rfl
        | exact id
        | exact leRs_refl _
        | ((conv => whnf); with_reducible refine And.intro ?_ ?_)
        | ((conv => whnf); exact True.intro)
      all_goals try (conv => whnf)
  · have hN : no = c.none := by
      rw [hno]
      have hc' : ((others c).any fun x => !c.none.any fun y => y == x) = !(others c).all fun p => c.none.any (· == p) := by rw [List.not_all_eq_any_not]
      have hc'' := hc
      change (!((others c).any fun x => !c.none.any fun y => y == x)) = _ at hc''
      rw [hc', Bool.not_not] at hc''
      rw [hc'']
      rfl
    subst hN
    clear hno
    refine ⟨{x : Nat × Int × Int × Int // x.1 ≤ (others c).length}, fun ⟨(k, a, b, q), _⟩ => ⟨[(2, .ptr 1002 0), (5, .ptr 1005 0), (7, .ptr 1007 0), (8, .slw 1008 0), (63, .pv (slP (others c))), (64, .pv (ii (others c).length)), (65, .pv (ii k))], 1000000000, [(1, .var (({ c with since := now, none := c.none } : Cp).v (.pv (slP c.none)))), (1002, .var [.ptr 1 0]), (1005, .var [.pv (ii a), .pv (uu b), .pv (ii q), .pv (uu c.l.id), .pv (uu c.n), .pv (uu 0), .pv (uu 0), .pv (ii 0), .pv nilS, .pv nilS]), (1007, .var [.fn (.func 109) [] [.ptr 1002 0]]), (1008, .arr 49 0 10 (((((others c).take k).filter fun p => !(c.none).any (· == p)).map fun p => (⟨p, 3, c.l.id, c.n, 0, 0, 0, [], []⟩ : Rq)).map Rq.c))]⟩, fun ⟨(k, _), _⟩ => (others c).length - k, ⟨⟨(0, 0, 0, 0), by simp⟩, ent_of ?_⟩, ?_⟩
    · repeat' first
        | fail
        | exact True.intro
        | exact rfl
        | exact id
        | exact leRs_refl _
        | ((conv => whnf); with_reducible refine And.intro ?_ ?_)
        | ((conv => whnf); exact True.intro)
      all_goals try (conv => whnf)
      rw [List.length_map]; rfl
    rintro ⟨⟨k, a, b, q⟩, hk⟩
    simp only at hk
    have hrl : (((others c).take k).filter fun p => !(c.none).any (· == p)).length ≤ 1000000 := Nat.le_trans (List.length_filter_le _ _) (by rw [List.length_take]; omega)
    repeat' ((conv => whnf)
             first
             | with_reducible refine (Or.inl ?_ : VC _ _ _ _ _ ∨ _)
             | ((with_reducible refine (⟨fun hc => ?_, fun hc => ?_⟩ : (_ = true → _) ∧ (_ = false → _))) <;> first | exact absurd hc (by decide) | (exfalso; simp only [*, reduceCtorEq] at hc; done) | skip)
             | ((with_reducible refine And.intro ?_ ?_); focus (first | rfl | exact Nat.le_of_ble_eq_true rfl | omega | (simp only [List.length_cons, List.length_nil, List.length_map, List.length_append]; omega))))
    · have hlt : k < (others c).length := by simpa using hc
      refine ⟨_, rowK _ _ _ hlt, ?_⟩
      repeat' ((conv => whnf)
               first
               | with_reducible refine (Or.inl ?_ : VC _ _ _ _ _ ∨ _)
               | ((with_reducible refine (⟨fun hc => ?_, fun hc => ?_⟩ : (_ = true → _) ∧ (_ = false → _))) <;> first | exact absurd hc (by decide) | (exfalso; simp only [*, reduceCtorEq] at hc; done) | skip)
               | (refine Or.inl ?_; (conv => whnf); refine ⟨_, ask1_c { c with since := now, none := c.none } ((others c)[k]), ?_⟩)
               | (((with_reducible refine And.intro ?_ ?_); focus (simp only [List.length_map, List.length_cons, List.length_nil]; omega)))
               | ((with_reducible refine And.intro ?_ ?_); focus (first | rfl | exact Nat.le_of_ble_eq_true rfl | omega | (simp only [List.length_cons, List.length_nil, List.length_map, List.length_append]; omega))))
      · refine ⟨⟨(k + 1, (others c)[k].node, (others c)[k].serial, 3), hlt⟩, dec_lt hlt, ent_of ?_⟩
        have hfs := filter_take_succ (fun p => !(c.none).any (· == p)) (others c) k hlt
        rw [if_pos hc] at hfs
        repeat' first
          | fail
          | exact True.intro
          | exact rfl
          | exact id
          | exact leRs_refl _
          | ((conv => whnf); with_reducible refine And.intro ?_ ?_)
          | ((conv => whnf); exact True.intro)
        all_goals try (conv => whnf)
        · rw [hfs, List.map_append, List.map_append]
          refine leRs_app (leRs_refl _) ?_
          repeat' first
            | fail
            | exact True.intro
            | exact rfl
            | exact id
            | exact leRs_refl _
            | ((conv => whnf); with_reducible refine And.intro ?_ ?_)
            | ((conv => whnf); exact True.intro)
          all_goals try (conv => whnf)
        · exact wrapI (by omega) (by omega)
      · refine ⟨⟨(k + 1, a, b, q), hlt⟩, dec_lt hlt, ent_of ?_⟩
        have hfs := filter_take_succ (fun p => !(c.none).any (· == p)) (others c) k hlt
        rw [if_neg (by rw [Bool.not_eq_true]; exact hc)] at hfs
        repeat' first
          | fail
          | exact True.intro
          | exact rfl
          | exact id
          | exact leRs_refl _
          | ((conv => whnf); with_reducible refine And.intro ?_ ?_)
          | ((conv => whnf); exact True.intro)
        all_goals try (conv => whnf)
        · rw [hfs]
          exact leRs_refl _
        · exact wrapI (by omega) (by omega)
    · repeat' ((conv => whnf)
               first
               | with_reducible refine (Or.inl ?_ : VC _ _ _ _ _ ∨ _)
               | ((with_reducible refine (⟨fun hc => ?_, fun hc => ?_⟩ : (_ = true → _) ∧ (_ = false → _))) <;> first | exact absurd hc (by decide) | (exfalso; simp only [*, reduceCtorEq] at hc; done) | skip)
               | ((with_reducible refine And.intro ?_ ?_); focus (first | rfl | exact Nat.le_of_ble_eq_true rfl | omega | (simp only [List.length_cons, List.length_nil, List.length_map, List.length_append]; omega))))
      have hke : k = (others c).length := by simp at hc; omega
      subst hke
      rw [List.take_length]
      refine ⟨_, _, ⟨rfl, rfl⟩, ?_⟩
      repeat' first
        | fail
        | exact True.intro
        | exact rfl
        | exact id
        | exact leRs_refl _
        | ((conv => whnf); with_reducible refine And.intro ?_ ?_)
        | ((conv => whnf); exact True.intro)
      all_goals try (conv => whnf)
end Go.Proofs.Ytibbgchpgfpccaa.Tb

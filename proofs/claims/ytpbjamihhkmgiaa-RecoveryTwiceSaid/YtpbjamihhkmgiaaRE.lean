/-
  Contracts of functions of the program and of the document, each for every input that its premises name.
-/
import Derived.Test.YtpbjamihhkmgiaaRD
set_option linter.unusedSectionVars false
set_option maxRecDepth 100000
set_option maxHeartbeats 4000000
set_option linter.unusedVariables false
set_option linter.unusedSimpArgs false
open Go Go.AX
namespace Go.Proofs.Ytpbjamihhkmgiaa.Tb
theorem fn_wBegin : FnOk Try.prog 16 Try.f16 := ⟨Try.func16, by kernel_rfl, by kernel_rfl, by kernel_rfl⟩
theorem fn_wGoOn : FnOk Try.prog 40 Try.f40 := ⟨Try.func40, by kernel_rfl, by kernel_rfl, by kernel_rfl⟩
theorem fn_wEnough : FnOk Try.prog 21 Try.f21 := ⟨Try.func21, by kernel_rfl, by kernel_rfl, by kernel_rfl⟩
theorem fn_wHas : FnOk Try.prog 46 Try.f46 := ⟨Try.func46, by kernel_rfl, by kernel_rfl, by kernel_rfl⟩
theorem fn_wFenced : FnOk Try.prog 26 Try.f26 := ⟨Try.func26, by kernel_rfl, by kernel_rfl, by kernel_rfl⟩
theorem fn_wGot : FnOk Try.prog 27 Try.f27 := ⟨Try.func27, by kernel_rfl, by kernel_rfl, by kernel_rfl⟩
theorem fn_wAdded : FnOk Try.prog 28 Try.f28 := ⟨Try.func28, by kernel_rfl, by kernel_rfl, by kernel_rfl⟩
theorem readsP_g (x : Rv) (out : List Rq) (hf : frsOk x.l.frags) (hn : 0 ≤ x.n ∧ x.n ≤ 18446744073709551615) :
    GCx Try.prog 42 [.ptr 1 0] [(1, .var (x.v (.pv (slP x.heard)) (.pv (slP x.none)) (.pv (slP x.has)) (.pv (slF x.frags)) (.pv (slP x.bad)) (.pv (.sc (.slice none 0 0)))))] (.pv (slP (readsR x))) [(1, .var (x.v (.pv (slP x.heard)) (.pv (slP x.none)) (.pv (slP x.has)) (.pv (slF x.frags)) (.pv (slP x.bad)) (.pv (.sc (.slice none 0 0)))))] := by
  refine GC_of_VC tabOk (draw_ok mixed tabOk) fn_wReads rfl ?_
  repeat' ((conv => whnf); first | with_reducible refine (Or.inl ?_ : VC _ _ _ _ _ ∨ _) | ((with_reducible refine fk (fun hc => ?_) fun hc => ?_) <;> first | exact absurd hc (by decide) | (exfalso; simp only [*, reduceCtorEq] at hc; done) | skip) | (refine Or.inl (Or.inl ?_); (conv => whnf); refine ⟨_, sSet_c _ _ _ hf hn, ?_⟩) | ((with_reducible apply And.intro); focus (first | rfl | exact Nat.le_of_ble_eq_true rfl | omega | (simp only [List.length_cons, List.length_nil, List.length_map, List.length_append]; omega))))
  refine ⟨_, _, ⟨rfl, rfl⟩, ?_⟩
  repeat' first | (with_reducible first | exact ⟨⟩ | exact rfl | exact lr _) | ((conv => whnf); with_reducible first | apply And.intro | exact ⟨⟩) | exact rfl | exact id | exact lr _
  all_goals try (conv => whnf)
theorem readsH_g (x : Rv) (out : List Rq) (hf : frsOk x.l.frags) (hn : 0 ≤ x.n ∧ x.n ≤ 18446744073709551615) :
    GCx Try.prog 42 [.ptr 1 0] [(1, .var (x.v (.slw 2 0) (.pv (slP x.none)) (.pv (slP x.has)) (.pv (slF x.frags)) (.pv (slP x.bad)) (.pv (.sc (.slice none 0 0))))), (2, .arr 38 0 2 (x.heard.map Pl.c))] (.pv (slP (readsR x))) [(1, .var (x.v (.slw 2 0) (.pv (slP x.none)) (.pv (slP x.has)) (.pv (slF x.frags)) (.pv (slP x.bad)) (.pv (.sc (.slice none 0 0))))), (2, .arr 38 0 2 (x.heard.map Pl.c))] := by
  refine GC_of_VC tabOk (draw_ok mixed tabOk) fn_wReads rfl ?_
  repeat' ((conv => whnf); first | with_reducible refine (Or.inl ?_ : VC _ _ _ _ _ ∨ _) | ((with_reducible refine fk (fun hc => ?_) fun hc => ?_) <;> first | exact absurd hc (by decide) | (exfalso; simp only [*, reduceCtorEq] at hc; done) | skip) | (refine Or.inl (Or.inl ?_); (conv => whnf); refine ⟨_, sSet_c _ _ _ hf hn, ?_⟩) | ((with_reducible apply And.intro); focus (first | rfl | exact Nat.le_of_ble_eq_true rfl | omega | (simp only [List.length_cons, List.length_nil, List.length_map, List.length_append]; omega))))
  refine ⟨_, _, ⟨rfl, rfl⟩, ?_⟩
  repeat' first | (with_reducible first | exact ⟨⟩ | exact rfl | exact lr _) | ((conv => whnf); with_reducible first | apply And.intro | exact ⟨⟩) | exact rfl | exact id | exact lr _
  all_goals try (conv => whnf)
theorem readsN_g (x : Rv) (out : List Rq) (hf : frsOk x.l.frags) (hn : 0 ≤ x.n ∧ x.n ≤ 18446744073709551615) :
    GCx Try.prog 42 [.ptr 1 0] [(1, .var (x.v (.pv (slP x.heard)) (.slw 2 0) (.pv (slP x.has)) (.pv (slF x.frags)) (.pv (slP x.bad)) (.pv (.sc (.slice none 0 0))))), (2, .arr 38 0 2 (x.none.map Pl.c))] (.pv (slP (readsR x))) [(1, .var (x.v (.pv (slP x.heard)) (.slw 2 0) (.pv (slP x.has)) (.pv (slF x.frags)) (.pv (slP x.bad)) (.pv (.sc (.slice none 0 0))))), (2, .arr 38 0 2 (x.none.map Pl.c))] := by
  refine GC_of_VC tabOk (draw_ok mixed tabOk) fn_wReads rfl ?_
  repeat' ((conv => whnf); first | with_reducible refine (Or.inl ?_ : VC _ _ _ _ _ ∨ _) | ((with_reducible refine fk (fun hc => ?_) fun hc => ?_) <;> first | exact absurd hc (by decide) | (exfalso; simp only [*, reduceCtorEq] at hc; done) | skip) | (refine Or.inl (Or.inl ?_); (conv => whnf); refine ⟨_, sSet_c _ _ _ hf hn, ?_⟩) | ((with_reducible apply And.intro); focus (first | rfl | exact Nat.le_of_ble_eq_true rfl | omega | (simp only [List.length_cons, List.length_nil, List.length_map, List.length_append]; omega))))
  refine ⟨_, _, ⟨rfl, rfl⟩, ?_⟩
  repeat' first | (with_reducible first | exact ⟨⟩ | exact rfl | exact lr _) | ((conv => whnf); with_reducible first | apply And.intro | exact ⟨⟩) | exact rfl | exact id | exact lr _
  all_goals try (conv => whnf)
theorem readsS_g (x : Rv) (out : List Rq) (hf : frsOk x.l.frags) (hn : 0 ≤ x.n ∧ x.n ≤ 18446744073709551615) :
    GCx Try.prog 42 [.ptr 1 0] [(1, .var (x.v (.pv (slP x.heard)) (.pv (slP x.none)) (.slw 2 0) (.pv (slF x.frags)) (.pv (slP x.bad)) (.pv (.sc (.slice none 0 0))))), (2, .arr 38 0 2 (x.has.map Pl.c))] (.pv (slP (readsR x))) [(1, .var (x.v (.pv (slP x.heard)) (.pv (slP x.none)) (.slw 2 0) (.pv (slF x.frags)) (.pv (slP x.bad)) (.pv (.sc (.slice none 0 0))))), (2, .arr 38 0 2 (x.has.map Pl.c))] := by
  refine GC_of_VC tabOk (draw_ok mixed tabOk) fn_wReads rfl ?_
  repeat' ((conv => whnf); first | with_reducible refine (Or.inl ?_ : VC _ _ _ _ _ ∨ _) | ((with_reducible refine fk (fun hc => ?_) fun hc => ?_) <;> first | exact absurd hc (by decide) | (exfalso; simp only [*, reduceCtorEq] at hc; done) | skip) | (refine Or.inl (Or.inl ?_); (conv => whnf); refine ⟨_, sSet_c _ _ _ hf hn, ?_⟩) | ((with_reducible apply And.intro); focus (first | rfl | exact Nat.le_of_ble_eq_true rfl | omega | (simp only [List.length_cons, List.length_nil, List.length_map, List.length_append]; omega))))
  refine ⟨_, _, ⟨rfl, rfl⟩, ?_⟩
  repeat' first | (with_reducible first | exact ⟨⟩ | exact rfl | exact lr _) | ((conv => whnf); with_reducible first | apply And.intro | exact ⟨⟩) | exact rfl | exact id | exact lr _
  all_goals try (conv => whnf)
theorem writesS_g (x : Rv) (out : List Rq) (hf : frsOk x.frags) (hn : 0 ≤ x.n ∧ x.n ≤ 18446744073709551615) :
    GCx Try.prog 18 [.ptr 1 0] [(1, .var (x.v (.pv (slP x.heard)) (.pv (slP x.none)) (.slw 2 0) (.pv (slF x.frags)) (.pv (slP x.bad)) (.pv (.sc (.slice none 0 0))))), (2, .arr 38 0 2 (x.has.map Pl.c))] (.pv (slP (writesR x))) [(1, .var (x.v (.pv (slP x.heard)) (.pv (slP x.none)) (.slw 2 0) (.pv (slF x.frags)) (.pv (slP x.bad)) (.pv (.sc (.slice none 0 0))))), (2, .arr 38 0 2 (x.has.map Pl.c))] := by
  refine GC_of_VC tabOk (draw_ok mixed tabOk) fn_wWrites rfl ?_
  repeat' ((conv => whnf); first | with_reducible refine (Or.inl ?_ : VC _ _ _ _ _ ∨ _) | ((with_reducible refine fk (fun hc => ?_) fun hc => ?_) <;> first | exact absurd hc (by decide) | (exfalso; simp only [*, reduceCtorEq] at hc; done) | skip) | (refine Or.inl (Or.inl ?_); (conv => whnf); refine ⟨_, sSet_c _ _ _ hf hn, ?_⟩) | ((with_reducible apply And.intro); focus (first | rfl | exact Nat.le_of_ble_eq_true rfl | omega | (simp only [List.length_cons, List.length_nil, List.length_map, List.length_append]; omega))))
  refine ⟨_, _, ⟨rfl, rfl⟩, ?_⟩
  repeat' first | (with_reducible first | exact ⟨⟩ | exact rfl | exact lr _) | ((conv => whnf); with_reducible first | apply And.intro | exact ⟨⟩) | exact rfl | exact id | exact lr _
  all_goals try (conv => whnf)
theorem writesSO_g (x : Rv) (out : List Rq) (hf : frsOk x.frags) (hn : 0 ≤ x.n ∧ x.n ≤ 18446744073709551615) :
    GCx Try.prog 18 [.ptr 1 0] [(1, .var (x.v (.pv (slP x.heard)) (.pv (slP x.none)) (.slw 2 0) (.pv (slF x.frags)) (.pv (slP x.bad)) (.slw 3 0))), (2, .arr 38 0 2 (x.has.map Pl.c)), (3, .arr 54 0 10 (out.map Rq.c))] (.pv (slP (writesR x))) [(1, .var (x.v (.pv (slP x.heard)) (.pv (slP x.none)) (.slw 2 0) (.pv (slF x.frags)) (.pv (slP x.bad)) (.slw 3 0))), (2, .arr 38 0 2 (x.has.map Pl.c)), (3, .arr 54 0 10 (out.map Rq.c))] := by
  refine GC_of_VC tabOk (draw_ok mixed tabOk) fn_wWrites rfl ?_
  repeat' ((conv => whnf); first | with_reducible refine (Or.inl ?_ : VC _ _ _ _ _ ∨ _) | ((with_reducible refine fk (fun hc => ?_) fun hc => ?_) <;> first | exact absurd hc (by decide) | (exfalso; simp only [*, reduceCtorEq] at hc; done) | skip) | (refine Or.inl (Or.inl ?_); (conv => whnf); refine ⟨_, sSet_c _ _ _ hf hn, ?_⟩) | ((with_reducible apply And.intro); focus (first | rfl | exact Nat.le_of_ble_eq_true rfl | omega | (simp only [List.length_cons, List.length_nil, List.length_map, List.length_append]; omega))))
  refine ⟨_, _, ⟨rfl, rfl⟩, ?_⟩
  repeat' first | (with_reducible first | exact ⟨⟩ | exact rfl | exact lr _) | ((conv => whnf); with_reducible first | apply And.intro | exact ⟨⟩) | exact rfl | exact id | exact lr _
  all_goals try (conv => whnf)
theorem lastH_g (x : Rv) (h0 : 0 < x.l.frags.length) (hfl : x.l.frags.length ≤ 1000) :
    GCx Try.prog 41 [.ptr 1 0] [(1, .var (x.v (.slw 2 0) (.pv (slP x.none)) (.pv (slP x.has)) (.pv (slF x.frags)) (.pv (slP x.bad)) (.pv (.sc (.slice none 0 0))))), (2, .arr 38 0 2 (x.heard.map Pl.c))] (.pv (.agg (lastF x).c)) [(1, .var (x.v (.slw 2 0) (.pv (slP x.none)) (.pv (slP x.has)) (.pv (slF x.frags)) (.pv (slP x.bad)) (.pv (.sc (.slice none 0 0))))), (2, .arr 38 0 2 (x.heard.map Pl.c))] := by
  have c1 : decide (((List.map Fr.c x.l.frags).length : Int) > 0) = true := by rw [List.length_map]; simp only [decide_eq_true_eq]; omega
  have eL : IntKind.i64.wrap (((List.map Fr.c x.l.frags).length : Int) - 1) = ((x.l.frags.length - 1 : Nat) : Int) := by rw [List.length_map, wrapI (by omega) (by omega)]; omega
  have hlt1 : x.l.frags.length - 1 < x.l.frags.length := by omega
  have elf : lastF x = x.l.frags[x.l.frags.length - 1] := getElem!_pos x.l.frags _ hlt1
  rw [elf]
  clear elf
  obtain ⟨lf, hlf⟩ : ∃ lf, x.l.frags[x.l.frags.length - 1] = lf := ⟨_, rfl⟩
  rw [hlf]
  have hrow : (List.map Fr.c x.l.frags)[(IntKind.i64.wrap (((List.map Fr.c x.l.frags).length : Int) - 1)).toNat]? = some (Fr.c lf) := (rowE Fr.c _ eL hlt1).trans (by rw [hlf])
  refine GC_of_VC tabOk (draw_ok mixed tabOk) fn_wLast rfl ?_
  repeat' ((conv => whnf); first | with_reducible refine (Or.inl ?_ : VC _ _ _ _ _ ∨ _) | ((with_reducible refine fk (fun hc => ?_) fun hc => ?_) <;> first | exact absurd hc (by decide) | (exfalso; simp only [*, reduceCtorEq] at hc; done) | skip) | ((refine ⟨_, hrow, ?_⟩)) | (((with_reducible apply And.intro); focus (rw [eL, List.length_map]; omega))) | (((with_reducible apply And.intro); focus (rw [eL]; omega))) | ((with_reducible apply And.intro); focus (first | rfl | exact Nat.le_of_ble_eq_true rfl | omega | (simp only [List.length_cons, List.length_nil, List.length_map, List.length_append]; omega))))
  refine ⟨_, _, ⟨rfl, rfl⟩, ?_⟩
  repeat' first | (with_reducible first | exact ⟨⟩ | exact rfl | exact lr _) | ((conv => whnf); with_reducible first | apply And.intro | exact ⟨⟩) | exact rfl | exact id | exact lr _
  all_goals try (conv => whnf)
end Go.Proofs.Ytpbjamihhkmgiaa.Tb

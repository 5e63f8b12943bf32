/-
  Contracts of functions of the program and of the document, each for every input that its premises name.
-/
import Derived.Test.YtpbjamihhkmgiaaRY
import Derived.Test.YtpbjamihhkmgiaaRZ
import Derived.Test.YtpbjamihhkmgiaaAe
set_option linter.unusedSectionVars false
set_option maxRecDepth 100000
set_option maxHeartbeats 4000000
set_option linter.unusedVariables false
set_option linter.unusedSimpArgs false
open Go Go.AX
namespace Go.Proofs.Ytpbjamihhkmgiaa.Tb
def dbl (T : Tab) : Tab :=
  match T with
  | x :: r => x :: x :: r
  | [] => []
def tab2 : Tab := dbl tab
theorem lk_dbl (T : Tab) (t : Nat) : lk (dbl T) t = lk T t := by
  cases T with
  | nil => rfl
  | cons x r =>
    obtain ⟨k, v⟩ := x
    simp only [dbl, lk_cons]
    split <;> rfl
theorem tabOk2 : TabOk Try.prog tab2 := fun t i h => tabOk t i (by rw [← lk_dbl tab t]; exact h)
theorem fn_sDelete : FnOk Try.prog 61 Try.f61 := ⟨Try.func61, by kernel_rfl, by kernel_rfl, by kernel_rfl⟩
theorem sDeleteS_g (l : List Pl) (i : Nat) (hi : i < l.length) (hl : l.length ≤ 1000000) (a b : Int) (ha : a = (i : Int)) (hb : b = (i : Int) + 1) :
    GCx Try.prog 61 [.slw 1 0, .pv (ii a), .pv (ii b)] [(1, .arr 38 0 2 (l.map Pl.c))] (.sub 1 0 2 0 (l.length - 1)) [(1, .arr 38 0 2 ((l.eraseIdx i).map Pl.c ++ [[ii 0, uu 0]]))] := by
  have d1 : (a == b) = false := by rw [ha, hb]; simp; omega
  have ha2 : a ≤ (i : Int) ∧ (i : Int) ≤ a := by omega
  have hb2 : b ≤ (i : Int) + 1 ∧ (i : Int) + 1 ≤ b := by omega
  have hta : a.toNat = i := by omega
  have htb : b.toNat = i + 1 := by omega
  clear ha hb
  refine GC_of_VC tabOk2 (draw_ok mixed tabOk2) fn_sDelete rfl ?_
  repeat' ((conv => whnf); first | with_reducible refine (Or.inl ?_ : VC _ _ _ _ _ ∨ _) | ((with_reducible refine fk (fun hc => ?_) fun hc => ?_) <;> first | exact absurd hc (by decide) | (exfalso; simp only [*, reduceCtorEq] at hc; done) | skip) | (((with_reducible apply And.intro); focus (simp only [cutN, List.length_map, List.length_append, List.length_take, List.length_drop, List.length_replicate]; omega))) | ((with_reducible apply And.intro); focus (first | rfl | exact Nat.le_of_ble_eq_true rfl | omega | (simp only [List.length_cons, List.length_nil, List.length_map, List.length_append]; omega))))
  refine ⟨_, _, ⟨rfl, rfl⟩, ?_⟩
  repeat' first | (with_reducible first | exact ⟨⟩ | exact rfl | exact lr _) | ((conv => whnf); with_reducible first | apply And.intro | exact ⟨⟩) | exact rfl | exact id | exact lr _
  all_goals try (conv => whnf)
  · refine leRs_of_eq ?_
    rw [hta, htb]
    obtain ⟨L, hL⟩ : ∃ L, l.map Pl.c = L := ⟨_, rfl⟩
    have hn : L.length = l.length := by rw [← hL, List.length_map]
    have e0 : List.map Pl.c (l.eraseIdx i) = L.take i ++ L.drop (i + 1) := by rw [← hL, List.eraseIdx_eq_take_drop_succ, List.map_append, List.map_take, List.map_drop]
    rw [e0, hL]
    have hiL : i < L.length := by omega
    have e1 : cutN L (i + 1) L.length = L.drop (i + 1) := by unfold cutN; exact List.take_of_length_le (by simp)
    have e2 : i + (L.drop (i + 1)).length = L.length - 1 := by rw [List.length_drop]; omega
    have hM : (L.take i ++ L.drop (i + 1)).length = L.length - 1 := by rw [List.length_append, List.length_take, List.length_drop]; omega
    have e3 : (cutN (L.take i ++ (L.drop (i + 1) ++ L.drop (L.length - 1))) 0 (L.length - 1)).length = L.length - 1 := by
      simp only [cutN, List.length_take, List.length_drop, List.length_append]; omega
    have e5 : List.drop L.length (L.take i ++ L.drop (i + 1) ++ L.drop (L.length - 1)) = [] := List.drop_eq_nil_of_le (by rw [List.length_append, hM, List.length_drop]; omega)
    simp only [e1, e2, e3, Int.toNat_natCast]
    rw [← List.append_assoc (L.take i), List.take_append_of_le_length (by omega), List.take_of_length_le (by omega), e5, show L.length - (L.length - 1) = 1 by omega]
    rfl
  · rw [hta, htb, List.length_map]
    have : (cutN (List.map Pl.c l) (i + 1) l.length).length = l.length - (i + 1) := by simp only [cutN, List.length_take, List.length_drop, List.length_map]; omega
    rw [this, show i + (l.length - (i + 1)) = l.length - 1 by omega]
theorem sDelete_g (l : List Pl) (i : Nat) (hi : i < l.length) (hl : l.length ≤ 1000000) (a b : Int) (ha : a = (i : Int)) (hb : b = (i : Int) + 1) :
    GCx Try.prog 61 [.slw 1 0, .pv (ii a), .pv (ii b)] [(1, .arr 38 0 2 (l.map Pl.c))] (.slw 1 1) [(1, .arr 38 1 2 ((l.eraseIdx i).map Pl.c))] := by
  have hel : (l.eraseIdx i).length = l.length - 1 := by rw [List.length_eraseIdx, if_pos hi]
  have h := GCx_cut (sDeleteS_g l i hi hl a b ha hb) (by simp only [List.length_append, List.length_map, List.length_singleton]; omega)
  rw [List.take_append_of_le_length (by rw [List.length_map]; omega), List.take_of_length_le (by rw [List.length_map]; omega)] at h
  exact h
end Go.Proofs.Ytpbjamihhkmgiaa.Tb

/-
  Contracts of functions of the program and of the document, each for every input that its premises name.
-/
import Derived.Test.YtibbgchpgfpccaaGM
import Derived.Test.YtibbgchpgfpccaaFF
import Derived.Test.YtibbgchpgfpccaaAd
set_option maxRecDepth 100000
set_option maxHeartbeats 4000000
set_option linter.unusedVariables false
set_option linter.unusedSimpArgs false
open Go Go.AX
namespace Go.Proofs.Ytibbgchpgfpccaa.Tb
theorem fn_r18In : FnOk Try.prog 68 Try.f68 := ⟨Try.func68, by kernel_rfl, by kernel_rfl, by kernel_rfl⟩
theorem r18In_c (l : List Pl) (a b : Int) : PCx Try.prog 68 [slP l, .agg [ii a, uu b]] (bl (l.any (· == ⟨a, b⟩))) := by
  refine PC.le (PC_bd fn_r18In fun hb => ?_)
  have hb : l.length ≤ 9223372036854775807 := by simpa [bdL, bdP, slP] using hb
  refine PC_of_VC tabOk (draw_ok mixed tabOk) fn_r18In rfl ?_
  repeat' ((conv => whnf)
           first
           | with_reducible refine (Or.inl ?_ : VC _ _ _ _ _ ∨ _)
           | ((with_reducible refine (⟨fun hc => ?_, fun hc => ?_⟩ : (_ = true → _) ∧ (_ = false → _))) <;> first | exact absurd hc (by decide) | (exfalso; simp only [*, reduceCtorEq] at hc; done) | skip)
           | ((with_reducible refine And.intro ?_ ?_); focus (first | rfl | exact Nat.le_of_ble_eq_true rfl | omega | (simp only [List.length_cons, List.length_nil, List.length_map, List.length_append]; omega))))
  refine ⟨{k : Nat // k ≤ l.length ∧ ∀ j (hj : j < l.length), j < k → (l[j] == (⟨a, b⟩ : Pl)) = false}, fun ⟨k, _⟩ => ⟨[(0, .pv (slP l)), (3, .ptr 1003 0), (5, .pv (ii k))], 1000000000, [(1003, .var [.pv (ii a), .pv (uu b)])]⟩, fun ⟨k, _⟩ => l.length - k, ⟨⟨0, by simp⟩, ent_of ?_⟩, ?_⟩
  · repeat' first
      | fail
      | exact True.intro
      | exact rfl
      | exact id
      | exact leRs_refl _
      | ((conv => whnf); with_reducible refine And.intro ?_ ?_)
      | ((conv => whnf); exact True.intro)
    all_goals try (conv => whnf)
  rintro ⟨k, hk, hn⟩
  repeat' ((conv => whnf)
           first
           | with_reducible refine (Or.inl ?_ : VC _ _ _ _ _ ∨ _)
           | ((with_reducible refine (⟨fun hc => ?_, fun hc => ?_⟩ : (_ = true → _) ∧ (_ = false → _))) <;> first | exact absurd hc (by decide) | (exfalso; simp only [*, reduceCtorEq] at hc; done) | skip)
           | ((with_reducible refine And.intro ?_ ?_); focus (first | rfl | exact Nat.le_of_ble_eq_true rfl | omega | (simp only [List.length_cons, List.length_nil, List.length_map, List.length_append]; omega))))
  · have hlt : k < l.length := by simpa using hc
    refine ⟨_, rowK _ _ _ hlt, ?_⟩
    repeat' ((conv => whnf)
             first
             | with_reducible refine (Or.inl ?_ : VC _ _ _ _ _ ∨ _)
             | ((with_reducible refine (⟨fun hc => ?_, fun hc => ?_⟩ : (_ = true → _) ∧ (_ = false → _))) <;> first | exact absurd hc (by decide) | (exfalso; simp only [*, reduceCtorEq] at hc; done) | skip)
             | ((with_reducible refine And.intro ?_ ?_); focus (first | rfl | exact Nat.le_of_ble_eq_true rfl | omega | (simp only [List.length_cons, List.length_nil, List.length_map, List.length_append]; omega))))
    · repeat' first
        | fail
        | exact True.intro
        | exact rfl
        | exact id
        | exact leRs_refl _
        | ((conv => whnf); with_reducible refine And.intro ?_ ?_)
        | ((conv => whnf); exact True.intro)
      all_goals try (conv => whnf)
      simp only [Pl.beql] at hc
      exact (List.any_eq_true.2 ⟨l[k], List.getElem_mem hlt, hc⟩).symm
    · refine ⟨⟨k + 1, hlt, step_lt hn fun _ => by simpa only [Pl.beql] using hc⟩, dec_lt hlt, ent_of ?_⟩
      repeat' first
        | fail
        | exact True.intro
        | exact rfl
        | exact id
        | exact leRs_refl _
        | ((conv => whnf); with_reducible refine And.intro ?_ ?_)
        | ((conv => whnf); exact True.intro)
      all_goals try (conv => whnf)
      exact wrapI (by omega) (by omega)
  · repeat' first
      | fail
      | exact True.intro
      | exact rfl
      | exact id
      | exact leRs_refl _
      | ((conv => whnf); with_reducible refine And.intro ?_ ?_)
      | ((conv => whnf); exact True.intro)
    all_goals try (conv => whnf)
    have : k = l.length := by simp at hc; omega
    subst this
    have := all_of (q := fun p : Pl => (p == (⟨a, b⟩ : Pl)) = false) hn
    exact (List.any_eq_false.2 fun x hx => by rw [this x hx]; simp).symm
theorem fn_r18Closed : FnOk Try.prog 67 Try.f67 := ⟨Try.func67, by kernel_rfl, by kernel_rfl, by kernel_rfl⟩
theorem r18Closed_c (l : Lg) (hr : -9223372036854775808 ≤ l.closed ∧ l.closed ≤ 9223372036854775807 ∧ 0 ≤ l.last) : PCx Try.prog 67 [.agg l.c] (bl (cClosed l)) := by
  refine PC.le ?_
  refine PC_of_VC tabOk (draw_ok mixed tabOk) fn_r18Closed rfl ?_
  repeat' ((conv => whnf)
           first
           | with_reducible refine (Or.inl ?_ : VC _ _ _ _ _ ∨ _)
           | ((with_reducible refine (⟨fun hc => ?_, fun hc => ?_⟩ : (_ = true → _) ∧ (_ = false → _))) <;> first | exact absurd hc (by decide) | (exfalso; simp only [*, reduceCtorEq] at hc; done) | skip)
           | (refine Or.inl ?_; (conv => whnf); refine ⟨_, r07Ledger_c _ hr, ?_⟩)
           | ((with_reducible refine And.intro ?_ ?_); focus (first | rfl | exact Nat.le_of_ble_eq_true rfl | omega | (simp only [List.length_cons, List.length_nil, List.length_map, List.length_append]; omega))))
  all_goals
    repeat' first
      | fail
      | exact True.intro
      | exact rfl
      | exact id
      | exact leRs_refl _
      | ((conv => whnf); with_reducible refine And.intro ?_ ?_)
      | ((conv => whnf); exact True.intro)
    all_goals try (conv => whnf)
    all_goals simp_all [cClosed]
theorem hadL_split (l : Lg) (f : Pl) (k : Nat) : hadFrom l f 0 0 = (((List.range' 0 k).map fun (i : Nat) => 0 + 1 + (i : Int)).filter fun n => (setOf l.frags l.w n).any (· == f)) ++ hadFrom l f 0 k ∨ (l.last - 0).toNat < k := by
  by_cases h : (l.last - 0).toNat < k
  · exact .inr h
  · refine .inl ?_
    unfold hadFrom
    rw [← List.filter_append, ← List.map_append, Nat.sub_zero]
    congr 2
    have := List.range'_append (s := 0) (m := k) (n := (l.last - 0).toNat - k) (step := 1)
    simp only [Nat.one_mul, Nat.zero_add] at this
    rw [this]
    congr 1
    omega
theorem fn_r18Had : FnOk Try.prog 31 Try.f31 := ⟨Try.func31, by kernel_rfl, by kernel_rfl, by kernel_rfl⟩
theorem r18Had_c (l : Lg) (from_ : Pl) (hr : -9223372036854775808 ≤ l.closed ∧ l.closed ≤ 9223372036854775807 ∧ 0 ≤ l.last) (hf : frsOk l.frags) : PCx Try.prog 31 [.agg l.c, .agg from_.c] (slU (hadL l from_ 0)) := by
  refine PC.le ?_
  refine PC_of_VC tabOk (draw_ok mixed tabOk) fn_r18Had rfl ?_
  repeat' ((conv => whnf)
           first
           | with_reducible refine (Or.inl ?_ : VC _ _ _ _ _ ∨ _)
           | ((with_reducible refine (⟨fun hc => ?_, fun hc => ?_⟩ : (_ = true → _) ∧ (_ = false → _))) <;> first | exact absurd hc (by decide) | (exfalso; simp only [*, reduceCtorEq] at hc; done) | skip)
           | (refine Or.inl ?_; (conv => whnf); refine ⟨_, r18Closed_c _ hr, ?_⟩)
           | ((with_reducible refine And.intro ?_ ?_); focus (first | rfl | exact Nat.le_of_ble_eq_true rfl | omega | (simp only [List.length_cons, List.length_nil, List.length_map, List.length_append]; omega))))
  · have : hadL l from_ 0 = [] := by unfold hadL; rw [if_neg (by simp_all)]
    rw [this]
    repeat' first
      | fail
      | exact True.intro
      | exact rfl
      | exact id
      | exact leRs_refl _
      | ((conv => whnf); with_reducible refine And.intro ?_ ?_)
      | ((conv => whnf); exact True.intro)
    all_goals try (conv => whnf)
  have hcl : cClosed l = true := by simpa using hc
  obtain ⟨hl8, hmay⟩ := closed_last hcl
  have hL : hadL l from_ 0 = hadFrom l from_ 0 0 := by
    unfold hadL
    split
    · rfl
    · rename_i hn
      simp only [hcl, Bool.true_and, decide_eq_true_eq] at hn
      exact (hadFrom_end l from_ 0 0 (by omega)).symm
  refine ⟨{k : Nat × List Int // (k.1 : Int) ≤ l.last ∧ k.2.length ≤ k.1 ∧ hadL l from_ 0 = k.2 ++ hadFrom l from_ 0 k.1}, fun ⟨(k, o), _⟩ => ⟨[(2, .ptr 1002 0), (3, .ptr 1003 0), (5, .slw 1005 0), (6, .pv (uu (1 + (k : Int))))], 1000000000, [(1002, .var [.pv (uu l.id), .pv (ii l.w), .pv (ii l.a), .pv (slF l.frags), .pv (ii l.closed), .pv (uu l.last)]), (1003, .var [.pv (ii from_.node), .pv (uu from_.serial)]), (1005, .arr 22 0 1 (o.map uRow))]⟩, fun ⟨(k, _), _⟩ => l.last.toNat - k, ⟨⟨(0, []), by simp; omega, by simp, by rw [hL]; rfl⟩, ent_of ?_⟩, ?_⟩
  · repeat' first
      | fail
      | exact True.intro
      | exact rfl
      | exact id
      | exact leRs_refl _
      | ((conv => whnf); with_reducible refine And.intro ?_ ?_)
      | ((conv => whnf); exact True.intro)
    all_goals try (conv => whnf)
  rintro ⟨⟨k, o⟩, hk, ho, he⟩
  simp only at hk ho he
  have e1 : (0 + 1 + (k : Int)) = 1 + (k : Int) := by omega
  have ek : IntKind.u64.wrap (1 + (k : Int) + 1) = 1 + ((k + 1 : Nat) : Int) := by rw [wrapU (by omega) (by omega)]; omega
  repeat' ((conv => whnf)
           first
           | with_reducible refine (Or.inl ?_ : VC _ _ _ _ _ ∨ _)
           | ((with_reducible refine (⟨fun hc => ?_, fun hc => ?_⟩ : (_ = true → _) ∧ (_ = false → _))) <;> first | exact absurd hc (by decide) | (exfalso; simp only [*, reduceCtorEq] at hc; done) | skip)
           | ((with_reducible refine And.intro ?_ ?_); focus (first | rfl | exact Nat.le_of_ble_eq_true rfl | omega | (simp only [List.length_cons, List.length_nil, List.length_map, List.length_append]; omega))))
  · have hle : 0 + 1 + (k : Int) ≤ l.last := by simp at hc; omega
    have hs := hadFrom_step l from_ 0 k hle
    rw [e1] at hs hle
    repeat' ((conv => whnf)
             first
             | with_reducible refine (Or.inl ?_ : VC _ _ _ _ _ ∨ _)
             | ((with_reducible refine (⟨fun hc => ?_, fun hc => ?_⟩ : (_ = true → _) ∧ (_ = false → _))) <;> first | exact absurd hc (by decide) | (exfalso; simp only [*, reduceCtorEq] at hc; done) | skip)
             | (refine Or.inl ?_; (conv => whnf); refine ⟨_, r14Set_c _ _ _ hf (by omega), ?_⟩)
             | (refine Or.inl ?_; (conv => whnf); refine ⟨_, r18In_c _ _ _, ?_⟩)
             | (((with_reducible refine And.intro ?_ ?_); focus (simp only [List.length_map, List.length_cons, List.length_nil]; omega)))
             | ((with_reducible refine And.intro ?_ ?_); focus (first | rfl | exact Nat.le_of_ble_eq_true rfl | omega | (simp only [List.length_cons, List.length_nil, List.length_map, List.length_append]; omega))))
    · have hp : ((setOf l.frags l.w (1 + (k : Int))).any (· == from_)) = true := hc
      rw [if_pos hp] at hs
      refine ⟨⟨(k + 1, o ++ [1 + (k : Int)]), by simp only; omega, by simp; omega, by rw [he, hs]; simp⟩, dec_lt (by omega), ent_of ?_⟩
      repeat' first
        | fail
        | exact True.intro
        | exact rfl
        | exact id
        | exact leRs_refl _
        | ((conv => whnf); with_reducible refine And.intro ?_ ?_)
        | ((conv => whnf); exact True.intro)
      all_goals try (conv => whnf)
      · refine leRs_of_eq ?_
        rw [List.map_append]; rfl
      · exact ek
    · have hp : ((setOf l.frags l.w (1 + (k : Int))).any (· == from_)) = false := hc
      rw [if_neg (by rw [hp]; simp)] at hs
      refine ⟨⟨(k + 1, o), by simp only; omega, by simp only; omega, by rw [he, hs]⟩, dec_lt (by omega), ent_of ?_⟩
      repeat' first
        | fail
        | exact True.intro
        | exact rfl
        | exact id
        | exact leRs_refl _
        | ((conv => whnf); with_reducible refine And.intro ?_ ?_)
        | ((conv => whnf); exact True.intro)
      all_goals try (conv => whnf)
      exact ek
  · have he2 : hadL l from_ 0 = o := by rw [he, hadFrom_end l from_ 0 k (by simp at hc; omega), List.append_nil]
    repeat' first
      | fail
      | exact True.intro
      | exact rfl
      | exact id
      | exact leRs_refl _
      | ((conv => whnf); with_reducible refine And.intro ?_ ?_)
      | ((conv => whnf); exact True.intro)
    all_goals try (conv => whnf)
    all_goals (rw [he2]; exact leRs_refl _)
theorem fn_l18body : FnOk Try.prog 35 Try.f35 := ⟨Try.func35, by kernel_rfl, by kernel_rfl, by kernel_rfl⟩
theorem l18body_c (n : Int) (hn : u64R n) : PCx Try.prog 35 [uu n] (.sc (.string ⟨(bodyL n).toArray⟩)) := by
  refine PC.le ?_
  refine PC_of_VC tabOk (draw_ok mixed tabOk) fn_l18body rfl ?_
  repeat' ((conv => whnf)
           first
           | with_reducible refine (Or.inl ?_ : VC _ _ _ _ _ ∨ _)
           | ((with_reducible refine (⟨fun hc => ?_, fun hc => ?_⟩ : (_ = true → _) ∧ (_ = false → _))) <;> first | exact absurd hc (by decide) | (exfalso; simp only [*, reduceCtorEq] at hc; done) | skip)
           | ((refine ⟨bodyL n, ?_, ?_⟩))
           | ((with_reducible refine And.intro ?_ ?_); focus (first | rfl | exact Nat.le_of_ble_eq_true rfl | omega | (simp only [List.length_cons, List.length_nil, List.length_map, List.length_append]; omega))))
  · unfold u64R at hn
    have h1 : n.tmod 10 = n % 10 := Int.tmod_eq_emod_of_nonneg hn.1
    have h2 : IntKind.u64.wrap (48 + n % 10) = 48 + n % 10 := wrapU (by omega) (by omega)
    have h3 : IntKind.u8.wrap (48 + n % 10) = 48 + n % 10 := by
      simp [IntKind.wrap, IntKind.bits, IntKind.signed]; omega
    rw [h1, h2, h3]
    have h4 : ((UInt8.ofNat (48 + (n % 10).toNat)).toNat : Int) = 48 + n % 10 := by
      rw [UInt8.toNat_ofNat', Nat.mod_eq_of_lt (by omega)]
      omega
    simp only [bodyL, List.map_cons, List.map_nil, byteRow, h4]
    rfl
  · repeat' first
      | fail
      | exact True.intro
      | exact rfl
      | exact id
      | exact leRs_refl _
      | ((conv => whnf); with_reducible refine And.intro ?_ ?_)
      | ((conv => whnf); exact True.intro)
    all_goals try (conv => whnf)
def strRow (s : ByteArray) : List PV := [.sc (.string s)]
def slS (l : List ByteArray) : PV := .sl false 1 (l.map strRow)
theorem fn_l18answers : FnOk Try.prog 32 Try.f32 := ⟨Try.func32, by kernel_rfl, by kernel_rfl, by kernel_rfl⟩
theorem l18answers_c (l : Lg) (lost fresh : Pl) (has : List ByteArray) (r : Rq) (hf : frsOk l.frags) (hn : u64R r.n) (hh : has.length ≤ 1000) (hb : r.body.length ≤ 1000000) :
    PCx Try.prog 32 [.agg l.c, .agg lost.c, .agg fresh.c, slS has, .agg r.c] (.tup [.agg (ansC l lost fresh has r).1.c, slS (ansC l lost fresh has r).2]) := by
  refine PC.le ?_
  have hlen : ([] ++ List.map strRow has).length = has.length := by simp
  have hw : IntKind.u64.wrap (([] ++ List.map strRow has).length : Int) = has.length := by rw [hlen]; exact wrapU (by omega) (by omega)
  have hrow : decide (r.n < IntKind.u64.wrap (([] ++ List.map strRow has).length : Int)) = true → ([] ++ List.map strRow has)[r.n.toNat]? = some (strRow (has[r.n.toNat]!)) := by
    intro hc
    rw [hw] at hc
    simp only [decide_eq_true_eq] at hc
    have := hn.1
    rw [List.nil_append, List.getElem?_map, List.getElem?_eq_getElem (by omega), getElem!_pos has _ (by omega)]
    rfl
  obtain ⟨X, hX⟩ : ∃ X, X = ansC l lost fresh has r := ⟨_, rfl⟩
  rw [← hX]
  refine PC_of_VC tabOk (draw_ok mixed tabOk) fn_l18answers rfl ?_
  repeat' ((conv => whnf)
           first
           | with_reducible refine (Or.inl ?_ : VC _ _ _ _ _ ∨ _)
           | ((with_reducible refine (⟨fun hc => ?_, fun hc => ?_⟩ : (_ = true → _) ∧ (_ = false → _))) <;> first | exact absurd hc (by decide) | (exfalso; simp only [*, reduceCtorEq] at hc; done) | skip)
           | (refine Or.inl ?_; (conv => whnf); refine ⟨_, r14Set_c _ _ _ hf hn, ?_⟩)
           | (refine Or.inl ?_; (conv => whnf); refine ⟨_, r18In_c _ _ _, ?_⟩)
           | (refine Or.inl ?_; (conv => whnf); refine ⟨_, l18body_c _ hn, ?_⟩)
           | (((with_reducible refine And.intro ?_ ?_); focus exact hn.1))
           | (((with_reducible refine And.intro ?_ ?_); focus (rw [hw] at hc; simp only [decide_eq_true_eq] at hc; rw [hlen]; have := hn.1; omega)))
           | ((refine ⟨_, hrow hc, ?_⟩))
           | (((with_reducible refine And.intro ?_ ?_); focus (simp only [List.length_map, List.length_nil]; omega)))
           | (((with_reducible refine And.intro ?_ ?_); focus (show (2 : Nat) ≤ 140737488355328; decide)))
           | ((refine ⟨_, rfl, ?_⟩))
           | ((with_reducible refine And.intro ?_ ?_); focus (first | rfl | exact Nat.le_of_ble_eq_true rfl | omega | (simp only [List.length_cons, List.length_nil, List.length_map, List.length_append]; omega))))
  all_goals try simp only [hw, Pl.beq] at *
  all_goals
    simp only [ansC, *, Bool.true_or, Bool.or_true, Bool.false_or, Bool.or_false, Bool.true_and, Bool.and_true, Bool.false_and, Bool.and_false, Bool.not_true, Bool.not_false, Bool.false_eq_true, ↓reduceIte] at hX
    subst hX
    repeat' first
      | exact True.intro
      | exact rfl
      | exact id
      | exact leRs_refl _
      | ((conv => whnf); with_reducible refine And.intro ?_ ?_)
      | ((conv => whnf); exact True.intro)
  all_goals (refine leRs_of_eq ?_; simp only [List.nil_append, List.map_set]; rfl)
end Go.Proofs.Ytibbgchpgfpccaa.Tb

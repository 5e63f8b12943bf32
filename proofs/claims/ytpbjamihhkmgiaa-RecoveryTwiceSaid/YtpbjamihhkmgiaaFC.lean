/-
  Contracts of functions of the program and of the document, each for every input that its premises name.
-/
import Derived.Test.YtpbjamihhkmgiaaFA
import Derived.Test.YtpbjamihhkmgiaaAd
set_option linter.unusedSectionVars false
set_option maxRecDepth 100000
set_option maxHeartbeats 4000000
set_option linter.unusedVariables false
set_option linter.unnecessarySimpa false
set_option linter.unusedSimpArgs false
open Go Go.AX
namespace Go.Proofs.Ytpbjamihhkmgiaa.Tb
theorem fn_sFrag1 : FnOk Try.prog 57 Try.f57 := ⟨Try.func57, by kernel_rfl, by kernel_rfl, by kernel_rfl⟩
theorem sFrag1_c (n : Int) (x : Fr) : PCx Try.prog 57 ([] ++ ([.agg x.c] ++ [.eptr [uu n] 0])) (bl (decide (x.first ≤ n))) := by
  refine PC.le ?_
  refine PC_of_VC tabOk (draw_ok mixed tabOk) fn_sFrag1 rfl ?_
  repeat' ((conv => whnf); first | with_reducible refine (Or.inl ?_ : VC _ _ _ _ _ ∨ _) | ((with_reducible refine fk (fun hc => ?_) fun hc => ?_) <;> first | exact absurd hc (by decide) | (exfalso; simp only [*, reduceCtorEq] at hc; done) | skip) | ((with_reducible apply And.intro); focus (first | rfl | exact Nat.le_of_ble_eq_true rfl | omega | (simp only [List.length_cons, List.length_nil, List.length_map, List.length_append]; omega))))
  repeat' first | (with_reducible first | exact ⟨⟩ | exact rfl | exact lr _) | ((conv => whnf); with_reducible first | apply And.intro | exact ⟨⟩) | exact rfl | exact id | exact lr _
  all_goals try (conv => whnf)
theorem fn_last : FnOk Try.prog 56 Try.f56 := ⟨Try.func56, by kernel_rfl, by kernel_rfl, by kernel_rfl⟩
theorem last_c (l : List Fr) (f : FuncId) (first caps : List PV) (p : Fr → Bool) (hp : ∀ x ∈ l, PCx Try.prog f (first ++ ([.agg x.c] ++ caps)) (bl (p x))) :
    PCx Try.prog 56 [slF l, .fn (.func f) first caps] (.tup [.agg ((lastP p l).getD fr0).c, bl (lastP p l).isSome]) := by
  refine PC.le (PC_bd fn_last fun hb => ?_)
  have hb : l.length ≤ 9223372036854775807 := by simpa [bdL, bdP, slF] using hb
  refine PC_of_VC tabOk (draw_ok mixed tabOk) fn_last rfl ?_
  repeat' ((conv => whnf); first | with_reducible refine (Or.inl ?_ : VC _ _ _ _ _ ∨ _) | ((with_reducible refine fk (fun hc => ?_) fun hc => ?_) <;> first | exact absurd hc (by decide) | (exfalso; simp only [*, reduceCtorEq] at hc; done) | skip) | ((with_reducible apply And.intro); focus (first | rfl | exact Nat.le_of_ble_eq_true rfl | omega | (simp only [List.length_cons, List.length_nil, List.length_map, List.length_append]; omega))))
  refine ⟨{k : Nat // k ≤ l.length}, fun ⟨k, _⟩ => ⟨[(1, .pv (.fn (.func f) first caps)), (4, .ptr 1004 0), (5, .pv (bl (lastP p (l.take k)).isSome)), (8, .pv (slF l)), (9, .pv (ii l.length)), (10, .pv (ii k))], 1000000000, [(1004, .var [.pv (uu ((lastP p (l.take k)).getD fr0).first), .pv (slP ((lastP p (l.take k)).getD fr0).bookies)])]⟩, fun ⟨k, _⟩ => l.length - k, ⟨⟨0, by simp⟩, ent_of ?_⟩, ?_⟩
  · repeat' first
      | fail
      | with_reducible exact True.intro
      | with_reducible exact rfl
      | with_reducible exact leRs_refl _
      | ((conv => whnf); with_reducible apply And.intro)
      | ((conv => whnf); with_reducible exact True.intro)
      | exact rfl
      | exact id
      | exact leRs_refl _
    all_goals try (conv => whnf)
    all_goals simp
  rintro ⟨k, hk⟩
  repeat' ((conv => whnf); first | with_reducible refine (Or.inl ?_ : VC _ _ _ _ _ ∨ _) | ((with_reducible refine fk (fun hc => ?_) fun hc => ?_) <;> first | exact absurd hc (by decide) | (exfalso; simp only [*, reduceCtorEq] at hc; done) | skip) | ((with_reducible apply And.intro); focus (first | rfl | exact Nat.le_of_ble_eq_true rfl | omega | (simp only [List.length_cons, List.length_nil, List.length_map, List.length_append]; omega))))
  · have hlt : k < l.length := by simpa using hc
    refine ⟨_, rowK _ _ _ hlt, ?_⟩
    have hs : lastP p (l.take (k + 1)) = if p l[k] then some l[k] else lastP p (l.take k) := take_foldl _ _ _ _ hlt
    repeat' ((conv => whnf); first | with_reducible refine (Or.inl ?_ : VC _ _ _ _ _ ∨ _) | ((with_reducible refine fk (fun hc => ?_) fun hc => ?_) <;> first | exact absurd hc (by decide) | (exfalso; simp only [*, reduceCtorEq] at hc; done) | skip) | (refine Or.inl (Or.inl ?_); (conv => whnf); refine ⟨_, hp _ (List.getElem_mem hlt), ?_⟩) | ((with_reducible apply And.intro); focus (first | rfl | exact Nat.le_of_ble_eq_true rfl | omega | (simp only [List.length_cons, List.length_nil, List.length_map, List.length_append]; omega))))
    · refine ⟨⟨k + 1, hlt⟩, dec_lt hlt, ent_of ?_⟩
      repeat' first | (with_reducible first | exact ⟨⟩ | exact rfl | exact lr _) | ((conv => whnf); with_reducible first | apply And.intro | exact ⟨⟩) | exact rfl | exact id | exact lr _
      all_goals try (conv => whnf)
      all_goals first | exact wrapI (by omega) (by omega) | (rw [hs, if_pos hc]; first | rfl | exact leRs_refl _)
    · refine ⟨⟨k + 1, hlt⟩, dec_lt hlt, ent_of ?_⟩
      repeat' first | (with_reducible first | exact ⟨⟩ | exact rfl | exact lr _) | ((conv => whnf); with_reducible first | apply And.intro | exact ⟨⟩) | exact rfl | exact id | exact lr _
      all_goals try (conv => whnf)
      all_goals first | exact wrapI (by omega) (by omega) | (rw [hs, if_neg (by simp [hc])]; first | done | exact leRs_refl _)
  · have : k = l.length := by simp at hc; omega
    subst this
    rw [List.take_length]
    repeat' first | (with_reducible first | exact ⟨⟩ | exact rfl | exact lr _) | ((conv => whnf); with_reducible first | apply And.intro | exact ⟨⟩) | exact rfl | exact id | exact lr _
    all_goals try (conv => whnf)
theorem fn_sFrag : FnOk Try.prog 37 Try.f37 := ⟨Try.func37, by kernel_rfl, by kernel_rfl, by kernel_rfl⟩
theorem sFrag_c (l : List Fr) (n : Int) (h : frsOk l) : PCx Try.prog 37 [slF l, uu n] (.tup [.agg ((fragAt l n).getD fr0).c, bl (fragAt l n).isSome]) := by
  refine PC.le ?_
  refine PC_of_VC tabOk (draw_ok mixed tabOk) fn_sFrag rfl ?_
  repeat' ((conv => whnf); first | with_reducible refine (Or.inl ?_ : VC _ _ _ _ _ ∨ _) | ((with_reducible refine fk (fun hc => ?_) fun hc => ?_) <;> first | exact absurd hc (by decide) | (exfalso; simp only [*, reduceCtorEq] at hc; done) | skip) | (refine Or.inl (Or.inl ?_); (conv => whnf); refine ⟨_, last_c _ _ _ _ _ fun x _ => sFrag1_c n x, ?_⟩) | (refine Or.inl (Or.inl ?_); (conv => whnf); refine ⟨_, clonePlace_c _ (by have := fragAt_len h n; exact Nat.le_trans (Nat.mul_le_mul_right 16 this) (by decide)), ?_⟩) | ((with_reducible apply And.intro); focus (first | rfl | exact Nat.le_of_ble_eq_true rfl | omega | (simp only [List.length_cons, List.length_nil, List.length_map, List.length_append]; omega))))
  repeat' first | (with_reducible first | exact ⟨⟩ | exact rfl | exact lr _) | ((conv => whnf); with_reducible first | apply And.intro | exact ⟨⟩) | exact rfl | exact id | exact lr _
  all_goals try (conv => whnf)
theorem fn_sfrom : FnOk Try.prog 55 Try.f55 := ⟨Try.func55, by kernel_rfl, by kernel_rfl, by kernel_rfl⟩
theorem sfrom_c (l : List Pl) (k w : Nat) (h0 : 0 < l.length) (hl : l.length ≤ 8796093022208) (hk : k < l.length) (hw : w ≤ l.length) : PCx Try.prog 55 [slP l, ii k, ii w] (slP (fromPl l k w)) := by
  refine PC.le ?_
  refine PC_of_VC tabOk (draw_ok mixed tabOk) fn_sfrom rfl ?_
  repeat' ((conv => whnf); first | with_reducible refine (Or.inl ?_ : VC _ _ _ _ _ ∨ _) | ((with_reducible refine fk (fun hc => ?_) fun hc => ?_) <;> first | exact absurd hc (by decide) | (exfalso; simp only [*, reduceCtorEq] at hc; done) | skip) | ((with_reducible apply And.intro); focus (first | rfl | exact Nat.le_of_ble_eq_true rfl | omega | (simp only [List.length_cons, List.length_nil, List.length_map, List.length_append]; omega))))
  refine ⟨{i : Nat // i ≤ w}, fun ⟨i, _⟩ => ⟨[(0, .pv (slP l)), (1, .pv (ii k)), (7, .slw 1007 0), (9, .pv (ii w)), (10, .pv (ii i))], 1000000000, [(1007, .arr 38 0 2 ((fromPl l k i).map Pl.c))]⟩, fun ⟨i, _⟩ => w - i, ⟨⟨0, by simp⟩, ent_of ?_⟩, ?_⟩
  · repeat' first
      | fail
      | with_reducible exact True.intro
      | with_reducible exact rfl
      | with_reducible exact leRs_refl _
      | ((conv => whnf); with_reducible apply And.intro)
      | ((conv => whnf); with_reducible exact True.intro)
      | exact rfl
      | exact id
      | exact leRs_refl _
    all_goals try (conv => whnf)
  rintro ⟨i, hi⟩
  repeat' ((conv => whnf); first | with_reducible refine (Or.inl ?_ : VC _ _ _ _ _ ∨ _) | ((with_reducible refine fk (fun hc => ?_) fun hc => ?_) <;> first | exact absurd hc (by decide) | (exfalso; simp only [*, reduceCtorEq] at hc; done) | skip) | ((with_reducible apply And.intro); focus (first | rfl | exact Nat.le_of_ble_eq_true rfl | omega | (simp only [List.length_cons, List.length_nil, List.length_map, List.length_append]; omega))))
  · have hlt : i < w := by simpa using hc
    have e1 : (IntKind.i64.wrap ((k : Int) + (i : Int))).tmod ((l.map Pl.c).length : Int) = (((k + i) % l.length : Nat) : Int) := by
      rw [wrapI (by omega) (by omega), List.length_map]
      rfl
    have hf : fromPl l k (i + 1) = fromPl l k i ++ [l[(k + i) % l.length]!] := by
      simp [fromPl, List.range_succ]
    have hlen : (fromPl l k i).length = i := by simp [fromPl]
    have hm : (k + i) % l.length < l.length := Nat.mod_lt _ h0
    repeat' ((conv => whnf); first | with_reducible refine (Or.inl ?_ : VC _ _ _ _ _ ∨ _) | ((with_reducible refine fk (fun hc => ?_) fun hc => ?_) <;> first | exact absurd hc (by decide) | (exfalso; simp only [*, reduceCtorEq] at hc; done) | skip) | (((with_reducible apply And.intro); focus (rw [e1]; omega))) | ((refine ⟨_, rowE _ _ e1 hm, ?_⟩)) | (((with_reducible apply And.intro); focus (simp; omega))) | ((with_reducible apply And.intro); focus (first | rfl | exact Nat.le_of_ble_eq_true rfl | omega | (simp only [List.length_cons, List.length_nil, List.length_map, List.length_append]; omega))))
    refine ⟨⟨i + 1, hlt⟩, dec_lt hlt, ent_of ?_⟩
    repeat' first | (with_reducible first | exact ⟨⟩ | exact rfl | exact lr _) | ((conv => whnf); with_reducible first | apply And.intro | exact ⟨⟩) | exact rfl | exact id | exact lr _
    all_goals try (conv => whnf)
    all_goals first
      | exact wrapI (by omega) (by omega)
      | (refine leRs_of_eq ?_; rw [hf, List.map_append, getElem!_pos l _ hm]; rfl)
  · have : i = w := by simp at hc; omega
    subst this
    repeat' first | (with_reducible first | exact ⟨⟩ | exact rfl | exact lr _) | ((conv => whnf); with_reducible first | apply And.intro | exact ⟨⟩) | exact rfl | exact id | exact lr _
    all_goals try (conv => whnf)
theorem sfrom_i (l : List Pl) (k w : Int) (h0 : 0 < l.length) (hl : l.length ≤ 8796093022208) (hk : 0 ≤ k ∧ k < l.length) (hw : 0 ≤ w ∧ w ≤ l.length) : PCx Try.prog 55 [slP l, ii k, ii w] (slP (fromPl l k.toNat w.toNat)) := by
  have := sfrom_c l k.toNat w.toNat h0 hl (by omega) (by omega)
  rwa [Int.toNat_of_nonneg hk.1, Int.toNat_of_nonneg hw.1] at this
theorem fn_sSet : FnOk Try.prog 35 Try.f35 := ⟨Try.func35, by kernel_rfl, by kernel_rfl, by kernel_rfl⟩
theorem sSet_c (l : List Fr) (w n : Int) (h : frsOk l) (hn : 0 ≤ n ∧ n ≤ 18446744073709551615) : PCx Try.prog 35 [slF l, ii w, uu n] (slP (setOf l w n)) := by
  refine PC.le ?_
  refine PC_of_VC tabOk (draw_ok mixed tabOk) fn_sSet rfl ?_
  cases hf : fragAt l n with
  | none =>
    have hF : PCx Try.prog 37 [slF l, uu n] (.tup [.agg fr0.c, bl false]) := by
      have := sFrag_c l n h
      rwa [hf] at this
    repeat' ((conv => whnf); first | with_reducible refine (Or.inl ?_ : VC _ _ _ _ _ ∨ _) | ((with_reducible refine fk (fun hc => ?_) fun hc => ?_) <;> first | exact absurd hc (by decide) | (exfalso; simp only [*, reduceCtorEq] at hc; done) | skip) | (refine Or.inl (Or.inl ?_); (conv => whnf); refine ⟨_, hF, ?_⟩) | ((with_reducible apply And.intro); focus (first | rfl | exact Nat.le_of_ble_eq_true rfl | omega | (simp only [List.length_cons, List.length_nil, List.length_map, List.length_append]; omega))))
    repeat' first | (with_reducible first | exact ⟨⟩ | exact rfl | exact lr _) | ((conv => whnf); with_reducible first | apply And.intro | exact ⟨⟩) | exact rfl | exact id | exact lr _
    all_goals try (conv => whnf)
    simp [setOf, hf]
  | some f =>
    obtain ⟨⟨f1, f2, f3⟩, f4⟩ := fragAt_ok h hf
    have hF : PCx Try.prog 37 [slF l, uu n] (.tup [.agg f.c, bl true]) := by
      have := sFrag_c l n h
      rwa [hf] at this
    have e1 (hpos : 0 < f.bookies.length) : IntKind.i64.wrap ((IntKind.u64.wrap (n - f.first)).tmod (IntKind.u64.wrap ((f.bookies.map Pl.c).length : Int))) = (n - f.first) % (f.bookies.length : Int) := by
      rw [wrapU (by omega) (by omega), List.length_map, wrapU (by omega) (by omega), Int.tmod_eq_emod_of_nonneg (by omega)]
      have h1 := Int.emod_nonneg (n - f.first) (b := (f.bookies.length : Int)) (by omega)
      have h2 := Int.emod_lt_of_pos (n - f.first) (b := (f.bookies.length : Int)) (by omega)
      exact wrapI (by omega) (by omega)
    repeat' ((conv => whnf); first | with_reducible refine (Or.inl ?_ : VC _ _ _ _ _ ∨ _) | ((with_reducible refine fk (fun hc => ?_) fun hc => ?_) <;> first | exact absurd hc (by decide) | (exfalso; simp only [*, reduceCtorEq] at hc; done) | skip) | (refine Or.inl (Or.inl ?_); (conv => whnf); refine ⟨_, hF, ?_⟩) | ((with_reducible apply And.intro); focus (first | rfl | exact Nat.le_of_ble_eq_true rfl | omega | (simp only [List.length_cons, List.length_nil, List.length_map, List.length_append]; omega))))
    · repeat' first
        | fail
        | with_reducible exact True.intro
        | with_reducible exact rfl
        | with_reducible exact leRs_refl _
        | ((conv => whnf); with_reducible apply And.intro)
        | ((conv => whnf); with_reducible exact True.intro)
        | exact rfl
        | exact id
        | exact leRs_refl _
      all_goals try (conv => whnf)
      simp only [decide_eq_true_eq, decide_eq_false_iff_not, List.length_map] at *
      simp only [setOf, hf]
      rw [if_neg (by omega)]; rfl
    · repeat' first
        | fail
        | with_reducible exact True.intro
        | with_reducible exact rfl
        | with_reducible exact leRs_refl _
        | ((conv => whnf); with_reducible apply And.intro)
        | ((conv => whnf); with_reducible exact True.intro)
        | exact rfl
        | exact id
        | exact leRs_refl _
      all_goals try (conv => whnf)
      simp only [decide_eq_true_eq, decide_eq_false_iff_not, List.length_map] at *
      simp only [setOf, hf]
      rw [if_neg (by omega)]; rfl
    · simp at hc
      rename_i hc1
      simp at hc1
      have hpos : 0 < f.bookies.length := by omega
      have e1 := e1 hpos
      have h1 := Int.emod_nonneg (n - f.first) (b := (f.bookies.length : Int)) (by omega)
      have h2 := Int.emod_lt_of_pos (n - f.first) (b := (f.bookies.length : Int)) (by omega)
      repeat' ((conv => whnf); first | with_reducible refine (Or.inl ?_ : VC _ _ _ _ _ ∨ _) | ((with_reducible refine fk (fun hc => ?_) fun hc => ?_) <;> first | exact absurd hc (by decide) | (exfalso; simp only [*, reduceCtorEq] at hc; done) | skip) | (((with_reducible apply And.intro); focus (rw [List.length_map, wrapU (by omega) (by omega)]; omega))) | (refine Or.inl (Or.inl ?_); (conv => whnf); refine ⟨_, sfrom_i _ _ _ hpos f3 (by rw [e1]; exact ⟨h1, h2⟩) ⟨by omega, hc⟩, ?_⟩) | ((with_reducible apply And.intro); focus (first | rfl | exact Nat.le_of_ble_eq_true rfl | omega | (simp only [List.length_cons, List.length_nil, List.length_map, List.length_append]; omega))))
      repeat' first | (with_reducible first | exact ⟨⟩ | exact rfl | exact lr _) | ((conv => whnf); with_reducible first | apply And.intro | exact ⟨⟩) | exact rfl | exact id | exact lr _
      all_goals try (conv => whnf)
      refine leRs_of_eq ?_
      rw [e1]
      simp only [setOf, hf]
      rw [if_pos (by omega)]
end Go.Proofs.Ytpbjamihhkmgiaa.Tb

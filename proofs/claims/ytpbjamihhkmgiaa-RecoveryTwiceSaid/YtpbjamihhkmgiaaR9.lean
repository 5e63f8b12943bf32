/-
  Contracts of functions of the program and of the document, each for every input that its premises name.
-/
import Derived.Test.YtpbjamihhkmgiaaR7
import Derived.Test.YtpbjamihhkmgiaaR8
import Derived.Test.YtpbjamihhkmgiaaRX
set_option linter.unusedSectionVars false
set_option maxRecDepth 100000
set_option maxHeartbeats 4000000
set_option linter.unusedVariables false
set_option linter.unusedSimpArgs false
open Go Go.AX
namespace Go.Proofs.Ytpbjamihhkmgiaa.Tb
theorem fn_l16place : FnOk Try.prog 12 Try.f12 := ⟨Try.func12, by kernel_rfl, by kernel_rfl, by kernel_rfl⟩
theorem l16place_c (a : Int) : PCx Try.prog 12 [ii a] (.agg [ii a, uu 1]) := by
  refine PC.le ?_
  refine PC_of_VC tabOk (draw_ok mixed tabOk) fn_l16place rfl ?_
  repeat' ((conv => whnf); first | with_reducible refine (Or.inl ?_ : VC _ _ _ _ _ ∨ _) | ((with_reducible refine fk (fun hc => ?_) fun hc => ?_) <;> first | exact absurd hc (by decide) | (exfalso; simp only [*, reduceCtorEq] at hc; done) | skip) | ((with_reducible apply And.intro); focus (first | rfl | exact Nat.le_of_ble_eq_true rfl | omega | (simp only [List.length_cons, List.length_nil, List.length_map, List.length_append]; omega))))
  repeat' first | (with_reducible first | exact ⟨⟩ | exact rfl | exact lr _) | ((conv => whnf); with_reducible first | apply And.intro | exact ⟨⟩) | exact rfl | exact id | exact lr _
  all_goals try (conv => whnf)
theorem fn_l16three : FnOk Try.prog 10 Try.f10 := ⟨Try.func10, by kernel_rfl, by kernel_rfl, by kernel_rfl⟩
def ex16 : Lg := ⟨1, 2, 2, [⟨1, [⟨7, 1⟩, ⟨8, 1⟩, ⟨9, 1⟩]⟩], 0, 0⟩
theorem l16three_c : PCx Try.prog 10 [] (.agg ex16.c) := by
  refine PC.le ?_
  refine PC_of_VC tabOk (draw_ok mixed tabOk) fn_l16three rfl ?_
  repeat' ((conv => whnf); first | with_reducible refine (Or.inl ?_ : VC _ _ _ _ _ ∨ _) | ((with_reducible refine fk (fun hc => ?_) fun hc => ?_) <;> first | exact absurd hc (by decide) | (exfalso; simp only [*, reduceCtorEq] at hc; done) | skip) | (refine Or.inl (Or.inl ?_); (conv => whnf); refine ⟨_, l16place_c _, ?_⟩) | ((with_reducible apply And.intro); focus (first | rfl | exact Nat.le_of_ble_eq_true rfl | omega | (simp only [List.length_cons, List.length_nil, List.length_map, List.length_append]; omega))))
  repeat' first | (with_reducible first | exact ⟨⟩ | exact rfl | exact lr _) | ((conv => whnf); with_reducible first | apply And.intro | exact ⟨⟩) | exact rfl | exact id | exact lr _
  all_goals try (conv => whnf)
theorem fn_l16says : FnOk Try.prog 11 Try.f11 := ⟨Try.func11, by kernel_rfl, by kernel_rfl, by kernel_rfl⟩
theorem l16says_c (k code node n sure : Int) (s : ByteArray) (h : s.size ≤ 140737488355328) : PCx Try.prog 11 [ii k, ii code, ii node, uu n, uu sure, .sc (.string s)] (.agg (Rs.c ⟨⟨node, 1⟩, k, code, 1, n, 5, sure, s.data.toList⟩)) := by
  refine PC.le ?_
  refine PC_of_VC tabOk (draw_ok mixed tabOk) fn_l16says rfl ?_
  repeat' ((conv => whnf); first | with_reducible refine (Or.inl ?_ : VC _ _ _ _ _ ∨ _) | ((with_reducible refine fk (fun hc => ?_) fun hc => ?_) <;> first | exact absurd hc (by decide) | (exfalso; simp only [*, reduceCtorEq] at hc; done) | skip) | (refine Or.inl (Or.inl ?_); (conv => whnf); refine ⟨_, l16place_c _, ?_⟩) | (((with_reducible apply And.intro); focus exact h)) | ((with_reducible apply And.intro); focus (first | rfl | exact Nat.le_of_ble_eq_true rfl | omega | (simp only [List.length_cons, List.length_nil, List.length_map, List.length_append]; omega))))
  repeat' first | (with_reducible first | exact ⟨⟩ | exact rfl | exact lr _) | ((conv => whnf); with_reducible first | apply And.intro | exact ⟨⟩) | exact rfl | exact id | exact lr _
  all_goals try (conv => whnf)
def ex16f : List Fr := [⟨1, [⟨7, 1⟩, ⟨8, 1⟩, ⟨9, 1⟩]⟩]
def s0 : Rv := ⟨ex16, 5, 1, [], 0, 0, [], [], [], ex16f, [], 3, 3⟩
def s1 : Rv := ⟨ex16, 5, 1, [⟨7, 1⟩], 0, 0, [], [], [], ex16f, [], 3, 3⟩
def s2 : Rv := ⟨ex16, 5, 2, [⟨7, 1⟩, ⟨9, 1⟩], 1, 2, [], [], [], ex16f, [], 4, 4⟩
def s3 : Rv := ⟨ex16, 5, 3, [⟨7, 1⟩, ⟨9, 1⟩], 1, 2, [], [⟨9, 1⟩], [120], ex16f, [], 5, 5⟩
def s4 : Rv := ⟨ex16, 5, 2, [⟨7, 1⟩, ⟨9, 1⟩], 1, 3, [], [], [], ex16f, [], 5, 5⟩
def s5 : Rv := ⟨ex16, 5, 4, [⟨7, 1⟩, ⟨9, 1⟩], 1, 3, [⟨7, 1⟩], [], [], ex16f, [], 5, 5⟩
theorem ex16_may : mayLg ex16 = true := by decide +kernel
theorem ex16_big (p : Int) (he : List Pl) (su n : Int) (no ha : List Pl) (bo : List UInt8) (b s : Int) (h1 : he.length ≤ 10) (h2 : 0 ≤ su) (h3 : 0 ≤ n ∧ n ≤ 10) (h4 : no.length ≤ 10) (h5 : ha.length ≤ 10) (h6 : bo.length ≤ 10) :
    Rv.big ⟨ex16, 5, p, he, su, n, no, ha, bo, ex16f, [], b, s⟩ := by
  obtain ⟨m1, m2, m3, m4, m5, m6⟩ := may_frag ex16_may
  have hf : ∀ f ∈ ex16f, 1 ≤ f.first ∧ f.first ≤ 9 ∧ f.bookies.length ≤ 5 := m3
  refine ⟨⟨⟨by show ex16.frags.length ≤ 1000; omega, fun f hm => by have := m3 f hm; omega⟩, ⟨by show ex16f.length ≤ 1000; decide, fun f hm => by have := hf f hm; omega⟩, by simp only; omega, by simp only; omega, by simp only; omega, by simp, by simp only; omega⟩,
    fun f hm => by have := m3 f hm; exact ⟨by omega, by omega, by omega⟩, fun f hm => by have := hf f hm; exact ⟨by omega, by omega, by omega⟩, m1, by simp only; omega, h2, by show 0 ≤ ex16.w ∧ ex16.w ≤ 9223372036854775807; decide, by show 0 ≤ ex16.a; decide,
    fun n => Nat.le_trans (setOf_le _ m6 n) (by decide), fun n => Nat.le_trans (setOf_le _ m6 n) (by decide)⟩
theorem ex16_new : PCx Try.prog 6 [.agg ex16.c, uu 5, uu 3] (.tup [.agg s0.c, slR [⟨⟨7, 1⟩, 2, 1, 0, 5, 0, 0, [], []⟩, ⟨⟨8, 1⟩, 2, 1, 0, 5, 0, 0, [], []⟩, ⟨⟨9, 1⟩, 2, 1, 0, 5, 0, 0, [], []⟩], ii 0]) := by
  obtain ⟨m1, m2, m3, m4, m5, m6⟩ := may_frag ex16_may
  have h := new_c ex16 5 3 (fun f hm => by have := m3 f hm; omega) (fun _ => ⟨m1, by omega, fun f hm => by have := m3 f hm; omega⟩)
  have e : newR ex16 5 3 = (s0, [⟨⟨7, 1⟩, 2, 1, 0, 5, 0, 0, [], []⟩, ⟨⟨8, 1⟩, 2, 1, 0, 5, 0, 0, [], []⟩, ⟨⟨9, 1⟩, 2, 1, 0, 5, 0, 0, [], []⟩], 0) := by kernel_rfl
  rw [e] at h
  exact h
theorem ex16_take1 : PCx Try.prog 9 [.agg s0.c, uu 4, .agg (⟨⟨7, 1⟩, 2, 0, 1, 0, 5, 0, []⟩ : Rs).c] (.tup [.agg s1.c, slR []]) := by
  have h := take_c s0 4 ⟨⟨7, 1⟩, 2, 0, 1, 0, 5, 0, []⟩ (ex16_big _ _ _ _ _ _ _ _ _ (by decide) (by decide) (by decide) (by decide) (by decide) (by decide)) (by decide)
  have e : takeR s0 4 ⟨⟨7, 1⟩, 2, 0, 1, 0, 5, 0, []⟩ = (s1, []) := by kernel_rfl
  rw [e] at h
  exact h
theorem ex16_take2 : PCx Try.prog 9 [.agg s1.c, uu 4, .agg (⟨⟨9, 1⟩, 2, 0, 1, 0, 5, 1, []⟩ : Rs).c] (.tup [.agg s2.c, slR [⟨⟨9, 1⟩, 3, 1, 2, 5, 0, 0, [], []⟩]]) := by
  have h := take_c s1 4 ⟨⟨9, 1⟩, 2, 0, 1, 0, 5, 1, []⟩ (ex16_big _ _ _ _ _ _ _ _ _ (by decide) (by decide) (by decide) (by decide) (by decide) (by decide)) (by decide)
  have e : takeR s1 4 ⟨⟨9, 1⟩, 2, 0, 1, 0, 5, 1, []⟩ = (s2, [⟨⟨9, 1⟩, 3, 1, 2, 5, 0, 0, [], []⟩]) := by kernel_rfl
  rw [e] at h
  exact h
theorem ex16_take3 : PCx Try.prog 9 [.agg s2.c, uu 5, .agg (⟨⟨9, 1⟩, 3, 0, 1, 2, 5, 0, [120]⟩ : Rs).c] (.tup [.agg s3.c, slR [⟨⟨8, 1⟩, 1, 1, 2, 5, 1, 0, [120], []⟩]]) := by
  have h := take_c s2 5 ⟨⟨9, 1⟩, 3, 0, 1, 2, 5, 0, [120]⟩ (ex16_big _ _ _ _ _ _ _ _ _ (by decide) (by decide) (by decide) (by decide) (by decide) (by decide)) (by decide)
  have e : takeR s2 5 ⟨⟨9, 1⟩, 3, 0, 1, 2, 5, 0, [120]⟩ = (s3, [⟨⟨8, 1⟩, 1, 1, 2, 5, 1, 0, [120], []⟩]) := by kernel_rfl
  rw [e] at h
  exact h
theorem ex16_take4 : PCx Try.prog 9 [.agg s3.c, uu 5, .agg (⟨⟨8, 1⟩, 1, 0, 1, 2, 5, 0, []⟩ : Rs).c] (.tup [.agg s4.c, slR [⟨⟨9, 1⟩, 3, 1, 3, 5, 0, 0, [], []⟩, ⟨⟨7, 1⟩, 3, 1, 3, 5, 0, 0, [], []⟩]]) := by
  have h := take_c s3 5 ⟨⟨8, 1⟩, 1, 0, 1, 2, 5, 0, []⟩ (ex16_big _ _ _ _ _ _ _ _ _ (by decide) (by decide) (by decide) (by decide) (by decide) (by decide)) (by decide)
  have e : takeR s3 5 ⟨⟨8, 1⟩, 1, 0, 1, 2, 5, 0, []⟩ = (s4, [⟨⟨9, 1⟩, 3, 1, 3, 5, 0, 0, [], []⟩, ⟨⟨7, 1⟩, 3, 1, 3, 5, 0, 0, [], []⟩]) := by kernel_rfl
  rw [e] at h
  exact h
theorem ex16_take5 : PCx Try.prog 9 [.agg s4.c, uu 6, .agg (⟨⟨7, 1⟩, 3, 3, 1, 3, 5, 0, []⟩ : Rs).c] (.tup [.agg s5.c, slR []]) := by
  have h := take_c s4 6 ⟨⟨7, 1⟩, 3, 3, 1, 3, 5, 0, []⟩ (ex16_big _ _ _ _ _ _ _ _ _ (by decide) (by decide) (by decide) (by decide) (by decide) (by decide)) (by decide)
  have e : takeR s4 6 ⟨⟨7, 1⟩, 3, 3, 1, 3, 5, 0, []⟩ = (s5, []) := by kernel_rfl
  rw [e] at h
  exact h
theorem fn_rcEnded : FnOk Try.prog 13 Try.f13 := ⟨Try.func13, by kernel_rfl, by kernel_rfl, by kernel_rfl⟩
theorem ex16_ended : PCx Try.prog 13 [.agg s5.c] (.tup [uu 2, slF ex16f, bl true]) := by
  refine PC.le ?_
  have ho := ownFrags_g ex16f (by decide) (by decide)
  refine PC_of_VC tabOk (draw_ok mixed tabOk) fn_rcEnded rfl ?_
  repeat' ((conv => whnf); first | with_reducible refine (Or.inl ?_ : VC _ _ _ _ _ ∨ _) | ((with_reducible refine fk (fun hc => ?_) fun hc => ?_) <;> first | exact absurd hc (by decide) | (exfalso; simp only [*, reduceCtorEq] at hc; done) | skip) | (refine Or.inl (Or.inr ?_); (conv => whnf); refine ⟨_, _, ho, ?_⟩) | (refine Or.inl (Or.inr ?_); (conv => whnf); refine ⟨_, _, GCx_pre (ho) ?_, ?_⟩; focus ((repeat' first | (with_reducible first | exact ⟨⟩ | exact rfl | exact lr _) | ((conv => whnf); with_reducible first | apply And.intro | exact ⟨⟩) | exact rfl | exact id | assumption | exact lr _); done)) | ((with_reducible apply And.intro); focus (first | rfl | exact Nat.le_of_ble_eq_true rfl | omega | (simp only [List.length_cons, List.length_nil, List.length_map, List.length_append]; omega))))
  all_goals
    repeat' first | (with_reducible first | exact ⟨⟩ | exact rfl | exact lr _) | ((conv => whnf); with_reducible first | apply And.intro | exact ⟨⟩) | exact rfl | exact id | exact lr _
    all_goals try (conv => whnf)
theorem fn_l16awake : FnOk Try.prog 5 Try.f5 := ⟨Try.func5, by kernel_rfl, by kernel_rfl, by kernel_rfl⟩
theorem l16awake_c : PCx Try.prog 5 [] (bl true) := by
  refine PC.le ?_
  refine PC_of_VC tabOk (draw_ok mixed tabOk) fn_l16awake rfl ?_
  repeat' ((conv => whnf); first | with_reducible refine (Or.inl ?_ : VC _ _ _ _ _ ∨ _) | ((with_reducible refine fk (fun hc => ?_) fun hc => ?_) <;> first | exact absurd hc (by decide) | (exfalso; simp only [*, reduceCtorEq] at hc; done) | skip) | (refine Or.inl (Or.inl ?_); (conv => whnf); refine ⟨_, l16three_c, ?_⟩) | (refine Or.inl (Or.inl ?_); (conv => whnf); refine ⟨_, l16place_c _, ?_⟩) | (refine Or.inl (Or.inl ?_); (conv => whnf); refine ⟨_, l16says_c _ _ _ _ _ _ (by decide), ?_⟩) | (refine Or.inl (Or.inl ?_); (conv => whnf); refine ⟨_, ex16_new, ?_⟩) | (refine Or.inl (Or.inl ?_); (conv => whnf); refine ⟨_, ex16_take1, ?_⟩) | (refine Or.inl (Or.inl ?_); (conv => whnf); refine ⟨_, ex16_take2, ?_⟩) | (refine Or.inl (Or.inl ?_); (conv => whnf); refine ⟨_, ex16_take3, ?_⟩) | (refine Or.inl (Or.inl ?_); (conv => whnf); refine ⟨_, ex16_take4, ?_⟩) | (refine Or.inl (Or.inl ?_); (conv => whnf); refine ⟨_, ex16_take5, ?_⟩) | (refine Or.inl (Or.inl ?_); (conv => whnf); refine ⟨_, ex16_ended, ?_⟩) | ((refine ⟨_, rfl, ?_⟩)) | ((with_reducible apply And.intro); focus (first | rfl | exact Nat.le_of_ble_eq_true rfl | omega | (simp only [List.length_cons, List.length_nil, List.length_map, List.length_append]; omega))))
  all_goals
    repeat' first | (with_reducible first | exact ⟨⟩ | exact rfl | exact lr _) | ((conv => whnf); with_reducible first | apply And.intro | exact ⟨⟩) | exact rfl | exact id | exact lr _
    all_goals try (conv => whnf)
  all_goals (exfalso; simp only [ByteArray.toList_mk, BEq.rfl, Bool.not_true, Bool.and_self, Bool.false_eq_true, reduceCtorEq] at *)
end Go.Proofs.Ytpbjamihhkmgiaa.Tb

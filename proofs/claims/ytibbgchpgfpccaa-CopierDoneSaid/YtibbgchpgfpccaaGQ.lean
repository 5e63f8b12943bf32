/-
  Contracts of functions of the program and of the document, each for every input that its premises name.
-/
import Derived.Test.YtibbgchpgfpccaaGQ0
import Derived.Test.YtibbgchpgfpccaaAd
set_option maxRecDepth 100000
set_option maxHeartbeats 4000000
set_option linter.unusedVariables false
set_option linter.unusedSimpArgs false
open Go Go.AX
namespace Go.Proofs.Ytibbgchpgfpccaa.Tb
def dbl (T : Tab) : Tab :=
  match T with
  | x :: r => x :: x :: r
  | [] => []
def tab2 : Tab := dbl tab
theorem lk_dbl (T : Tab) (t : Nat) : lk (dbl T) t = lk T t := by
  cases T with
  | nil => rfl
  | cons x r =>
    obtain ⟨k, v⟩ := x
    simp only [dbl, lk_cons]
    split <;> rfl
theorem tabOk2 : TabOk Try.prog tab2 := fun t i h => tabOk t i (by rw [← lk_dbl tab t]; exact h)
def nowE (now i : Int) : Int := IntKind.u64.wrap (now + IntKind.u64.wrap (IntKind.i64.wrap (BitVec.toNat (BitVec.ofInt IntKind.i64.bits i &&& BitVec.ofInt IntKind.i64.bits 15))))
def atE (i : Int) (n : Nat) : Int := (IntKind.i64.wrap (BitVec.toNat (BitVec.ofInt IntKind.i64.bits i &&& BitVec.ofInt IntKind.i64.bits 65535))).tmod (n : Int)
theorem atE_lt (i : Int) {n : Nat} (h : 0 < n) : ∃ k : Nat, atE i n = (k : Int) ∧ k < n := by
  obtain ⟨h1, h2⟩ := and_range i 65535 (by decide)
  rw [show ((65535 : Nat) : Int) = (65535 : Int) from rfl] at h1 h2
  unfold atE
  refine ⟨(IntKind.i64.wrap (BitVec.toNat (BitVec.ofInt IntKind.i64.bits i &&& BitVec.ofInt IntKind.i64.bits 65535))).toNat % n, ?_, Nat.mod_lt _ h⟩
  rw [Int.tmod_eq_emod_of_nonneg h1]
  rw [Int.natCast_emod, Int.toNat_of_nonneg h1]
theorem cut_two (w : List It) (A : Nat) : ([] ++ cutN (List.map It.c w) 0 ((A : Nat) : Int).toNat) ++ cutN (List.map It.c w) (((A + 1 : Nat) : Int)).toNat (List.map It.c w).length = List.map It.c (w.take A ++ w.drop (A + 1)) := by
  simp only [cutN, List.nil_append, Int.toNat_natCast, List.drop_zero, Nat.sub_zero, List.map_append, List.map_take, List.map_drop]
  congr 1
  rw [List.take_of_length_le (by simp)]
theorem fn_l18Done : FnOk Try.prog 7 Try.f7 := ⟨Try.func7, by kernel_rfl, by kernel_rfl, by kernel_rfl⟩
theorem l18Done_c (l : Lg) (from_ to : Pl) (now : Int) (ev : List Ev) (hl : lgR l) (hnow : u64R now) :
    PCx Try.prog 7 [.agg l.c, .agg from_.c, .agg to.c, uu now, slE ev] (bl true) := by
  refine PC.le ?_
  refine PC_of_VC tabOk2 (draw_ok mixed tabOk2) fn_l18Done rfl ?_
  have hhv := l18heavy_c l
  cases hh : heavyL l with
  | true =>
    rw [hh] at hhv
    repeat' ((conv => whnf)
             first
             | with_reducible refine (Or.inl ?_ : VC _ _ _ _ _ ∨ _)
             | ((with_reducible refine (⟨fun hc => ?_, fun hc => ?_⟩ : (_ = true → _) ∧ (_ = false → _))) <;> first | exact absurd hc (by decide) | (exfalso; simp only [*, reduceCtorEq] at hc; done) | skip)
             | (refine Or.inl ?_; (conv => whnf); refine ⟨_, hhv, ?_⟩)
             | (refine Or.inl ?_; (conv => whnf); refine ⟨_, l18awake_c, ?_⟩)
             | ((with_reducible refine And.intro ?_ ?_); focus (first | rfl | exact Nat.le_of_ble_eq_true rfl | omega | (simp only [List.length_cons, List.length_nil, List.length_map, List.length_append]; omega))))
    repeat' first
      | fail
      | exact True.intro
      | exact rfl
      | exact id
      | exact leRs_refl _
      | ((conv => whnf); with_reducible refine And.intro ?_ ?_)
      | ((conv => whnf); exact True.intro)
    all_goals try (conv => whnf)
  | false =>
    rw [hh] at hhv
    obtain ⟨hfr, hok, hl50⟩ := heavyL_false hh hl
    have hlr : -9223372036854775808 ≤ l.closed ∧ l.closed ≤ 9223372036854775807 ∧ 0 ≤ l.last := ⟨hl.2.2.2.1.1, hl.2.2.2.1.2, hl.2.2.2.2.1.1⟩
    have hmayc := r07Ledger_c l hlr
    by_cases h300 : decide (((List.map Ev.c ev).length : Int) > 300) = true
    · repeat' ((conv => whnf)
               first
               | with_reducible refine (Or.inl ?_ : VC _ _ _ _ _ ∨ _)
               | ((with_reducible refine (⟨fun hc => ?_, fun hc => ?_⟩ : (_ = true → _) ∧ (_ = false → _))) <;> first | exact absurd hc (by decide) | (exfalso; simp only [*, reduceCtorEq] at hc; done) | skip)
               | (refine Or.inl ?_; (conv => whnf); refine ⟨_, hhv, ?_⟩)
               | (refine Or.inl ?_; (conv => whnf); refine ⟨_, l18awake_c, ?_⟩)
               | ((with_reducible refine And.intro ?_ ?_); focus (first | rfl | exact Nat.le_of_ble_eq_true rfl | omega | (simp only [List.length_cons, List.length_nil, List.length_map, List.length_append]; omega))))
      all_goals
        repeat' first
          | fail
          | exact True.intro
          | exact rfl
          | exact id
          | exact leRs_refl _
          | ((conv => whnf); with_reducible refine And.intro ?_ ?_)
          | ((conv => whnf); exact True.intro)
        all_goals try (conv => whnf)
    have h300 : decide (((List.map Ev.c ev).length : Int) > 300) = false := by simpa using h300
    have hN : Hd (ev.length ≤ 300) := ⟨by simp at h300; omega⟩
    cases hm : mayLg l with
    | false =>
      rw [hm] at hmayc
      repeat' ((conv => whnf)
               first
               | with_reducible refine (Or.inl ?_ : VC _ _ _ _ _ ∨ _)
               | ((with_reducible refine (⟨fun hc => ?_, fun hc => ?_⟩ : (_ = true → _) ∧ (_ = false → _))) <;> first | exact absurd hc (by decide) | (exfalso; simp only [*, reduceCtorEq] at hc; done) | skip)
               | (refine Or.inl ?_; (conv => whnf); refine ⟨_, hhv, ?_⟩)
               | (refine Or.inl ?_; (conv => whnf); refine ⟨_, hmayc, ?_⟩)
               | (refine Or.inl ?_; (conv => whnf); refine ⟨_, l18awake_c, ?_⟩)
               | ((with_reducible refine And.intro ?_ ?_); focus (first | rfl | exact Nat.le_of_ble_eq_true rfl | omega | (simp only [List.length_cons, List.length_nil, List.length_map, List.length_append]; omega))))
      all_goals
        repeat' first
          | fail
          | exact True.intro
          | exact rfl
          | exact id
          | exact leRs_refl _
          | ((conv => whnf); with_reducible refine And.intro ?_ ?_)
          | ((conv => whnf); exact True.intro)
        all_goals try (conv => whnf)
    | true =>
      rw [hm] at hmayc
      have hset5 : ∀ n, (setOf l.frags l.w n).length ≤ 5 := setOf_le5 hm
      have hset : ∀ n, (setOf l.frags l.w n).length ≤ 1000000 := fun n => Nat.le_trans (hset5 n) (by decide)
      have hnew := cNew_c l from_ to now hok hfr (by omega) hset
      by_cases he : (newC l from_ to now).2.2 = 0
      · rw [he] at hnew
        obtain ⟨-, hF, -⟩ := newC_ok he
        have hft : Hd (from_ ≠ to) := ⟨by
          simp only [cFits, Bool.and_eq_true, bne_iff_ne] at hF
          exact hF.2⟩
        obtain ⟨hi1, hi2⟩ := newC_inv he hnow (List.replicate 20 .empty)
        have hi3 : (newC l from_ to now).2.1.length ≤ 5 := newC_len hset5
        have hhad := r18Had_c l from_ hlr hfr
        clear he hF
        generalize (newC l from_ to now).1 = c0 at *
        generalize (newC l from_ to now).2.1 = q0 at *
        have hstart : DInv l from_ to ev.length 0 now c0 q0 (List.replicate 20 .empty) [] := ⟨by simp, hnow, hi1, hi2, hi3, by simp, by simp, by simp⟩
        clear hi1 hi2 hi3
        repeat' ((conv => whnf)
                 first
                 | with_reducible refine (Or.inl ?_ : VC _ _ _ _ _ ∨ _)
                 | ((with_reducible refine (⟨fun hc => ?_, fun hc => ?_⟩ : (_ = true → _) ∧ (_ = false → _))) <;> first | exact absurd hc (by decide) | (exfalso; simp only [*, reduceCtorEq] at hc; done) | skip)
                 | (refine Or.inl ?_; (conv => whnf); refine ⟨_, hhv, ?_⟩)
                 | (refine Or.inl ?_; (conv => whnf); refine ⟨_, hmayc, ?_⟩)
                 | (refine Or.inl ?_; (conv => whnf); refine ⟨_, hnew, ?_⟩)
                 | ((with_reducible refine And.intro ?_ ?_); focus (first | rfl | exact Nat.le_of_ble_eq_true rfl | omega | (simp only [List.length_cons, List.length_nil, List.length_map, List.length_append]; omega))))
        refine ⟨{x : Nat × Int × Cp × List Rq × List ByteArray × List It // DInv l from_ to ev.length x.1 x.2.1 x.2.2.1 x.2.2.2.1 x.2.2.2.2.1 x.2.2.2.2.2}, fun ⟨(i, now, c, q, has, w), _⟩ => ⟨[(3, .pv (uu now)), (4, .pv (slE ev)), (5, .ptr 1005 0), (6, .ptr 1006 0), (7, .ptr 1007 0), (11, .ptr 1011 0), (12, .pv (slR q)), (14, .pv (slS has)), (15, .slw 1015 0), (16, .pv (ii i))], 1000000000, [(1005, .var (l.c.map .pv)), (1006, .var (from_.c.map .pv)), (1007, .var (to.c.map .pv)), (1011, .var (c.c.map .pv)), (1015, .arr 75 0 20 (w.map It.c))]⟩, fun ⟨(i, _), _⟩ => ev.length + 1 - i, ⟨⟨(0, now, c0, q0, List.replicate 20 .empty, []), hstart⟩, ent_told [8000] ?_⟩, ?_⟩
        · repeat' first
            | fail
            | exact True.intro
            | exact rfl
            | exact id
            | exact leRs_refl _
            | ((conv => whnf); with_reducible refine And.intro ?_ ?_)
            | ((conv => whnf); exact True.intro)
          all_goals try (conv => whnf)
          all_goals trace_state
        clear hstart hnew hnow
        rintro ⟨⟨i, now, c, q, has, w⟩, h⟩
        simp only at h
        have d0 : decide ((i : Int) ≤ ((List.map Ev.c ev).length : Int)) = true := by
          have := h.hi
          rw [List.length_map]; simp only [decide_eq_true_eq]; omega
        repeat' ((conv => whnf)
                 first
                 | with_reducible refine (Or.inl ?_ : VC _ _ _ _ _ ∨ _)
                 | ((with_reducible refine (⟨fun hc => ?_, fun hc => ?_⟩ : (_ = true → _) ∧ (_ = false → _))) <;> first | exact absurd hc (by decide) | (exfalso; simp only [*, reduceCtorEq] at hc; done) | skip)
                 | ((with_reducible refine And.intro ?_ ?_); focus (first | rfl | exact Nat.le_of_ble_eq_true rfl | omega | (simp only [List.length_cons, List.length_nil, List.length_map, List.length_append]; omega))))
        refine ⟨{x : Nat × List It // WInv l from_ to has q.length x.1 x.2}, fun ⟨(k, w), _⟩ => ⟨[(3, .pv (uu now)), (4, .pv (slE ev)), (5, .ptr 1005 0), (6, .ptr 1006 0), (7, .ptr 1007 0), (11, .ptr 1011 0), (12, .pv (slR q)), (14, .pv (slS has)), (15, .slw 1015 0), (16, .pv (ii i)), (17, .pv (ii k))], 1000000000, [(1005, .var (l.c.map .pv)), (1006, .var (from_.c.map .pv)), (1007, .var (to.c.map .pv)), (1011, .var (c.c.map .pv)), (1015, .arr 75 0 20 (w.map It.c))]⟩, fun ⟨(k, _), _⟩ => q.length - k, ⟨⟨(0, w), ⟨Nat.zero_le _, h.hw, h.wl⟩⟩, ent_of ?_⟩, ?_⟩
        · repeat' first
            | fail
            | exact True.intro
            | exact rfl
            | exact id
            | exact leRs_refl _
            | ((conv => whnf); with_reducible refine And.intro ?_ ?_)
            | ((conv => whnf); exact True.intro)
          all_goals try (conv => whnf)
        rintro ⟨⟨k, w2⟩, hw⟩
        simp only at hw
        by_cases hlt : k < q.length
        · have d1 : decide ((k : Int) < ((List.map Rq.c q).length : Int)) = true := by rw [List.length_map]; simp only [decide_eq_true_eq]; omega
          have hgood := h.hq _ (List.getElem_mem hlt)
          have hqn := (hadL_mem hgood.had)
          have hr := l18right_c c l q[k] hlr hfr (by unfold u64R; omega)
          rw [rightC_good h.hc hgood] at hr
          have hkq : k < 6 := by have := h.ql; omega
          have eW : IntKind.i64.wrap ((k : Int) + 1) = ((k + 1 : Nat) : Int) := by rw [wrapI (by omega) (by omega)]; omega
          have hwl := hw.wl
          by_cases h200 : w2.length < 200
          · have d2 : decide (((List.map It.c w2).length : Int) < 200) = true := by rw [List.length_map]; simp only [decide_eq_true_eq]; omega
            repeat' ((conv => whnf)
                     first
                     | with_reducible refine (Or.inl ?_ : VC _ _ _ _ _ ∨ _)
                     | ((with_reducible refine (⟨fun hc => ?_, fun hc => ?_⟩ : (_ = true → _) ∧ (_ = false → _))) <;> first | exact absurd hc (by decide) | (exfalso; simp only [*, reduceCtorEq] at hc; done) | skip)
                     | (refine Or.inl ?_; (conv => whnf); refine ⟨_, hr, ?_⟩)
                     | ((refine ⟨_, rowK _ _ _ hlt, ?_⟩))
                     | (((with_reducible refine And.intro ?_ ?_); focus (simp only [List.length_map, List.length_cons, List.length_nil]; omega)))
                     | ((with_reducible refine And.intro ?_ ?_); focus (first | rfl | exact Nat.le_of_ble_eq_true rfl | omega | (simp only [List.length_cons, List.length_nil, List.length_map, List.length_append]; omega))))
            refine ⟨⟨(k + 1, w2 ++ [itQ q[k]]), hw.send hlt h200 hgood⟩, dec_lt hlt, ent_of ?_⟩
            repeat' first
              | fail
              | exact True.intro
              | exact rfl
              | exact id
              | exact leRs_refl _
              | ((conv => whnf); with_reducible refine And.intro ?_ ?_)
              | ((conv => whnf); exact True.intro)
            all_goals try (conv => whnf)
            · rw [List.map_append]
              refine leRs_app (leRs_refl _) ?_
              repeat' first
                | fail
                | exact True.intro
                | exact rfl
                | exact id
                | exact leRs_refl _
                | ((conv => whnf); with_reducible refine And.intro ?_ ?_)
                | ((conv => whnf); exact True.intro)
              all_goals try (conv => whnf)
            · exact eW
          · have d2 : decide (((List.map It.c w2).length : Int) < 200) = false := by rw [List.length_map]; simp only [decide_eq_false_iff_not]; omega
            repeat' ((conv => whnf)
                     first
                     | with_reducible refine (Or.inl ?_ : VC _ _ _ _ _ ∨ _)
                     | ((with_reducible refine (⟨fun hc => ?_, fun hc => ?_⟩ : (_ = true → _) ∧ (_ = false → _))) <;> first | exact absurd hc (by decide) | (exfalso; simp only [*, reduceCtorEq] at hc; done) | skip)
                     | (refine Or.inl ?_; (conv => whnf); refine ⟨_, hr, ?_⟩)
                     | ((refine ⟨_, rowK _ _ _ hlt, ?_⟩))
                     | ((with_reducible refine And.intro ?_ ?_); focus (first | rfl | exact Nat.le_of_ble_eq_true rfl | omega | (simp only [List.length_cons, List.length_nil, List.length_map, List.length_append]; omega))))
            refine ⟨⟨(k + 1, w2), ⟨hlt, hw.hw, hw.wl⟩⟩, dec_lt hlt, ent_of ?_⟩
            repeat' first
              | fail
              | exact True.intro
              | exact rfl
              | exact id
              | exact leRs_refl _
              | ((conv => whnf); with_reducible refine And.intro ?_ ?_)
              | ((conv => whnf); exact True.intro)
            all_goals try (conv => whnf)
            exact eW
        · have d1 : decide ((k : Int) < ((List.map Rq.c q).length : Int)) = false := by rw [List.length_map]; simp only [decide_eq_false_iff_not]; omega
          by_cases hp3 : c.phase = 3
          · have d3 : (c.phase == 3) = true := by simp [hp3]
            have hall : Hd (∀ m ∈ hadL l from_ 0, hasR has m) := ⟨by
              rcases h.hc.ph with ⟨h | h, _⟩ | h | h
              · omega
              · omega
              · exact h.2
              · omega⟩
            have hmm : Hd (∀ m ∈ hadL l from_ 0, 0 < m ∧ m ≤ 8) := ⟨fun m hm => by have := hadL_mem hm; omega⟩
            have hLl := hadL_len l from_ 0 (by omega)
            clear hp3
            generalize hadL l from_ 0 = L at *
            repeat' ((conv => whnf)
                     first
                     | with_reducible refine (Or.inl ?_ : VC _ _ _ _ _ ∨ _)
                     | ((with_reducible refine (⟨fun hc => ?_, fun hc => ?_⟩ : (_ = true → _) ∧ (_ = false → _))) <;> first | exact absurd hc (by decide) | (exfalso; simp only [*, reduceCtorEq] at hc; done) | skip)
                     | (refine Or.inl ?_; (conv => whnf); refine ⟨_, hhad, ?_⟩)
                     | ((with_reducible refine And.intro ?_ ?_); focus (first | rfl | exact Nat.le_of_ble_eq_true rfl | omega | (simp only [List.length_cons, List.length_nil, List.length_map, List.length_append]; omega))))
            refine ⟨{j : Nat // j ≤ L.length}, fun ⟨j, _⟩ => ⟨[(14, .pv (slS has)), (18, .pv (slU L)), (19, .pv (ii j))], 1000000000, []⟩, fun ⟨j, _⟩ => L.length - j, ⟨⟨0, Nat.zero_le _⟩, ent_of ?_⟩, ?_⟩
            · repeat' first
                | fail
                | exact True.intro
                | exact rfl
                | exact id
                | exact leRs_refl _
                | ((conv => whnf); with_reducible refine And.intro ?_ ?_)
                | ((conv => whnf); exact True.intro)
              all_goals try (conv => whnf)
            rintro ⟨j, hj⟩
            by_cases hjl : j < L.length
            · have d4 : decide ((j : Int) < ((List.map uRow L).length : Int)) = true := by rw [List.length_map]; simp only [decide_eq_true_eq]; omega
              have hm0 := hmm.out _ (List.getElem_mem hjl)
              have hhl := h.hl
              have hrow : (has.map strRow)[(L[j]).toNat]? = some (strRow ⟨(bodyL L[j]).toArray⟩) := by
                rw [List.getElem?_map, hall.out _ (List.getElem_mem hjl)]; rfl
              have d5 : (!(({ data := (bodyL L[j]).toArray } : ByteArray).toList == ({ data := (bodyL L[j]).toArray } : ByteArray).toList)) = false := by simp
              have eW : IntKind.i64.wrap ((j : Int) + 1) = ((j + 1 : Nat) : Int) := by rw [wrapI (by omega) (by omega)]; omega
              repeat' ((conv => whnf)
                       first
                       | with_reducible refine (Or.inl ?_ : VC _ _ _ _ _ ∨ _)
                       | ((with_reducible refine (⟨fun hc => ?_, fun hc => ?_⟩ : (_ = true → _) ∧ (_ = false → _))) <;> first | exact absurd hc (by decide) | (exfalso; simp only [*, reduceCtorEq] at hc; done) | skip)
                       | ((refine ⟨_, rowK _ _ _ hjl, ?_⟩))
                       | ((refine ⟨_, hrow, ?_⟩))
                       | (refine Or.inl ?_; (conv => whnf); refine ⟨_, l18body_c _ (by unfold u64R; omega), ?_⟩)
                       | (((with_reducible refine And.intro ?_ ?_); focus (simp only [List.length_map]; omega)))
                       | ((with_reducible refine And.intro ?_ ?_); focus (first | rfl | exact Nat.le_of_ble_eq_true rfl | omega | (simp only [List.length_cons, List.length_nil, List.length_map, List.length_append]; omega))))
              refine ⟨⟨j + 1, hjl⟩, dec_lt hjl, ent_of ?_⟩
              repeat' first
                | fail
                | exact True.intro
                | exact rfl
                | exact id
                | exact leRs_refl _
                | ((conv => whnf); with_reducible refine And.intro ?_ ?_)
                | ((conv => whnf); exact True.intro)
              all_goals try (conv => whnf)
              exact eW
            · have d4 : decide ((j : Int) < ((List.map uRow L).length : Int)) = false := by rw [List.length_map]; simp only [decide_eq_false_iff_not]; omega
              repeat' ((conv => whnf)
                       first
                       | with_reducible refine (Or.inl ?_ : VC _ _ _ _ _ ∨ _)
                       | ((with_reducible refine (⟨fun hc => ?_, fun hc => ?_⟩ : (_ = true → _) ∧ (_ = false → _))) <;> first | exact absurd hc (by decide) | (exfalso; simp only [*, reduceCtorEq] at hc; done) | skip)
                       | (refine Or.inl ?_; (conv => whnf); refine ⟨_, l18awake_c, ?_⟩)
                       | ((with_reducible refine And.intro ?_ ?_); focus (first | rfl | exact Nat.le_of_ble_eq_true rfl | omega | (simp only [List.length_cons, List.length_nil, List.length_map, List.length_append]; omega))))
              repeat' first
                | fail
                | exact True.intro
                | exact rfl
                | exact id
                | exact leRs_refl _
                | ((conv => whnf); with_reducible refine And.intro ?_ ?_)
                | ((conv => whnf); exact True.intro)
              all_goals try (conv => whnf)
          · have d3 : (c.phase == 3) = false := by simp [hp3]
            have hbig : frsOk c.l.frags ∧ c.l.ok ∧ ∀ n, (setOf c.l.frags c.l.w n).length ≤ 1000000 := by rw [h.hc.hl]; exact ⟨hfr, hok, hset⟩
            have hcs : ∀ n, (setOf c.l.frags c.l.w n).length ≤ 5 := by rw [h.hc.hl]; exact hset5
            have hsm : Cp.sm c := h.hc.sm (by have := h.hi; have := hN.out; omega) hl50 hok
            obtain ⟨p1, p2⟩ := h.hc.phs
            by_cases hie : i = ev.length
            · subst hie
              have d4 : ((ev.length : Int) == ((List.map Ev.c ev).length : Int)) = true := by rw [List.length_map]; simp
              repeat' ((conv => whnf)
                       first
                       | with_reducible refine (Or.inl ?_ : VC _ _ _ _ _ ∨ _)
                       | ((with_reducible refine (⟨fun hc => ?_, fun hc => ?_⟩ : (_ = true → _) ∧ (_ = false → _))) <;> first | exact absurd hc (by decide) | (exfalso; simp only [*, reduceCtorEq] at hc; done) | skip)
                       | (refine Or.inl ?_; (conv => whnf); refine ⟨_, l18awake_c, ?_⟩)
                       | ((with_reducible refine And.intro ?_ ?_); focus (first | rfl | exact Nat.le_of_ble_eq_true rfl | omega | (simp only [List.length_cons, List.length_nil, List.length_map, List.length_append]; omega))))
              all_goals
                repeat' first
                  | fail
                  | exact True.intro
                  | exact rfl
                  | exact id
                  | exact leRs_refl _
                  | ((conv => whnf); with_reducible refine And.intro ?_ ?_)
                  | ((conv => whnf); exact True.intro)
                all_goals try (conv => whnf)
            have hil : i < ev.length := by have := h.hi; omega
            have d4 : ((i : Int) == ((List.map Ev.c ev).length : Int)) = false := by rw [List.length_map]; simp only [beq_eq_false_iff_ne, ne_eq]; omega
            have eW : IntKind.i64.wrap ((i : Int) + 1) = ((i + 1 : Nat) : Int) := by have := hN.out; rw [wrapI (by omega) (by omega)]; omega
            have hdec : ev.length + 1 - (i + 1) < ev.length + 1 - i := by omega
            have hD : ∀ {now' : Int} {c' : Cp} {q' : List Rq} {has' : List ByteArray} {w' : List It}, u64R now' → CInv l from_ to has' c' (i + 1) → (∀ x ∈ q', Go.AX.Good l from_ to x) → q'.length ≤ 5 → (∀ x ∈ w', GoodI l from_ to has' x) → w'.length ≤ 200 → has'.length = 20 → DInv l from_ to ev.length (i + 1) now' c' q' has' w' :=
              fun a1 a2 a3 a4 a5 a6 a7 => ⟨by omega, a1, a2, a3, a4, a5, a6, a7⟩
            clear hhad hlt
            by_cases e3 : ev[i].do_ = 3
            · have d5 : (ev[i].do_ == 3) = true := by simp [e3]
              clear e3
              by_cases hn62 : now < 4611686018427387904
              · have d6 : decide (now < 4611686018427387904) = true := by simp [hn62]
                have htick := cTick_c c (nowE now ev[i].i) hsm hbig.1 h.hc.n (hbig.2.2 _) (wrapU_range _) h.hc.born h.hc.since
                obtain ⟨t1, t2⟩ := tickC_inv hft.out h.hc (now := nowE now ev[i].i) (wrapU_range _)
                have t3 := tickC_len hcs (nowE now ev[i].i)
                generalize (tickC c (nowE now ev[i].i)).1 = c' at *
                generalize (tickC c (nowE now ev[i].i)).2 = q' at *
                clear hn62
                repeat' ((conv => whnf)
                         first
                         | with_reducible refine (Or.inl ?_ : VC _ _ _ _ _ ∨ _)
                         | ((with_reducible refine (⟨fun hc => ?_, fun hc => ?_⟩ : (_ = true → _) ∧ (_ = false → _))) <;> first | exact absurd hc (by decide) | (exfalso; simp only [*, reduceCtorEq] at hc; done) | skip)
                         | ((refine ⟨_, rowK _ _ _ hil, ?_⟩))
                         | (refine Or.inl ?_; (conv => whnf); refine ⟨_, htick, ?_⟩)
                         | ((with_reducible refine And.intro ?_ ?_); focus (first | rfl | exact Nat.le_of_ble_eq_true rfl | omega | (simp only [List.length_cons, List.length_nil, List.length_map, List.length_append]; omega))))
                refine ⟨⟨(i + 1, nowE now ev[i].i, c', q', has, w2), hD (wrapU_range _) (t1.more (Nat.le_succ _)) t2 t3 hw.hw hw.wl h.hl⟩, hdec, ent_of ?_⟩
                repeat' first
                  | fail
                  | exact True.intro
                  | exact rfl
                  | exact id
                  | exact leRs_refl _
                  | ((conv => whnf); with_reducible refine And.intro ?_ ?_)
                  | ((conv => whnf); exact True.intro)
                all_goals try (conv => whnf)
                exact eW
              · have d6 : decide (now < 4611686018427387904) = false := by simp only [decide_eq_false_iff_not]; exact hn62
                have htick := cTick_c c now hsm hbig.1 h.hc.n (hbig.2.2 _) h.hnow h.hc.born h.hc.since
                obtain ⟨t1, t2⟩ := tickC_inv hft.out h.hc h.hnow
                have t3 := tickC_len hcs now
                generalize (tickC c now).1 = c' at *
                generalize (tickC c now).2 = q' at *
                clear hn62
                repeat' ((conv => whnf)
                         first
                         | with_reducible refine (Or.inl ?_ : VC _ _ _ _ _ ∨ _)
                         | ((with_reducible refine (⟨fun hc => ?_, fun hc => ?_⟩ : (_ = true → _) ∧ (_ = false → _))) <;> first | exact absurd hc (by decide) | (exfalso; simp only [*, reduceCtorEq] at hc; done) | skip)
                         | ((refine ⟨_, rowK _ _ _ hil, ?_⟩))
                         | (refine Or.inl ?_; (conv => whnf); refine ⟨_, htick, ?_⟩)
                         | ((with_reducible refine And.intro ?_ ?_); focus (first | rfl | exact Nat.le_of_ble_eq_true rfl | omega | (simp only [List.length_cons, List.length_nil, List.length_map, List.length_append]; omega))))
                refine ⟨⟨(i + 1, now, c', q', has, w2), hD h.hnow (t1.more (Nat.le_succ _)) t2 t3 hw.hw hw.wl h.hl⟩, hdec, ent_of ?_⟩
                repeat' first
                  | fail
                  | exact True.intro
                  | exact rfl
                  | exact id
                  | exact leRs_refl _
                  | ((conv => whnf); with_reducible refine And.intro ?_ ?_)
                  | ((conv => whnf); exact True.intro)
                all_goals try (conv => whnf)
                exact eW
            have d5 : (ev[i].do_ == 3) = false := by simp [e3]
            clear e3
            by_cases hw0 : w2.length = 0
            · have d6 : (((List.map It.c w2).length : Int) == 0) = true := by rw [List.length_map]; simp [hw0]
              clear hw0
              repeat' ((conv => whnf)
                       first
                       | with_reducible refine (Or.inl ?_ : VC _ _ _ _ _ ∨ _)
                       | ((with_reducible refine (⟨fun hc => ?_, fun hc => ?_⟩ : (_ = true → _) ∧ (_ = false → _))) <;> first | exact absurd hc (by decide) | (exfalso; simp only [*, reduceCtorEq] at hc; done) | skip)
                       | ((refine ⟨_, rowK _ _ _ hil, ?_⟩))
                       | ((with_reducible refine And.intro ?_ ?_); focus (first | rfl | exact Nat.le_of_ble_eq_true rfl | omega | (simp only [List.length_cons, List.length_nil, List.length_map, List.length_append]; omega))))
              refine ⟨⟨(i + 1, now, c, [], has, w2), hD h.hnow (h.hc.more (Nat.le_succ _)) (by simp) (by simp) hw.hw hw.wl h.hl⟩, hdec, ent_of ?_⟩
              repeat' first
                | fail
                | exact True.intro
                | exact rfl
                | exact id
                | exact leRs_refl _
                | ((conv => whnf); with_reducible refine And.intro ?_ ?_)
                | ((conv => whnf); exact True.intro)
              all_goals try (conv => whnf)
              exact eW
            have d6 : (((List.map It.c w2).length : Int) == 0) = false := by rw [List.length_map]; simp only [beq_eq_false_iff_ne, ne_eq]; omega
            have hwl := hw.wl
            obtain ⟨A, hA, hAl⟩ := atE_lt ev[i].i (n := (List.map It.c w2).length) (by rw [List.length_map]; omega)
            rw [List.length_map] at hAl
            have hgi := hw.hw _ (List.getElem_mem hAl)
            have hA1 : IntKind.i64.wrap ((A : Int) + 1) = ((A + 1 : Nat) : Int) := by rw [wrapI (by omega) (by omega)]; omega
            have hA' : (IntKind.i64.wrap (BitVec.toNat (BitVec.ofInt IntKind.i64.bits ev[i].i &&& BitVec.ofInt IntKind.i64.bits 65535))).tmod ((List.map It.c w2).length : Int) = (A : Int) := hA
            -- the message is got; it stays on its way, or not
            by_cases e1 : ev[i].do_ = 1
            · have d7 : (ev[i].do_ != 1) = false := by simp [e1]
              have d8 : (ev[i].do_ == 2) = false := by simp [e1]
              have hww : Hd (∀ x ∈ w2, GoodI l from_ to has x) := ⟨hw.hw⟩
              have hwwl : Hd (w2.length ≤ 200) := ⟨hwl⟩
              clear e1
              cases ha : (w2[A]).answer with
              | true =>
                have hga : GoodA to has (w2[A]).resp := by unfold GoodI at hgi; rw [if_pos ha] at hgi; exact hgi
                have htake := cTake_c c now (w2[A]).resp hsm ⟨hbig.1, hbig.2.1, h.hc.n, hbig.2.2⟩ (by have := hga.body; omega) (by have := h.hc.none; have := hN.out; omega)
                obtain ⟨t1, t2⟩ := takeC_inv hft.out h.hc hga h.hnow
                have t3 := takeC_len hcs now (w2[A]).resp
                generalize (takeC c now (w2[A]).resp).1 = c' at *
                generalize (takeC c now (w2[A]).resp).2 = q' at *
                clear hga hgi
                repeat' ((conv => whnf)
                         first
                         | with_reducible refine (Or.inl ?_ : VC _ _ _ _ _ ∨ _)
                         | ((with_reducible refine (⟨fun hc => ?_, fun hc => ?_⟩ : (_ = true → _) ∧ (_ = false → _))) <;> first | exact absurd hc (by decide) | (exfalso; simp only [*, reduceCtorEq] at hc; done) | skip)
                         | ((refine ⟨_, rowK _ _ _ hil, ?_⟩))
                         | ((refine ⟨_, rowE _ _ hA hAl, ?_⟩))
                         | (((with_reducible refine And.intro ?_ ?_); focus (rw [List.length_map]; omega)))
                         | (((with_reducible refine And.intro ?_ ?_); focus (rw [hA']; omega)))
                         | (((with_reducible refine And.intro ?_ ?_); focus (rw [hA', List.length_map]; omega)))
                         | (((with_reducible refine And.intro ?_ ?_); focus (rw [hA', hA1]; omega)))
                         | (((with_reducible refine And.intro ?_ ?_); focus (rw [hA', hA1, List.length_map]; omega)))
                         | (((with_reducible refine And.intro ?_ ?_); focus (rw [hA']; simp only [List.length_append, List.length_nil, cutN, List.length_take, List.length_drop, List.length_map]; omega)))
                         | (((with_reducible refine And.intro ?_ ?_); focus (rw [hA', hA1]; simp only [List.length_append, List.length_nil, cutN, List.length_take, List.length_drop, List.length_map]; omega)))
                         | (((with_reducible refine And.intro ?_ ?_); focus (rw [hA', hA1, hcut]; simp only [List.length_map, List.length_cons, List.length_nil]; omega)))
                         | (((with_reducible refine And.intro ?_ ?_); focus (simp only [List.length_append, List.length_cons, List.length_nil, List.length_map]; omega)))
                         | (refine Or.inl ?_; (conv => whnf); refine ⟨_, htake, ?_⟩)
                         | ((with_reducible refine And.intro ?_ ?_); focus (first | rfl | exact Nat.le_of_ble_eq_true rfl | omega | (simp only [List.length_cons, List.length_nil, List.length_map, List.length_append]; omega))))
                refine ⟨⟨(i + 1, now, c', q', has, w2), hD h.hnow t1 t2 t3 hww.out hwwl.out h.hl⟩, hdec, ent_of ?_⟩
                repeat' first
                  | fail
                  | exact True.intro
                  | exact rfl
                  | exact id
                  | exact leRs_refl _
                  | ((conv => whnf); with_reducible refine And.intro ?_ ?_)
                  | ((conv => whnf); exact True.intro)
                all_goals try (conv => whnf)
                all_goals first
                  | exact eW
                  | exact leRs_refl _
              | false =>
                have hgr : Go.AX.Good l from_ to (w2[A]).req := by unfold GoodI at hgi; rw [if_neg (by rw [ha]; simp)] at hgi; exact hgi
                have hgm := hadL_mem hgr.had
                have hans := l18answers_c l from_ to has (w2[A]).req hfr (by unfold u64R; omega) (by have := h.hl; omega) (by have := hgr.body; omega)
                obtain ⟨g1, g2⟩ := ansC_good hgr h.hl
                have g3 := ansC_len l from_ to has (w2[A]).req
                generalize (ansC l from_ to has (w2[A]).req).1 = a at *
                generalize (ansC l from_ to has (w2[A]).req).2 = has' at *
                have g4 : has'.length = 20 := by have := h.hl; omega
                have g5 : ∀ x ∈ w2, GoodI l from_ to has' x := fun x hx => (hww.out x hx).kept g2
                have G3 : Hd (has'.length = 20) := ⟨g4⟩
                clear hgr hgm hgi g3 g4
                by_cases h200 : (w2).length < 200
                · have d9 : decide (((List.map It.c w2).length : Int) < 200) = true := by rw [List.length_map]; simp only [decide_eq_true_eq]; omega
                  repeat' ((conv => whnf)
                           first
                           | with_reducible refine (Or.inl ?_ : VC _ _ _ _ _ ∨ _)
                           | ((with_reducible refine (⟨fun hc => ?_, fun hc => ?_⟩ : (_ = true → _) ∧ (_ = false → _))) <;> first | exact absurd hc (by decide) | (exfalso; simp only [*, reduceCtorEq] at hc; done) | skip)
                           | ((refine ⟨_, rowK _ _ _ hil, ?_⟩))
                           | ((refine ⟨_, rowE _ _ hA hAl, ?_⟩))
                           | (((with_reducible refine And.intro ?_ ?_); focus (rw [List.length_map]; omega)))
                           | (((with_reducible refine And.intro ?_ ?_); focus (rw [hA']; omega)))
                           | (((with_reducible refine And.intro ?_ ?_); focus (rw [hA', List.length_map]; omega)))
                           | (((with_reducible refine And.intro ?_ ?_); focus (rw [hA', hA1]; omega)))
                           | (((with_reducible refine And.intro ?_ ?_); focus (rw [hA', hA1, List.length_map]; omega)))
                           | (((with_reducible refine And.intro ?_ ?_); focus (rw [hA']; simp only [List.length_append, List.length_nil, cutN, List.length_take, List.length_drop, List.length_map]; omega)))
                           | (((with_reducible refine And.intro ?_ ?_); focus (rw [hA', hA1]; simp only [List.length_append, List.length_nil, cutN, List.length_take, List.length_drop, List.length_map]; omega)))
                           | (((with_reducible refine And.intro ?_ ?_); focus (rw [hA', hA1, hcut]; simp only [List.length_map, List.length_cons, List.length_nil]; omega)))
                           | (((with_reducible refine And.intro ?_ ?_); focus (simp only [List.length_append, List.length_cons, List.length_nil, List.length_map]; omega)))
                           | (refine Or.inl ?_; (conv => whnf); refine ⟨_, hans, ?_⟩)
                           | ((with_reducible refine And.intro ?_ ?_); focus (first | rfl | exact Nat.le_of_ble_eq_true rfl | omega | (simp only [List.length_cons, List.length_nil, List.length_map, List.length_append]; omega))))
                  refine ⟨⟨(i + 1, now, c, [], has', w2 ++ [itA a]), hD h.hnow ((h.hc.kept g2).more (Nat.le_succ _)) (by simp) (by simp) (by
                    intro x hx
                    rcases List.mem_append.1 hx with hx | hx
                    · exact g5 x hx
                    · simp only [List.mem_singleton] at hx
                      rw [hx]
                      exact g1) (by rw [List.length_append, List.length_singleton]; omega) G3.out⟩, hdec, ent_of ?_⟩
                  repeat' first
                    | fail
                    | exact True.intro
                    | exact rfl
                    | exact id
                    | exact leRs_refl _
                    | ((conv => whnf); with_reducible refine And.intro ?_ ?_)
                    | ((conv => whnf); exact True.intro)
                  all_goals try (conv => whnf)
                  all_goals first
                    | exact eW
                    | (rw [List.map_append]
                       refine leRs_app (by exact leRs_refl _) ?_
                       (repeat' first | exact True.intro | exact rfl | exact id | exact leRs_refl _ | ((conv => whnf); with_reducible refine And.intro ?_ ?_) | ((conv => whnf); exact True.intro)); (all_goals try (conv => whnf)))
                · have d9 : decide (((List.map It.c w2).length : Int) < 200) = false := by rw [List.length_map]; simp only [decide_eq_false_iff_not]; omega
                  repeat' ((conv => whnf)
                           first
                           | with_reducible refine (Or.inl ?_ : VC _ _ _ _ _ ∨ _)
                           | ((with_reducible refine (⟨fun hc => ?_, fun hc => ?_⟩ : (_ = true → _) ∧ (_ = false → _))) <;> first | exact absurd hc (by decide) | (exfalso; simp only [*, reduceCtorEq] at hc; done) | skip)
                           | ((refine ⟨_, rowK _ _ _ hil, ?_⟩))
                           | ((refine ⟨_, rowE _ _ hA hAl, ?_⟩))
                           | (((with_reducible refine And.intro ?_ ?_); focus (rw [List.length_map]; omega)))
                           | (((with_reducible refine And.intro ?_ ?_); focus (rw [hA']; omega)))
                           | (((with_reducible refine And.intro ?_ ?_); focus (rw [hA', List.length_map]; omega)))
                           | (((with_reducible refine And.intro ?_ ?_); focus (rw [hA', hA1]; omega)))
                           | (((with_reducible refine And.intro ?_ ?_); focus (rw [hA', hA1, List.length_map]; omega)))
                           | (((with_reducible refine And.intro ?_ ?_); focus (rw [hA']; simp only [List.length_append, List.length_nil, cutN, List.length_take, List.length_drop, List.length_map]; omega)))
                           | (((with_reducible refine And.intro ?_ ?_); focus (rw [hA', hA1]; simp only [List.length_append, List.length_nil, cutN, List.length_take, List.length_drop, List.length_map]; omega)))
                           | (((with_reducible refine And.intro ?_ ?_); focus (rw [hA', hA1, hcut]; simp only [List.length_map, List.length_cons, List.length_nil]; omega)))
                           | (((with_reducible refine And.intro ?_ ?_); focus (simp only [List.length_append, List.length_cons, List.length_nil, List.length_map]; omega)))
                           | (refine Or.inl ?_; (conv => whnf); refine ⟨_, hans, ?_⟩)
                           | ((with_reducible refine And.intro ?_ ?_); focus (first | rfl | exact Nat.le_of_ble_eq_true rfl | omega | (simp only [List.length_cons, List.length_nil, List.length_map, List.length_append]; omega))))
                  refine ⟨⟨(i + 1, now, c, [], has', w2), hD h.hnow ((h.hc.kept g2).more (Nat.le_succ _)) (by simp) (by simp) g5 hwwl.out G3.out⟩, hdec, ent_of ?_⟩
                  repeat' first
                    | fail
                    | exact True.intro
                    | exact rfl
                    | exact id
                    | exact leRs_refl _
                    | ((conv => whnf); with_reducible refine And.intro ?_ ?_)
                    | ((conv => whnf); exact True.intro)
                  all_goals try (conv => whnf)
                  all_goals first
                    | exact eW
                    | exact leRs_refl _
            · have d7 : (ev[i].do_ != 1) = true := by simp [e1]
              clear e1
              have hcut : ([] ++ cutN (List.map It.c w2) 0 ((A : Nat) : Int).toNat) ++ cutN (List.map It.c w2) (((A + 1 : Nat) : Int)).toNat (List.map It.c w2).length = List.map It.c (w2.take A ++ w2.drop (A + 1)) := cut_two w2 A
              have hww : Hd (∀ x ∈ w2.take A ++ w2.drop (A + 1), GoodI l from_ to has x) := ⟨fun x hx => hw.hw x (sub_mem hx)⟩
              have hwwl : Hd ((w2.take A ++ w2.drop (A + 1)).length ≤ 200) := ⟨Nat.le_trans sub_len hwl⟩
              have hwwm : (w2.take A ++ w2.drop (A + 1)).length + 1 = w2.length := by simp only [List.length_append, List.length_take, List.length_drop]; omega
              by_cases e2 : ev[i].do_ = 2
              · have d8 : (ev[i].do_ == 2) = true := by simp [e2]
                clear e2
                repeat' ((conv => whnf)
                         first
                         | with_reducible refine (Or.inl ?_ : VC _ _ _ _ _ ∨ _)
                         | ((with_reducible refine (⟨fun hc => ?_, fun hc => ?_⟩ : (_ = true → _) ∧ (_ = false → _))) <;> first | exact absurd hc (by decide) | (exfalso; simp only [*, reduceCtorEq] at hc; done) | skip)
                         | ((refine ⟨_, rowK _ _ _ hil, ?_⟩))
                         | ((refine ⟨_, rowE _ _ hA hAl, ?_⟩))
                         | (((with_reducible refine And.intro ?_ ?_); focus (rw [List.length_map]; omega)))
                         | (((with_reducible refine And.intro ?_ ?_); focus (rw [hA']; omega)))
                         | (((with_reducible refine And.intro ?_ ?_); focus (rw [hA', List.length_map]; omega)))
                         | (((with_reducible refine And.intro ?_ ?_); focus (rw [hA', hA1]; omega)))
                         | (((with_reducible refine And.intro ?_ ?_); focus (rw [hA', hA1, List.length_map]; omega)))
                         | (((with_reducible refine And.intro ?_ ?_); focus (rw [hA']; simp only [List.length_append, List.length_nil, cutN, List.length_take, List.length_drop, List.length_map]; omega)))
                         | (((with_reducible refine And.intro ?_ ?_); focus (rw [hA', hA1]; simp only [List.length_append, List.length_nil, cutN, List.length_take, List.length_drop, List.length_map]; omega)))
                         | (((with_reducible refine And.intro ?_ ?_); focus (rw [hA', hA1, hcut]; simp only [List.length_map, List.length_cons, List.length_nil]; omega)))
                         | (((with_reducible refine And.intro ?_ ?_); focus (simp only [List.length_append, List.length_cons, List.length_nil, List.length_map]; omega)))
                         | ((with_reducible refine And.intro ?_ ?_); focus (first | rfl | exact Nat.le_of_ble_eq_true rfl | omega | (simp only [List.length_cons, List.length_nil, List.length_map, List.length_append]; omega))))
                refine ⟨⟨(i + 1, now, c, [], has, w2.take A ++ w2.drop (A + 1)), hD h.hnow (h.hc.more (Nat.le_succ _)) (by simp) (by simp) hww.out hwwl.out h.hl⟩, hdec, ent_of ?_⟩
                repeat' first
                  | fail
                  | exact True.intro
                  | exact rfl
                  | exact id
                  | exact leRs_refl _
                  | ((conv => whnf); with_reducible refine And.intro ?_ ?_)
                  | ((conv => whnf); exact True.intro)
                all_goals try (conv => whnf)
                all_goals first
                  | exact eW
                  | (rw [hA', hA1, hcut]; exact leRs_refl _)
              have d8 : (ev[i].do_ == 2) = false := by simp [e2]
              clear e2
              cases ha : (w2[A]).answer with
              | true =>
                have hga : GoodA to has (w2[A]).resp := by unfold GoodI at hgi; rw [if_pos ha] at hgi; exact hgi
                have htake := cTake_c c now (w2[A]).resp hsm ⟨hbig.1, hbig.2.1, h.hc.n, hbig.2.2⟩ (by have := hga.body; omega) (by have := h.hc.none; have := hN.out; omega)
                obtain ⟨t1, t2⟩ := takeC_inv hft.out h.hc hga h.hnow
                have t3 := takeC_len hcs now (w2[A]).resp
                generalize (takeC c now (w2[A]).resp).1 = c' at *
                generalize (takeC c now (w2[A]).resp).2 = q' at *
                clear hga hgi
                repeat' ((conv => whnf)
                         first
                         | with_reducible refine (Or.inl ?_ : VC _ _ _ _ _ ∨ _)
                         | ((with_reducible refine (⟨fun hc => ?_, fun hc => ?_⟩ : (_ = true → _) ∧ (_ = false → _))) <;> first | exact absurd hc (by decide) | (exfalso; simp only [*, reduceCtorEq] at hc; done) | skip)
                         | ((refine ⟨_, rowK _ _ _ hil, ?_⟩))
                         | ((refine ⟨_, rowE _ _ hA hAl, ?_⟩))
                         | (((with_reducible refine And.intro ?_ ?_); focus (rw [List.length_map]; omega)))
                         | (((with_reducible refine And.intro ?_ ?_); focus (rw [hA']; omega)))
                         | (((with_reducible refine And.intro ?_ ?_); focus (rw [hA', List.length_map]; omega)))
                         | (((with_reducible refine And.intro ?_ ?_); focus (rw [hA', hA1]; omega)))
                         | (((with_reducible refine And.intro ?_ ?_); focus (rw [hA', hA1, List.length_map]; omega)))
                         | (((with_reducible refine And.intro ?_ ?_); focus (rw [hA']; simp only [List.length_append, List.length_nil, cutN, List.length_take, List.length_drop, List.length_map]; omega)))
                         | (((with_reducible refine And.intro ?_ ?_); focus (rw [hA', hA1]; simp only [List.length_append, List.length_nil, cutN, List.length_take, List.length_drop, List.length_map]; omega)))
                         | (((with_reducible refine And.intro ?_ ?_); focus (rw [hA', hA1, hcut]; simp only [List.length_map, List.length_cons, List.length_nil]; omega)))
                         | (((with_reducible refine And.intro ?_ ?_); focus (simp only [List.length_append, List.length_cons, List.length_nil, List.length_map]; omega)))
                         | (refine Or.inl ?_; (conv => whnf); refine ⟨_, htake, ?_⟩)
                         | ((with_reducible refine And.intro ?_ ?_); focus (first | rfl | exact Nat.le_of_ble_eq_true rfl | omega | (simp only [List.length_cons, List.length_nil, List.length_map, List.length_append]; omega))))
                refine ⟨⟨(i + 1, now, c', q', has, (w2.take A ++ w2.drop (A + 1))), hD h.hnow t1 t2 t3 hww.out hwwl.out h.hl⟩, hdec, ent_of ?_⟩
                repeat' first
                  | fail
                  | exact True.intro
                  | exact rfl
                  | exact id
                  | exact leRs_refl _
                  | ((conv => whnf); with_reducible refine And.intro ?_ ?_)
                  | ((conv => whnf); exact True.intro)
                all_goals try (conv => whnf)
                all_goals first
                  | exact eW
                  | (rw [hA', hA1, hcut]; exact leRs_refl _)
              | false =>
                have hgr : Go.AX.Good l from_ to (w2[A]).req := by unfold GoodI at hgi; rw [if_neg (by rw [ha]; simp)] at hgi; exact hgi
                have hgm := hadL_mem hgr.had
                have hans := l18answers_c l from_ to has (w2[A]).req hfr (by unfold u64R; omega) (by have := h.hl; omega) (by have := hgr.body; omega)
                obtain ⟨g1, g2⟩ := ansC_good hgr h.hl
                have g3 := ansC_len l from_ to has (w2[A]).req
                generalize (ansC l from_ to has (w2[A]).req).1 = a at *
                generalize (ansC l from_ to has (w2[A]).req).2 = has' at *
                have g4 : has'.length = 20 := by have := h.hl; omega
                have g5 : ∀ x ∈ (w2.take A ++ w2.drop (A + 1)), GoodI l from_ to has' x := fun x hx => (hww.out x hx).kept g2
                have G3 : Hd (has'.length = 20) := ⟨g4⟩
                clear hgr hgm hgi g3 g4
                by_cases h200 : ((w2.take A ++ w2.drop (A + 1))).length < 200
                · have d9 : decide (((([] ++ cutN (List.map It.c w2) 0 (((IntKind.i64.wrap (BitVec.toNat (BitVec.ofInt IntKind.i64.bits ev[i].i &&& BitVec.ofInt IntKind.i64.bits 65535))).tmod ((List.map It.c w2).length : Int))).toNat) ++ cutN (List.map It.c w2) (IntKind.i64.wrap (((IntKind.i64.wrap (BitVec.toNat (BitVec.ofInt IntKind.i64.bits ev[i].i &&& BitVec.ofInt IntKind.i64.bits 65535))).tmod ((List.map It.c w2).length : Int)) + 1)).toNat (List.map It.c w2).length).length : Int) < 200) = true := by rw [hA', hA1, hcut, List.length_map]; simp only [decide_eq_true_eq]; omega
                  have d10 : decide (((List.map It.c (w2.take A ++ w2.drop (A + 1))).length : Int) < 200) = true := by rw [List.length_map]; simp only [decide_eq_true_eq]; omega
                  repeat' ((conv => whnf)
                           first
                           | with_reducible refine (Or.inl ?_ : VC _ _ _ _ _ ∨ _)
                           | ((with_reducible refine (⟨fun hc => ?_, fun hc => ?_⟩ : (_ = true → _) ∧ (_ = false → _))) <;> first | exact absurd hc (by decide) | (exfalso; simp only [*, reduceCtorEq] at hc; done) | skip)
                           | ((refine ⟨_, rowK _ _ _ hil, ?_⟩))
                           | ((refine ⟨_, rowE _ _ hA hAl, ?_⟩))
                           | (((with_reducible refine And.intro ?_ ?_); focus (rw [List.length_map]; omega)))
                           | (((with_reducible refine And.intro ?_ ?_); focus (rw [hA']; omega)))
                           | (((with_reducible refine And.intro ?_ ?_); focus (rw [hA', List.length_map]; omega)))
                           | (((with_reducible refine And.intro ?_ ?_); focus (rw [hA', hA1]; omega)))
                           | (((with_reducible refine And.intro ?_ ?_); focus (rw [hA', hA1, List.length_map]; omega)))
                           | (((with_reducible refine And.intro ?_ ?_); focus (rw [hA']; simp only [List.length_append, List.length_nil, cutN, List.length_take, List.length_drop, List.length_map]; omega)))
                           | (((with_reducible refine And.intro ?_ ?_); focus (rw [hA', hA1]; simp only [List.length_append, List.length_nil, cutN, List.length_take, List.length_drop, List.length_map]; omega)))
                           | (((with_reducible refine And.intro ?_ ?_); focus (rw [hA', hA1, hcut]; simp only [List.length_map, List.length_cons, List.length_nil]; omega)))
                           | (((with_reducible refine And.intro ?_ ?_); focus (simp only [List.length_append, List.length_cons, List.length_nil, List.length_map]; omega)))
                           | (refine Or.inl ?_; (conv => whnf); refine ⟨_, hans, ?_⟩)
                           | ((with_reducible refine And.intro ?_ ?_); focus (first | rfl | exact Nat.le_of_ble_eq_true rfl | omega | (simp only [List.length_cons, List.length_nil, List.length_map, List.length_append]; omega))))
                  refine ⟨⟨(i + 1, now, c, [], has', (w2.take A ++ w2.drop (A + 1)) ++ [itA a]), hD h.hnow ((h.hc.kept g2).more (Nat.le_succ _)) (by simp) (by simp) (by
                    intro x hx
                    rcases List.mem_append.1 hx with hx | hx
                    · exact g5 x hx
                    · simp only [List.mem_singleton] at hx
                      rw [hx]
                      exact g1) (by rw [List.length_append, List.length_singleton]; omega) G3.out⟩, hdec, ent_of ?_⟩
                  repeat' first
                    | fail
                    | exact True.intro
                    | exact rfl
                    | exact id
                    | exact leRs_refl _
                    | ((conv => whnf); with_reducible refine And.intro ?_ ?_)
                    | ((conv => whnf); exact True.intro)
                  all_goals try (conv => whnf)
                  all_goals first
                    | exact eW
                    | (rw [List.map_append]
                       refine leRs_app (by (rw [hA', hA1, hcut]; exact leRs_refl _)) ?_
                       (repeat' first | exact True.intro | exact rfl | exact id | exact leRs_refl _ | ((conv => whnf); with_reducible refine And.intro ?_ ?_) | ((conv => whnf); exact True.intro)); (all_goals try (conv => whnf)))
                · have d9 : decide (((([] ++ cutN (List.map It.c w2) 0 (((IntKind.i64.wrap (BitVec.toNat (BitVec.ofInt IntKind.i64.bits ev[i].i &&& BitVec.ofInt IntKind.i64.bits 65535))).tmod ((List.map It.c w2).length : Int))).toNat) ++ cutN (List.map It.c w2) (IntKind.i64.wrap (((IntKind.i64.wrap (BitVec.toNat (BitVec.ofInt IntKind.i64.bits ev[i].i &&& BitVec.ofInt IntKind.i64.bits 65535))).tmod ((List.map It.c w2).length : Int)) + 1)).toNat (List.map It.c w2).length).length : Int) < 200) = false := by rw [hA', hA1, hcut, List.length_map]; simp only [decide_eq_false_iff_not]; omega
                  have d10 : decide (((List.map It.c (w2.take A ++ w2.drop (A + 1))).length : Int) < 200) = false := by rw [List.length_map]; simp only [decide_eq_false_iff_not]; omega
                  repeat' ((conv => whnf)
                           first
                           | with_reducible refine (Or.inl ?_ : VC _ _ _ _ _ ∨ _)
                           | ((with_reducible refine (⟨fun hc => ?_, fun hc => ?_⟩ : (_ = true → _) ∧ (_ = false → _))) <;> first | exact absurd hc (by decide) | (exfalso; simp only [*, reduceCtorEq] at hc; done) | skip)
                           | ((refine ⟨_, rowK _ _ _ hil, ?_⟩))
                           | ((refine ⟨_, rowE _ _ hA hAl, ?_⟩))
                           | (((with_reducible refine And.intro ?_ ?_); focus (rw [List.length_map]; omega)))
                           | (((with_reducible refine And.intro ?_ ?_); focus (rw [hA']; omega)))
                           | (((with_reducible refine And.intro ?_ ?_); focus (rw [hA', List.length_map]; omega)))
                           | (((with_reducible refine And.intro ?_ ?_); focus (rw [hA', hA1]; omega)))
                           | (((with_reducible refine And.intro ?_ ?_); focus (rw [hA', hA1, List.length_map]; omega)))
                           | (((with_reducible refine And.intro ?_ ?_); focus (rw [hA']; simp only [List.length_append, List.length_nil, cutN, List.length_take, List.length_drop, List.length_map]; omega)))
                           | (((with_reducible refine And.intro ?_ ?_); focus (rw [hA', hA1]; simp only [List.length_append, List.length_nil, cutN, List.length_take, List.length_drop, List.length_map]; omega)))
                           | (((with_reducible refine And.intro ?_ ?_); focus (rw [hA', hA1, hcut]; simp only [List.length_map, List.length_cons, List.length_nil]; omega)))
                           | (((with_reducible refine And.intro ?_ ?_); focus (simp only [List.length_append, List.length_cons, List.length_nil, List.length_map]; omega)))
                           | (refine Or.inl ?_; (conv => whnf); refine ⟨_, hans, ?_⟩)
                           | ((with_reducible refine And.intro ?_ ?_); focus (first | rfl | exact Nat.le_of_ble_eq_true rfl | omega | (simp only [List.length_cons, List.length_nil, List.length_map, List.length_append]; omega))))
                  refine ⟨⟨(i + 1, now, c, [], has', (w2.take A ++ w2.drop (A + 1))), hD h.hnow ((h.hc.kept g2).more (Nat.le_succ _)) (by simp) (by simp) g5 hwwl.out G3.out⟩, hdec, ent_of ?_⟩
                  repeat' first
                    | fail
                    | exact True.intro
                    | exact rfl
                    | exact id
                    | exact leRs_refl _
                    | ((conv => whnf); with_reducible refine And.intro ?_ ?_)
                    | ((conv => whnf); exact True.intro)
                  all_goals try (conv => whnf)
                  all_goals first
                    | exact eW
                    | (rw [hA', hA1, hcut]; exact leRs_refl _)
      · have he1 := newC_err he
        rw [he1] at hnew
        repeat' ((conv => whnf)
                 first
                 | with_reducible refine (Or.inl ?_ : VC _ _ _ _ _ ∨ _)
                 | ((with_reducible refine (⟨fun hc => ?_, fun hc => ?_⟩ : (_ = true → _) ∧ (_ = false → _))) <;> first | exact absurd hc (by decide) | (exfalso; simp only [*, reduceCtorEq] at hc; done) | skip)
                 | (refine Or.inl ?_; (conv => whnf); refine ⟨_, hhv, ?_⟩)
                 | (refine Or.inl ?_; (conv => whnf); refine ⟨_, hmayc, ?_⟩)
                 | (refine Or.inl ?_; (conv => whnf); refine ⟨_, hnew, ?_⟩)
                 | (refine Or.inl ?_; (conv => whnf); refine ⟨_, l18awake_c, ?_⟩)
                 | ((with_reducible refine And.intro ?_ ?_); focus (first | rfl | exact Nat.le_of_ble_eq_true rfl | omega | (simp only [List.length_cons, List.length_nil, List.length_map, List.length_append]; omega))))
        all_goals
          repeat' first
            | fail
            | exact True.intro
            | exact rfl
            | exact id
            | exact leRs_refl _
            | ((conv => whnf); with_reducible refine And.intro ?_ ?_)
            | ((conv => whnf); exact True.intro)
          all_goals try (conv => whnf)
end Go.Proofs.Ytibbgchpgfpccaa.Tb

/-
  Contracts of functions of the program and of the document, each for every input that its premises name.
-/
import Derived.Test.YtpbjamihhkmgiaaR9
import Derived.Test.YtpbjamihhkmgiaaAe
set_option linter.unusedSectionVars false
set_option maxRecDepth 100000
set_option maxHeartbeats 4000000
set_option linter.unusedVariables false
set_option linter.unusedSimpArgs false
open Go Go.AX
namespace Go.Proofs.Ytpbjamihhkmgiaa.Tb
theorem fn_l16Twice : FnOk Try.prog 3 Try.f3 := ⟨Try.func3, by kernel_rfl, by kernel_rfl, by kernel_rfl⟩
theorem l16Twice_c (x : Lg) (epoch now : Int) (l : List Cr) (hx : lgR x) (hnow : u64R now) (hl : ∀ c ∈ l, crR c) :
    PCx Try.prog 3 [.agg x.c, uu epoch, uu now, slCr l] (bl true) := by
  refine PC.le ?_
  by_cases h120 : decide (((List.map Cr.c l).length : Int) > 120) = true
  · refine PC_of_VC tabOk (draw_ok mixed tabOk) fn_l16Twice rfl ?_
    repeat' ((conv => whnf); first | with_reducible refine (Or.inl ?_ : VC _ _ _ _ _ ∨ _) | ((with_reducible refine fk (fun hc => ?_) fun hc => ?_) <;> first | exact absurd hc (by decide) | (exfalso; simp only [*, reduceCtorEq] at hc; done) | skip) | (refine Or.inl (Or.inl ?_); (conv => whnf); refine ⟨_, l16awake_c, ?_⟩) | ((with_reducible apply And.intro); focus (first | rfl | exact Nat.le_of_ble_eq_true rfl | omega | (simp only [List.length_cons, List.length_nil, List.length_map, List.length_append]; omega))))
    all_goals
      repeat' first | (with_reducible first | exact ⟨⟩ | exact rfl | exact lr _) | ((conv => whnf); with_reducible first | apply And.intro | exact ⟨⟩) | exact rfl | exact id | exact lr _
      all_goals try (conv => whnf)
  have h120 : decide (((List.map Cr.c l).length : Int) > 120) = false := by simpa using h120
  have hlf := longFrags_c x.frags
  cases hh : longF x.frags with
  | true =>
    rw [hh] at hlf
    refine PC_of_VC tabOk (draw_ok mixed tabOk) fn_l16Twice rfl ?_
    repeat' ((conv => whnf); first | with_reducible refine (Or.inl ?_ : VC _ _ _ _ _ ∨ _) | ((with_reducible refine fk (fun hc => ?_) fun hc => ?_) <;> first | exact absurd hc (by decide) | (exfalso; simp only [*, reduceCtorEq] at hc; done) | skip) | (refine Or.inl (Or.inl ?_); (conv => whnf); refine ⟨_, hlf, ?_⟩) | (refine Or.inl (Or.inl ?_); (conv => whnf); refine ⟨_, l16awake_c, ?_⟩) | ((with_reducible apply And.intro); focus (first | rfl | exact Nat.le_of_ble_eq_true rfl | omega | (simp only [List.length_cons, List.length_nil, List.length_map, List.length_append]; omega))))
    all_goals
      repeat' first | (with_reducible first | exact ⟨⟩ | exact rfl | exact lr _) | ((conv => whnf); with_reducible first | apply And.intro | exact ⟨⟩) | exact rfl | exact id | exact lr _
      all_goals try (conv => whnf)
  | false =>
  rw [hh] at hlf
  obtain ⟨hfr, hok⟩ := frsOk_of hx hh
  have hnew := new_c x epoch now hok (fun hm => by
    obtain ⟨m1, m2, m3, m4, m5, m6⟩ := may_frag hm
    exact ⟨m1, by omega, fun f hf => by have := m3 f hf; omega⟩)
  by_cases he : (newR x epoch now).2.2 = 0
  rotate_left
  · have hE : ((newR x epoch now).2.2 != 0) = true := by simpa using he
    obtain ⟨⟨y, q, E⟩, hy⟩ : ∃ y, newR x epoch now = y := ⟨_, rfl⟩
    rw [hy] at hnew hE
    simp only at hnew hE
    clear he hy
    refine PC_of_VC tabOk (draw_ok mixed tabOk) fn_l16Twice rfl ?_
    repeat' ((conv => whnf); first | with_reducible refine (Or.inl ?_ : VC _ _ _ _ _ ∨ _) | ((with_reducible refine fk (fun hc => ?_) fun hc => ?_) <;> first | exact absurd hc (by decide) | (exfalso; simp only [*, reduceCtorEq] at hc; done) | skip) | (refine Or.inl (Or.inl ?_); (conv => whnf); refine ⟨_, hlf, ?_⟩) | (refine Or.inl (Or.inl ?_); (conv => whnf); refine ⟨_, hnew, ?_⟩) | (refine Or.inl (Or.inl ?_); (conv => whnf); refine ⟨_, l16awake_c, ?_⟩) | ((with_reducible apply And.intro); focus (first | rfl | exact Nat.le_of_ble_eq_true rfl | omega | (simp only [List.length_cons, List.length_nil, List.length_map, List.length_append]; omega))))
    all_goals
      repeat' first | (with_reducible first | exact ⟨⟩ | exact rfl | exact lr _) | ((conv => whnf); with_reducible first | apply And.intro | exact ⟨⟩) | exact rfl | exact id | exact lr _
      all_goals try (conv => whnf)
  obtain ⟨hmay, hinv⟩ := new_ok hnow he
  rw [he] at hnew
  obtain ⟨⟨y0, q0, E⟩, hy⟩ : ∃ y, newR x epoch now = y := ⟨_, rfl⟩
  rw [hy] at hnew hinv
  simp only at hnew hinv
  clear he hy hh hfr hok
  have hlen : l.length ≤ 120 := by simp only [decide_eq_false_iff_not, List.length_map] at h120; omega
  refine PC_of_VC tabOk (draw_ok mixed tabOk) fn_l16Twice rfl ?_
  repeat' ((conv => whnf); first | with_reducible refine (Or.inl ?_ : VC _ _ _ _ _ ∨ _) | ((with_reducible refine fk (fun hc => ?_) fun hc => ?_) <;> first | exact absurd hc (by decide) | (exfalso; simp only [*, reduceCtorEq] at hc; done) | skip) | (refine Or.inl (Or.inl ?_); (conv => whnf); refine ⟨_, hlf, ?_⟩) | (refine Or.inl (Or.inl ?_); (conv => whnf); refine ⟨_, hnew, ?_⟩) | ((with_reducible apply And.intro); focus (first | rfl | exact Nat.le_of_ble_eq_true rfl | omega | (simp only [List.length_cons, List.length_nil, List.length_map, List.length_append]; omega))))
  clear hlf hnew h120
  refine ⟨{p : Nat × Rv // p.1 ≤ l.length ∧ RInv x p.1 p.2}, fun ⟨(k, y), _⟩ => ⟨[(1, .pv (uu epoch)), (3, .pv (slCr l)), (4, .ptr 1004 0), (9, .ptr 1009 0), (12, .pv (ii k))], 1000000000, [(1004, .var (x.c.map .pv)), (1009, .var (y.c.map .pv))]⟩, fun ⟨(k, _), _⟩ => l.length - k, ⟨⟨(0, y0), Nat.zero_le _, hinv⟩, ent_of ?_⟩, ?_⟩
  · repeat' first
      | fail
      | with_reducible exact True.intro
      | with_reducible exact rfl
      | with_reducible exact leRs_refl _
      | ((conv => whnf); with_reducible apply And.intro)
      | ((conv => whnf); with_reducible exact True.intro)
      | exact rfl
      | exact id
      | exact leRs_refl _
    all_goals try (conv => whnf)
  rintro ⟨⟨k, y⟩, hk, hi⟩
  simp only at hk hi
  by_cases hlt : k < l.length
  rotate_left
  · have hke : k = l.length := by omega
    subst hke
    have d0 : decide ((l.length : Int) < ((List.map Cr.c l).length : Int)) = false := by rw [List.length_map]; simp
    repeat' ((conv => whnf); first | with_reducible refine (Or.inl ?_ : VC _ _ _ _ _ ∨ _) | ((with_reducible refine fk (fun hc => ?_) fun hc => ?_) <;> first | exact absurd hc (by decide) | (exfalso; simp only [*, reduceCtorEq] at hc; done) | skip) | (refine Or.inl (Or.inl ?_); (conv => whnf); refine ⟨_, l16awake_c, ?_⟩) | ((with_reducible apply And.intro); focus (first | rfl | exact Nat.le_of_ble_eq_true rfl | omega | (simp only [List.length_cons, List.length_nil, List.length_map, List.length_append]; omega))))
    repeat' first | (with_reducible first | exact ⟨⟩ | exact rfl | exact lr _) | ((conv => whnf); with_reducible first | apply And.intro | exact ⟨⟩) | exact rfl | exact id | exact lr _
    all_goals try (conv => whnf)
  have d0 : decide ((k : Int) < ((List.map Cr.c l).length : Int)) = true := by rw [List.length_map]; simp only [decide_eq_true_eq]; omega
  have eW : IntKind.i64.wrap ((k : Int) + 1) = ((k + 1 : Nat) : Int) := by rw [wrapI (by omega) (by omega)]; omega
  have hrow := rowK Cr.c l k hlt
  have hcr := hl _ (List.getElem_mem hlt)
  obtain ⟨c, hc0⟩ : ∃ c, l[k] = c := ⟨_, rfl⟩
  rw [hc0] at hrow hcr
  clear hc0 hl
  have hbig := hi.big hmay (by omega)
  have hsame := r16Same_r y hbig.sm
  by_cases h30 : decide (((List.map Pl.c c.known).length : Int) > 30) = true
  · repeat' ((conv => whnf)
             first
             | with_reducible refine (Or.inl ?_ : VC _ _ _ _ _ ∨ _)
             | ((with_reducible refine fk (fun hc => ?_) fun hc => ?_) <;> first | exact absurd hc (by decide) | (exfalso; simp only [*, reduceCtorEq] at hc; done) | skip)
             | ((refine ⟨_, hrow, ?_⟩))
             | (refine Or.inl (Or.inl ?_); (conv => whnf); refine ⟨_, l16awake_c, ?_⟩)
             | ((with_reducible apply And.intro); focus (first | rfl | exact Nat.le_of_ble_eq_true rfl | omega | (simp only [List.length_cons, List.length_nil, List.length_map, List.length_append]; omega))))
    all_goals
      repeat' first | (with_reducible first | exact ⟨⟩ | exact rfl | exact lr _) | ((conv => whnf); with_reducible first | apply And.intro | exact ⟨⟩) | exact rfl | exact id | exact lr _
      all_goals try (conv => whnf)
  have h30 : decide (((List.map Pl.c c.known).length : Int) > 30) = false := by simpa using h30
  by_cases h5k : decide (((List.map byteRow c.r.body).length : Int) > 5000) = true
  · repeat' ((conv => whnf)
             first
             | with_reducible refine (Or.inl ?_ : VC _ _ _ _ _ ∨ _)
             | ((with_reducible refine fk (fun hc => ?_) fun hc => ?_) <;> first | exact absurd hc (by decide) | (exfalso; simp only [*, reduceCtorEq] at hc; done) | skip)
             | ((refine ⟨_, hrow, ?_⟩))
             | (refine Or.inl (Or.inl ?_); (conv => whnf); refine ⟨_, l16awake_c, ?_⟩)
             | ((with_reducible apply And.intro); focus (first | rfl | exact Nat.le_of_ble_eq_true rfl | omega | (simp only [List.length_cons, List.length_nil, List.length_map, List.length_append]; omega))))
    all_goals
      repeat' first | (with_reducible first | exact ⟨⟩ | exact rfl | exact lr _) | ((conv => whnf); with_reducible first | apply And.intro | exact ⟨⟩) | exact rfl | exact id | exact lr _
      all_goals try (conv => whnf)
  have h5k : decide (((List.map byteRow c.r.body).length : Int) > 5000) = false := by simpa using h5k
  have hkn : c.known.length ≤ 1000 := by simp only [decide_eq_false_iff_not, List.length_map] at h30; omega
  have hbo : c.r.body.length ≤ 5000 := by simp only [decide_eq_false_iff_not, List.length_map] at h5k; omega
  have htick := tick_c hmay hi (by omega) hcr.1 c.known hkn
  obtain ⟨t1, t2, t3⟩ := tick_ok hmay hi hcr.1 c.known
  obtain ⟨⟨zt, qt⟩, hzt⟩ : ∃ z, tickR y c.now c.known = z := ⟨_, rfl⟩
  rw [hzt] at htick t1 t2 t3
  simp only at htick t1 t2 t3
  clear hzt hkn
  have dt : decide (zt.n < y.n) = false := by simp only [decide_eq_false_iff_not]; omega
  clear t2
  have takes : ∀ r : Rs, r.body = c.r.body → r.sure = c.r.sure → ∃ (z : Rv) (q : List Rq), PCx Try.prog 9 [.agg y.c, uu c.now, .agg r.c] (.tup [.agg z.c, slR q]) ∧ PCx Try.prog 9 [.agg z.c, uu c.now, .agg r.c] (.tup [.agg z.c, slR []]) ∧ RInv x (k + 1) z ∧ decide (z.n < y.n) = false ∧ decide (z.sure < y.sure) = false ∧ (y.phase = 4 → z = y) ∧ PCx Try.prog 8 [.agg z.c, .agg z.c] (bl true) := by
    intro r hrb hrs
    have h1 := take_c y c.now r hbig (by rw [hrb]; omega)
    obtain ⟨o1, o2, o3, o4, o5⟩ := take_ok hmay hi hcr.1 (r := r) (by rw [hrs]; exact hcr.2.1) (by rw [hrb]; omega)
    have hb2 := o1.big hmay (by omega)
    have h2 := take_c (takeR y c.now r).1 c.now r hb2 (by rw [hrb]; omega)
    rw [o5] at h2
    exact ⟨_, _, h1, h2, o1, by simp only [decide_eq_false_iff_not]; omega, by simp only [decide_eq_false_iff_not]; omega, o4, r16Same_r _ hb2.sm⟩
  clear hbig hcr hbo
  have hz0 : (((List.map Rq.c []).length : Int) != 0) = false := by rfl
  cases p4 : (y.phase == 4) with
  | true =>
    have hp4 : y.phase = 4 := by simpa using p4
    have hzt := t3 hp4
    subst hzt
    clear t3
    cases o1 : decide (c.own > 0) <;> cases o2 : decide (c.own > 1)
    · obtain ⟨z, q, k1, k2, k3, k4, k5, k6, k7⟩ := takes c.r rfl rfl
      have hz := k6 hp4
      subst hz
      clear k6 hp4 takes
      repeat' ((conv => whnf); first | with_reducible refine (Or.inl ?_ : VC _ _ _ _ _ ∨ _) | ((with_reducible refine fk (fun hc => ?_) fun hc => ?_) <;> first | exact absurd hc (by decide) | (exfalso; simp only [*, reduceCtorEq] at hc; done) | skip) | ((refine ⟨_, hrow, ?_⟩)) | (refine Or.inl (Or.inl ?_); (conv => whnf); refine ⟨_, PCx_pre (htick) ?_, ?_⟩; focus ((repeat' first | (with_reducible first | exact ⟨⟩ | exact rfl | exact lr _) | ((conv => whnf); with_reducible first | apply And.intro | exact ⟨⟩) | exact rfl | exact id | assumption | exact lr _); done)) | (refine Or.inl (Or.inl ?_); (conv => whnf); refine ⟨_, PCx_pre (hsame) ?_, ?_⟩; focus ((repeat' first | (with_reducible first | exact ⟨⟩ | exact rfl | exact lr _) | ((conv => whnf); with_reducible first | apply And.intro | exact ⟨⟩) | exact rfl | exact id | assumption | exact lr _); done)) | (refine Or.inl (Or.inl ?_); (conv => whnf); refine ⟨_, PCx_pre (k2) ?_, ?_⟩; focus ((repeat' first | (with_reducible first | exact ⟨⟩ | exact rfl | exact lr _) | ((conv => whnf); with_reducible first | apply And.intro | exact ⟨⟩) | exact rfl | exact id | assumption | exact lr _); done)) | (refine Or.inl (Or.inl ?_); (conv => whnf); refine ⟨_, PCx_pre (k7) ?_, ?_⟩; focus ((repeat' first | (with_reducible first | exact ⟨⟩ | exact rfl | exact lr _) | ((conv => whnf); with_reducible first | apply And.intro | exact ⟨⟩) | exact rfl | exact id | assumption | exact lr _); done)) | ((with_reducible apply And.intro); focus (first | rfl | exact Nat.le_of_ble_eq_true rfl | omega | (simp only [List.length_cons, List.length_nil, List.length_map, List.length_append]; omega))))
      all_goals
        first
          | (refine ⟨⟨(k + 1, z), hlt, k3⟩, dec_lt hlt, ent_of ?_⟩)
          | skip
        repeat' first | (with_reducible first | exact ⟨⟩ | exact rfl | exact lr _) | ((conv => whnf); with_reducible first | apply And.intro | exact ⟨⟩) | exact rfl | exact id | exact lr _
        all_goals try (conv => whnf)
      all_goals exact eW
    · obtain ⟨z, q, k1, k2, k3, k4, k5, k6, k7⟩ := takes ({ c.r with n := zt.n } : Rs) rfl rfl
      have hz := k6 hp4
      subst hz
      clear k6 hp4 takes
      repeat' ((conv => whnf); first | with_reducible refine (Or.inl ?_ : VC _ _ _ _ _ ∨ _) | ((with_reducible refine fk (fun hc => ?_) fun hc => ?_) <;> first | exact absurd hc (by decide) | (exfalso; simp only [*, reduceCtorEq] at hc; done) | skip) | ((refine ⟨_, hrow, ?_⟩)) | (refine Or.inl (Or.inl ?_); (conv => whnf); refine ⟨_, PCx_pre (htick) ?_, ?_⟩; focus ((repeat' first | (with_reducible first | exact ⟨⟩ | exact rfl | exact lr _) | ((conv => whnf); with_reducible first | apply And.intro | exact ⟨⟩) | exact rfl | exact id | assumption | exact lr _); done)) | (refine Or.inl (Or.inl ?_); (conv => whnf); refine ⟨_, PCx_pre (hsame) ?_, ?_⟩; focus ((repeat' first | (with_reducible first | exact ⟨⟩ | exact rfl | exact lr _) | ((conv => whnf); with_reducible first | apply And.intro | exact ⟨⟩) | exact rfl | exact id | assumption | exact lr _); done)) | (refine Or.inl (Or.inl ?_); (conv => whnf); refine ⟨_, PCx_pre (k2) ?_, ?_⟩; focus ((repeat' first | (with_reducible first | exact ⟨⟩ | exact rfl | exact lr _) | ((conv => whnf); with_reducible first | apply And.intro | exact ⟨⟩) | exact rfl | exact id | assumption | exact lr _); done)) | (refine Or.inl (Or.inl ?_); (conv => whnf); refine ⟨_, PCx_pre (k7) ?_, ?_⟩; focus ((repeat' first | (with_reducible first | exact ⟨⟩ | exact rfl | exact lr _) | ((conv => whnf); with_reducible first | apply And.intro | exact ⟨⟩) | exact rfl | exact id | assumption | exact lr _); done)) | ((with_reducible apply And.intro); focus (first | rfl | exact Nat.le_of_ble_eq_true rfl | omega | (simp only [List.length_cons, List.length_nil, List.length_map, List.length_append]; omega))))
      all_goals
        first
          | (refine ⟨⟨(k + 1, z), hlt, k3⟩, dec_lt hlt, ent_of ?_⟩)
          | skip
        repeat' first | (with_reducible first | exact ⟨⟩ | exact rfl | exact lr _) | ((conv => whnf); with_reducible first | apply And.intro | exact ⟨⟩) | exact rfl | exact id | exact lr _
        all_goals try (conv => whnf)
      all_goals exact eW
    · obtain ⟨z, q, k1, k2, k3, k4, k5, k6, k7⟩ := takes ({ c.r with ledger := x.id, epoch := epoch } : Rs) rfl rfl
      have hz := k6 hp4
      subst hz
      clear k6 hp4 takes
      repeat' ((conv => whnf); first | with_reducible refine (Or.inl ?_ : VC _ _ _ _ _ ∨ _) | ((with_reducible refine fk (fun hc => ?_) fun hc => ?_) <;> first | exact absurd hc (by decide) | (exfalso; simp only [*, reduceCtorEq] at hc; done) | skip) | ((refine ⟨_, hrow, ?_⟩)) | (refine Or.inl (Or.inl ?_); (conv => whnf); refine ⟨_, PCx_pre (htick) ?_, ?_⟩; focus ((repeat' first | (with_reducible first | exact ⟨⟩ | exact rfl | exact lr _) | ((conv => whnf); with_reducible first | apply And.intro | exact ⟨⟩) | exact rfl | exact id | assumption | exact lr _); done)) | (refine Or.inl (Or.inl ?_); (conv => whnf); refine ⟨_, PCx_pre (hsame) ?_, ?_⟩; focus ((repeat' first | (with_reducible first | exact ⟨⟩ | exact rfl | exact lr _) | ((conv => whnf); with_reducible first | apply And.intro | exact ⟨⟩) | exact rfl | exact id | assumption | exact lr _); done)) | (refine Or.inl (Or.inl ?_); (conv => whnf); refine ⟨_, PCx_pre (k2) ?_, ?_⟩; focus ((repeat' first | (with_reducible first | exact ⟨⟩ | exact rfl | exact lr _) | ((conv => whnf); with_reducible first | apply And.intro | exact ⟨⟩) | exact rfl | exact id | assumption | exact lr _); done)) | (refine Or.inl (Or.inl ?_); (conv => whnf); refine ⟨_, PCx_pre (k7) ?_, ?_⟩; focus ((repeat' first | (with_reducible first | exact ⟨⟩ | exact rfl | exact lr _) | ((conv => whnf); with_reducible first | apply And.intro | exact ⟨⟩) | exact rfl | exact id | assumption | exact lr _); done)) | ((with_reducible apply And.intro); focus (first | rfl | exact Nat.le_of_ble_eq_true rfl | omega | (simp only [List.length_cons, List.length_nil, List.length_map, List.length_append]; omega))))
      all_goals
        first
          | (refine ⟨⟨(k + 1, z), hlt, k3⟩, dec_lt hlt, ent_of ?_⟩)
          | skip
        repeat' first | (with_reducible first | exact ⟨⟩ | exact rfl | exact lr _) | ((conv => whnf); with_reducible first | apply And.intro | exact ⟨⟩) | exact rfl | exact id | exact lr _
        all_goals try (conv => whnf)
      all_goals exact eW
    · obtain ⟨z, q, k1, k2, k3, k4, k5, k6, k7⟩ := takes ({ c.r with ledger := x.id, epoch := epoch, n := zt.n } : Rs) rfl rfl
      have hz := k6 hp4
      subst hz
      clear k6 hp4 takes
      repeat' ((conv => whnf); first | with_reducible refine (Or.inl ?_ : VC _ _ _ _ _ ∨ _) | ((with_reducible refine fk (fun hc => ?_) fun hc => ?_) <;> first | exact absurd hc (by decide) | (exfalso; simp only [*, reduceCtorEq] at hc; done) | skip) | ((refine ⟨_, hrow, ?_⟩)) | (refine Or.inl (Or.inl ?_); (conv => whnf); refine ⟨_, PCx_pre (htick) ?_, ?_⟩; focus ((repeat' first | (with_reducible first | exact ⟨⟩ | exact rfl | exact lr _) | ((conv => whnf); with_reducible first | apply And.intro | exact ⟨⟩) | exact rfl | exact id | assumption | exact lr _); done)) | (refine Or.inl (Or.inl ?_); (conv => whnf); refine ⟨_, PCx_pre (hsame) ?_, ?_⟩; focus ((repeat' first | (with_reducible first | exact ⟨⟩ | exact rfl | exact lr _) | ((conv => whnf); with_reducible first | apply And.intro | exact ⟨⟩) | exact rfl | exact id | assumption | exact lr _); done)) | (refine Or.inl (Or.inl ?_); (conv => whnf); refine ⟨_, PCx_pre (k2) ?_, ?_⟩; focus ((repeat' first | (with_reducible first | exact ⟨⟩ | exact rfl | exact lr _) | ((conv => whnf); with_reducible first | apply And.intro | exact ⟨⟩) | exact rfl | exact id | assumption | exact lr _); done)) | (refine Or.inl (Or.inl ?_); (conv => whnf); refine ⟨_, PCx_pre (k7) ?_, ?_⟩; focus ((repeat' first | (with_reducible first | exact ⟨⟩ | exact rfl | exact lr _) | ((conv => whnf); with_reducible first | apply And.intro | exact ⟨⟩) | exact rfl | exact id | assumption | exact lr _); done)) | ((with_reducible apply And.intro); focus (first | rfl | exact Nat.le_of_ble_eq_true rfl | omega | (simp only [List.length_cons, List.length_nil, List.length_map, List.length_append]; omega))))
      all_goals
        first
          | (refine ⟨⟨(k + 1, z), hlt, k3⟩, dec_lt hlt, ent_of ?_⟩)
          | skip
        repeat' first | (with_reducible first | exact ⟨⟩ | exact rfl | exact lr _) | ((conv => whnf); with_reducible first | apply And.intro | exact ⟨⟩) | exact rfl | exact id | exact lr _
        all_goals try (conv => whnf)
      all_goals exact eW
  | false =>
    clear t3
    cases o1 : decide (c.own > 0) <;> cases o2 : decide (c.own > 1)
    · obtain ⟨z, q, k1, k2, k3, k4, k5, k6, k7⟩ := takes c.r rfl rfl
      clear k6 takes
      repeat' ((conv => whnf); first | with_reducible refine (Or.inl ?_ : VC _ _ _ _ _ ∨ _) | ((with_reducible refine fk (fun hc => ?_) fun hc => ?_) <;> first | exact absurd hc (by decide) | (exfalso; simp only [*, reduceCtorEq] at hc; done) | skip) | ((refine ⟨_, hrow, ?_⟩)) | (refine Or.inl (Or.inl ?_); (conv => whnf); refine ⟨_, PCx_pre (htick) ?_, ?_⟩; focus ((repeat' first | (with_reducible first | exact ⟨⟩ | exact rfl | exact lr _) | ((conv => whnf); with_reducible first | apply And.intro | exact ⟨⟩) | exact rfl | exact id | assumption | exact lr _); done)) | (refine Or.inl (Or.inl ?_); (conv => whnf); refine ⟨_, PCx_pre (k1) ?_, ?_⟩; focus ((repeat' first | (with_reducible first | exact ⟨⟩ | exact rfl | exact lr _) | ((conv => whnf); with_reducible first | apply And.intro | exact ⟨⟩) | exact rfl | exact id | assumption | exact lr _); done)) | (refine Or.inl (Or.inl ?_); (conv => whnf); refine ⟨_, PCx_pre (k2) ?_, ?_⟩; focus ((repeat' first | (with_reducible first | exact ⟨⟩ | exact rfl | exact lr _) | ((conv => whnf); with_reducible first | apply And.intro | exact ⟨⟩) | exact rfl | exact id | assumption | exact lr _); done)) | (refine Or.inl (Or.inl ?_); (conv => whnf); refine ⟨_, PCx_pre (k7) ?_, ?_⟩; focus ((repeat' first | (with_reducible first | exact ⟨⟩ | exact rfl | exact lr _) | ((conv => whnf); with_reducible first | apply And.intro | exact ⟨⟩) | exact rfl | exact id | assumption | exact lr _); done)) | ((with_reducible apply And.intro); focus (first | rfl | exact Nat.le_of_ble_eq_true rfl | omega | (simp only [List.length_cons, List.length_nil, List.length_map, List.length_append]; omega))))
      all_goals
        first
          | (refine ⟨⟨(k + 1, z), hlt, k3⟩, dec_lt hlt, ent_of ?_⟩; (repeat' first | (with_reducible first | exact ⟨⟩ | exact rfl | exact lr _) | ((conv => whnf); with_reducible first | apply And.intro | exact ⟨⟩) | exact rfl | exact id | exact lr _); (all_goals try (conv => whnf)); done)
          | (refine ⟨⟨(k + 1, z), hlt, k3⟩, dec_lt hlt, ent_of ?_⟩; (repeat' first | (with_reducible first | exact ⟨⟩ | exact rfl | exact lr _) | ((conv => whnf); with_reducible first | apply And.intro | exact ⟨⟩) | exact rfl | exact id | exact lr _); (all_goals try (conv => whnf)); exact eW)
          | (refine ⟨⟨(k + 1, zt), hlt, t1⟩, dec_lt hlt, ent_of ?_⟩; (repeat' first | (with_reducible first | exact ⟨⟩ | exact rfl | exact lr _) | ((conv => whnf); with_reducible first | apply And.intro | exact ⟨⟩) | exact rfl | exact id | exact lr _); (all_goals try (conv => whnf)); exact eW)
    · obtain ⟨z, q, k1, k2, k3, k4, k5, k6, k7⟩ := takes ({ c.r with n := y.n } : Rs) rfl rfl
      clear k6 takes
      repeat' ((conv => whnf); first | with_reducible refine (Or.inl ?_ : VC _ _ _ _ _ ∨ _) | ((with_reducible refine fk (fun hc => ?_) fun hc => ?_) <;> first | exact absurd hc (by decide) | (exfalso; simp only [*, reduceCtorEq] at hc; done) | skip) | ((refine ⟨_, hrow, ?_⟩)) | (refine Or.inl (Or.inl ?_); (conv => whnf); refine ⟨_, PCx_pre (htick) ?_, ?_⟩; focus ((repeat' first | (with_reducible first | exact ⟨⟩ | exact rfl | exact lr _) | ((conv => whnf); with_reducible first | apply And.intro | exact ⟨⟩) | exact rfl | exact id | assumption | exact lr _); done)) | (refine Or.inl (Or.inl ?_); (conv => whnf); refine ⟨_, PCx_pre (k1) ?_, ?_⟩; focus ((repeat' first | (with_reducible first | exact ⟨⟩ | exact rfl | exact lr _) | ((conv => whnf); with_reducible first | apply And.intro | exact ⟨⟩) | exact rfl | exact id | assumption | exact lr _); done)) | (refine Or.inl (Or.inl ?_); (conv => whnf); refine ⟨_, PCx_pre (k2) ?_, ?_⟩; focus ((repeat' first | (with_reducible first | exact ⟨⟩ | exact rfl | exact lr _) | ((conv => whnf); with_reducible first | apply And.intro | exact ⟨⟩) | exact rfl | exact id | assumption | exact lr _); done)) | (refine Or.inl (Or.inl ?_); (conv => whnf); refine ⟨_, PCx_pre (k7) ?_, ?_⟩; focus ((repeat' first | (with_reducible first | exact ⟨⟩ | exact rfl | exact lr _) | ((conv => whnf); with_reducible first | apply And.intro | exact ⟨⟩) | exact rfl | exact id | assumption | exact lr _); done)) | ((with_reducible apply And.intro); focus (first | rfl | exact Nat.le_of_ble_eq_true rfl | omega | (simp only [List.length_cons, List.length_nil, List.length_map, List.length_append]; omega))))
      all_goals
        first
          | (refine ⟨⟨(k + 1, z), hlt, k3⟩, dec_lt hlt, ent_of ?_⟩; (repeat' first | (with_reducible first | exact ⟨⟩ | exact rfl | exact lr _) | ((conv => whnf); with_reducible first | apply And.intro | exact ⟨⟩) | exact rfl | exact id | exact lr _); (all_goals try (conv => whnf)); done)
          | (refine ⟨⟨(k + 1, z), hlt, k3⟩, dec_lt hlt, ent_of ?_⟩; (repeat' first | (with_reducible first | exact ⟨⟩ | exact rfl | exact lr _) | ((conv => whnf); with_reducible first | apply And.intro | exact ⟨⟩) | exact rfl | exact id | exact lr _); (all_goals try (conv => whnf)); exact eW)
          | (refine ⟨⟨(k + 1, zt), hlt, t1⟩, dec_lt hlt, ent_of ?_⟩; (repeat' first | (with_reducible first | exact ⟨⟩ | exact rfl | exact lr _) | ((conv => whnf); with_reducible first | apply And.intro | exact ⟨⟩) | exact rfl | exact id | exact lr _); (all_goals try (conv => whnf)); exact eW)
    · obtain ⟨z, q, k1, k2, k3, k4, k5, k6, k7⟩ := takes ({ c.r with ledger := x.id, epoch := epoch } : Rs) rfl rfl
      clear k6 takes
      repeat' ((conv => whnf); first | with_reducible refine (Or.inl ?_ : VC _ _ _ _ _ ∨ _) | ((with_reducible refine fk (fun hc => ?_) fun hc => ?_) <;> first | exact absurd hc (by decide) | (exfalso; simp only [*, reduceCtorEq] at hc; done) | skip) | ((refine ⟨_, hrow, ?_⟩)) | (refine Or.inl (Or.inl ?_); (conv => whnf); refine ⟨_, PCx_pre (htick) ?_, ?_⟩; focus ((repeat' first | (with_reducible first | exact ⟨⟩ | exact rfl | exact lr _) | ((conv => whnf); with_reducible first | apply And.intro | exact ⟨⟩) | exact rfl | exact id | assumption | exact lr _); done)) | (refine Or.inl (Or.inl ?_); (conv => whnf); refine ⟨_, PCx_pre (k1) ?_, ?_⟩; focus ((repeat' first | (with_reducible first | exact ⟨⟩ | exact rfl | exact lr _) | ((conv => whnf); with_reducible first | apply And.intro | exact ⟨⟩) | exact rfl | exact id | assumption | exact lr _); done)) | (refine Or.inl (Or.inl ?_); (conv => whnf); refine ⟨_, PCx_pre (k2) ?_, ?_⟩; focus ((repeat' first | (with_reducible first | exact ⟨⟩ | exact rfl | exact lr _) | ((conv => whnf); with_reducible first | apply And.intro | exact ⟨⟩) | exact rfl | exact id | assumption | exact lr _); done)) | (refine Or.inl (Or.inl ?_); (conv => whnf); refine ⟨_, PCx_pre (k7) ?_, ?_⟩; focus ((repeat' first | (with_reducible first | exact ⟨⟩ | exact rfl | exact lr _) | ((conv => whnf); with_reducible first | apply And.intro | exact ⟨⟩) | exact rfl | exact id | assumption | exact lr _); done)) | ((with_reducible apply And.intro); focus (first | rfl | exact Nat.le_of_ble_eq_true rfl | omega | (simp only [List.length_cons, List.length_nil, List.length_map, List.length_append]; omega))))
      all_goals
        first
          | (refine ⟨⟨(k + 1, z), hlt, k3⟩, dec_lt hlt, ent_of ?_⟩; (repeat' first | (with_reducible first | exact ⟨⟩ | exact rfl | exact lr _) | ((conv => whnf); with_reducible first | apply And.intro | exact ⟨⟩) | exact rfl | exact id | exact lr _); (all_goals try (conv => whnf)); done)
          | (refine ⟨⟨(k + 1, z), hlt, k3⟩, dec_lt hlt, ent_of ?_⟩; (repeat' first | (with_reducible first | exact ⟨⟩ | exact rfl | exact lr _) | ((conv => whnf); with_reducible first | apply And.intro | exact ⟨⟩) | exact rfl | exact id | exact lr _); (all_goals try (conv => whnf)); exact eW)
          | (refine ⟨⟨(k + 1, zt), hlt, t1⟩, dec_lt hlt, ent_of ?_⟩; (repeat' first | (with_reducible first | exact ⟨⟩ | exact rfl | exact lr _) | ((conv => whnf); with_reducible first | apply And.intro | exact ⟨⟩) | exact rfl | exact id | exact lr _); (all_goals try (conv => whnf)); exact eW)
    · obtain ⟨z, q, k1, k2, k3, k4, k5, k6, k7⟩ := takes ({ c.r with ledger := x.id, epoch := epoch, n := y.n } : Rs) rfl rfl
      clear k6 takes
      repeat' ((conv => whnf); first | with_reducible refine (Or.inl ?_ : VC _ _ _ _ _ ∨ _) | ((with_reducible refine fk (fun hc => ?_) fun hc => ?_) <;> first | exact absurd hc (by decide) | (exfalso; simp only [*, reduceCtorEq] at hc; done) | skip) | ((refine ⟨_, hrow, ?_⟩)) | (refine Or.inl (Or.inl ?_); (conv => whnf); refine ⟨_, PCx_pre (htick) ?_, ?_⟩; focus ((repeat' first | (with_reducible first | exact ⟨⟩ | exact rfl | exact lr _) | ((conv => whnf); with_reducible first | apply And.intro | exact ⟨⟩) | exact rfl | exact id | assumption | exact lr _); done)) | (refine Or.inl (Or.inl ?_); (conv => whnf); refine ⟨_, PCx_pre (k1) ?_, ?_⟩; focus ((repeat' first | (with_reducible first | exact ⟨⟩ | exact rfl | exact lr _) | ((conv => whnf); with_reducible first | apply And.intro | exact ⟨⟩) | exact rfl | exact id | assumption | exact lr _); done)) | (refine Or.inl (Or.inl ?_); (conv => whnf); refine ⟨_, PCx_pre (k2) ?_, ?_⟩; focus ((repeat' first | (with_reducible first | exact ⟨⟩ | exact rfl | exact lr _) | ((conv => whnf); with_reducible first | apply And.intro | exact ⟨⟩) | exact rfl | exact id | assumption | exact lr _); done)) | (refine Or.inl (Or.inl ?_); (conv => whnf); refine ⟨_, PCx_pre (k7) ?_, ?_⟩; focus ((repeat' first | (with_reducible first | exact ⟨⟩ | exact rfl | exact lr _) | ((conv => whnf); with_reducible first | apply And.intro | exact ⟨⟩) | exact rfl | exact id | assumption | exact lr _); done)) | ((with_reducible apply And.intro); focus (first | rfl | exact Nat.le_of_ble_eq_true rfl | omega | (simp only [List.length_cons, List.length_nil, List.length_map, List.length_append]; omega))))
      all_goals
        first
          | (refine ⟨⟨(k + 1, z), hlt, k3⟩, dec_lt hlt, ent_of ?_⟩; (repeat' first | (with_reducible first | exact ⟨⟩ | exact rfl | exact lr _) | ((conv => whnf); with_reducible first | apply And.intro | exact ⟨⟩) | exact rfl | exact id | exact lr _); (all_goals try (conv => whnf)); done)
          | (refine ⟨⟨(k + 1, z), hlt, k3⟩, dec_lt hlt, ent_of ?_⟩; (repeat' first | (with_reducible first | exact ⟨⟩ | exact rfl | exact lr _) | ((conv => whnf); with_reducible first | apply And.intro | exact ⟨⟩) | exact rfl | exact id | exact lr _); (all_goals try (conv => whnf)); exact eW)
          | (refine ⟨⟨(k + 1, zt), hlt, t1⟩, dec_lt hlt, ent_of ?_⟩; (repeat' first | (with_reducible first | exact ⟨⟩ | exact rfl | exact lr _) | ((conv => whnf); with_reducible first | apply And.intro | exact ⟨⟩) | exact rfl | exact id | exact lr _); (all_goals try (conv => whnf)); exact eW)
end Go.Proofs.Ytpbjamihhkmgiaa.Tb

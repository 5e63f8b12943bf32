/-
  Contracts of functions of the program and of the document, each for every input that its premises name.
-/
import Derived.Test.YtibbgchpgfpccaaFH
import Derived.Test.YtibbgchpgfpccaaAd
set_option maxRecDepth 100000
set_option maxHeartbeats 4000000
set_option linter.unusedVariables false
set_option linter.unusedSimpArgs false
open Go Go.AX
namespace Go.Proofs.Ytibbgchpgfpccaa.Tb
theorem steps (n : Int) (f : Ft) (g : GoodF n f) (h1 : 1 ≤ n) (h8 : n ≤ 8) (now : Int) (hnow : u64R now) (r : Rs) (hr : r.body.length ≤ 5000) (m : Lg) (hm : lgR m) (hlm : longF m.frags = false) :
    (∃ F Q, PCx Try.prog 13 [.agg f.c, uu now] (.tup [.agg F.c, slR Q]) ∧ StepOK n f F Q (f.set.any (fun y => y == r.from_) = true)) ∧
    (∃ F Q, PCx Try.prog 16 [.agg f.c, uu now, .agg r.c] (.tup [.agg F.c, slR Q]) ∧ StepOK n f F Q (f.set.any (fun y => y == r.from_) = true)) ∧
    (∃ F Q, PCx Try.prog 17 [.agg f.c, uu now, .agg m.c] (.tup [.agg F.c, slR Q]) ∧ StepOK n f F Q (f.set.any (fun y => y == r.from_) = true)) := by
  have hat : -9223372036854775808 ≤ f.at_ ∧ f.at_ < 9223372036854775807 := ⟨by have := g.at0; omega, by have := g.at1; have := g.len; omega⟩
  obtain ⟨hfr, hok⟩ := frsOk_of hm hlm
  refine ⟨⟨_, _, rTick_c f now g.sm hat hnow g.since, tickP_ok g hnow _⟩, ⟨_, _, rTake_c f now r g.sm (by omega) hat, takeP_ok g hnow r hr⟩, ⟨_, _, rMoved_c f now m g.sm hok hfr (by rw [g.n]; omega), movedP_ok g hnow m h1 _⟩⟩
theorem fn_l17Stays : FnOk Try.prog 4 Try.f4 := ⟨Try.func4, by kernel_rfl, by kernel_rfl, by kernel_rfl⟩
theorem l17Stays_c (x : Lg) (n tag now : Int) (l : List Cl) (hx : lgR x) (hn : u64R n) (ht : u64R tag) (hnow : u64R now) (hl : ∀ c ∈ l, clR c) :
    PCx Try.prog 4 [.agg x.c, uu n, uu tag, uu now, slC l] (bl true) := by
  refine PC.le ?_
  refine PC_of_VC tabOk (draw_ok mixed tabOk) fn_l17Stays rfl ?_
  have hhv := l17heavy_c x l
  cases hh : heavyR x l with
  | true =>
    rw [hh] at hhv
    repeat' ((conv => whnf)
             first
             | with_reducible refine (Or.inl ?_ : VC _ _ _ _ _ ∨ _)
             | ((with_reducible refine (⟨fun hc => ?_, fun hc => ?_⟩ : (_ = true → _) ∧ (_ = false → _))) <;> first | exact absurd hc (by decide) | (exfalso; simp only [*, reduceCtorEq] at hc; done) | skip)
             | (refine Or.inl ?_; (conv => whnf); refine ⟨_, hhv, ?_⟩)
             | (refine Or.inl ?_; (conv => whnf); refine ⟨_, l17awake_c, ?_⟩)
             | ((with_reducible refine And.intro ?_ ?_); focus (first | rfl | exact Nat.le_of_ble_eq_true rfl | omega | (simp only [List.length_cons, List.length_nil, List.length_map, List.length_append]; omega))))
    repeat' first
      | fail
      | exact True.intro
      | exact rfl
      | exact id
      | exact leRs_refl _
      | ((conv => whnf); with_reducible refine And.intro ?_ ?_)
      | ((conv => whnf); exact True.intro)
    all_goals try (conv => whnf)
  | false =>
    rw [hh] at hhv
    obtain ⟨hlen, hlx, hlc⟩ := heavyR_false hh
    obtain ⟨hfr, hok⟩ := frsOk_of hx hlx
    have hnew := rNew_c x n tag now hok hfr hn
    by_cases he : (newP x n tag now).2.2 = 0
    · obtain ⟨g0, n1, n8, -⟩ := newP_good he hnow
      rw [he] at hnew
      generalize (newP x n tag now).1 = f0 at *
      generalize (newP x n tag now).2.1 = q0 at *
      repeat' ((conv => whnf)
               first
               | with_reducible refine (Or.inl ?_ : VC _ _ _ _ _ ∨ _)
               | ((with_reducible refine (⟨fun hc => ?_, fun hc => ?_⟩ : (_ = true → _) ∧ (_ = false → _))) <;> first | exact absurd hc (by decide) | (exfalso; simp only [*, reduceCtorEq] at hc; done) | skip)
               | (refine Or.inl ?_; (conv => whnf); refine ⟨_, hhv, ?_⟩)
               | (refine Or.inl ?_; (conv => whnf); refine ⟨_, hnew, ?_⟩)
               | (refine Or.inl ?_; (conv => whnf); refine ⟨_, l17awake_c, ?_⟩)
               | ((with_reducible refine And.intro ?_ ?_); focus (first | rfl | exact Nat.le_of_ble_eq_true rfl | omega | (simp only [List.length_cons, List.length_nil, List.length_map, List.length_append]; omega))))
      refine ⟨{p : Nat × Ft // p.1 ≤ l.length ∧ GoodF n p.2}, fun ⟨(k, f), _⟩ => ⟨[(1, .pv (uu n)), (2, .pv (uu tag)), (4, .pv (slC l)), (5, .ptr 1005 0), (11, .ptr 1011 0), (14, .pv (ii k))], 1000000000, [(1005, .var (x.c.map .pv)), (1011, .var (f.c.map .pv))]⟩, fun ⟨(k, _), _⟩ => l.length - k, ⟨⟨(0, f0), by simp, g0⟩, ent_of ?_⟩, ?_⟩
      · repeat' first
          | fail
          | exact True.intro
          | exact rfl
          | exact id
          | exact leRs_refl _
          | ((conv => whnf); with_reducible refine And.intro ?_ ?_)
          | ((conv => whnf); exact True.intro)
        all_goals try (conv => whnf)
      rintro ⟨⟨k, f⟩, hk, g⟩
      simp only at hk g
      repeat' ((conv => whnf)
               first
               | with_reducible refine (Or.inl ?_ : VC _ _ _ _ _ ∨ _)
               | ((with_reducible refine (⟨fun hc => ?_, fun hc => ?_⟩ : (_ = true → _) ∧ (_ = false → _))) <;> first | exact absurd hc (by decide) | (exfalso; simp only [*, reduceCtorEq] at hc; done) | skip)
               | ((with_reducible refine And.intro ?_ ?_); focus (first | rfl | exact Nat.le_of_ble_eq_true rfl | omega | (simp only [List.length_cons, List.length_nil, List.length_map, List.length_append]; omega))))
      · have hlt : k < l.length := by simpa using hc
        obtain ⟨hb, hlm⟩ := hlc _ (List.getElem_mem hlt)
        obtain ⟨cw, co, cnow, cl⟩ := hl _ (List.getElem_mem hlt)
        refine ⟨_, rowK _ _ _ hlt, ?_⟩
        have hcov : lgR (ovL x l[k]) := ⟨hx.1, cl.2⟩
        rcases Bool.eq_false_or_eq_true (decide (l[k].own > 0)) with ho | ho
        · obtain ⟨⟨F3, Q3, p3, s3⟩, ⟨F0, Q0, p0, s0⟩, -⟩ := steps n f g n1 n8 l[k].now cnow (ovR x n tag l[k]) hb l[k].l cl hlm
          obtain ⟨-, -, ⟨F4, Q4, p4, s4⟩⟩ := steps n f g n1 n8 l[k].now cnow (ovR x n tag l[k]) hb (ovL x l[k]) hcov hlm
          repeat' ((conv => whnf)
                   first
                   | with_reducible refine (Or.inl ?_ : VC _ _ _ _ _ ∨ _)
                   | ((with_reducible refine (⟨fun hc => ?_, fun hc => ?_⟩ : (_ = true → _) ∧ (_ = false → _))) <;> first | exact absurd hc (by decide) | (exfalso; simp only [*, reduceCtorEq] at hc; done) | skip)
                   | ((with_reducible refine And.intro ?_ ?_); focus (first | rfl | exact Nat.le_of_ble_eq_true rfl | omega | (simp only [List.length_cons, List.length_nil, List.length_map, List.length_append]; omega))))
          · have st := s3.stays
            have tk : F3.done = 1 → f.done = 0 → (f.set.any (fun y => y == ⟨l[k].r.from_.node, l[k].r.from_.serial⟩) = true) := s3.takes
            rcases s3.asks with rfl | ⟨r, rfl, hto, hrn⟩
            · repeat' ((conv => whnf)
                       first
                       | with_reducible refine (Or.inl ?_ : VC _ _ _ _ _ ∨ _)
                       | ((with_reducible refine (⟨fun hc => ?_, fun hc => ?_⟩ : (_ = true → _) ∧ (_ = false → _))) <;> first | exact absurd hc (by decide) | (exfalso; simp only [*, reduceCtorEq] at hc; done) | skip)
                       | (refine Or.inl ?_; (conv => whnf); refine ⟨_, PCx_pre (p3) ?_, ?_⟩; focus ((repeat' first | exact True.intro | exact rfl | exact id | assumption | exact leRs_refl _ | ((conv => whnf); with_reducible refine And.intro ?_ ?_) | ((conv => whnf); exact True.intro)); done))
                       | (refine Or.inl ?_; (conv => whnf); refine ⟨_, r17Same_c _ _, ?_⟩)
                       | (refine Or.inl ?_; (conv => whnf); refine ⟨_, r14Has_c _ _ _, ?_⟩)
                       | ((with_reducible refine And.intro ?_ ?_); focus (first | rfl | exact Nat.le_of_ble_eq_true rfl | omega | (simp only [List.length_cons, List.length_nil, List.length_map, List.length_append]; omega))))
              all_goals first
                | (exfalso; clear hhv hnew hl hlc; simp only [List.length_map, List.length_nil, List.map_nil] at *; grind)
                | (refine ⟨⟨(k + 1, F3), hlt, s3.good⟩, dec_lt hlt, ent_of ?_⟩; (repeat' first | exact True.intro | exact rfl | exact id | exact leRs_refl _ | ((conv => whnf); with_reducible refine And.intro ?_ ?_) | ((conv => whnf); exact True.intro)); (all_goals try (conv => whnf)); exact wrapI (by omega) (by omega))
            · have hlt' : F3.at_.toNat < F3.set.length := by have := s3.good.at0; have := s3.good.at1; omega
              have h0 := s3.good.at0
              have h1 := s3.good.at1
              have hto : r.to = F3.set[F3.at_.toNat] := by exact hto.trans (getElem!_pos F3.set _ hlt')
              repeat' ((conv => whnf)
                       first
                       | with_reducible refine (Or.inl ?_ : VC _ _ _ _ _ ∨ _)
                       | ((with_reducible refine (⟨fun hc => ?_, fun hc => ?_⟩ : (_ = true → _) ∧ (_ = false → _))) <;> first | exact absurd hc (by decide) | (exfalso; simp only [*, reduceCtorEq] at hc; done) | skip)
                       | (refine Or.inl ?_; (conv => whnf); refine ⟨_, PCx_pre (p3) ?_, ?_⟩; focus ((repeat' first | exact True.intro | exact rfl | exact id | assumption | exact leRs_refl _ | ((conv => whnf); with_reducible refine And.intro ?_ ?_) | ((conv => whnf); exact True.intro)); done))
                       | (refine Or.inl ?_; (conv => whnf); refine ⟨_, r17Same_c _ _, ?_⟩)
                       | (refine Or.inl ?_; (conv => whnf); refine ⟨_, r14Has_c _ _ _, ?_⟩)
                       | ((refine ⟨_, rfl, ?_⟩))
                       | ((refine ⟨_, rowE _ _ (k := F3.at_.toNat) (by omega) hlt', ?_⟩))
                       | ((with_reducible refine And.intro ?_ ?_); focus (first | rfl | exact Nat.le_of_ble_eq_true rfl | omega | (simp only [List.length_cons, List.length_nil, List.length_map, List.length_append]; omega))))
              all_goals first
                | (exfalso; clear hhv hnew hl hlc; simp only [List.length_map, List.length_cons, List.length_nil] at *; grind)
                | (refine ⟨⟨(k + 1, F3), hlt, s3.good⟩, dec_lt hlt, ent_of ?_⟩; (repeat' first | exact True.intro | exact rfl | exact id | exact leRs_refl _ | ((conv => whnf); with_reducible refine And.intro ?_ ?_) | ((conv => whnf); exact True.intro)); (all_goals try (conv => whnf)); exact wrapI (by omega) (by omega))
          · have st := s4.stays
            have tk : F4.done = 1 → f.done = 0 → (f.set.any (fun y => y == ⟨l[k].r.from_.node, l[k].r.from_.serial⟩) = true) := s4.takes
            rcases s4.asks with rfl | ⟨r, rfl, hto, hrn⟩
            · repeat' ((conv => whnf)
                       first
                       | with_reducible refine (Or.inl ?_ : VC _ _ _ _ _ ∨ _)
                       | ((with_reducible refine (⟨fun hc => ?_, fun hc => ?_⟩ : (_ = true → _) ∧ (_ = false → _))) <;> first | exact absurd hc (by decide) | (exfalso; simp only [*, reduceCtorEq] at hc; done) | skip)
                       | (refine Or.inl ?_; (conv => whnf); refine ⟨_, PCx_pre (p4) ?_, ?_⟩; focus ((repeat' first | exact True.intro | exact rfl | exact id | assumption | exact leRs_refl _ | ((conv => whnf); with_reducible refine And.intro ?_ ?_) | ((conv => whnf); exact True.intro)); done))
                       | (refine Or.inl ?_; (conv => whnf); refine ⟨_, r17Same_c _ _, ?_⟩)
                       | (refine Or.inl ?_; (conv => whnf); refine ⟨_, r14Has_c _ _ _, ?_⟩)
                       | ((with_reducible refine And.intro ?_ ?_); focus (first | rfl | exact Nat.le_of_ble_eq_true rfl | omega | (simp only [List.length_cons, List.length_nil, List.length_map, List.length_append]; omega))))
              all_goals first
                | (exfalso; clear hhv hnew hl hlc; simp only [List.length_map, List.length_nil, List.map_nil] at *; grind)
                | (refine ⟨⟨(k + 1, F4), hlt, s4.good⟩, dec_lt hlt, ent_of ?_⟩; (repeat' first | exact True.intro | exact rfl | exact id | exact leRs_refl _ | ((conv => whnf); with_reducible refine And.intro ?_ ?_) | ((conv => whnf); exact True.intro)); (all_goals try (conv => whnf)); exact wrapI (by omega) (by omega))
            · have hlt' : F4.at_.toNat < F4.set.length := by have := s4.good.at0; have := s4.good.at1; omega
              have h0 := s4.good.at0
              have h1 := s4.good.at1
              have hto : r.to = F4.set[F4.at_.toNat] := by exact hto.trans (getElem!_pos F4.set _ hlt')
              repeat' ((conv => whnf)
                       first
                       | with_reducible refine (Or.inl ?_ : VC _ _ _ _ _ ∨ _)
                       | ((with_reducible refine (⟨fun hc => ?_, fun hc => ?_⟩ : (_ = true → _) ∧ (_ = false → _))) <;> first | exact absurd hc (by decide) | (exfalso; simp only [*, reduceCtorEq] at hc; done) | skip)
                       | (refine Or.inl ?_; (conv => whnf); refine ⟨_, PCx_pre (p4) ?_, ?_⟩; focus ((repeat' first | exact True.intro | exact rfl | exact id | assumption | exact leRs_refl _ | ((conv => whnf); with_reducible refine And.intro ?_ ?_) | ((conv => whnf); exact True.intro)); done))
                       | (refine Or.inl ?_; (conv => whnf); refine ⟨_, r17Same_c _ _, ?_⟩)
                       | (refine Or.inl ?_; (conv => whnf); refine ⟨_, r14Has_c _ _ _, ?_⟩)
                       | ((refine ⟨_, rfl, ?_⟩))
                       | ((refine ⟨_, rowE _ _ (k := F4.at_.toNat) (by omega) hlt', ?_⟩))
                       | ((with_reducible refine And.intro ?_ ?_); focus (first | rfl | exact Nat.le_of_ble_eq_true rfl | omega | (simp only [List.length_cons, List.length_nil, List.length_map, List.length_append]; omega))))
              all_goals first
                | (exfalso; clear hhv hnew hl hlc; simp only [List.length_map, List.length_cons, List.length_nil] at *; grind)
                | (refine ⟨⟨(k + 1, F4), hlt, s4.good⟩, dec_lt hlt, ent_of ?_⟩; (repeat' first | exact True.intro | exact rfl | exact id | exact leRs_refl _ | ((conv => whnf); with_reducible refine And.intro ?_ ?_) | ((conv => whnf); exact True.intro)); (all_goals try (conv => whnf)); exact wrapI (by omega) (by omega))
          · have st := s0.stays
            have tk : F0.done = 1 → f.done = 0 → (f.set.any (fun y => y == ⟨l[k].r.from_.node, l[k].r.from_.serial⟩) = true) := s0.takes
            rcases s0.asks with rfl | ⟨r, rfl, hto, hrn⟩
            · repeat' ((conv => whnf)
                       first
                       | with_reducible refine (Or.inl ?_ : VC _ _ _ _ _ ∨ _)
                       | ((with_reducible refine (⟨fun hc => ?_, fun hc => ?_⟩ : (_ = true → _) ∧ (_ = false → _))) <;> first | exact absurd hc (by decide) | (exfalso; simp only [*, reduceCtorEq] at hc; done) | skip)
                       | (refine Or.inl ?_; (conv => whnf); refine ⟨_, PCx_pre (p0) ?_, ?_⟩; focus ((repeat' first | exact True.intro | exact rfl | exact id | assumption | exact leRs_refl _ | ((conv => whnf); with_reducible refine And.intro ?_ ?_) | ((conv => whnf); exact True.intro)); done))
                       | (refine Or.inl ?_; (conv => whnf); refine ⟨_, r17Same_c _ _, ?_⟩)
                       | (refine Or.inl ?_; (conv => whnf); refine ⟨_, r14Has_c _ _ _, ?_⟩)
                       | ((with_reducible refine And.intro ?_ ?_); focus (first | rfl | exact Nat.le_of_ble_eq_true rfl | omega | (simp only [List.length_cons, List.length_nil, List.length_map, List.length_append]; omega))))
              all_goals first
                | (exfalso; clear hhv hnew hl hlc; simp only [List.length_map, List.length_nil, List.map_nil] at *; grind)
                | (refine ⟨⟨(k + 1, F0), hlt, s0.good⟩, dec_lt hlt, ent_of ?_⟩; (repeat' first | exact True.intro | exact rfl | exact id | exact leRs_refl _ | ((conv => whnf); with_reducible refine And.intro ?_ ?_) | ((conv => whnf); exact True.intro)); (all_goals try (conv => whnf)); exact wrapI (by omega) (by omega))
            · have hlt' : F0.at_.toNat < F0.set.length := by have := s0.good.at0; have := s0.good.at1; omega
              have h0 := s0.good.at0
              have h1 := s0.good.at1
              have hto : r.to = F0.set[F0.at_.toNat] := by exact hto.trans (getElem!_pos F0.set _ hlt')
              repeat' ((conv => whnf)
                       first
                       | with_reducible refine (Or.inl ?_ : VC _ _ _ _ _ ∨ _)
                       | ((with_reducible refine (⟨fun hc => ?_, fun hc => ?_⟩ : (_ = true → _) ∧ (_ = false → _))) <;> first | exact absurd hc (by decide) | (exfalso; simp only [*, reduceCtorEq] at hc; done) | skip)
                       | (refine Or.inl ?_; (conv => whnf); refine ⟨_, PCx_pre (p0) ?_, ?_⟩; focus ((repeat' first | exact True.intro | exact rfl | exact id | assumption | exact leRs_refl _ | ((conv => whnf); with_reducible refine And.intro ?_ ?_) | ((conv => whnf); exact True.intro)); done))
                       | (refine Or.inl ?_; (conv => whnf); refine ⟨_, r17Same_c _ _, ?_⟩)
                       | (refine Or.inl ?_; (conv => whnf); refine ⟨_, r14Has_c _ _ _, ?_⟩)
                       | ((refine ⟨_, rfl, ?_⟩))
                       | ((refine ⟨_, rowE _ _ (k := F0.at_.toNat) (by omega) hlt', ?_⟩))
                       | ((with_reducible refine And.intro ?_ ?_); focus (first | rfl | exact Nat.le_of_ble_eq_true rfl | omega | (simp only [List.length_cons, List.length_nil, List.length_map, List.length_append]; omega))))
              all_goals first
                | (exfalso; clear hhv hnew hl hlc; simp only [List.length_map, List.length_cons, List.length_nil] at *; grind)
                | (refine ⟨⟨(k + 1, F0), hlt, s0.good⟩, dec_lt hlt, ent_of ?_⟩; (repeat' first | exact True.intro | exact rfl | exact id | exact leRs_refl _ | ((conv => whnf); with_reducible refine And.intro ?_ ?_) | ((conv => whnf); exact True.intro)); (all_goals try (conv => whnf)); exact wrapI (by omega) (by omega))
        · obtain ⟨⟨F3, Q3, p3, s3⟩, ⟨F0, Q0, p0, s0⟩, ⟨F4, Q4, p4, s4⟩⟩ := steps n f g n1 n8 l[k].now cnow l[k].r hb l[k].l cl hlm
          repeat' ((conv => whnf)
                   first
                   | with_reducible refine (Or.inl ?_ : VC _ _ _ _ _ ∨ _)
                   | ((with_reducible refine (⟨fun hc => ?_, fun hc => ?_⟩ : (_ = true → _) ∧ (_ = false → _))) <;> first | exact absurd hc (by decide) | (exfalso; simp only [*, reduceCtorEq] at hc; done) | skip)
                   | ((with_reducible refine And.intro ?_ ?_); focus (first | rfl | exact Nat.le_of_ble_eq_true rfl | omega | (simp only [List.length_cons, List.length_nil, List.length_map, List.length_append]; omega))))
          · have st := s3.stays
            have tk : F3.done = 1 → f.done = 0 → (f.set.any (fun y => y == ⟨l[k].r.from_.node, l[k].r.from_.serial⟩) = true) := s3.takes
            rcases s3.asks with rfl | ⟨r, rfl, hto, hrn⟩
            · repeat' ((conv => whnf)
                       first
                       | with_reducible refine (Or.inl ?_ : VC _ _ _ _ _ ∨ _)
                       | ((with_reducible refine (⟨fun hc => ?_, fun hc => ?_⟩ : (_ = true → _) ∧ (_ = false → _))) <;> first | exact absurd hc (by decide) | (exfalso; simp only [*, reduceCtorEq] at hc; done) | skip)
                       | (refine Or.inl ?_; (conv => whnf); refine ⟨_, PCx_pre (p3) ?_, ?_⟩; focus ((repeat' first | exact True.intro | exact rfl | exact id | assumption | exact leRs_refl _ | ((conv => whnf); with_reducible refine And.intro ?_ ?_) | ((conv => whnf); exact True.intro)); done))
                       | (refine Or.inl ?_; (conv => whnf); refine ⟨_, r17Same_c _ _, ?_⟩)
                       | (refine Or.inl ?_; (conv => whnf); refine ⟨_, r14Has_c _ _ _, ?_⟩)
                       | ((with_reducible refine And.intro ?_ ?_); focus (first | rfl | exact Nat.le_of_ble_eq_true rfl | omega | (simp only [List.length_cons, List.length_nil, List.length_map, List.length_append]; omega))))
              all_goals first
                | (exfalso; clear hhv hnew hl hlc; simp only [List.length_map, List.length_nil, List.map_nil] at *; grind)
                | (refine ⟨⟨(k + 1, F3), hlt, s3.good⟩, dec_lt hlt, ent_of ?_⟩; (repeat' first | exact True.intro | exact rfl | exact id | exact leRs_refl _ | ((conv => whnf); with_reducible refine And.intro ?_ ?_) | ((conv => whnf); exact True.intro)); (all_goals try (conv => whnf)); exact wrapI (by omega) (by omega))
            · have hlt' : F3.at_.toNat < F3.set.length := by have := s3.good.at0; have := s3.good.at1; omega
              have h0 := s3.good.at0
              have h1 := s3.good.at1
              have hto : r.to = F3.set[F3.at_.toNat] := by exact hto.trans (getElem!_pos F3.set _ hlt')
              repeat' ((conv => whnf)
                       first
                       | with_reducible refine (Or.inl ?_ : VC _ _ _ _ _ ∨ _)
                       | ((with_reducible refine (⟨fun hc => ?_, fun hc => ?_⟩ : (_ = true → _) ∧ (_ = false → _))) <;> first | exact absurd hc (by decide) | (exfalso; simp only [*, reduceCtorEq] at hc; done) | skip)
                       | (refine Or.inl ?_; (conv => whnf); refine ⟨_, PCx_pre (p3) ?_, ?_⟩; focus ((repeat' first | exact True.intro | exact rfl | exact id | assumption | exact leRs_refl _ | ((conv => whnf); with_reducible refine And.intro ?_ ?_) | ((conv => whnf); exact True.intro)); done))
                       | (refine Or.inl ?_; (conv => whnf); refine ⟨_, r17Same_c _ _, ?_⟩)
                       | (refine Or.inl ?_; (conv => whnf); refine ⟨_, r14Has_c _ _ _, ?_⟩)
                       | ((refine ⟨_, rfl, ?_⟩))
                       | ((refine ⟨_, rowE _ _ (k := F3.at_.toNat) (by omega) hlt', ?_⟩))
                       | ((with_reducible refine And.intro ?_ ?_); focus (first | rfl | exact Nat.le_of_ble_eq_true rfl | omega | (simp only [List.length_cons, List.length_nil, List.length_map, List.length_append]; omega))))
              all_goals first
                | (exfalso; clear hhv hnew hl hlc; simp only [List.length_map, List.length_cons, List.length_nil] at *; grind)
                | (refine ⟨⟨(k + 1, F3), hlt, s3.good⟩, dec_lt hlt, ent_of ?_⟩; (repeat' first | exact True.intro | exact rfl | exact id | exact leRs_refl _ | ((conv => whnf); with_reducible refine And.intro ?_ ?_) | ((conv => whnf); exact True.intro)); (all_goals try (conv => whnf)); exact wrapI (by omega) (by omega))
          · have st := s4.stays
            have tk : F4.done = 1 → f.done = 0 → (f.set.any (fun y => y == ⟨l[k].r.from_.node, l[k].r.from_.serial⟩) = true) := s4.takes
            rcases s4.asks with rfl | ⟨r, rfl, hto, hrn⟩
            · repeat' ((conv => whnf)
                       first
                       | with_reducible refine (Or.inl ?_ : VC _ _ _ _ _ ∨ _)
                       | ((with_reducible refine (⟨fun hc => ?_, fun hc => ?_⟩ : (_ = true → _) ∧ (_ = false → _))) <;> first | exact absurd hc (by decide) | (exfalso; simp only [*, reduceCtorEq] at hc; done) | skip)
                       | (refine Or.inl ?_; (conv => whnf); refine ⟨_, PCx_pre (p4) ?_, ?_⟩; focus ((repeat' first | exact True.intro | exact rfl | exact id | assumption | exact leRs_refl _ | ((conv => whnf); with_reducible refine And.intro ?_ ?_) | ((conv => whnf); exact True.intro)); done))
                       | (refine Or.inl ?_; (conv => whnf); refine ⟨_, r17Same_c _ _, ?_⟩)
                       | (refine Or.inl ?_; (conv => whnf); refine ⟨_, r14Has_c _ _ _, ?_⟩)
                       | ((with_reducible refine And.intro ?_ ?_); focus (first | rfl | exact Nat.le_of_ble_eq_true rfl | omega | (simp only [List.length_cons, List.length_nil, List.length_map, List.length_append]; omega))))
              all_goals first
                | (exfalso; clear hhv hnew hl hlc; simp only [List.length_map, List.length_nil, List.map_nil] at *; grind)
                | (refine ⟨⟨(k + 1, F4), hlt, s4.good⟩, dec_lt hlt, ent_of ?_⟩; (repeat' first | exact True.intro | exact rfl | exact id | exact leRs_refl _ | ((conv => whnf); with_reducible refine And.intro ?_ ?_) | ((conv => whnf); exact True.intro)); (all_goals try (conv => whnf)); exact wrapI (by omega) (by omega))
            · have hlt' : F4.at_.toNat < F4.set.length := by have := s4.good.at0; have := s4.good.at1; omega
              have h0 := s4.good.at0
              have h1 := s4.good.at1
              have hto : r.to = F4.set[F4.at_.toNat] := by exact hto.trans (getElem!_pos F4.set _ hlt')
              repeat' ((conv => whnf)
                       first
                       | with_reducible refine (Or.inl ?_ : VC _ _ _ _ _ ∨ _)
                       | ((with_reducible refine (⟨fun hc => ?_, fun hc => ?_⟩ : (_ = true → _) ∧ (_ = false → _))) <;> first | exact absurd hc (by decide) | (exfalso; simp only [*, reduceCtorEq] at hc; done) | skip)
                       | (refine Or.inl ?_; (conv => whnf); refine ⟨_, PCx_pre (p4) ?_, ?_⟩; focus ((repeat' first | exact True.intro | exact rfl | exact id | assumption | exact leRs_refl _ | ((conv => whnf); with_reducible refine And.intro ?_ ?_) | ((conv => whnf); exact True.intro)); done))
                       | (refine Or.inl ?_; (conv => whnf); refine ⟨_, r17Same_c _ _, ?_⟩)
                       | (refine Or.inl ?_; (conv => whnf); refine ⟨_, r14Has_c _ _ _, ?_⟩)
                       | ((refine ⟨_, rfl, ?_⟩))
                       | ((refine ⟨_, rowE _ _ (k := F4.at_.toNat) (by omega) hlt', ?_⟩))
                       | ((with_reducible refine And.intro ?_ ?_); focus (first | rfl | exact Nat.le_of_ble_eq_true rfl | omega | (simp only [List.length_cons, List.length_nil, List.length_map, List.length_append]; omega))))
              all_goals first
                | (exfalso; clear hhv hnew hl hlc; simp only [List.length_map, List.length_cons, List.length_nil] at *; grind)
                | (refine ⟨⟨(k + 1, F4), hlt, s4.good⟩, dec_lt hlt, ent_of ?_⟩; (repeat' first | exact True.intro | exact rfl | exact id | exact leRs_refl _ | ((conv => whnf); with_reducible refine And.intro ?_ ?_) | ((conv => whnf); exact True.intro)); (all_goals try (conv => whnf)); exact wrapI (by omega) (by omega))
          · have st := s0.stays
            have tk : F0.done = 1 → f.done = 0 → (f.set.any (fun y => y == ⟨l[k].r.from_.node, l[k].r.from_.serial⟩) = true) := s0.takes
            rcases s0.asks with rfl | ⟨r, rfl, hto, hrn⟩
            · repeat' ((conv => whnf)
                       first
                       | with_reducible refine (Or.inl ?_ : VC _ _ _ _ _ ∨ _)
                       | ((with_reducible refine (⟨fun hc => ?_, fun hc => ?_⟩ : (_ = true → _) ∧ (_ = false → _))) <;> first | exact absurd hc (by decide) | (exfalso; simp only [*, reduceCtorEq] at hc; done) | skip)
                       | (refine Or.inl ?_; (conv => whnf); refine ⟨_, PCx_pre (p0) ?_, ?_⟩; focus ((repeat' first | exact True.intro | exact rfl | exact id | assumption | exact leRs_refl _ | ((conv => whnf); with_reducible refine And.intro ?_ ?_) | ((conv => whnf); exact True.intro)); done))
                       | (refine Or.inl ?_; (conv => whnf); refine ⟨_, r17Same_c _ _, ?_⟩)
                       | (refine Or.inl ?_; (conv => whnf); refine ⟨_, r14Has_c _ _ _, ?_⟩)
                       | ((with_reducible refine And.intro ?_ ?_); focus (first | rfl | exact Nat.le_of_ble_eq_true rfl | omega | (simp only [List.length_cons, List.length_nil, List.length_map, List.length_append]; omega))))
              all_goals first
                | (exfalso; clear hhv hnew hl hlc; simp only [List.length_map, List.length_nil, List.map_nil] at *; grind)
                | (refine ⟨⟨(k + 1, F0), hlt, s0.good⟩, dec_lt hlt, ent_of ?_⟩; (repeat' first | exact True.intro | exact rfl | exact id | exact leRs_refl _ | ((conv => whnf); with_reducible refine And.intro ?_ ?_) | ((conv => whnf); exact True.intro)); (all_goals try (conv => whnf)); exact wrapI (by omega) (by omega))
            · have hlt' : F0.at_.toNat < F0.set.length := by have := s0.good.at0; have := s0.good.at1; omega
              have h0 := s0.good.at0
              have h1 := s0.good.at1
              have hto : r.to = F0.set[F0.at_.toNat] := by exact hto.trans (getElem!_pos F0.set _ hlt')
              repeat' ((conv => whnf)
                       first
                       | with_reducible refine (Or.inl ?_ : VC _ _ _ _ _ ∨ _)
                       | ((with_reducible refine (⟨fun hc => ?_, fun hc => ?_⟩ : (_ = true → _) ∧ (_ = false → _))) <;> first | exact absurd hc (by decide) | (exfalso; simp only [*, reduceCtorEq] at hc; done) | skip)
                       | (refine Or.inl ?_; (conv => whnf); refine ⟨_, PCx_pre (p0) ?_, ?_⟩; focus ((repeat' first | exact True.intro | exact rfl | exact id | assumption | exact leRs_refl _ | ((conv => whnf); with_reducible refine And.intro ?_ ?_) | ((conv => whnf); exact True.intro)); done))
                       | (refine Or.inl ?_; (conv => whnf); refine ⟨_, r17Same_c _ _, ?_⟩)
                       | (refine Or.inl ?_; (conv => whnf); refine ⟨_, r14Has_c _ _ _, ?_⟩)
                       | ((refine ⟨_, rfl, ?_⟩))
                       | ((refine ⟨_, rowE _ _ (k := F0.at_.toNat) (by omega) hlt', ?_⟩))
                       | ((with_reducible refine And.intro ?_ ?_); focus (first | rfl | exact Nat.le_of_ble_eq_true rfl | omega | (simp only [List.length_cons, List.length_nil, List.length_map, List.length_append]; omega))))
              all_goals first
                | (exfalso; clear hhv hnew hl hlc; simp only [List.length_map, List.length_cons, List.length_nil] at *; grind)
                | (refine ⟨⟨(k + 1, F0), hlt, s0.good⟩, dec_lt hlt, ent_of ?_⟩; (repeat' first | exact True.intro | exact rfl | exact id | exact leRs_refl _ | ((conv => whnf); with_reducible refine And.intro ?_ ?_) | ((conv => whnf); exact True.intro)); (all_goals try (conv => whnf)); exact wrapI (by omega) (by omega))
      · repeat' ((conv => whnf)
                 first
                 | with_reducible refine (Or.inl ?_ : VC _ _ _ _ _ ∨ _)
                 | ((with_reducible refine (⟨fun hc => ?_, fun hc => ?_⟩ : (_ = true → _) ∧ (_ = false → _))) <;> first | exact absurd hc (by decide) | (exfalso; simp only [*, reduceCtorEq] at hc; done) | skip)
                 | (refine Or.inl ?_; (conv => whnf); refine ⟨_, l17awake_c, ?_⟩)
                 | ((with_reducible refine And.intro ?_ ?_); focus (first | rfl | exact Nat.le_of_ble_eq_true rfl | omega | (simp only [List.length_cons, List.length_nil, List.length_map, List.length_append]; omega))))
        repeat' first
          | fail
          | exact True.intro
          | exact rfl
          | exact id
          | exact leRs_refl _
          | ((conv => whnf); with_reducible refine And.intro ?_ ?_)
          | ((conv => whnf); exact True.intro)
        all_goals try (conv => whnf)
    · repeat' ((conv => whnf)
               first
               | with_reducible refine (Or.inl ?_ : VC _ _ _ _ _ ∨ _)
               | ((with_reducible refine (⟨fun hc => ?_, fun hc => ?_⟩ : (_ = true → _) ∧ (_ = false → _))) <;> first | exact absurd hc (by decide) | (exfalso; simp only [*, reduceCtorEq] at hc; done) | skip)
               | (refine Or.inl ?_; (conv => whnf); refine ⟨_, hhv, ?_⟩)
               | (refine Or.inl ?_; (conv => whnf); refine ⟨_, hnew, ?_⟩)
               | (refine Or.inl ?_; (conv => whnf); refine ⟨_, l17awake_c, ?_⟩)
               | ((with_reducible refine And.intro ?_ ?_); focus (first | rfl | exact Nat.le_of_ble_eq_true rfl | omega | (simp only [List.length_cons, List.length_nil, List.length_map, List.length_append]; omega))))
      · repeat' first
          | fail
          | exact True.intro
          | exact rfl
          | exact id
          | exact leRs_refl _
          | ((conv => whnf); with_reducible refine And.intro ?_ ?_)
          | ((conv => whnf); exact True.intro)
        all_goals try (conv => whnf)
      · exfalso; grind
end Go.Proofs.Ytibbgchpgfpccaa.Tb

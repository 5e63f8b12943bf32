/-
  Contracts of functions of the program and of the document, each for every input that its premises name.
-/
import Derived.Test.YtibbgchpgfpccaaFH
import Derived.Test.YtibbgchpgfpccaaAd
set_option maxRecDepth 100000
set_option maxHeartbeats 4000000
set_option linter.unusedVariables false
set_option linter.unusedSimpArgs false
open Go Go.AX
namespace Go.Proofs.Ytibbgchpgfpccaa.Tb
theorem plays (n : Int) (f : Ft) (g : GoodF n f) (h1 : 1 ≤ n) (h8 : n ≤ 8) (now : Int) (hnow : u64R now) (r : Rs) (hr : r.body.length ≤ 5000) (m : Lg) (hm : lgR m) (hlm : longF m.frags = false) :
    (∃ F Q, PCx Try.prog 13 [.agg f.c, uu now] (.tup [.agg F.c, slR Q]) ∧ PCx Try.prog 23 [.agg f.c, uu now] (.tup [.agg F.c, slR Q]) ∧ GoodF n F ∧ QK Q) ∧
    (∃ F Q, PCx Try.prog 16 [.agg f.c, uu now, .agg r.c] (.tup [.agg F.c, slR Q]) ∧ PCx Try.prog 25 [.agg f.c, uu now, .agg r.c] (.tup [.agg F.c, slR Q]) ∧ GoodF n F ∧ QK Q) ∧
    (∃ F Q, PCx Try.prog 17 [.agg f.c, uu now, .agg m.c] (.tup [.agg F.c, slR Q]) ∧ PCx Try.prog 24 [.agg f.c, uu now, .agg m.c] (.tup [.agg F.c, slR Q]) ∧ GoodF n F ∧ QK Q) := by
  have hat : -9223372036854775808 ≤ f.at_ ∧ f.at_ < 9223372036854775807 := ⟨by have := g.at0; omega, by have := g.at1; have := g.len; omega⟩
  have hat2 : 0 ≤ f.at_ ∧ f.at_ < f.set.length := ⟨g.at0, g.at1⟩
  obtain ⟨hfr, hok⟩ := frsOk_of hm hlm
  have hfn : 1 ≤ f.n ∧ f.n ≤ 18446744073709551615 := by rw [g.n]; omega
  refine ⟨⟨_, _, rTick_c f now g.sm hat hnow g.since, r17Tick_c f now g.sm hat2 hnow g.since, (tickP_ok g hnow True).good, tickP_keep _ _⟩,
    ⟨_, _, rTake_c f now r g.sm (by omega) hat, r17Take_c f now r g.sm (by omega) hat2, (takeP_ok g hnow r hr).good, takeP_keep _ _ _⟩,
    ⟨_, _, rMoved_c f now m g.sm hok hfr ⟨by omega, hfn.2⟩, r17Moved_c f now m g.sm ⟨hm.2.2.2.1.1, hm.2.2.2.1.2, hm.2.2.2.2.1.1⟩ hfr hfn, (movedP_ok g hnow m h1 True).good, movedP_keep _ _ _⟩⟩
theorem r15Refl_c (Q : List Rq) (h : QK Q) : PCx Try.prog 21 [slR Q, slR Q] (bl true) := by
  have := r15Same_c Q Q h
  simpa using this
theorem r17Refl_c (f : Ft) : PCx Try.prog 18 [.agg f.c, .agg f.c] (bl true) := by
  have := r17Same_c f f
  simpa using this
theorem rRefl_c (f : Ft) : PCx Try.prog 26 [.agg f.c, .agg f.c] (bl true) := by
  have := rSame_c f f
  simpa using this
theorem fn_l17Plays : FnOk Try.prog 5 Try.f5 := ⟨Try.func5, by kernel_rfl, by kernel_rfl, by kernel_rfl⟩
theorem l17Plays_c (x : Lg) (n tag now : Int) (l : List Cl) (hx : lgR x) (hn : u64R n) (ht : u64R tag) (hnow : u64R now) (hl : ∀ c ∈ l, clR c) :
    PCx Try.prog 5 [.agg x.c, uu n, uu tag, uu now, slC l] (bl true) := by
  refine PC.le ?_
  refine PC_of_VC tabOk (draw_ok mixed tabOk) fn_l17Plays rfl ?_
  have hhv := l17heavy_c x l
  cases hh : heavyR x l with
  | true =>
    rw [hh] at hhv
    repeat' ((conv => whnf)
             first
             | with_reducible refine (Or.inl ?_ : VC _ _ _ _ _ ∨ _)
             | ((with_reducible refine (⟨fun hc => ?_, fun hc => ?_⟩ : (_ = true → _) ∧ (_ = false → _))) <;> first | exact absurd hc (by decide) | (exfalso; simp only [*, reduceCtorEq] at hc; done) | skip)
             | (refine Or.inl ?_; (conv => whnf); refine ⟨_, hhv, ?_⟩)
             | (refine Or.inl ?_; (conv => whnf); refine ⟨_, l17awake_c, ?_⟩)
             | ((with_reducible refine And.intro ?_ ?_); focus (first | rfl | exact Nat.le_of_ble_eq_true rfl | omega | (simp only [List.length_cons, List.length_nil, List.length_map, List.length_append]; omega))))
    repeat' first
      | fail
      | exact True.intro
      | exact rfl
      | exact id
      | exact leRs_refl _
      | ((conv => whnf); with_reducible refine And.intro ?_ ?_)
      | ((conv => whnf); exact True.intro)
    all_goals try (conv => whnf)
  | false =>
    rw [hh] at hhv
    obtain ⟨hlen, hlx, hlc⟩ := heavyR_false hh
    obtain ⟨hfr, hok⟩ := frsOk_of hx hlx
    have hnew := rNew_c x n tag now hok hfr hn
    have hnew2 := r17New_c x n tag now ⟨hx.2.2.2.1.1, hx.2.2.2.1.2, hx.2.2.2.2.1.1⟩ hfr hn
    have hk0 := newP_keep x n tag now
    by_cases he : (newP x n tag now).2.2 = 0
    · obtain ⟨g0, n1, n8, -⟩ := newP_good he hnow
      rw [he] at hnew hnew2
      generalize (newP x n tag now).1 = f0 at *
      generalize (newP x n tag now).2.1 = qn at *
      repeat' ((conv => whnf)
               first
               | with_reducible refine (Or.inl ?_ : VC _ _ _ _ _ ∨ _)
               | ((with_reducible refine (⟨fun hc => ?_, fun hc => ?_⟩ : (_ = true → _) ∧ (_ = false → _))) <;> first | exact absurd hc (by decide) | (exfalso; simp only [*, reduceCtorEq] at hc; done) | skip)
               | (refine Or.inl ?_; (conv => whnf); refine ⟨_, hhv, ?_⟩)
               | (refine Or.inl ?_; (conv => whnf); refine ⟨_, hnew, ?_⟩)
               | (refine Or.inl ?_; (conv => whnf); refine ⟨_, hnew2, ?_⟩)
               | (refine Or.inl ?_; (conv => whnf); refine ⟨_, l17awake_c, ?_⟩)
               | (refine Or.inl ?_; (conv => whnf); refine ⟨_, r15Refl_c _ hk0, ?_⟩)
               | (refine Or.inl ?_; (conv => whnf); refine ⟨_, r17Refl_c _, ?_⟩)
               | ((with_reducible refine And.intro ?_ ?_); focus (first | rfl | exact Nat.le_of_ble_eq_true rfl | omega | (simp only [List.length_cons, List.length_nil, List.length_map, List.length_append]; omega))))
      refine ⟨{p : Nat × Ft // p.1 ≤ l.length ∧ GoodF n p.2}, fun ⟨(k, f), _⟩ => ⟨[(1, .pv (uu n)), (2, .pv (uu tag)), (4, .pv (slC l)), (5, .ptr 1005 0), (11, .ptr 1011 0), (14, .ptr 1014 0), (17, .pv (ii k))], 1000000000, [(1005, .var (x.c.map .pv)), (1011, .var (f.c.map .pv)), (1014, .var (f.c.map .pv))]⟩, fun ⟨(k, _), _⟩ => l.length - k, ⟨⟨(0, f0), by simp, g0⟩, ent_of ?_⟩, ?_⟩
      · repeat' first
          | fail
          | exact True.intro
          | exact rfl
          | exact id
          | exact leRs_refl _
          | ((conv => whnf); with_reducible refine And.intro ?_ ?_)
          | ((conv => whnf); exact True.intro)
        all_goals try (conv => whnf)
      rintro ⟨⟨k, f⟩, hk, g⟩
      simp only at hk g
      have hcp := r17Copy_c f g.sm
      repeat' ((conv => whnf)
               first
               | with_reducible refine (Or.inl ?_ : VC _ _ _ _ _ ∨ _)
               | ((with_reducible refine (⟨fun hc => ?_, fun hc => ?_⟩ : (_ = true → _) ∧ (_ = false → _))) <;> first | exact absurd hc (by decide) | (exfalso; simp only [*, reduceCtorEq] at hc; done) | skip)
               | ((with_reducible refine And.intro ?_ ?_); focus (first | rfl | exact Nat.le_of_ble_eq_true rfl | omega | (simp only [List.length_cons, List.length_nil, List.length_map, List.length_append]; omega))))
      · have hlt : k < l.length := by simpa using hc
        obtain ⟨hb, hlm⟩ := hlc _ (List.getElem_mem hlt)
        obtain ⟨cw, co, cnow, cl⟩ := hl _ (List.getElem_mem hlt)
        refine ⟨_, rowK _ _ _ hlt, ?_⟩
        have hcov : lgR (ovL x l[k]) := ⟨hx.1, cl.2⟩
        rcases Bool.eq_false_or_eq_true (decide (l[k].own > 0)) with ho | ho
        · obtain ⟨⟨F3, Q3, p3, q3, g3, k3⟩, ⟨F0, Q0, p0, q0, g0, k0⟩, -⟩ := plays n f g n1 n8 l[k].now cnow (ovR x n tag l[k]) hb l[k].l cl hlm
          obtain ⟨-, -, ⟨F4, Q4, p4, q4, g4, k4⟩⟩ := plays n f g n1 n8 l[k].now cnow (ovR x n tag l[k]) hb (ovL x l[k]) hcov hlm
          repeat' ((conv => whnf)
                   first
                   | with_reducible refine (Or.inl ?_ : VC _ _ _ _ _ ∨ _)
                   | ((with_reducible refine (⟨fun hc => ?_, fun hc => ?_⟩ : (_ = true → _) ∧ (_ = false → _))) <;> first | exact absurd hc (by decide) | (exfalso; simp only [*, reduceCtorEq] at hc; done) | skip)
                   | (refine Or.inl ?_; (conv => whnf); refine ⟨_, hcp, ?_⟩)
                   | ((with_reducible refine And.intro ?_ ?_); focus (first | rfl | exact Nat.le_of_ble_eq_true rfl | omega | (simp only [List.length_cons, List.length_nil, List.length_map, List.length_append]; omega))))
          · repeat' ((conv => whnf)
                     first
                     | with_reducible refine (Or.inl ?_ : VC _ _ _ _ _ ∨ _)
                     | ((with_reducible refine (⟨fun hc => ?_, fun hc => ?_⟩ : (_ = true → _) ∧ (_ = false → _))) <;> first | exact absurd hc (by decide) | (exfalso; simp only [*, reduceCtorEq] at hc; done) | skip)
                     | (refine Or.inl ?_; (conv => whnf); refine ⟨_, PCx_pre (p3) ?_, ?_⟩; focus ((repeat' first | exact True.intro | exact rfl | exact id | assumption | exact leRs_refl _ | ((conv => whnf); with_reducible refine And.intro ?_ ?_) | ((conv => whnf); exact True.intro)); done))
                     | (refine Or.inl ?_; (conv => whnf); refine ⟨_, PCx_pre (q3) ?_, ?_⟩; focus ((repeat' first | exact True.intro | exact rfl | exact id | assumption | exact leRs_refl _ | ((conv => whnf); with_reducible refine And.intro ?_ ?_) | ((conv => whnf); exact True.intro)); done))
                     | (refine Or.inl ?_; (conv => whnf); refine ⟨_, r15Refl_c _ k3, ?_⟩)
                     | (refine Or.inl ?_; (conv => whnf); refine ⟨_, r17Refl_c _, ?_⟩)
                     | (refine Or.inl ?_; (conv => whnf); refine ⟨_, rRefl_c _, ?_⟩)
                     | (refine Or.inl ?_; (conv => whnf); refine ⟨_, r17Same_c _ _, ?_⟩)
                     | (refine Or.inl ?_; (conv => whnf); refine ⟨_, rSame_c _ _, ?_⟩)
                     | ((with_reducible refine And.intro ?_ ?_); focus (first | rfl | exact Nat.le_of_ble_eq_true rfl | omega | (simp only [List.length_cons, List.length_nil, List.length_map, List.length_append]; omega))))
            · exfalso; simp at hc
            · refine ⟨⟨(k + 1, F3), hlt, g3⟩, dec_lt hlt, ent_of ?_⟩
              repeat' first
                | fail
                | exact True.intro
                | exact rfl
                | exact id
                | exact leRs_refl _
                | ((conv => whnf); with_reducible refine And.intro ?_ ?_)
                | ((conv => whnf); exact True.intro)
              all_goals try (conv => whnf)
              exact wrapI (by omega) (by omega)
          · repeat' ((conv => whnf)
                     first
                     | with_reducible refine (Or.inl ?_ : VC _ _ _ _ _ ∨ _)
                     | ((with_reducible refine (⟨fun hc => ?_, fun hc => ?_⟩ : (_ = true → _) ∧ (_ = false → _))) <;> first | exact absurd hc (by decide) | (exfalso; simp only [*, reduceCtorEq] at hc; done) | skip)
                     | (refine Or.inl ?_; (conv => whnf); refine ⟨_, PCx_pre (p4) ?_, ?_⟩; focus ((repeat' first | exact True.intro | exact rfl | exact id | assumption | exact leRs_refl _ | ((conv => whnf); with_reducible refine And.intro ?_ ?_) | ((conv => whnf); exact True.intro)); done))
                     | (refine Or.inl ?_; (conv => whnf); refine ⟨_, PCx_pre (q4) ?_, ?_⟩; focus ((repeat' first | exact True.intro | exact rfl | exact id | assumption | exact leRs_refl _ | ((conv => whnf); with_reducible refine And.intro ?_ ?_) | ((conv => whnf); exact True.intro)); done))
                     | (refine Or.inl ?_; (conv => whnf); refine ⟨_, r15Refl_c _ k4, ?_⟩)
                     | (refine Or.inl ?_; (conv => whnf); refine ⟨_, r17Refl_c _, ?_⟩)
                     | (refine Or.inl ?_; (conv => whnf); refine ⟨_, rRefl_c _, ?_⟩)
                     | (refine Or.inl ?_; (conv => whnf); refine ⟨_, r17Same_c _ _, ?_⟩)
                     | (refine Or.inl ?_; (conv => whnf); refine ⟨_, rSame_c _ _, ?_⟩)
                     | ((with_reducible refine And.intro ?_ ?_); focus (first | rfl | exact Nat.le_of_ble_eq_true rfl | omega | (simp only [List.length_cons, List.length_nil, List.length_map, List.length_append]; omega))))
            · exfalso; simp at hc
            · refine ⟨⟨(k + 1, F4), hlt, g4⟩, dec_lt hlt, ent_of ?_⟩
              repeat' first
                | fail
                | exact True.intro
                | exact rfl
                | exact id
                | exact leRs_refl _
                | ((conv => whnf); with_reducible refine And.intro ?_ ?_)
                | ((conv => whnf); exact True.intro)
              all_goals try (conv => whnf)
              exact wrapI (by omega) (by omega)
          · repeat' ((conv => whnf)
                     first
                     | with_reducible refine (Or.inl ?_ : VC _ _ _ _ _ ∨ _)
                     | ((with_reducible refine (⟨fun hc => ?_, fun hc => ?_⟩ : (_ = true → _) ∧ (_ = false → _))) <;> first | exact absurd hc (by decide) | (exfalso; simp only [*, reduceCtorEq] at hc; done) | skip)
                     | (refine Or.inl ?_; (conv => whnf); refine ⟨_, PCx_pre (p0) ?_, ?_⟩; focus ((repeat' first | exact True.intro | exact rfl | exact id | assumption | exact leRs_refl _ | ((conv => whnf); with_reducible refine And.intro ?_ ?_) | ((conv => whnf); exact True.intro)); done))
                     | (refine Or.inl ?_; (conv => whnf); refine ⟨_, PCx_pre (q0) ?_, ?_⟩; focus ((repeat' first | exact True.intro | exact rfl | exact id | assumption | exact leRs_refl _ | ((conv => whnf); with_reducible refine And.intro ?_ ?_) | ((conv => whnf); exact True.intro)); done))
                     | (refine Or.inl ?_; (conv => whnf); refine ⟨_, r15Refl_c _ k0, ?_⟩)
                     | (refine Or.inl ?_; (conv => whnf); refine ⟨_, r17Refl_c _, ?_⟩)
                     | (refine Or.inl ?_; (conv => whnf); refine ⟨_, rRefl_c _, ?_⟩)
                     | (refine Or.inl ?_; (conv => whnf); refine ⟨_, r17Same_c _ _, ?_⟩)
                     | (refine Or.inl ?_; (conv => whnf); refine ⟨_, rSame_c _ _, ?_⟩)
                     | ((with_reducible refine And.intro ?_ ?_); focus (first | rfl | exact Nat.le_of_ble_eq_true rfl | omega | (simp only [List.length_cons, List.length_nil, List.length_map, List.length_append]; omega))))
            · exfalso; simp at hc
            · refine ⟨⟨(k + 1, F0), hlt, g0⟩, dec_lt hlt, ent_of ?_⟩
              repeat' first
                | fail
                | exact True.intro
                | exact rfl
                | exact id
                | exact leRs_refl _
                | ((conv => whnf); with_reducible refine And.intro ?_ ?_)
                | ((conv => whnf); exact True.intro)
              all_goals try (conv => whnf)
              exact wrapI (by omega) (by omega)
        · obtain ⟨⟨F3, Q3, p3, q3, g3, k3⟩, ⟨F0, Q0, p0, q0, g0, k0⟩, ⟨F4, Q4, p4, q4, g4, k4⟩⟩ := plays n f g n1 n8 l[k].now cnow l[k].r hb l[k].l cl hlm
          repeat' ((conv => whnf)
                   first
                   | with_reducible refine (Or.inl ?_ : VC _ _ _ _ _ ∨ _)
                   | ((with_reducible refine (⟨fun hc => ?_, fun hc => ?_⟩ : (_ = true → _) ∧ (_ = false → _))) <;> first | exact absurd hc (by decide) | (exfalso; simp only [*, reduceCtorEq] at hc; done) | skip)
                   | (refine Or.inl ?_; (conv => whnf); refine ⟨_, hcp, ?_⟩)
                   | ((with_reducible refine And.intro ?_ ?_); focus (first | rfl | exact Nat.le_of_ble_eq_true rfl | omega | (simp only [List.length_cons, List.length_nil, List.length_map, List.length_append]; omega))))
          · repeat' ((conv => whnf)
                     first
                     | with_reducible refine (Or.inl ?_ : VC _ _ _ _ _ ∨ _)
                     | ((with_reducible refine (⟨fun hc => ?_, fun hc => ?_⟩ : (_ = true → _) ∧ (_ = false → _))) <;> first | exact absurd hc (by decide) | (exfalso; simp only [*, reduceCtorEq] at hc; done) | skip)
                     | (refine Or.inl ?_; (conv => whnf); refine ⟨_, PCx_pre (p3) ?_, ?_⟩; focus ((repeat' first | exact True.intro | exact rfl | exact id | assumption | exact leRs_refl _ | ((conv => whnf); with_reducible refine And.intro ?_ ?_) | ((conv => whnf); exact True.intro)); done))
                     | (refine Or.inl ?_; (conv => whnf); refine ⟨_, PCx_pre (q3) ?_, ?_⟩; focus ((repeat' first | exact True.intro | exact rfl | exact id | assumption | exact leRs_refl _ | ((conv => whnf); with_reducible refine And.intro ?_ ?_) | ((conv => whnf); exact True.intro)); done))
                     | (refine Or.inl ?_; (conv => whnf); refine ⟨_, r15Refl_c _ k3, ?_⟩)
                     | (refine Or.inl ?_; (conv => whnf); refine ⟨_, r17Refl_c _, ?_⟩)
                     | (refine Or.inl ?_; (conv => whnf); refine ⟨_, rRefl_c _, ?_⟩)
                     | (refine Or.inl ?_; (conv => whnf); refine ⟨_, r17Same_c _ _, ?_⟩)
                     | (refine Or.inl ?_; (conv => whnf); refine ⟨_, rSame_c _ _, ?_⟩)
                     | ((with_reducible refine And.intro ?_ ?_); focus (first | rfl | exact Nat.le_of_ble_eq_true rfl | omega | (simp only [List.length_cons, List.length_nil, List.length_map, List.length_append]; omega))))
            · exfalso; simp at hc
            · refine ⟨⟨(k + 1, F3), hlt, g3⟩, dec_lt hlt, ent_of ?_⟩
              repeat' first
                | fail
                | exact True.intro
                | exact rfl
                | exact id
                | exact leRs_refl _
                | ((conv => whnf); with_reducible refine And.intro ?_ ?_)
                | ((conv => whnf); exact True.intro)
              all_goals try (conv => whnf)
              exact wrapI (by omega) (by omega)
          · repeat' ((conv => whnf)
                     first
                     | with_reducible refine (Or.inl ?_ : VC _ _ _ _ _ ∨ _)
                     | ((with_reducible refine (⟨fun hc => ?_, fun hc => ?_⟩ : (_ = true → _) ∧ (_ = false → _))) <;> first | exact absurd hc (by decide) | (exfalso; simp only [*, reduceCtorEq] at hc; done) | skip)
                     | (refine Or.inl ?_; (conv => whnf); refine ⟨_, PCx_pre (p4) ?_, ?_⟩; focus ((repeat' first | exact True.intro | exact rfl | exact id | assumption | exact leRs_refl _ | ((conv => whnf); with_reducible refine And.intro ?_ ?_) | ((conv => whnf); exact True.intro)); done))
                     | (refine Or.inl ?_; (conv => whnf); refine ⟨_, PCx_pre (q4) ?_, ?_⟩; focus ((repeat' first | exact True.intro | exact rfl | exact id | assumption | exact leRs_refl _ | ((conv => whnf); with_reducible refine And.intro ?_ ?_) | ((conv => whnf); exact True.intro)); done))
                     | (refine Or.inl ?_; (conv => whnf); refine ⟨_, r15Refl_c _ k4, ?_⟩)
                     | (refine Or.inl ?_; (conv => whnf); refine ⟨_, r17Refl_c _, ?_⟩)
                     | (refine Or.inl ?_; (conv => whnf); refine ⟨_, rRefl_c _, ?_⟩)
                     | (refine Or.inl ?_; (conv => whnf); refine ⟨_, r17Same_c _ _, ?_⟩)
                     | (refine Or.inl ?_; (conv => whnf); refine ⟨_, rSame_c _ _, ?_⟩)
                     | ((with_reducible refine And.intro ?_ ?_); focus (first | rfl | exact Nat.le_of_ble_eq_true rfl | omega | (simp only [List.length_cons, List.length_nil, List.length_map, List.length_append]; omega))))
            · exfalso; simp at hc
            · refine ⟨⟨(k + 1, F4), hlt, g4⟩, dec_lt hlt, ent_of ?_⟩
              repeat' first
                | fail
                | exact True.intro
                | exact rfl
                | exact id
                | exact leRs_refl _
                | ((conv => whnf); with_reducible refine And.intro ?_ ?_)
                | ((conv => whnf); exact True.intro)
              all_goals try (conv => whnf)
              exact wrapI (by omega) (by omega)
          · repeat' ((conv => whnf)
                     first
                     | with_reducible refine (Or.inl ?_ : VC _ _ _ _ _ ∨ _)
                     | ((with_reducible refine (⟨fun hc => ?_, fun hc => ?_⟩ : (_ = true → _) ∧ (_ = false → _))) <;> first | exact absurd hc (by decide) | (exfalso; simp only [*, reduceCtorEq] at hc; done) | skip)
                     | (refine Or.inl ?_; (conv => whnf); refine ⟨_, PCx_pre (p0) ?_, ?_⟩; focus ((repeat' first | exact True.intro | exact rfl | exact id | assumption | exact leRs_refl _ | ((conv => whnf); with_reducible refine And.intro ?_ ?_) | ((conv => whnf); exact True.intro)); done))
                     | (refine Or.inl ?_; (conv => whnf); refine ⟨_, PCx_pre (q0) ?_, ?_⟩; focus ((repeat' first | exact True.intro | exact rfl | exact id | assumption | exact leRs_refl _ | ((conv => whnf); with_reducible refine And.intro ?_ ?_) | ((conv => whnf); exact True.intro)); done))
                     | (refine Or.inl ?_; (conv => whnf); refine ⟨_, r15Refl_c _ k0, ?_⟩)
                     | (refine Or.inl ?_; (conv => whnf); refine ⟨_, r17Refl_c _, ?_⟩)
                     | (refine Or.inl ?_; (conv => whnf); refine ⟨_, rRefl_c _, ?_⟩)
                     | (refine Or.inl ?_; (conv => whnf); refine ⟨_, r17Same_c _ _, ?_⟩)
                     | (refine Or.inl ?_; (conv => whnf); refine ⟨_, rSame_c _ _, ?_⟩)
                     | ((with_reducible refine And.intro ?_ ?_); focus (first | rfl | exact Nat.le_of_ble_eq_true rfl | omega | (simp only [List.length_cons, List.length_nil, List.length_map, List.length_append]; omega))))
            · exfalso; simp at hc
            · refine ⟨⟨(k + 1, F0), hlt, g0⟩, dec_lt hlt, ent_of ?_⟩
              repeat' first
                | fail
                | exact True.intro
                | exact rfl
                | exact id
                | exact leRs_refl _
                | ((conv => whnf); with_reducible refine And.intro ?_ ?_)
                | ((conv => whnf); exact True.intro)
              all_goals try (conv => whnf)
              exact wrapI (by omega) (by omega)
      · repeat' ((conv => whnf)
                 first
                 | with_reducible refine (Or.inl ?_ : VC _ _ _ _ _ ∨ _)
                 | ((with_reducible refine (⟨fun hc => ?_, fun hc => ?_⟩ : (_ = true → _) ∧ (_ = false → _))) <;> first | exact absurd hc (by decide) | (exfalso; simp only [*, reduceCtorEq] at hc; done) | skip)
                 | (refine Or.inl ?_; (conv => whnf); refine ⟨_, l17awake_c, ?_⟩)
                 | ((with_reducible refine And.intro ?_ ?_); focus (first | rfl | exact Nat.le_of_ble_eq_true rfl | omega | (simp only [List.length_cons, List.length_nil, List.length_map, List.length_append]; omega))))
        repeat' first
          | fail
          | exact True.intro
          | exact rfl
          | exact id
          | exact leRs_refl _
          | ((conv => whnf); with_reducible refine And.intro ?_ ?_)
          | ((conv => whnf); exact True.intro)
        all_goals try (conv => whnf)
    · repeat' ((conv => whnf)
               first
               | with_reducible refine (Or.inl ?_ : VC _ _ _ _ _ ∨ _)
               | ((with_reducible refine (⟨fun hc => ?_, fun hc => ?_⟩ : (_ = true → _) ∧ (_ = false → _))) <;> first | exact absurd hc (by decide) | (exfalso; simp only [*, reduceCtorEq] at hc; done) | skip)
               | (refine Or.inl ?_; (conv => whnf); refine ⟨_, hhv, ?_⟩)
               | (refine Or.inl ?_; (conv => whnf); refine ⟨_, hnew, ?_⟩)
               | (refine Or.inl ?_; (conv => whnf); refine ⟨_, hnew2, ?_⟩)
               | (refine Or.inl ?_; (conv => whnf); refine ⟨_, l17awake_c, ?_⟩)
               | (refine Or.inl ?_; (conv => whnf); refine ⟨_, r15Refl_c _ hk0, ?_⟩)
               | (refine Or.inl ?_; (conv => whnf); refine ⟨_, r17Refl_c _, ?_⟩)
               | ((with_reducible refine And.intro ?_ ?_); focus (first | rfl | exact Nat.le_of_ble_eq_true rfl | omega | (simp only [List.length_cons, List.length_nil, List.length_map, List.length_append]; omega))))
      · exfalso; rename_i h1 h2; simp at h1
      · repeat' first
          | fail
          | exact True.intro
          | exact rfl
          | exact id
          | exact leRs_refl _
          | ((conv => whnf); with_reducible refine And.intro ?_ ?_)
          | ((conv => whnf); exact True.intro)
        all_goals try (conv => whnf)
      · exfalso; grind
end Go.Proofs.Ytibbgchpgfpccaa.Tb

/-
  Contracts of functions of the program and of the document, each for every input that its premises name.
-/
import Derived.Test.YtibbgchpgfpccaaFH
import Derived.Test.YtibbgchpgfpccaaFN
import Derived.Test.YtibbgchpgfpccaaAd
set_option maxRecDepth 100000
set_option maxHeartbeats 4000000
set_option linter.unusedVariables false
set_option linter.unusedSimpArgs false
open Go Go.AX
namespace Go.Proofs.Ytibbgchpgfpccaa.Tb
theorem fn_l17Round : FnOk Try.prog 3 Try.f3 := ⟨Try.func3, by kernel_rfl, by kernel_rfl, by kernel_rfl⟩
theorem l17Round_c (x : Lg) (n tag now : Int) (l : List Cl) (bits : Int) (entry : List UInt8) (hx : lgR x) (hn : u64R n) (ht : u64R tag) (hnow : u64R now) (hl : ∀ c ∈ l, clR c) (hb : i64R bits) :
    PCx Try.prog 3 [.agg x.c, uu n, uu tag, uu now, slC l, ii bits, bys entry] (bl true) := by
  refine PC.le ?_
  refine PC_of_VC tabOk (draw_ok mixed tabOk) fn_l17Round rfl ?_
  have hhv := l17heavy_c x l
  cases hh : heavyR x l with
  | true =>
    rw [hh] at hhv
    repeat' ((conv => whnf)
             first
             | with_reducible refine (Or.inl ?_ : VC _ _ _ _ _ ∨ _)
             | ((with_reducible refine (⟨fun hc => ?_, fun hc => ?_⟩ : (_ = true → _) ∧ (_ = false → _))) <;> first | exact absurd hc (by decide) | (exfalso; simp only [*, reduceCtorEq] at hc; done) | skip)
             | (refine Or.inl ?_; (conv => whnf); refine ⟨_, hhv, ?_⟩)
             | (refine Or.inl ?_; (conv => whnf); refine ⟨_, l17awake_c, ?_⟩)
             | ((with_reducible refine And.intro ?_ ?_); focus (first | rfl | exact Nat.le_of_ble_eq_true rfl | omega | (simp only [List.length_cons, List.length_nil, List.length_map, List.length_append]; omega))))
    repeat' first
      | fail
      | exact True.intro
      | exact rfl
      | exact id
      | exact leRs_refl _
      | ((conv => whnf); with_reducible refine And.intro ?_ ?_)
      | ((conv => whnf); exact True.intro)
    all_goals try (conv => whnf)
  | false =>
    rw [hh] at hhv
    obtain ⟨hlen, hlx, hlc⟩ := heavyR_false hh
    obtain ⟨hfr, hok⟩ := frsOk_of hx hlx
    by_cases he : (newP x n tag now).2.2 = 0
    · have hnew := rNew_g x n tag now hok hfr hn he
      obtain ⟨g0, n1, n8, hmay, d0, -⟩ := newP_good he hnow
      obtain ⟨s0, c0, p0⟩ := newP_pend he hnow
      generalize (newP x n tag now).1 = f0 at *
      generalize (newP x n tag now).2.1 = q0 at *
      repeat' ((conv => whnf)
               first
               | with_reducible refine (Or.inl ?_ : VC _ _ _ _ _ ∨ _)
               | ((with_reducible refine (⟨fun hc => ?_, fun hc => ?_⟩ : (_ = true → _) ∧ (_ = false → _))) <;> first | exact absurd hc (by decide) | (exfalso; simp only [*, reduceCtorEq] at hc; done) | skip)
               | (refine Or.inl ?_; (conv => whnf); refine ⟨_, hhv, ?_⟩)
               | (refine Or.inr ?_; (conv => whnf); refine ⟨_, _, hnew, ?_⟩)
               | (refine Or.inl ?_; (conv => whnf); refine ⟨_, l17awake_c, ?_⟩)
               | ((with_reducible refine And.intro ?_ ?_); focus (first | rfl | exact Nat.le_of_ble_eq_true rfl | omega | (simp only [List.length_cons, List.length_nil, List.length_map, List.length_append]; omega))))
      · repeat' first
          | fail
          | exact True.intro
          | exact rfl
          | exact id
          | exact leRs_refl _
          | ((conv => whnf); with_reducible refine And.intro ?_ ?_)
          | ((conv => whnf); exact True.intro)
        all_goals try (conv => whnf)
      · repeat' first
          | fail
          | exact True.intro
          | exact rfl
          | exact id
          | exact leRs_refl _
          | ((conv => whnf); with_reducible refine And.intro ?_ ?_)
          | ((conv => whnf); exact True.intro)
        all_goals try (conv => whnf)
      have hent : entry.length ≤ 5000 := by simp at *; omega
      have hno : now ≤ 1152921504606846976 := by simp at *; omega
      obtain ⟨hl1, hw1, hw5⟩ := setOf_len hmay n1
      refine ⟨{p : Nat × Ft × List Rq × Int // p.1 ≤ l.length ∧ GoodF n p.2.1 ∧ p.2.1.done = 0 ∧ p.2.1.set = setOf x.frags x.w n ∧ p.2.1.since ≤ p.2.2.2 ∧ u64R p.2.2.2 ∧ p.2.2.2 ≤ 1152921504606846976 ∧ Pend p.2.1 p.2.2.1},
        fun ⟨(k, f, q, m), _⟩ => ⟨[(1, .pv (uu n)), (3, .pv (uu m)), (4, .pv (slC l)), (5, .pv (ii bits)), (6, .pv (bys entry)), (7, .ptr 1007 0), (15, .ptr 1015 0), (16, .slw 1016 0), (18, .pv (ii k))], 1000000000,
          [(1007, .var (x.c.map .pv)), (1015, .var (f.c.map .pv)), (1016, .arr 49 0 10 (q.map Rq.c))]⟩, fun ⟨(k, _), _⟩ => l.length - k, ⟨⟨(0, f0, q0, now), by simp, g0, d0, s0, by simp [c0], hnow, hno, p0⟩, ent_of ?_⟩, ?_⟩
      · repeat' first
          | fail
          | exact True.intro
          | exact rfl
          | exact id
          | exact leRs_refl _
          | ((conv => whnf); with_reducible refine And.intro ?_ ?_)
          | ((conv => whnf); exact True.intro)
        all_goals try (conv => whnf)
      rintro ⟨⟨k, f, q, m⟩, hk, g, hd, hs, hsm, hm, hm2, hp⟩
      simp only at hk g hd hs hsm hm hm2 hp
      repeat' ((conv => whnf)
               first
               | with_reducible refine (Or.inl ?_ : VC _ _ _ _ _ ∨ _)
               | ((with_reducible refine (⟨fun hc => ?_, fun hc => ?_⟩ : (_ = true → _) ∧ (_ = false → _))) <;> first | exact absurd hc (by decide) | (exfalso; simp only [*, reduceCtorEq] at hc; done) | skip)
               | ((with_reducible refine And.intro ?_ ?_); focus (first | rfl | exact Nat.le_of_ble_eq_true rfl | omega | (simp only [List.length_cons, List.length_nil, List.length_map, List.length_append]; omega))))
      · have hlt : k < l.length := by simpa using hc
        obtain ⟨cw, co, cnow, cl⟩ := hl _ (List.getElem_mem hlt)
        have htk := rTick_g f l[k].now g.sm ⟨by have := g.at0; omega, by have := g.at1; have := g.len; omega⟩ cnow g.since
        refine ⟨_, rowK _ _ _ hlt, ?_⟩
        repeat' ((conv => whnf)
                 first
                 | with_reducible refine (Or.inl ?_ : VC _ _ _ _ _ ∨ _)
                 | ((with_reducible refine (⟨fun hc => ?_, fun hc => ?_⟩ : (_ = true → _) ∧ (_ = false → _))) <;> first | exact absurd hc (by decide) | (exfalso; simp only [*, reduceCtorEq] at hc; done) | skip)
                 | ((refine ⟨_, rowK _ _ _ hlt, ?_⟩))
                 | (refine Or.inr ?_; (conv => whnf); refine ⟨_, _, htk, ?_⟩)
                 | ((with_reducible refine And.intro ?_ ?_); focus (first | rfl | exact Nat.le_of_ble_eq_true rfl | omega | (simp only [List.length_cons, List.length_nil, List.length_map, List.length_append]; omega))))
        · have hmx : l[k].now ≤ (if l[k].now > m then l[k].now else m) ∧ m ≤ (if l[k].now > m then l[k].now else m) ∧ (if l[k].now > m then l[k].now else m) ≤ 1152921504606846976 ∧ u64R (if l[k].now > m then l[k].now else m) := by
            simp only [decide_eq_true_eq] at hc
            simp only [u64R] at *
            split <;> omega
          obtain ⟨t1, t2, t3, t4, t5⟩ := tickP_any g hd cnow (m := if l[k].now > m then l[k].now else m) (Int.le_trans hsm hmx.2.1) hmx.1 (q := q)
          refine ⟨⟨(k + 1, (tickP f l[k].now).1, (tickP f l[k].now).2, if l[k].now > m then l[k].now else m), hlt, t1, t2, by rw [t3]; exact hs, t4, hmx.2.2.2, hmx.2.2.1, t5⟩, dec_lt hlt, ent_of ?_⟩
          repeat' first
            | fail
            | exact True.intro
            | exact rfl
            | exact id
            | exact leRs_refl _
            | ((conv => whnf); with_reducible refine And.intro ?_ ?_)
            | ((conv => whnf); exact True.intro)
          all_goals try (conv => whnf)
          exact wrapI (by omega) (by omega)
        · refine ⟨⟨(k + 1, f, q, m), hlt, g, hd, hs, hsm, hm, hm2, hp⟩, dec_lt hlt, ent_of ?_⟩
          repeat' first
            | fail
            | exact True.intro
            | exact rfl
            | exact id
            | exact leRs_refl _
            | ((conv => whnf); with_reducible refine And.intro ?_ ?_)
            | ((conv => whnf); exact True.intro)
          all_goals try (conv => whnf)
          exact wrapI (by omega) (by omega)
        · refine ⟨⟨(k + 1, f, q, m), hlt, g, hd, hs, hsm, hm, hm2, hp⟩, dec_lt hlt, ent_of ?_⟩
          repeat' first
            | fail
            | exact True.intro
            | exact rfl
            | exact id
            | exact leRs_refl _
            | ((conv => whnf); with_reducible refine And.intro ?_ ?_)
            | ((conv => whnf); exact True.intro)
          all_goals try (conv => whnf)
          exact wrapI (by omega) (by omega)
      · exfalso; have := g.pos; simp only [List.length_map, beq_iff_eq] at *; omega
      · exfalso; rename_i hc1; have hl2 : f.set.length = x.w.toNat := by rw [hs]; exact hl1
        simp only [List.length_map, bne_iff_ne, ne_eq] at hc1; omega
      · have hset := r14Set_c x.frags x.w n hfr hn
        have hsame : PCx Try.prog 14 [slP f.set, slP f.set] (bl true) := by
          have := r14Same_c f.set f.set
          simpa using this
        rw [← hs] at hset
        have hpos := g.pos
        have hlen5 := g.len
        have hI : 0 ≤ (IntKind.i64.wrap (bits.tmod ((f.set.map Pl.c).length : Int) + ((f.set.map Pl.c).length : Int))).tmod ((f.set.map Pl.c).length : Int) ∧
            (IntKind.i64.wrap (bits.tmod ((f.set.map Pl.c).length : Int) + ((f.set.map Pl.c).length : Int))).tmod ((f.set.map Pl.c).length : Int) < f.set.length := by
          rw [List.length_map]
          have h1 : bits.tmod (f.set.length : Int) < f.set.length := by
            have := Int.tmod_lt_of_pos bits (b := (f.set.length : Int)) (by omega)
            exact this
          have h2 : -(f.set.length : Int) < bits.tmod (f.set.length : Int) := by
            have := Int.lt_tmod_of_pos bits (b := (f.set.length : Int)) (by omega)
            exact this
          rw [wrapI (by omega) (by omega)]
          exact ⟨Int.tmod_nonneg _ (by omega), Int.tmod_lt_of_pos _ (by omega)⟩
        obtain ⟨h, hh⟩ : ∃ h : Nat, (IntKind.i64.wrap (bits.tmod ((f.set.map Pl.c).length : Int) + ((f.set.map Pl.c).length : Int))).tmod ((f.set.map Pl.c).length : Int) = h := ⟨_, (Int.toNat_of_nonneg hI.1).symm⟩
        have hhl : h < f.set.length := by have := hI.2; rw [hh] at this; omega
        repeat' ((conv => whnf)
                 first
                 | with_reducible refine (Or.inl ?_ : VC _ _ _ _ _ ∨ _)
                 | ((with_reducible refine (⟨fun hc => ?_, fun hc => ?_⟩ : (_ = true → _) ∧ (_ = false → _))) <;> first | exact absurd hc (by decide) | (exfalso; simp only [*, reduceCtorEq] at hc; done) | skip)
                 | (refine Or.inl ?_; (conv => whnf); refine ⟨_, hset, ?_⟩)
                 | (refine Or.inl ?_; (conv => whnf); refine ⟨_, hsame, ?_⟩)
                 | (((with_reducible refine And.intro ?_ ?_); focus exact hI.1))
                 | ((refine ⟨_, rowE _ _ (k := h) hh hhl, ?_⟩))
                 | ((with_reducible refine And.intro ?_ ?_); focus (first | rfl | exact Nat.le_of_ble_eq_true rfl | omega | (simp only [List.length_cons, List.length_nil, List.length_map, List.length_append]; omega))))
        have hat : f.at_ = ((f.at_.toNat : Nat) : Int) := by have := g.at0; omega
        have hatl : f.at_.toNat < f.set.length := by have := g.at0; have := g.at1; omega
        obtain ⟨b0, hb0⟩ : ∃ b : Bool, q = if b then [reqOf f] else [] := by
          rcases hp with hp | hp
          · exact ⟨false, by simpa using hp⟩
          · exact ⟨true, by simpa using hp⟩
        have u0 : Und n f.set f.at_.toNat f.set[h]! f m 0 b0 := ⟨g, hd, rfl, by rw [Nat.add_zero, Nat.mod_eq_of_lt hatl]; exact hat, hsm, fun i h1 h2 => by omega⟩
        have hhas : f.set[h]! = f.set[h] := getElem!_pos f.set h hhl
        refine ⟨{p : Nat × Ft × List Rq × Int // u64R p.2.2.2 ∧ p.2.2.2 ≤ 1152921504606846976 + p.1 ∧ p.1 ≤ 3 * f.set.length + 1 ∧ ((Hd (p.2.1.done = 1 ∧ p.2.1.body = entry) ∧ GoodF n p.2.1) ∨
            ∃ (J : Nat) (b : Bool), Und n f.set f.at_.toNat f.set[h]! p.2.1 p.2.2.2 J b ∧ Late p.1 J (p.2.2.2 - p.2.1.since) ∧ p.1 ≤ 3 * f.set.length ∧ p.2.2.1 = if b then [reqOf p.2.1] else [])},
          fun ⟨(k, f1, q1, m1), _⟩ => ⟨[(3, .pv (uu m1)), (5, .pv (ii bits)), (6, .pv (bys entry)), (15, .ptr 1015 0), (16, .slw 1016 0), (19, .ptr 1019 0), (20, .pv (ii k))], 1000000000,
            [(1015, .var (f1.c.map .pv)), (1016, .arr 49 0 10 (q1.map Rq.c)), (1019, .var (f.set[h].c.map .pv))]⟩, fun ⟨(k, _), _⟩ => 3 * f.set.length + 2 - k,
          ⟨⟨(0, f, q, m), hm, by simpa using hm2, by omega, .inr ⟨0, b0, u0, ⟨by omega, by simp only; omega⟩, by omega, hb0⟩⟩, ent_of ?_⟩, ?_⟩
        · repeat' first
            | fail
            | exact True.intro
            | exact rfl
            | exact id
            | exact leRs_refl _
            | ((conv => whnf); with_reducible refine And.intro ?_ ?_)
            | ((conv => whnf); exact True.intro)
          all_goals try (conv => whnf)
        rintro ⟨⟨k1, f1, q1, m1⟩, r1, r2, r3, hinv⟩
        simp only at r1 r2 r3 hinv
        rcases hinv with ⟨E1, e3⟩ | ⟨J, b, u, hlate, hk3, hq1⟩
        · have e1b : (f1.done == 0) = false := by simp [E1.out.1]
          have e1c : (f1.done == 1) = true := by simp [E1.out.1]
          have hbody : ((⟨f1.body.toArray⟩ : ByteArray).toList == (⟨entry.toArray⟩ : ByteArray).toList) = true := by simp [E1.out.2]
          repeat' ((conv => whnf)
                   first
                   | with_reducible refine (Or.inl ?_ : VC _ _ _ _ _ ∨ _)
                   | ((with_reducible refine (⟨fun hc => ?_, fun hc => ?_⟩ : (_ = true → _) ∧ (_ = false → _))) <;> first | exact absurd hc (by decide) | (exfalso; simp only [*, reduceCtorEq] at hc; done) | skip)
                   | (refine Or.inl ?_; (conv => whnf); refine ⟨_, l17awake_c, ?_⟩)
                   | ((refine ⟨_, rfl, ?_⟩))
                   | ((with_reducible refine And.intro ?_ ?_); focus (first | rfl | exact Nat.le_of_ble_eq_true rfl | omega | (simp only [List.length_cons, List.length_nil, List.length_map, List.length_append]; omega))))
          · repeat' first
              | fail
              | exact True.intro
              | exact rfl
              | exact id
              | exact leRs_refl _
              | ((conv => whnf); with_reducible refine And.intro ?_ ?_)
              | ((conv => whnf); exact True.intro)
            all_goals try (conv => whnf)
          · repeat' first
              | fail
              | exact True.intro
              | exact rfl
              | exact id
              | exact leRs_refl _
              | ((conv => whnf); with_reducible refine And.intro ?_ ?_)
              | ((conv => whnf); exact True.intro)
            all_goals try (conv => whnf)
        · have hd1 := u.done
          have hs1 := u.set
          have e1b : (f1.done == 0) = true := by simp [hd1]
          have hgd : decide ((k1 : Int) ≤ IntKind.i64.wrap (3 * ((f1.set.map Pl.c).length : Int))) = true := by
            rw [List.length_map, hs1, wrapI (by omega) (by omega)]
            simp
            omega
          clear hd1 hs1
          repeat' ((conv => whnf)
                   first
                   | with_reducible refine (Or.inl ?_ : VC _ _ _ _ _ ∨ _)
                   | ((with_reducible refine (⟨fun hc => ?_, fun hc => ?_⟩ : (_ = true → _) ∧ (_ = false → _))) <;> first | exact absurd hc (by decide) | (exfalso; simp only [*, reduceCtorEq] at hc; done) | skip)
                   | ((with_reducible refine And.intro ?_ ?_); focus (first | rfl | exact Nat.le_of_ble_eq_true rfl | omega | (simp only [List.length_cons, List.length_nil, List.length_map, List.length_append]; omega))))
          refine ⟨{p : Nat × Ft × List Rq // p.1 ≤ 50 ∧ ((Hd (p.2.1.done = 1 ∧ p.2.1.body = entry) ∧ GoodF n p.2.1) ∨ ∃ (J : Nat) (b : Bool), Und n f.set f.at_.toNat f.set[h]! p.2.1 m1 J b ∧ Late k1 J (m1 - p.2.1.since) ∧
              ((b = true ∧ p.1 ≤ J ∧ p.2.2.length = p.1 + 1 ∧ p.2.2[p.1]? = some (reqOf p.2.1)) ∨ (b = false ∧ p.1 ≤ J + 1 ∧ p.2.2.length = p.1)))},
            fun ⟨(i, f2, q2), _⟩ => ⟨[(3, .pv (uu m1)), (5, .pv (ii bits)), (6, .pv (bys entry)), (15, .ptr 1015 0), (16, .slw 1016 0), (19, .ptr 1019 0), (20, .pv (ii k1)), (21, .pv (ii i))], 1000000000,
              [(1015, .var (f2.c.map .pv)), (1016, .arr 49 0 10 (q2.map Rq.c)), (1019, .var (f.set[h].c.map .pv))]⟩, fun ⟨(i, _), _⟩ => 51 - i,
            ⟨⟨(0, f1, q1), by simp, .inr ⟨J, b, u, hlate, by cases b <;> simp [hq1]⟩⟩, ent_of ?_⟩, ?_⟩
          · repeat' first
              | fail
              | exact True.intro
              | exact rfl
              | exact id
              | exact leRs_refl _
              | ((conv => whnf); with_reducible refine And.intro ?_ ?_)
              | ((conv => whnf); exact True.intro)
            all_goals try (conv => whnf)
          rintro ⟨⟨i, f2, q2⟩, ri, hinv2⟩
          simp only at ri hinv2
          have hwm : IntKind.u64.wrap (m1 + 1) = m1 + 1 := wrapU (by have := r1.1; omega) (by omega)
          have hwk : IntKind.i64.wrap ((k1 : Int) + 1) = k1 + 1 := wrapI (by omega) (by omega)
          have hm1 : u64R (m1 + 1) := by have := r1.1; simp only [u64R]; omega
          rcases hinv2 with ⟨E1, e3⟩ | ⟨J, b, u, hlate, hq⟩
          · have e1b : (f2.done == 0) = false := by simp [E1.out.1]
            have htk := rTick_g f2 (m1 + 1) e3.sm ⟨by have := e3.at0; omega, by have := e3.at1; have := e3.len; omega⟩ hm1 e3.since
            rw [tickP_done E1.out.1] at htk
            dsimp only at htk
            repeat' ((conv => whnf)
                     first
                     | with_reducible refine (Or.inl ?_ : VC _ _ _ _ _ ∨ _)
                     | ((with_reducible refine (⟨fun hc => ?_, fun hc => ?_⟩ : (_ = true → _) ∧ (_ = false → _))) <;> first | exact absurd hc (by decide) | (exfalso; simp only [*, reduceCtorEq] at hc; done) | skip)
                     | (refine Or.inr ?_; (conv => whnf); refine ⟨_, _, GCx_pre (htk) ?_, ?_⟩; focus ((repeat' first | exact True.intro | exact rfl | exact id | assumption | exact leRs_refl _ | ((conv => whnf); with_reducible refine And.intro ?_ ?_) | ((conv => whnf); exact True.intro)); done))
                     | ((with_reducible refine And.intro ?_ ?_); focus (first | rfl | exact Nat.le_of_ble_eq_true rfl | omega | (simp only [List.length_cons, List.length_nil, List.length_map, List.length_append]; omega))))
            all_goals
              refine ⟨⟨(k1 + 1, f2, [], m1 + 1), hm1, by simp only; omega, by simp only; omega, .inl ⟨E1, e3⟩⟩, (by show 3 * f.set.length + 2 - (k1 + 1) < 3 * f.set.length + 2 - k1; omega), ent_of ?_⟩
              repeat' first
                | fail
                | exact True.intro
                | exact rfl
                | exact id
                | exact leRs_refl _
                | ((conv => whnf); with_reducible refine And.intro ?_ ?_)
                | ((conv => whnf); exact True.intro)
              all_goals try (conv => whnf)
              all_goals first | exact hwm | (rw [hwk]; rfl)
          · have hd2 := u.done
            have e1b : (f2.done == 0) = true := by simp [hd2]
            have hJ := u.bound1 hatl hhl
            rcases hq with ⟨rfl, hiJ, hql, hqi⟩ | ⟨rfl, hiJ, hql⟩
            · have hg1 : decide ((i : Int) < ((q2.map Rq.c).length : Int)) = true := by simp; omega
              have hg2 : decide ((i : Int) < 50) = true := by simp; omega
              have hrow : (q2.map Rq.c)[((i : Nat) : Int).toNat]? = some (reqOf f2).c := by simp [hqi]
              by_cases hto : (reqOf f2).to = f.set[h]
              · have htk := rTake_g f2 m1 ⟨(reqOf f2).to, (reqOf f2).kind, 0, (reqOf f2).ledger, (reqOf f2).n, (reqOf f2).epoch, 0, entry⟩ u.good.sm (by show entry.length ≤ _; omega) ⟨by have := u.good.at0; omega, by have := u.good.at1; have := u.good.len; omega⟩
                rw [take_has u.good hd2 m1 entry] at htk
                dsimp only at htk
                clear hd2
                have hcmp : ((reqOf f2).to.node == f.set[h].node && (reqOf f2).to.serial == f.set[h].serial) = true := by rw [eqPl, hto]; simp
                have hgood : GoodF n { f2 with done := 1, body := entry } := ⟨u.good.n, u.good.pos, u.good.len, u.good.at0, u.good.at1, hent, u.good.since, .inr rfl⟩
                clear hto
                repeat' ((conv => whnf)
                         first
                         | with_reducible refine (Or.inl ?_ : VC _ _ _ _ _ ∨ _)
                         | ((with_reducible refine (⟨fun hc => ?_, fun hc => ?_⟩ : (_ = true → _) ∧ (_ = false → _))) <;> first | exact absurd hc (by decide) | (exfalso; simp only [*, reduceCtorEq] at hc; done) | skip)
                         | ((refine ⟨_, hrow, ?_⟩))
                         | (refine Or.inr ?_; (conv => whnf); refine ⟨_, _, GCx_pre (htk) ?_, ?_⟩; focus ((repeat' first | exact True.intro | exact rfl | exact id | assumption | exact leRs_refl _ | ((conv => whnf); with_reducible refine And.intro ?_ ?_) | ((conv => whnf); exact True.intro)); done))
                         | ((with_reducible refine And.intro ?_ ?_); focus (first | rfl | exact Nat.le_of_ble_eq_true rfl | omega | (simp only [List.length_cons, List.length_nil, List.length_map, List.length_append]; omega))))
                all_goals try (exfalso; clear htk hhv hnew hset hsame; grind)
                all_goals
                  refine ⟨⟨(i + 1, { f2 with done := 1, body := entry }, q2 ++ []), by simp only; omega, .inl ⟨⟨rfl, rfl⟩, hgood⟩⟩, (by show 51 - (i + 1) < 51 - i; omega), ent_of ?_⟩
                  repeat' first
                    | fail
                    | exact True.intro
                    | exact rfl
                    | exact id
                    | exact leRs_refl _
                    | ((conv => whnf); with_reducible refine And.intro ?_ ?_)
                    | ((conv => whnf); exact True.intro)
                  all_goals try (conv => whnf)
                  all_goals first | exact wrapI (by omega) (by omega) | (refine leRs_of_eq ?_; simp)
              · have htk := rTake_g f2 m1 ⟨(reqOf f2).to, (reqOf f2).kind, 3, (reqOf f2).ledger, (reqOf f2).n, (reqOf f2).epoch, 0, []⟩ u.good.sm (by show ([] : List UInt8).length ≤ _; simp) ⟨by have := u.good.at0; omega, by have := u.good.at1; have := u.good.len; omega⟩
                rw [take_not u.good hd2 m1 []] at htk
                dsimp only at htk
                clear hd2
                have hcmp : ((reqOf f2).to.node == f.set[h].node && (reqOf f2).to.serial == f.set[h].serial) = false := by rw [eqPl]; simpa using hto
                have hpass := u.passed (by rw [hhas]; exact hto)
                clear hto
                repeat' ((conv => whnf)
                         first
                         | with_reducible refine (Or.inl ?_ : VC _ _ _ _ _ ∨ _)
                         | ((with_reducible refine (⟨fun hc => ?_, fun hc => ?_⟩ : (_ = true → _) ∧ (_ = false → _))) <;> first | exact absurd hc (by decide) | (exfalso; simp only [*, reduceCtorEq] at hc; done) | skip)
                         | ((refine ⟨_, hrow, ?_⟩))
                         | (refine Or.inr ?_; (conv => whnf); refine ⟨_, _, GCx_pre (htk) ?_, ?_⟩; focus ((repeat' first | exact True.intro | exact rfl | exact id | assumption | exact leRs_refl _ | ((conv => whnf); with_reducible refine And.intro ?_ ?_) | ((conv => whnf); exact True.intro)); done))
                         | ((with_reducible refine And.intro ?_ ?_); focus (first | rfl | exact Nat.le_of_ble_eq_true rfl | omega | (simp only [List.length_cons, List.length_nil, List.length_map, List.length_append]; omega))))
                all_goals try (exfalso; clear htk hhv hnew hset hsame; grind)
                obtain ⟨z1, z2⟩ := hlate
                · refine ⟨⟨(i + 1, f2, q2), by simp only; omega, .inr ⟨J, false, hpass, ⟨z1, z2⟩, .inr ⟨rfl, by simp only; omega, hql⟩⟩⟩, (by show 51 - (i + 1) < 51 - i; omega), ent_of ?_⟩
                  repeat' first
                    | fail
                    | exact True.intro
                    | exact rfl
                    | exact id
                    | exact leRs_refl _
                    | ((conv => whnf); with_reducible refine And.intro ?_ ?_)
                    | ((conv => whnf); exact True.intro)
                  all_goals try (conv => whnf)
                  all_goals first | exact wrapI (by omega) (by omega) | (refine leRs_of_eq ?_; simp)
                · obtain ⟨z1, z2⟩ := hlate
                  refine ⟨⟨(i + 1, askF f2 (f2.at_ + 1) m1, q2 ++ [reqOf (askF f2 (f2.at_ + 1) m1)]), by simp only; omega, .inr ⟨J + 1, true, hpass.ask r1, ⟨by omega, by show (k1 : Int) ≤ 3 * ((J + 1 : Nat) : Int) + (m1 - m1); omega⟩,
                    .inl ⟨rfl, by simp only; omega, by simp [hql], by simp [hql]⟩⟩⟩, (by show 51 - (i + 1) < 51 - i; omega), ent_of ?_⟩
                  repeat' first
                    | fail
                    | exact True.intro
                    | exact rfl
                    | exact id
                    | exact leRs_refl _
                    | ((conv => whnf); with_reducible refine And.intro ?_ ?_)
                    | ((conv => whnf); exact True.intro)
                  all_goals try (conv => whnf)
                  all_goals first | exact wrapI (by omega) (by omega) | (refine leRs_of_eq ?_; simp)
            · have hg1 : decide ((i : Int) < ((q2.map Rq.c).length : Int)) = false := by simp; omega
              have htk := rTick_g f2 (m1 + 1) u.good.sm ⟨by have := u.good.at0; omega, by have := u.good.at1; have := u.good.len; omega⟩ hm1 u.good.since
              rcases tickP_cases u.good hd2 (now := m1 + 1) (by have := u.since; omega) with ⟨h3, ht3⟩ | ⟨h3, ht3⟩
              · rw [ht3] at htk
                dsimp only at htk
                clear hd2 ht3
                have hJ2 := u.bound hatl hhl
                obtain ⟨z1, z2⟩ := hlate
                repeat' ((conv => whnf)
                         first
                         | with_reducible refine (Or.inl ?_ : VC _ _ _ _ _ ∨ _)
                         | ((with_reducible refine (⟨fun hc => ?_, fun hc => ?_⟩ : (_ = true → _) ∧ (_ = false → _))) <;> first | exact absurd hc (by decide) | (exfalso; simp only [*, reduceCtorEq] at hc; done) | skip)
                         | (refine Or.inr ?_; (conv => whnf); refine ⟨_, _, GCx_pre (htk) ?_, ?_⟩; focus ((repeat' first | exact True.intro | exact rfl | exact id | assumption | exact leRs_refl _ | ((conv => whnf); with_reducible refine And.intro ?_ ?_) | ((conv => whnf); exact True.intro)); done))
                         | ((with_reducible refine And.intro ?_ ?_); focus (first | rfl | exact Nat.le_of_ble_eq_true rfl | omega | (simp only [List.length_cons, List.length_nil, List.length_map, List.length_append]; omega))))
                all_goals
                  refine ⟨⟨(k1 + 1, askF f2 (f2.at_ + 1) (m1 + 1), [reqOf (askF f2 (f2.at_ + 1) (m1 + 1))], m1 + 1), hm1, by simp only; omega, by simp only; omega, .inr ⟨J + 1, true, u.ask hm1, ⟨by omega, by show ((k1 + 1 : Nat) : Int) ≤ 3 * ((J + 1 : Nat) : Int) + (m1 + 1 - (m1 + 1)); omega⟩, by simp only; omega, rfl⟩⟩, (by show 3 * f.set.length + 2 - (k1 + 1) < 3 * f.set.length + 2 - k1; omega), ent_of ?_⟩
                  repeat' first
                    | fail
                    | exact True.intro
                    | exact rfl
                    | exact id
                    | exact leRs_refl _
                    | ((conv => whnf); with_reducible refine And.intro ?_ ?_)
                    | ((conv => whnf); exact True.intro)
                  all_goals try (conv => whnf)
                  all_goals first | exact hwm | (rw [hwk]; rfl)
              · rw [ht3] at htk
                dsimp only at htk
                clear hd2 ht3
                have hJ2 := u.bound hatl hhl
                obtain ⟨z1, z2⟩ := hlate
                repeat' ((conv => whnf)
                         first
                         | with_reducible refine (Or.inl ?_ : VC _ _ _ _ _ ∨ _)
                         | ((with_reducible refine (⟨fun hc => ?_, fun hc => ?_⟩ : (_ = true → _) ∧ (_ = false → _))) <;> first | exact absurd hc (by decide) | (exfalso; simp only [*, reduceCtorEq] at hc; done) | skip)
                         | (refine Or.inr ?_; (conv => whnf); refine ⟨_, _, GCx_pre (htk) ?_, ?_⟩; focus ((repeat' first | exact True.intro | exact rfl | exact id | assumption | exact leRs_refl _ | ((conv => whnf); with_reducible refine And.intro ?_ ?_) | ((conv => whnf); exact True.intro)); done))
                         | ((with_reducible refine And.intro ?_ ?_); focus (first | rfl | exact Nat.le_of_ble_eq_true rfl | omega | (simp only [List.length_cons, List.length_nil, List.length_map, List.length_append]; omega))))
                all_goals
                  refine ⟨⟨(k1 + 1, f2, [], m1 + 1), hm1, by simp only; omega, by simp only; omega, .inr ⟨J, false, ⟨u.good, u.done, u.set, u.at_, by have := u.since; simp only; omega, u.seen⟩, ⟨by omega, by simp only; omega⟩, by simp only; omega, rfl⟩⟩, (by show 3 * f.set.length + 2 - (k1 + 1) < 3 * f.set.length + 2 - k1; omega), ent_of ?_⟩
                  repeat' first
                    | fail
                    | exact True.intro
                    | exact rfl
                    | exact id
                    | exact leRs_refl _
                    | ((conv => whnf); with_reducible refine And.intro ?_ ?_)
                    | ((conv => whnf); exact True.intro)
                  all_goals try (conv => whnf)
                  all_goals first | exact hwm | (rw [hwk]; rfl)
    · have hnew := rNew_c x n tag now hok hfr hn
      repeat' ((conv => whnf)
               first
               | with_reducible refine (Or.inl ?_ : VC _ _ _ _ _ ∨ _)
               | ((with_reducible refine (⟨fun hc => ?_, fun hc => ?_⟩ : (_ = true → _) ∧ (_ = false → _))) <;> first | exact absurd hc (by decide) | (exfalso; simp only [*, reduceCtorEq] at hc; done) | skip)
               | (refine Or.inl ?_; (conv => whnf); refine ⟨_, hhv, ?_⟩)
               | (refine Or.inl ?_; (conv => whnf); refine ⟨_, hnew, ?_⟩)
               | (refine Or.inl ?_; (conv => whnf); refine ⟨_, l17awake_c, ?_⟩)
               | ((with_reducible refine And.intro ?_ ?_); focus (first | rfl | exact Nat.le_of_ble_eq_true rfl | omega | (simp only [List.length_cons, List.length_nil, List.length_map, List.length_append]; omega))))
      · repeat' first
          | fail
          | exact True.intro
          | exact rfl
          | exact id
          | exact leRs_refl _
          | ((conv => whnf); with_reducible refine And.intro ?_ ?_)
          | ((conv => whnf); exact True.intro)
        all_goals try (conv => whnf)
      · repeat' first
          | fail
          | exact True.intro
          | exact rfl
          | exact id
          | exact leRs_refl _
          | ((conv => whnf); with_reducible refine And.intro ?_ ?_)
          | ((conv => whnf); exact True.intro)
        all_goals try (conv => whnf)
      · repeat' first
          | fail
          | exact True.intro
          | exact rfl
          | exact id
          | exact leRs_refl _
          | ((conv => whnf); with_reducible refine And.intro ?_ ?_)
          | ((conv => whnf); exact True.intro)
        all_goals try (conv => whnf)
      · exfalso; grind
end Go.Proofs.Ytibbgchpgfpccaa.Tb

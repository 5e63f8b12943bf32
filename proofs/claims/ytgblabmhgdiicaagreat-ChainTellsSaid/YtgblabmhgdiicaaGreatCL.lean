/-
  Contracts of functions of the program and of the document, each for every input that its premises name.
-/
import Derived.Test.YtgblabmhgdiicaaGreatCK
set_option linter.unusedSectionVars false
set_option maxRecDepth 100000
set_option maxHeartbeats 4000000
set_option linter.unusedVariables false
set_option linter.unusedSimpArgs false
open Go Go.AX
namespace Go.Proofs.YtgblabmhgdiicaaGreat.Tb
theorem fn_cGone : FnOk Tryz.prog 18 Tryz.f18 := ⟨Tryz.func18, by kernel_rfl, by kernel_rfl, by kernel_rfl⟩
theorem cGone_c (p : Pn) (n : Int) (h : PnOk p) : PCx Tryz.prog 18 [.agg p.c, ii n] (.tup [slU (goneC p n).1, uu (goneC p n).2.1, uu (goneC p n).2.2]) := by
  refine PC.le ?_
  have cH := cHas_c p n h.b
  cases hh : hasC p n with
  | false =>
    have e : goneC p n = ([], 0, 0) := by unfold goneC; rw [if_neg (by rw [hh]; decide)]
    rw [e]
    rw [hh] at cH
    clear hh e
    refine PC_of_VC tabOk (draw_ok mixed tabOk) fn_cGone rfl ?_
    repeat' ((conv => whnf); first | with_reducible refine zol ?_ | ((with_reducible refine fk (fun hc => ?_) fun hc => ?_) <;> first | exact absurd hc (by decide) | (exfalso; simp only [*, reduceCtorEq, Bool.not_true, Bool.not_false] at hc; done) | skip) | (refine zll ?_; (conv => whnf); refine ⟨_, cH, ?_⟩) | ((with_reducible apply And.intro); focus (first | rfl | exact znb rfl | omega | (simp only [zlc, zln, zlm, zla]; omega))))
    repeat' first | (with_reducible first | exact ⟨⟩ | exact rfl | exact lr _) | ((conv => whnf); with_reducible first | apply And.intro | exact ⟨⟩) | exact rfl | exact fun h => h | exact lr _
    all_goals try (conv => whnf)
  | true =>
    have hsq := leds1_s p n h.b (hasC_P hh)
    obtain ⟨X, hX⟩ : ∃ X, X = goneC p n := ⟨_, rfl⟩
    rw [← hX]
    unfold goneC at hX
    rw [if_pos hh] at hX
    rw [hh] at cH
    have hb := h.b.channels
    obtain ⟨i, hi, en, ec⟩ := hasP_ix (hasC_P hh)
    have eI : IntKind.i64.wrap (n - 1) = ((i : Nat) : Int) := by rw [wrapI (by omega) (by omega)]; omega
    have hr := rowK Ch.c p.channels i hi
    have hcb := h.b.ch _ (List.getElem_mem hi)
    rw [← ec] at hr hcb
    clear ec en hh
    obtain ⟨x, hx⟩ : ∃ x, x = chP p n := ⟨_, rfl⟩
    rw [← hx] at hr hcb hX hsq
    clear hx
    have hbl := hcb.ledgers
    have cL := cLeds_c p n
    refine PC_of_VC tabOk (draw_ok mixed tabOk) fn_cGone rfl ?_
    repeat' ((conv => whnf); first | with_reducible refine zol ?_ | ((with_reducible refine fk (fun hc => ?_) fun hc => ?_) <;> first | exact absurd hc (by decide) | (exfalso; simp only [*, reduceCtorEq, Bool.not_true, Bool.not_false] at hc; done) | skip) | ((rewrite [eI])) | ((refine ⟨_, hr, ?_⟩)) | (refine zll ?_; (conv => whnf); refine ⟨_, cH, ?_⟩) | (refine zll ?_; (conv => whnf); refine ⟨_, cL, ?_⟩) | ((with_reducible apply And.intro); focus (first | rfl | exact znb rfl | omega | (simp only [zlc, zln, zlm, zla]; omega))))
    refine ⟨_, _, _, hsq, Unit, fun k _ => goneA p x.trim (goneG p x.ledgers k) (atK p x.first x.ledgers k) (x.ledgers.drop k) = X, fun k _ => match k with
      | 0 => ⟨[(2, .ptr 502 0), (3, .ptr 503 0), (4, .ptr 504 0), (5, .ptr 505 0), (6, .ptr 506 0), (22, .pv (.fn (.func 75) [] [.eptr p.c 0, .eptr [ii n] 0]))], 1000000000, [(502, .var (p.c.map .pv)), (503, .var [.pv (ii n)]), (504, .var [.pv nilS]), (505, .var [.pv (uu 0)]), (506, .var [.pv (uu x.first)])]⟩
      | k + 1 => ⟨[(2, .ptr 502 0), (3, .ptr 503 0), (4, .ptr 504 0), (5, .ptr 505 0), (6, .ptr 506 0), (22, .pv (.fn (.func 75) [] [.eptr p.c 0, .eptr [ii n] 0]))], 1000000000, [(502, .var (p.c.map .pv)), (503, .var [.pv (ii n)]), (504, .var [.slw 1504 0]), (505, .var [.pv (uu 0)]), (506, .var [.pv (uu (atK p x.first x.ledgers (k + 1)))]), (1504, .arr 22 0 1 ((goneG p x.ledgers (k + 1)).map uRow))]⟩, ⟨(), ent_of ?_⟩, fun _ => rfl, fun k _ => by cases k <;> rfl, ?_, ?_⟩
    · repeat' first
        | fail
        | with_reducible exact True.intro
        | with_reducible exact rfl
        | with_reducible exact leRs_refl _
        | ((conv => whnf); with_reducible apply And.intro)
        | ((conv => whnf); with_reducible exact True.intro)
        | exact rfl
        | exact fun h => h
        | exact leRs_refl _
      all_goals try (conv => whnf)
    · intro k y _ hy
      have hk : k < x.ledgers.length := by
        have := (List.getElem?_eq_some_iff.1 hy).1
        rw [List.length_map, ledsC_len] at this
        exact this
      have hy2 : y = [uu (atK p x.first x.ledgers k), .agg (findL p x.ledgers[k]).c] := by
        have := (List.getElem?_eq_some_iff.1 hy).2
        rw [List.getElem_map, ledsC_get] at this
        exact this.symm
      subst hy2
      clear hy hsq cH cL
      have eU : ∀ a b : Int, IntKind.u64.wrap (a + b) = addU a b := fun _ _ => rfl
      cases k with
      | zero =>
        (conv => whnf)
        intro hok
        have hst : goneA p x.trim (goneG p x.ledgers 0) (atK p x.first x.ledgers 0) (x.ledgers.drop 0) = X := by rw [atK_zero]; exact hX.symm
        have hS := fun hq => goneA_stop (p := p) (trim := x.trim) (a := atK p x.first x.ledgers 0) (acc := goneG p x.ledgers 0) (ids := x.ledgers) (k := 0) hk hq
        have hA := atK_succ p x.first x.ledgers 0 hk
        have hG := goneG_succ p x.ledgers 0 hk
        have hGl := goneG_len p x.ledgers 0
        have hN : ((findL p x.ledgers[0]).closed == 0 || decide (addU (atK p x.first x.ledgers 0) (findL p x.ledgers[0]).last > x.trim)) = false → goneA p x.trim (goneG p x.ledgers (0 + 1)) (atK p x.first x.ledgers (0 + 1)) (x.ledgers.drop (0 + 1)) = X := fun hq => by rw [hG, hA]; exact (goneA_next hk hq).symm.trans hst
        rw [hst] at hS
        have hAs : Hd (addU (atK p x.first x.ledgers 0) (findL p x.ledgers[0]).last = atK p x.first x.ledgers (0 + 1)) := ⟨hA.symm⟩
        have hGs : Hd ((goneG p x.ledgers 0).map uRow ++ [uRow (findL p x.ledgers[0]).id] = (goneG p x.ledgers (0 + 1)).map uRow) := ⟨by rw [hG, List.map_append]; rfl⟩
        clear hst hA hG hX hok
        rw [atK_zero] at hS hAs hN
        rw [atK_zero]
        have eA : atK p x.first x.ledgers 0 = x.first := atK_zero p _ _
        obtain ⟨l, hl⟩ : ∃ l, l = findL p x.ledgers[0] := ⟨_, rfl⟩
        rw [← hl] at hS hN hAs hGs ⊢
        clear hl
        clear eA
        cases hq : (l.closed == 0) with
        | true =>
          have e := hS (by rw [hq]; rfl)
          clear hS hN
          subst e
          repeat' ((conv => whnf); first | with_reducible refine zol ?_ | ((with_reducible refine fk (fun hc => ?_) fun hc => ?_) <;> first | exact absurd hc (by decide) | (exfalso; simp only [*, reduceCtorEq, Bool.not_true, Bool.not_false] at hc; done) | skip) | ((rewrite [eI])) | ((refine ⟨_, hr, ?_⟩)) | ((with_reducible apply And.intro); focus (first | rfl | exact znb rfl | omega | (simp only [zlc, zln, zlm, zla]; omega))))
          repeat' first | (with_reducible first | exact ⟨⟩ | exact rfl | exact lr _) | ((conv => whnf); with_reducible first | apply And.intro | exact ⟨⟩) | exact rfl | exact fun h => h | exact lr _
          all_goals try (conv => whnf)
        | false =>
          cases hq2 : decide (addU x.first l.last > x.trim) with
          | true =>
            have e := hS (by rw [hq, hq2]; rfl)
            clear hS hN
            subst e
            repeat' ((conv => whnf); first | with_reducible refine zol ?_ | ((with_reducible refine fk (fun hc => ?_) fun hc => ?_) <;> first | exact absurd hc (by decide) | (exfalso; simp only [*, reduceCtorEq, Bool.not_true, Bool.not_false] at hc; done) | skip) | ((rewrite [eI])) | rewrite [eU] | ((refine ⟨_, hr, ?_⟩)) | ((with_reducible apply And.intro); focus (first | rfl | exact znb rfl | omega | (simp only [zlc, zln, zlm, zla]; omega))))
            repeat' first | (with_reducible first | exact ⟨⟩ | exact rfl | exact lr _) | ((conv => whnf); with_reducible first | apply And.intro | exact ⟨⟩) | exact rfl | exact fun h => h | exact lr _
            all_goals try (conv => whnf)
          | false =>
            have e := hN (by rw [hq, hq2]; rfl)
            clear hS hN
            repeat' ((conv => whnf); first | with_reducible refine zol ?_ | ((with_reducible refine fk (fun hc => ?_) fun hc => ?_) <;> first | exact absurd hc (by decide) | (exfalso; simp only [*, reduceCtorEq, Bool.not_true, Bool.not_false] at hc; done) | skip) | ((rewrite [eI])) | rewrite [eU] | ((refine ⟨_, hr, ?_⟩)) | (((with_reducible apply And.intro); focus (simp only [List.length_map, List.length_cons, List.length_nil]; omega))) | ((with_reducible apply And.intro); focus (first | rfl | exact znb rfl | omega | (simp only [zlc, zln, zlm, zla]; omega))))
            refine ⟨(), e, ent_of ?_⟩
            repeat' first | (with_reducible first | exact ⟨⟩ | exact rfl | exact lr _) | ((conv => whnf); with_reducible first | apply And.intro | exact ⟨⟩) | exact rfl | exact fun h => h | exact lr _
            all_goals try (conv => whnf)
            all_goals first
              | exact hAs.out
              | exact leRs_of_eq hGs.out
              | trace_state
      | succ k =>
        (conv => whnf)
        intro hok
        have hst : goneA p x.trim (goneG p x.ledgers (k + 1)) (atK p x.first x.ledgers (k + 1)) (x.ledgers.drop (k + 1)) = X := hok (by omega)
        have hS := fun hq => goneA_stop (p := p) (trim := x.trim) (a := atK p x.first x.ledgers (k + 1)) (acc := goneG p x.ledgers (k + 1)) (ids := x.ledgers) (k := (k + 1)) hk hq
        have hA := atK_succ p x.first x.ledgers (k + 1) hk
        have hG := goneG_succ p x.ledgers (k + 1) hk
        have hGl := goneG_len p x.ledgers (k + 1)
        have hN : ((findL p x.ledgers[(k + 1)]).closed == 0 || decide (addU (atK p x.first x.ledgers (k + 1)) (findL p x.ledgers[(k + 1)]).last > x.trim)) = false → goneA p x.trim (goneG p x.ledgers ((k + 1) + 1)) (atK p x.first x.ledgers ((k + 1) + 1)) (x.ledgers.drop ((k + 1) + 1)) = X := fun hq => by rw [hG, hA]; exact (goneA_next hk hq).symm.trans hst
        rw [hst] at hS
        have hAs : Hd (addU (atK p x.first x.ledgers (k + 1)) (findL p x.ledgers[(k + 1)]).last = atK p x.first x.ledgers ((k + 1) + 1)) := ⟨hA.symm⟩
        have hGs : Hd ((goneG p x.ledgers (k + 1)).map uRow ++ [uRow (findL p x.ledgers[(k + 1)]).id] = (goneG p x.ledgers ((k + 1) + 1)).map uRow) := ⟨by rw [hG, List.map_append]; rfl⟩
        clear hst hA hG hX hok
        obtain ⟨l, hl⟩ : ∃ l, l = findL p x.ledgers[(k + 1)] := ⟨_, rfl⟩
        rw [← hl] at hS hN hAs hGs ⊢
        clear hl
        cases hq : (l.closed == 0) with
        | true =>
          have e := hS (by rw [hq]; rfl)
          clear hS hN
          subst e
          repeat' ((conv => whnf); first | with_reducible refine zol ?_ | ((with_reducible refine fk (fun hc => ?_) fun hc => ?_) <;> first | exact absurd hc (by decide) | (exfalso; simp only [*, reduceCtorEq, Bool.not_true, Bool.not_false] at hc; done) | skip) | ((rewrite [eI])) | ((refine ⟨_, hr, ?_⟩)) | ((with_reducible apply And.intro); focus (first | rfl | exact znb rfl | omega | (simp only [zlc, zln, zlm, zla]; omega))))
          repeat' first | (with_reducible first | exact ⟨⟩ | exact rfl | exact lr _) | ((conv => whnf); with_reducible first | apply And.intro | exact ⟨⟩) | exact rfl | exact fun h => h | exact lr _
          all_goals try (conv => whnf)
        | false =>
          cases hq2 : decide (addU (atK p x.first x.ledgers (k + 1)) l.last > x.trim) with
          | true =>
            have e := hS (by rw [hq, hq2]; rfl)
            clear hS hN
            subst e
            repeat' ((conv => whnf); first | with_reducible refine zol ?_ | ((with_reducible refine fk (fun hc => ?_) fun hc => ?_) <;> first | exact absurd hc (by decide) | (exfalso; simp only [*, reduceCtorEq, Bool.not_true, Bool.not_false] at hc; done) | skip) | ((rewrite [eI])) | rewrite [eU] | ((refine ⟨_, hr, ?_⟩)) | ((with_reducible apply And.intro); focus (first | rfl | exact znb rfl | omega | (simp only [zlc, zln, zlm, zla]; omega))))
            repeat' first | (with_reducible first | exact ⟨⟩ | exact rfl | exact lr _) | ((conv => whnf); with_reducible first | apply And.intro | exact ⟨⟩) | exact rfl | exact fun h => h | exact lr _
            all_goals try (conv => whnf)
          | false =>
            have e := hN (by rw [hq, hq2]; rfl)
            clear hS hN
            repeat' ((conv => whnf); first | with_reducible refine zol ?_ | ((with_reducible refine fk (fun hc => ?_) fun hc => ?_) <;> first | exact absurd hc (by decide) | (exfalso; simp only [*, reduceCtorEq, Bool.not_true, Bool.not_false] at hc; done) | skip) | ((rewrite [eI])) | rewrite [eU] | ((refine ⟨_, hr, ?_⟩)) | (((with_reducible apply And.intro); focus (simp only [List.length_map, List.length_cons, List.length_nil]; omega))) | ((with_reducible apply And.intro); focus (first | rfl | exact znb rfl | omega | (simp only [zlc, zln, zlm, zla]; omega))))
            refine ⟨(), e, ent_of ?_⟩
            repeat' first | (with_reducible first | exact ⟨⟩ | exact rfl | exact lr _) | ((conv => whnf); with_reducible first | apply And.intro | exact ⟨⟩) | exact rfl | exact fun h => h | exact lr _
            all_goals try (conv => whnf)
            all_goals first
              | exact hAs.out
              | exact leRs_of_eq hGs.out
              | trace_state
    · intro _ hok
      rw [List.length_map, ledsC_len] at hok ⊢
      obtain ⟨m, hm⟩ : ∃ m, m = x.ledgers.length := ⟨_, rfl⟩
      have hXe : X = (goneG p x.ledgers m, 0, atK p x.first x.ledgers m) := by
        rw [hm]
        cases hx0 : x.ledgers.length with
        | zero =>
          have e0 : x.ledgers = [] := List.eq_nil_of_length_eq_zero hx0
          rw [hX, e0]
          rfl
        | succ q =>
          have := hok (by omega)
          rw [hx0] at this
          rw [← this, show x.ledgers.drop (q + 1) = [] from by rw [← hx0]; exact List.drop_length, goneA]
      clear hok hX
      subst hXe
      rw [← hm]
      cases m with
      | zero =>
        rw [atK_zero]
        repeat' ((conv => whnf); first | with_reducible refine zol ?_ | ((with_reducible refine fk (fun hc => ?_) fun hc => ?_) <;> first | exact absurd hc (by decide) | (exfalso; simp only [*, reduceCtorEq, Bool.not_true, Bool.not_false] at hc; done) | skip) | ((with_reducible apply And.intro); focus (first | rfl | exact znb rfl | omega | (simp only [zlc, zln, zlm, zla]; omega))))
        repeat' first | (with_reducible first | exact ⟨⟩ | exact rfl | exact lr _) | ((conv => whnf); with_reducible first | apply And.intro | exact ⟨⟩) | exact rfl | exact fun h => h | exact lr _
        all_goals try (conv => whnf)
      | succ q =>
        repeat' ((conv => whnf); first | with_reducible refine zol ?_ | ((with_reducible refine fk (fun hc => ?_) fun hc => ?_) <;> first | exact absurd hc (by decide) | (exfalso; simp only [*, reduceCtorEq, Bool.not_true, Bool.not_false] at hc; done) | skip) | ((with_reducible apply And.intro); focus (first | rfl | exact znb rfl | omega | (simp only [zlc, zln, zlm, zla]; omega))))
        repeat' first | (with_reducible first | exact ⟨⟩ | exact rfl | exact lr _) | ((conv => whnf); with_reducible first | apply And.intro | exact ⟨⟩) | exact rfl | exact fun h => h | exact lr _
        all_goals try (conv => whnf)
end Go.Proofs.YtgblabmhgdiicaaGreat.Tb

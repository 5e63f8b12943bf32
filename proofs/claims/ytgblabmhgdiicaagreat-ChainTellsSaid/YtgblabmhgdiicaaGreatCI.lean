/-
  Contracts of functions of the program and of the document, each for every input that its premises name.
-/
import Derived.Test.YtgblabmhgdiicaaGreatCH
set_option linter.unusedSectionVars false
set_option maxRecDepth 100000
set_option maxHeartbeats 4000000
set_option linter.unusedVariables false
set_option linter.unusedSimpArgs false
open Go Go.AX
namespace Go.Proofs.YtgblabmhgdiicaaGreat.Tb
theorem hasC_P {p : Pn} {n : Int} (h : hasC p n = true) : hasP p n = true := by
  simp only [hasC, Bool.and_eq_true] at h
  simp only [hasP, Bool.and_eq_true]
  exact ⟨h.1, h.2.1⟩
theorem fn_spots1 : FnOk Tryz.prog 53 Tryz.f53 := ⟨Tryz.func53, by kernel_rfl, by kernel_rfl, by kernel_rfl⟩
theorem spots1_s (p : Pn) (n sure : Int) (h : PnB p) (hr : lgsR p) (hs : 0 ≤ sure) : SeqC Tryz.prog 53 [.eptr p.c 0, .eptr [ii n] 0, .eptr [uu sure] 0] ((allC p n sure).map fun s => [.agg s.c]) := by
  refine SeqC_of_VC tabOk (draw_ok mixed tabOk) fn_spots1 rfl rfl (fun P0 => ?_)
  have cH := cHas_c p n h
  cases hh : hasC p n with
  | false =>
    rw [hh] at cH
    have e : allC p n sure = [] := (findC_not (sure := sure) (o := 0) hh).2.1
    rw [e]
    clear e hh
    repeat' ((conv => whnf); first | with_reducible refine zol ?_ | ((with_reducible refine fk (fun hc => ?_) fun hc => ?_) <;> first | exact absurd hc (by decide) | (exfalso; simp only [*, reduceCtorEq, Bool.not_true, Bool.not_false] at hc; done) | skip) | (refine zll ?_; (conv => whnf); refine ⟨_, cH, ?_⟩) | ((with_reducible apply And.intro); focus (first | rfl | exact znb rfl | omega | (simp only [zlc, zln, zlm, zla]; omega))))
    repeat' first | (with_reducible first | exact ⟨⟩ | exact rfl | exact lr _) | ((conv => whnf); with_reducible first | apply And.intro | exact ⟨⟩) | exact rfl | exact fun h => h | exact lr _
    all_goals try (conv => whnf)
  | true =>
    rw [hh] at cH
    have hP := hasC_P hh
    have hk := ch_of (hasC_may hh hr) hr (chP_mem hh)
    have hsq := leds1_s p n h hP
    obtain ⟨i, hi, en, ec⟩ := hasP_ix hP
    have hcb := (h.ch _ (List.getElem_mem hi)).ledgers
    rw [← ec] at hcb
    have eA : allC p n sure = spR p sure (chP p n).first (chP p n).ledgers 0 := by rw [spR_zero]; unfold allC; rw [if_pos hh]
    rw [eA]
    have hrow := hk.row
    have hlast : ∀ k (hk : k < (chP p n).ledgers.length), 0 ≤ spN sure (findL p (chP p n).ledgers[k]) ∧ spN sure (findL p (chP p n).ledgers[k]) ≤ 8 := by
      intro k hk2
      exact spN_le hs (row_all hrow _ (List.mem_map.2 ⟨_, List.getElem_mem hk2, rfl⟩))
    clear hrow hk eA en ec hi hh hP
    obtain ⟨x, hx⟩ : ∃ x, x = chP p n := ⟨_, rfl⟩
    rw [← hx] at hsq hcb hlast ⊢
    clear hx
    repeat' ((conv => whnf); first | with_reducible refine zol ?_ | ((with_reducible refine fk (fun hc => ?_) fun hc => ?_) <;> first | exact absurd hc (by decide) | (exfalso; simp only [*, reduceCtorEq, Bool.not_true, Bool.not_false] at hc; done) | skip) | (refine zll ?_; (conv => whnf); refine ⟨_, cH, ?_⟩) | (refine zll ?_; (conv => whnf); refine ⟨_, cLeds_c p n, ?_⟩) | ((with_reducible apply And.intro); focus (first | rfl | exact znb rfl | omega | (simp only [zlc, zln, zlm, zla]; omega))))
    refine ⟨_, _, _, hsq, Unit, fun _ _ => True, fun k _ => ⟨[(1, .pv (.eptr p.c 0)), (3, .pv (.eptr [uu sure] 0)), (4, .ptr 504 0), (15, .pv (.fn (.func 75) [] [.eptr p.c 0, .eptr [ii n] 0]))], 1000000000, [(504, .var [.pv (.fn (.yield P0) [] [])]), (999, .tr (Tryz.prog, P0) 0 ((spR p sure x.first x.ledgers k).map fun s => [.agg s.c]) (some false))]⟩, ⟨(), ent_of ?_⟩, fun _ => rfl, fun k _ => rfl, ?_, ?_⟩
    · repeat' first
        | fail
        | with_reducible exact True.intro
        | with_reducible exact rfl
        | with_reducible exact leRs_refl _
        | ((conv => whnf); with_reducible apply And.intro)
        | ((conv => whnf); with_reducible exact True.intro)
        | exact rfl
        | exact fun h => h
        | exact leRs_refl _
      all_goals try (conv => whnf)
    · intro k y _ hy
      have hk : k < x.ledgers.length := by
        have := (List.getElem?_eq_some_iff.1 hy).1
        rw [List.length_map, ledsC_len] at this
        exact this
      have hy2 : y = [uu (atK p x.first x.ledgers k), .agg (findL p x.ledgers[k]).c] := by
        have := (List.getElem?_eq_some_iff.1 hy).2
        rw [List.getElem_map, ledsC_get] at this
        exact this.symm
      subst hy2
      have hst := spR_step p sure x.first x.ledgers k hk
      obtain ⟨hN0, hN8⟩ := hlast k hk
      obtain ⟨a, ha⟩ : ∃ a, a = atK p x.first x.ledgers k := ⟨_, rfl⟩
      obtain ⟨l, hl⟩ : ∃ l, l = findL p x.ledgers[k] := ⟨_, rfl⟩
      obtain ⟨S, hS⟩ : ∃ S, S = spR p sure x.first x.ledgers (k + 1) := ⟨_, rfl⟩
      rw [← ha, ← hl, ← hS] at hst
      rw [← hl] at hN0 hN8
      obtain ⟨N, hN⟩ : ∃ N : Nat, spN sure l = (N : Int) := ⟨(spN sure l).toNat, by omega⟩
      rw [hN, Int.toNat_natCast] at hst
      have hN9 : N ≤ 8 := by omega
      have hSh : Hd (S = spR p sure x.first x.ledgers (k + 1)) := ⟨hS⟩
      have hsth : Hd (spR p sure x.first x.ledgers k = spL a l N ++ S) := ⟨hst⟩
      clear hst hS hy hlast hN0 hN8 hsq cH
      (conv => whnf)
      rw [← ha, ← hl]
      clear ha hl
      intro _
      repeat' ((conv => whnf); first | with_reducible refine zor ?_ | ((with_reducible refine fk (fun hc => ?_) fun hc => ?_) <;> first | exact absurd hc (by decide) | (exfalso; simp only [*, reduceCtorEq] at hc; done) | skip) | ((with_reducible apply And.intro); focus (first | rfl | exact znb rfl | omega | (simp only [zlc, zln, zlm, zla]; omega))))
      refine Or.inr ⟨Unit, fun _ => ⟨[(4, .ptr 504 0), (5, .pv (uu a)), (6, .ptr 1006 0), (7, .pv (uu (N : Int)))], 1000000000, [(504, .var [.pv (.fn (.yield P0) [] [])]), (999, .tr (Tryz.prog, P0) 0 ((spL a l N ++ S).map fun s => [.agg s.c]) (some false)), (1006, .var (l.c.map .pv))]⟩, ?_, fun _ => ?_⟩
      · unfold spN at hN
        cases hc0 : (l.closed == 0) with
        | true =>
          rw [hc0, if_pos rfl] at hN
          have hNh : Hd ((if 8 < sure then (8 : Int) else sure) = (N : Int)) := ⟨hN⟩
          clear hN
          repeat' ((conv => whnf); first | with_reducible refine zor ?_ | ((with_reducible refine fk (fun hc => ?_) fun hc => ?_) <;> first | exact absurd hc (by decide) | (exfalso; simp only [*, reduceCtorEq] at hc; done) | skip) | ((with_reducible apply And.intro); focus (first | rfl | exact znb rfl | omega | (simp only [zlc, zln, zlm, zla]; omega))))
          refine ⟨(), ent_of ?_⟩
          repeat' first | (with_reducible first | exact ⟨⟩ | exact rfl | exact lr _) | ((conv => whnf); with_reducible first | apply And.intro | exact ⟨⟩) | exact rfl | exact fun h => h | exact lr _
          all_goals try (conv => whnf)
          all_goals first
            | exact hNh.out
            | (rw [hsth.out])
        | false =>
          rw [hc0, if_neg (by decide)] at hN
          have hNh : Hd (l.last = (N : Int)) := ⟨hN⟩
          clear hN
          repeat' ((conv => whnf); first | with_reducible refine zor ?_ | ((with_reducible refine fk (fun hc => ?_) fun hc => ?_) <;> first | exact absurd hc (by decide) | (exfalso; simp only [*, reduceCtorEq] at hc; done) | skip) | ((with_reducible apply And.intro); focus (first | rfl | exact znb rfl | omega | (simp only [zlc, zln, zlm, zla]; omega))))
          refine ⟨(), ent_of ?_⟩
          repeat' first | (with_reducible first | exact ⟨⟩ | exact rfl | exact lr _) | ((conv => whnf); with_reducible first | apply And.intro | exact ⟨⟩) | exact rfl | exact fun h => h | exact lr _
          all_goals try (conv => whnf)
          all_goals first
            | exact hNh.out
            | (rw [hsth.out])
      clear hN hsth
      repeat' ((conv => whnf); first | with_reducible refine zor ?_ | with_reducible refine zoc ?_ | with_reducible refine zos ?_ | ((with_reducible refine fk (fun hc => ?_) fun hc => ?_) <;> first | exact absurd hc (by decide) | (exfalso; simp only [*, reduceCtorEq] at hc; done) | skip) | ((with_reducible apply And.intro); focus (first | rfl | exact znb rfl | omega | (simp only [zlc, zln, zlm, zla]; omega))))
      refine ⟨{i : Nat // i ≤ N}, fun ⟨i, _⟩ => ⟨[(4, .ptr 504 0), (5, .pv (uu a)), (6, .ptr 1006 0), (25, .pv (uu (N : Int))), (26, .pv (uu (i : Int)))], 1000000000, [(504, .var [.pv (.fn (.yield P0) [] [])]), (999, .tr (Tryz.prog, P0) 0 (((spL a l N).drop i ++ S).map fun s => [.agg s.c]) (some false)), (1006, .var (l.c.map .pv))]⟩, fun ⟨i, _⟩ => N - i, ⟨⟨0, by omega⟩, ent_of ?_⟩, ?_⟩
      · repeat' first
          | fail
          | with_reducible exact True.intro
          | with_reducible exact rfl
          | with_reducible exact leRs_refl _
          | ((conv => whnf); with_reducible apply And.intro)
          | ((conv => whnf); with_reducible exact True.intro)
          | exact rfl
          | exact fun h => h
          | exact leRs_refl _
        all_goals try (conv => whnf)
      rintro ⟨i, hi⟩
      by_cases hlt : i < N
      · have d0 : decide ((i : Int) < (N : Int)) = true := by simp only [zdt]; omega
        have eW : IntKind.u64.wrap ((i : Int) + 1) = ((i + 1 : Nat) : Int) := by rw [wrapU (by omega) (by omega)]; omega
        have hd := spL_drop a l N i hlt
        repeat' ((conv => whnf); first | with_reducible refine zol ?_ | ((with_reducible refine fk (fun hc => ?_) fun hc => ?_) <;> first | exact absurd hc (by decide) | (exfalso; simp only [*, reduceCtorEq, Bool.not_true, Bool.not_false] at hc; done) | skip) | ((rewrite [hd])) | ((refine ⟨_, _, rfl, leQs_refl _, ?_⟩)) | ((with_reducible apply And.intro); focus (first | rfl | exact znb rfl | omega | (simp only [zlc, zln, zlm, zla]; omega))))
        · refine ⟨trivial, ⟨i + 1, hlt⟩, dec_lt hlt, ent_of ?_⟩
          repeat' first | (with_reducible first | exact ⟨⟩ | exact rfl | exact lr _) | ((conv => whnf); with_reducible first | apply And.intro | exact ⟨⟩) | exact rfl | exact fun h => h | exact lr _
          all_goals try (conv => whnf)
          all_goals exact eW
      · have hie : i = N := by omega
        subst hie
        have d0 : decide ((i : Int) < (i : Int)) = false := by simp
        have hd := spL_drop_end a l i
        repeat' ((conv => whnf); first | with_reducible refine zol ?_ | ((with_reducible refine fk (fun hc => ?_) fun hc => ?_) <;> first | exact absurd hc (by decide) | (exfalso; simp only [*, reduceCtorEq, Bool.not_true, Bool.not_false] at hc; done) | skip) | ((with_reducible apply And.intro); focus (first | rfl | exact znb rfl | omega | (simp only [zlc, zln, zlm, zla]; omega))))
        refine ⟨(), trivial, ent_of ?_⟩
        repeat' first | (with_reducible first | exact ⟨⟩ | exact rfl | exact lr _) | ((conv => whnf); with_reducible first | apply And.intro | exact ⟨⟩) | exact rfl | exact fun h => h | exact lr _
        all_goals try (conv => whnf)
        all_goals (rw [hd, hSh.out]; rfl)
    · intro _ _
      rw [List.length_map, ledsC_len]
      have he := spR_end p sure x.first x.ledgers
      repeat' ((conv => whnf); first | with_reducible refine zol ?_ | ((with_reducible refine fk (fun hc => ?_) fun hc => ?_) <;> first | exact absurd hc (by decide) | (exfalso; simp only [*, reduceCtorEq] at hc; done) | skip) | ((rewrite [he])) | ((with_reducible apply And.intro); focus (first | rfl | exact znb rfl | omega | (simp only [zlc, zln, zlm, zla]; omega))))
      repeat' first | (with_reducible first | exact ⟨⟩ | exact rfl | exact lr _) | ((conv => whnf); with_reducible first | apply And.intro | exact ⟨⟩) | exact rfl | exact fun h => h | exact lr _
      all_goals try (conv => whnf)
end Go.Proofs.YtgblabmhgdiicaaGreat.Tb

/-
  Contracts of functions of the program and of the document, each for every input that its premises name.
-/
import Derived.Test.YtgblabmhgdiicaaGreatCW
set_option linter.unusedSectionVars false
set_option maxRecDepth 100000
set_option maxHeartbeats 4000000
set_option linter.unusedVariables false
set_option linter.unusedSimpArgs false
open Go Go.AX
namespace Go.Proofs.YtgblabmhgdiicaaGreat.Tb
theorem found_ix {p : Pn} {id : Int} (h : (findP p id).isSome = true) : ∃ j, ∃ hj : j < p.ledgers.length, fixP p id = (j : Nat) ∧ findL p id = p.ledgers[j] := by
  rcases fixP_cases p id with ⟨e1, e2⟩ | ⟨j, hj, e1, e2⟩
  · rw [e2] at h; cases h
  · exact ⟨j, hj, e1, by unfold findL; rw [e2]; rfl⟩
theorem ch_facts {p : Pn} {n : Int} (h : PnJ p) (hh : hasC p n = true) : ChF p (chP p n) ∧ ChOk p (chP p n) := by
  have hk := ch_of (hasC_may hh h.r) h.r (chP_mem hh)
  obtain ⟨i, hi, en, ec⟩ := hasP_ix (hasC_P hh)
  have F := (mayPn_iff p).1 (hasC_may hh h.r)
  have := (chanOk_iff p _).1 (F.ch i hi)
  rw [← ec] at this
  exact ⟨this, hk⟩
theorem fn_r20All : FnOk Tryz.prog 17 Tryz.f17 := ⟨Tryz.func17, by kernel_rfl, by kernel_rfl, by kernel_rfl⟩
theorem r20All_c (p : Pn) (n sure : Int) (h : PnJ p) (hs : 0 ≤ sure ∧ sure ≤ 18446744073709551615) : PCx Tryz.prog 17 [.agg p.c, ii n, uu sure] (slS (allC p n sure)) := by
  refine PC.le ?_
  have cH := r20Has_c p n h.i
  cases hh : hasC p n with
  | false =>
    rw [(findC_not (sure := sure) (o := 0) hh).2.1]
    rw [hh] at cH
    clear hh
    refine PC_of_VC tabOk (draw_ok mixed tabOk) fn_r20All rfl ?_
    repeat' ((conv => whnf); first | with_reducible refine zol ?_ | ((with_reducible refine fk (fun hc => ?_) fun hc => ?_) <;> first | exact absurd hc (by decide) | (exfalso; simp only [*, reduceCtorEq, Bool.not_true, Bool.not_false] at hc; done) | skip) | (refine zll ?_; (conv => whnf); refine ⟨_, cH, ?_⟩) | ((with_reducible apply And.intro); focus (first | rfl | exact znb rfl | omega | (simp only [zlc, zln, zlm, zla]; omega))))
    repeat' first | (with_reducible first | exact ⟨⟩ | exact rfl | exact lr _) | ((conv => whnf); with_reducible first | apply And.intro | exact ⟨⟩) | exact rfl | exact fun h => h | exact lr _
    all_goals try (conv => whnf)
  | true =>
    rw [hh] at cH
    obtain ⟨F, hk⟩ := ch_facts h hh
    have hfr := (h.i.ch _ (chP_mem hh)).2
    have hb := h.i.b.channels
    have hbl := h.i.b.ledgers
    obtain ⟨i, hi, en, ec⟩ := hasP_ix (hasC_P hh)
    have eI : IntKind.i64.wrap (n - 1) = ((i : Nat) : Int) := by rw [wrapI (by omega) (by omega)]; omega
    have hr := rowK Ch.c p.channels i hi
    rw [← ec] at hr
    have eA : allC p n sure = spP p sure (chP p n).first (chP p n).ledgers (chP p n).ledgers.length := by rw [spP_end]; unfold allC; rw [if_pos hh]
    rw [eA]
    clear ec en hh eA
    obtain ⟨x, hx⟩ : ∃ x, x = chP p n := ⟨_, rfl⟩
    rw [← hx] at hr F hk hfr ⊢
    clear hx
    have hrow := hk.row
    have hld : ∀ k (hk : k < x.ledgers.length), LdOk (findL p x.ledgers[k]) := fun k hk2 => row_all hrow _ (List.mem_map.2 ⟨_, List.getElem_mem hk2, rfl⟩)
    have hlast : ∀ k (hk : k < x.ledgers.length), 0 ≤ spN sure (findL p x.ledgers[k]) ∧ spN sure (findL p x.ledgers[k]) ≤ 8 := fun k hk2 => spN_le hs.1 (hld k hk2)
    have hle := spP_le p sure x.first x.ledgers hlast
    have hlen := F.len
    have hleds := F.leds
    have eN : ((List.map uRow x.ledgers).length : Int) = (x.ledgers.length : Int) := by rw [List.length_map]
    clear hrow hk F
    refine PC_of_VC tabOk (draw_ok mixed tabOk) fn_r20All rfl ?_
    repeat' ((conv => whnf); first | with_reducible refine zol ?_ | ((with_reducible refine fk (fun hc => ?_) fun hc => ?_) <;> first | exact absurd hc (by decide) | (exfalso; simp only [*, reduceCtorEq, Bool.not_true, Bool.not_false] at hc; done) | skip) | ((rewrite [eI])) | ((refine ⟨_, hr, ?_⟩)) | (refine zll ?_; (conv => whnf); refine ⟨_, cH, ?_⟩) | ((with_reducible apply And.intro); focus (first | rfl | exact znb rfl | omega | (simp only [zlc, zln, zlm, zla]; omega))))
    refine ⟨{q : Nat × Int // q.1 ≤ x.ledgers.length ∧ (q.1 < x.ledgers.length → q.2 = atK p x.first x.ledgers q.1)}, fun ⟨(k, a), _⟩ => ⟨[(2, .pv (uu sure)), (3, .ptr 1003 0), (7, .ptr 1007 0), (8, .pv (uu a)), (9, .slw 1009 0), (10, .pv (ii k))], 1000000000, [(1003, .var (p.c.map .pv)), (1007, .var (x.c.map .pv)), (1009, .arr 33 0 3 ((spP p sure x.first x.ledgers k).map Sp.c))]⟩, fun ⟨(k, a), _⟩ => x.ledgers.length - k, ⟨⟨(0, x.first), by simp, fun _ => (atK_zero _ _ _).symm⟩, ent_of ?_⟩, ?_⟩
    · repeat' first
        | fail
        | with_reducible exact True.intro
        | with_reducible exact rfl
        | with_reducible exact leRs_refl _
        | ((conv => whnf); with_reducible apply And.intro)
        | ((conv => whnf); with_reducible exact True.intro)
        | exact rfl
        | exact fun h => h
        | exact leRs_refl _
      all_goals try (conv => whnf)
      all_goals (rw [spP_zero]; simp)
    clear cH eI hr
    rintro ⟨⟨k, a⟩, hk, ha⟩
    simp only at hk ha
    by_cases hlt : k < x.ledgers.length
    case neg =>
      have hke : k = x.ledgers.length := by omega
      subst hke
      have d0 : decide ((x.ledgers.length : Int) < (x.ledgers.length : Int)) = false := by simp
      repeat' ((conv => whnf); first | with_reducible refine zol ?_ | ((with_reducible refine fk (fun hc => ?_) fun hc => ?_) <;> first | exact absurd hc (by decide) | (exfalso; simp only [*, reduceCtorEq, Bool.not_true, Bool.not_false] at hc; done) | skip) | rewrite [eN] | ((with_reducible apply And.intro); focus (first | rfl | exact znb rfl | omega | (simp only [zlc, zln, zlm, zla]; omega))))
      repeat' first | (with_reducible first | exact ⟨⟩ | exact rfl | exact lr _) | ((conv => whnf); with_reducible first | apply And.intro | exact ⟨⟩) | exact rfl | exact fun h => h | exact lr _
      all_goals try (conv => whnf)
    have d0 : decide ((k : Int) < (x.ledgers.length : Int)) = true := by simp only [zdt]; omega
    have eW : IntKind.i64.wrap ((k : Int) + 1) = ((k + 1 : Nat) : Int) := by rw [wrapI (by omega) (by omega)]; omega
    have ha := ha hlt
    have r1 := rowK uRow x.ledgers k hlt
    have cF := r07Find_c p x.ledgers[k] hbl
    obtain ⟨j, hj, e1, e2⟩ := found_ix (hleds k hlt).1
    rw [e1] at cF
    have r2 := rowK Lg.c p.ledgers j hj
    have hsp := spP_succ p sure x.first x.ledgers k hlt
    have hat := atK_succ p x.first x.ledgers k hlt
    obtain ⟨hN0, hN8⟩ := hlast k hlt
    have hL := hld k hlt
    have hcl := (hleds k hlt).2
    have hlek := hle k (by omega)
    have har := atK_rng (p := p) hfr x.ledgers k (by omega)
    rw [← ha] at hsp hat har
    rw [e2] at hsp hat hN0 hN8 hL hcl
    clear e1 e2 ha hlast hld hle hleds
    obtain ⟨l, hl⟩ : ∃ l, l = p.ledgers[j] := ⟨_, rfl⟩
    rw [← hl] at r2 hsp hat hN0 hN8 hL hcl
    clear hl
    obtain ⟨N, hN⟩ : ∃ N : Nat, spN sure l = (N : Int) := ⟨(spN sure l).toNat, by omega⟩
    rw [hN, Int.toNat_natCast] at hsp
    have hN9 : N ≤ 8 := by omega
    have hsph : Hd (spP p sure x.first x.ledgers (k + 1) = spP p sure x.first x.ledgers k ++ spL a l N) := ⟨hsp⟩
    have hath : Hd (k + 1 < x.ledgers.length → addU a N = atK p x.first x.ledgers (k + 1)) := ⟨fun h1 => by
      rw [hat]
      have hc0 : l.closed ≠ 0 := fun e => by have := hcl e; omega
      rw [← hN, spN_closed hc0]⟩
    obtain ⟨S, hS⟩ : ∃ S, S = spP p sure x.first x.ledgers k := ⟨_, rfl⟩
    rw [← hS] at hsph hlek
    have hSh : Hd (spP p sure x.first x.ledgers k = S) := ⟨hS.symm⟩
    have n8 : Hd (sure = (8 : Int) ∨ True) := ⟨.inr trivial⟩
    clear hsp hat hN0 hN8 hL hcl hS
    repeat' ((conv => whnf); first | with_reducible refine zor ?_ | with_reducible refine zoc ?_ | with_reducible refine zos ?_ | ((with_reducible refine fk (fun hc => ?_) fun hc => ?_) <;> first | exact absurd hc (by decide) | (exfalso; simp only [*, reduceCtorEq, Bool.not_true, Bool.not_false] at hc; done) | skip) | rewrite [eN] | ((with_reducible apply And.intro); focus (first | rfl | exact znb rfl | omega | (simp only [zlc, zln, zlm, zla]; omega))))
    refine Or.inl ?_
    repeat' ((conv => whnf); first | with_reducible refine zor ?_ | ((with_reducible refine fk (fun hc => ?_) fun hc => ?_) <;> first | exact absurd hc (by decide) | (exfalso; simp only [*, reduceCtorEq] at hc; done) | skip) | ((refine ⟨_, r1, ?_⟩)) | ((refine ⟨_, r2, ?_⟩)) | (refine zll ?_; (conv => whnf); refine ⟨_, cF, ?_⟩) | ((with_reducible apply And.intro); focus (first | rfl | exact znb rfl | omega | (simp only [zlc, zln, zlm, zla]; omega))))
    refine Or.inr ⟨Unit, fun _ => ⟨[(2, .pv (uu sure)), (3, .ptr 1003 0), (7, .ptr 1007 0), (8, .pv (uu a)), (9, .slw 1009 0), (10, .pv (ii k)), (11, .ptr 1011 0), (12, .pv (uu (N : Int)))], 1000000000, [(1003, .var (p.c.map .pv)), (1007, .var (x.c.map .pv)), (1009, .arr 33 0 3 (S.map Sp.c)), (1011, .var (l.c.map .pv))]⟩, ?_, fun _ => ?_⟩
    · unfold spN at hN
      cases hc0 : (l.closed == 0) with
      | true =>
        rw [hc0, if_pos rfl] at hN
        cases d1 : decide (sure > 8) with
        | true =>
          rw [if_pos (by simpa using d1)] at hN
          have hNh : Hd ((8 : Int) = (N : Int)) := ⟨hN⟩
          clear hN
          repeat' ((conv => whnf); first | with_reducible refine zol ?_ | ((with_reducible refine fk (fun hc => ?_) fun hc => ?_) <;> first | exact absurd hc (by decide) | (exfalso; simp only [*, reduceCtorEq, Bool.not_true, Bool.not_false] at hc; done) | skip) | ((with_reducible apply And.intro); focus (first | rfl | exact znb rfl | omega | (simp only [zlc, zln, zlm, zla]; omega))))
          refine ⟨(), ent_of ?_⟩
          repeat' first | (with_reducible first | exact ⟨⟩ | exact rfl | exact lr _) | ((conv => whnf); with_reducible first | apply And.intro | exact ⟨⟩) | exact rfl | exact fun h => h | exact lr _
          all_goals try (conv => whnf)
          all_goals first
            | exact hNh.out
            | (rw [hSh.out]; exact leRs_refl _)
        | false =>
          rw [if_neg (by simpa using d1)] at hN
          have hNh : Hd (sure = (N : Int)) := ⟨hN⟩
          clear hN
          repeat' ((conv => whnf); first | with_reducible refine zol ?_ | ((with_reducible refine fk (fun hc => ?_) fun hc => ?_) <;> first | exact absurd hc (by decide) | (exfalso; simp only [*, reduceCtorEq, Bool.not_true, Bool.not_false] at hc; done) | skip) | ((with_reducible apply And.intro); focus (first | rfl | exact znb rfl | omega | (simp only [zlc, zln, zlm, zla]; omega))))
          refine ⟨(), ent_of ?_⟩
          repeat' first | (with_reducible first | exact ⟨⟩ | exact rfl | exact lr _) | ((conv => whnf); with_reducible first | apply And.intro | exact ⟨⟩) | exact rfl | exact fun h => h | exact lr _
          all_goals try (conv => whnf)
          all_goals first
            | exact hNh.out
            | (rw [hSh.out]; exact leRs_refl _)
      | false =>
        rw [hc0, if_neg (by decide)] at hN
        have hNh : Hd (l.last = (N : Int)) := ⟨hN⟩
        clear hN
        repeat' ((conv => whnf); first | with_reducible refine zol ?_ | ((with_reducible refine fk (fun hc => ?_) fun hc => ?_) <;> first | exact absurd hc (by decide) | (exfalso; simp only [*, reduceCtorEq, Bool.not_true, Bool.not_false] at hc; done) | skip) | ((with_reducible apply And.intro); focus (first | rfl | exact znb rfl | omega | (simp only [zlc, zln, zlm, zla]; omega))))
        refine ⟨(), ent_of ?_⟩
        repeat' first | (with_reducible first | exact ⟨⟩ | exact rfl | exact lr _) | ((conv => whnf); with_reducible first | apply And.intro | exact ⟨⟩) | exact rfl | exact fun h => h | exact lr _
        all_goals try (conv => whnf)
        all_goals first
          | exact hNh.out
          | (rw [hSh.out]; exact leRs_refl _)
    clear hN hSh cF r1 r2
    repeat' ((conv => whnf); first | with_reducible refine zor ?_ | with_reducible refine zoc ?_ | with_reducible refine zos ?_ | ((with_reducible refine fk (fun hc => ?_) fun hc => ?_) <;> first | exact absurd hc (by decide) | (exfalso; simp only [*, reduceCtorEq] at hc; done) | skip) | ((with_reducible apply And.intro); focus (first | rfl | exact znb rfl | omega | (simp only [zlc, zln, zlm, zla]; omega))))
    refine ⟨{m : Nat // m ≤ N}, fun ⟨m, _⟩ => ⟨[(2, .pv (uu sure)), (3, .ptr 1003 0), (7, .ptr 1007 0), (8, .pv (uu (addU a m))), (9, .slw 1009 0), (10, .pv (ii k)), (11, .ptr 1011 0), (12, .pv (uu (N : Int))), (13, .pv (uu ((m + 1 : Nat) : Int)))], 1000000000, [(1003, .var (p.c.map .pv)), (1007, .var (x.c.map .pv)), (1009, .arr 33 0 3 ((S ++ spL a l m).map Sp.c)), (1011, .var (l.c.map .pv))]⟩, fun ⟨m, _⟩ => N - m, ⟨⟨0, by omega⟩, ent_of ?_⟩, ?_⟩
    · repeat' first
        | fail
        | with_reducible exact True.intro
        | with_reducible exact rfl
        | with_reducible exact leRs_refl _
        | ((conv => whnf); with_reducible apply And.intro)
        | ((conv => whnf); with_reducible exact True.intro)
        | exact rfl
        | exact fun h => h
        | exact leRs_refl _
      all_goals try (conv => whnf)
      all_goals first
        | (rw [addU_id (by omega)]; omega)
        | (refine leRs_of_eq ?_; simp [spL])
    rintro ⟨m, hm⟩
    by_cases hlm : m < N
    · have d1 : decide (((m + 1 : Nat) : Int) ≤ (N : Int)) = true := by simp only [zdt]; omega
      have eV : IntKind.u64.wrap (((m + 1 : Nat) : Int) + 1) = ((m + 1 + 1 : Nat) : Int) := by rw [wrapU (by omega) (by omega)]; omega
      have eU : IntKind.u64.wrap (addU a (m : Int) + 1) = addU a ((m + 1 : Nat) : Int) := (addU_add a m 1).trans (by congr 1)
      have eS : Hd ((S ++ spL a l (m + 1)).map Sp.c = (S ++ spL a l m).map Sp.c ++ [[uu (addU a m), uu l.id, uu ((m + 1 : Nat) : Int)]]) := ⟨by
        rw [spL_succ, ← List.append_assoc, List.map_append]
        congr 1
        show [[uu (addU a m), uu l.id, uu (addU m 1)]] = _
        rw [addU_id (a := (m : Int)) (b := 1) (by omega)]
        rfl⟩
      repeat' ((conv => whnf); first | with_reducible refine zol ?_ | ((with_reducible refine fk (fun hc => ?_) fun hc => ?_) <;> first | exact absurd hc (by decide) | (exfalso; simp only [*, reduceCtorEq, Bool.not_true, Bool.not_false] at hc; done) | skip) | (((with_reducible apply And.intro); focus (simp only [List.length_map, List.length_append, spL_len, List.length_cons, List.length_nil]; omega))) | ((with_reducible apply And.intro); focus (first | rfl | exact znb rfl | omega | (simp only [zlc, zln, zlm, zla]; omega))))
      refine ⟨⟨m + 1, hlm⟩, dec_lt hlm, ent_of ?_⟩
      repeat' first | (with_reducible first | exact ⟨⟩ | exact rfl | exact lr _) | ((conv => whnf); with_reducible first | apply And.intro | exact ⟨⟩) | exact rfl | exact fun h => h | exact lr _
      all_goals try (conv => whnf)
      all_goals first
        | exact eV
        | exact eU
        | (rw [eS.out]; exact leRs_refl _)
    · have hme : m = N := by omega
      subst hme
      have d1 : decide (((m + 1 : Nat) : Int) ≤ (m : Int)) = false := by simp only [zdf]; omega
      repeat' ((conv => whnf); first | with_reducible refine zol ?_ | ((with_reducible refine fk (fun hc => ?_) fun hc => ?_) <;> first | exact absurd hc (by decide) | (exfalso; simp only [*, reduceCtorEq, Bool.not_true, Bool.not_false] at hc; done) | skip) | ((with_reducible apply And.intro); focus (first | rfl | exact znb rfl | omega | (simp only [zlc, zln, zlm, zla]; omega))))
      refine ⟨⟨(k + 1, addU a m), hlt, hath.out⟩, (by show x.ledgers.length - (k + 1) < x.ledgers.length - k; omega), ent_of ?_⟩
      repeat' first | (with_reducible first | exact ⟨⟩ | exact rfl | exact lr _) | ((conv => whnf); with_reducible first | apply And.intro | exact ⟨⟩) | exact rfl | exact fun h => h | exact lr _
      all_goals try (conv => whnf)
      all_goals first
        | exact eW
        | (rw [hsph.out]; exact leRs_refl _)
theorem fn_r20Length : FnOk Tryz.prog 16 Tryz.f16 := ⟨Tryz.func16, by kernel_rfl, by kernel_rfl, by kernel_rfl⟩
theorem r20Length_c (p : Pn) (n sure : Int) (h : PnJ p) (hs : 0 ≤ sure ∧ sure ≤ 18446744073709551615) : PCx Tryz.prog 16 [.agg p.c, ii n, uu sure] (uu (lengthC p n sure)) := by
  refine PC.le ?_
  have cH := r20Has_c p n h.i
  cases hh : hasC p n with
  | false =>
    rw [(findC_not (sure := sure) (o := 0) hh).2.2]
    rw [hh] at cH
    clear hh
    refine PC_of_VC tabOk (draw_ok mixed tabOk) fn_r20Length rfl ?_
    repeat' ((conv => whnf); first | with_reducible refine zol ?_ | ((with_reducible refine fk (fun hc => ?_) fun hc => ?_) <;> first | exact absurd hc (by decide) | (exfalso; simp only [*, reduceCtorEq, Bool.not_true, Bool.not_false] at hc; done) | skip) | (refine zll ?_; (conv => whnf); refine ⟨_, cH, ?_⟩) | ((with_reducible apply And.intro); focus (first | rfl | exact znb rfl | omega | (simp only [zlc, zln, zlm, zla]; omega))))
    repeat' first | (with_reducible first | exact ⟨⟩ | exact rfl | exact lr _) | ((conv => whnf); with_reducible first | apply And.intro | exact ⟨⟩) | exact rfl | exact fun h => h | exact lr _
    all_goals try (conv => whnf)
  | true =>
    rw [hh] at cH
    have cA := r20All_c p n sure h hs
    have eL : lengthC p n sure = addU (chP p n).first (IntKind.u64.wrap (allC p n sure).length) := by unfold lengthC; rw [if_pos hh]
    rw [eL]
    have hb := h.i.b.channels
    obtain ⟨i, hi, en, ec⟩ := hasP_ix (hasC_P hh)
    have eI : IntKind.i64.wrap (n - 1) = ((i : Nat) : Int) := by rw [wrapI (by omega) (by omega)]; omega
    have hr := rowK Ch.c p.channels i hi
    rw [← ec] at hr
    clear ec en hh eL
    have eN : ((List.map Sp.c (allC p n sure)).length : Int) = ((allC p n sure).length : Int) := by rw [List.length_map]
    refine PC_of_VC tabOk (draw_ok mixed tabOk) fn_r20Length rfl ?_
    repeat' ((conv => whnf); first | with_reducible refine zol ?_ | ((with_reducible refine fk (fun hc => ?_) fun hc => ?_) <;> first | exact absurd hc (by decide) | (exfalso; simp only [*, reduceCtorEq, Bool.not_true, Bool.not_false] at hc; done) | skip) | rewrite [eN] | ((rewrite [eI])) | ((refine ⟨_, hr, ?_⟩)) | (refine zll ?_; (conv => whnf); refine ⟨_, cH, ?_⟩) | (refine zll ?_; (conv => whnf); refine ⟨_, cA, ?_⟩) | ((with_reducible apply And.intro); focus (first | rfl | exact znb rfl | omega | (simp only [zlc, zln, zlm, zla]; omega))))
    repeat' first | (with_reducible first | exact ⟨⟩ | exact rfl | exact lr _) | ((conv => whnf); with_reducible first | apply And.intro | exact ⟨⟩) | exact rfl | exact fun h => h | exact lr _
    all_goals try (conv => whnf)
theorem fn_r20Find : FnOk Tryz.prog 14 Tryz.f14 := ⟨Tryz.func14, by kernel_rfl, by kernel_rfl, by kernel_rfl⟩
theorem r20Find_c (p : Pn) (n sure o : Int) (h : PnJ p) (hs : 0 ≤ sure ∧ sure ≤ 18446744073709551615) (ho : 0 ≤ o ∧ o ≤ 18446744073709551615) : PCx Tryz.prog 14 [.agg p.c, ii n, uu sure, uu o] (.tup [.agg (findC p n sure o).1.c, ii (findC p n sure o).2]) := by
  refine PC.le ?_
  have cH := r20Has_c p n h.i
  cases hh : hasC p n with
  | false =>
    have e : findC p n sure o = (sp0, 1) := by unfold findC oneC; rw [if_neg (by rw [hh]; decide)]
    rw [e]
    rw [hh] at cH
    clear hh e
    refine PC_of_VC tabOk (draw_ok mixed tabOk) fn_r20Find rfl ?_
    repeat' ((conv => whnf); first | with_reducible refine zol ?_ | ((with_reducible refine fk (fun hc => ?_) fun hc => ?_) <;> first | exact absurd hc (by decide) | (exfalso; simp only [*, reduceCtorEq, Bool.not_true, Bool.not_false] at hc; done) | skip) | (refine zll ?_; (conv => whnf); refine ⟨_, cH, ?_⟩) | ((with_reducible apply And.intro); focus (first | rfl | exact znb rfl | omega | (simp only [zlc, zln, zlm, zla]; omega))))
    repeat' first | (with_reducible first | exact ⟨⟩ | exact rfl | exact lr _) | ((conv => whnf); with_reducible first | apply And.intro | exact ⟨⟩) | exact rfl | exact fun h => h | exact lr _
    all_goals try (conv => whnf)
  | true =>
    rw [hh] at cH
    have cA := r20All_c p n sure h hs
    have hfr := (h.i.ch _ (chP_mem hh)).2
    have hlen := allC_len hh h.r hfr.1 hs.1
    obtain ⟨f1, f2⟩ := findC_at (o := o) hh h.r hfr.1 hs.1
    obtain ⟨Z, hZ⟩ : ∃ Z, Z = findC p n sure o := ⟨_, rfl⟩
    rw [← hZ] at f1 f2 ⊢
    have hb := h.i.b.channels
    obtain ⟨i, hi, en, ec⟩ := hasP_ix (hasC_P hh)
    have eI : IntKind.i64.wrap (n - 1) = ((i : Nat) : Int) := by rw [wrapI (by omega) (by omega)]; omega
    have hr : (List.map Ch.c p.channels)[((i : Nat) : Int).toNat]? = some (Ch.c (chP p n)) := by rw [ec]; exact rowK Ch.c p.channels i hi
    clear ec en hh hZ
    obtain ⟨x, L, hr, hfr, cA, hlen, f1, f2⟩ : ∃ (x : Ch) (L : List Sp), (List.map Ch.c p.channels)[((i : Nat) : Int).toNat]? = some (Ch.c x) ∧ (0 ≤ x.first ∧ x.first ≤ 18446744073709551615) ∧ PCx Tryz.prog 17 [.agg p.c, ii n, uu sure] (slS L) ∧ L.length ≤ 64 ∧ (∀ (h1 : x.first ≤ o) (h2 : (o - x.first).toNat < L.length), Z = (L[(o - x.first).toNat], 0)) ∧ (¬ (x.first ≤ o ∧ o - x.first < L.length) → Z = (sp0, 4)) := ⟨_, _, hr, hfr, cA, hlen, f1, f2⟩
    have eN : ((List.map Sp.c L).length : Int) = (L.length : Int) := by rw [List.length_map]
    have eQ : IntKind.u64.wrap (L.length : Int) = (L.length : Int) := wrapU (by omega) (by omega)
    cases d1 : decide (o < x.first) with
    | true =>
      have e := f2 (by simp only [zdt] at d1; omega)
      clear f1 f2
      subst e
      refine PC_of_VC tabOk (draw_ok mixed tabOk) fn_r20Find rfl ?_
      repeat' ((conv => whnf); first | with_reducible refine zol ?_ | ((with_reducible refine fk (fun hc => ?_) fun hc => ?_) <;> first | exact absurd hc (by decide) | (exfalso; simp only [*, reduceCtorEq, Bool.not_true, Bool.not_false] at hc; done) | skip) | rewrite [eN] | rewrite [eQ] | ((rewrite [eI])) | ((refine ⟨_, hr, ?_⟩)) | (refine zll ?_; (conv => whnf); refine ⟨_, cH, ?_⟩) | (refine zll ?_; (conv => whnf); refine ⟨_, cA, ?_⟩) | ((with_reducible apply And.intro); focus (first | rfl | exact znb rfl | omega | (simp only [zlc, zln, zlm, zla]; omega))))
      repeat' first | (with_reducible first | exact ⟨⟩ | exact rfl | exact lr _) | ((conv => whnf); with_reducible first | apply And.intro | exact ⟨⟩) | exact rfl | exact fun h => h | exact lr _
      all_goals try (conv => whnf)
    | false =>
      have hge : x.first ≤ o := by simp only [zdf] at d1; omega
      obtain ⟨q, hq⟩ : ∃ q : Nat, o - x.first = (q : Int) := ⟨(o - x.first).toNat, by omega⟩
      have eO : IntKind.u64.wrap (o - x.first) = (q : Int) := by rw [wrapU (by omega) (by omega)]; exact hq
      rw [hq] at f2
      cases d2 : decide ((q : Int) ≥ (L.length : Int)) with
      | true =>
        have e := f2 (by simp only [zdt] at d2; omega)
        clear f1 f2 hq hge
        subst e
        refine PC_of_VC tabOk (draw_ok mixed tabOk) fn_r20Find rfl ?_
        repeat' ((conv => whnf); first | with_reducible refine zol ?_ | ((with_reducible refine fk (fun hc => ?_) fun hc => ?_) <;> first | exact absurd hc (by decide) | (exfalso; simp only [*, reduceCtorEq, Bool.not_true, Bool.not_false] at hc; done) | skip) | rewrite [eN] | rewrite [eQ] | rewrite [eO] | ((rewrite [eI])) | ((refine ⟨_, hr, ?_⟩)) | (refine zll ?_; (conv => whnf); refine ⟨_, cH, ?_⟩) | (refine zll ?_; (conv => whnf); refine ⟨_, cA, ?_⟩) | ((with_reducible apply And.intro); focus (first | rfl | exact znb rfl | omega | (simp only [zlc, zln, zlm, zla]; omega))))
        repeat' first | (with_reducible first | exact ⟨⟩ | exact rfl | exact lr _) | ((conv => whnf); with_reducible first | apply And.intro | exact ⟨⟩) | exact rfl | exact fun h => h | exact lr _
        all_goals try (conv => whnf)
      | false =>
        have hql : q < L.length := by simp only [zdf] at d2; omega
        have e := f1 hge (by omega)
        have e2 : Z = (L[q], 0) := by rw [e]; congr 2; omega
        have r1 := rowK Sp.c L q hql
        clear f1 f2 e hq hge
        subst e2
        refine PC_of_VC tabOk (draw_ok mixed tabOk) fn_r20Find rfl ?_
        repeat' ((conv => whnf); first | with_reducible refine zol ?_ | ((with_reducible refine fk (fun hc => ?_) fun hc => ?_) <;> first | exact absurd hc (by decide) | (exfalso; simp only [*, reduceCtorEq, Bool.not_true, Bool.not_false] at hc; done) | skip) | rewrite [eN] | rewrite [eQ] | rewrite [eO] | ((rewrite [eI])) | ((refine ⟨_, hr, ?_⟩)) | ((refine ⟨_, r1, ?_⟩)) | (refine zll ?_; (conv => whnf); refine ⟨_, cH, ?_⟩) | (refine zll ?_; (conv => whnf); refine ⟨_, cA, ?_⟩) | ((with_reducible apply And.intro); focus (first | rfl | exact znb rfl | omega | (simp only [zlc, zln, zlm, zla]; omega))))
        repeat' first | (with_reducible first | exact ⟨⟩ | exact rfl | exact lr _) | ((conv => whnf); with_reducible first | apply And.intro | exact ⟨⟩) | exact rfl | exact fun h => h | exact lr _
        all_goals try (conv => whnf)
theorem fn_r20Off : FnOk Tryz.prog 15 Tryz.f15 := ⟨Tryz.func15, by kernel_rfl, by kernel_rfl, by kernel_rfl⟩
theorem r20Off_c (p : Pn) (n sure ledger q : Int) (h : PnJ p) (hs : 0 ≤ sure ∧ sure ≤ 18446744073709551615) : PCx Tryz.prog 15 [.agg p.c, ii n, uu sure, uu ledger, uu q] (.tup [uu (offC p n sure ledger q).1, ii (offC p n sure ledger q).2]) := by
  refine PC.le ?_
  have cH := r20Has_c p n h.i
  cases hh : hasC p n with
  | false =>
    have e : offC p n sure ledger q = (0, 1) := by unfold offC oneC; rw [if_neg (by rw [hh]; decide)]; rfl
    rw [e]
    rw [hh] at cH
    clear hh e
    refine PC_of_VC tabOk (draw_ok mixed tabOk) fn_r20Off rfl ?_
    repeat' ((conv => whnf); first | with_reducible refine zol ?_ | ((with_reducible refine fk (fun hc => ?_) fun hc => ?_) <;> first | exact absurd hc (by decide) | (exfalso; simp only [*, reduceCtorEq, Bool.not_true, Bool.not_false] at hc; done) | skip) | (refine zll ?_; (conv => whnf); refine ⟨_, cH, ?_⟩) | ((with_reducible apply And.intro); focus (first | rfl | exact znb rfl | omega | (simp only [zlc, zln, zlm, zla]; omega))))
    repeat' first | (with_reducible first | exact ⟨⟩ | exact rfl | exact lr _) | ((conv => whnf); with_reducible first | apply And.intro | exact ⟨⟩) | exact rfl | exact fun h => h | exact lr _
    all_goals try (conv => whnf)
  | true =>
    have eS := fun s => oneC_some (sure := sure) (is := fun s => s.ledger == ledger && s.n == q) (s := s) hh
    have eZ := oneC_none (sure := sure) (is := fun s => s.ledger == ledger && s.n == q) hh
    rw [hh] at cH
    have cA := r20All_c p n sure h hs
    have hlen := h.ok.len n sure hs.1
    unfold offC
    obtain ⟨Z, hZ⟩ : ∃ Z, Z = oneC p n sure fun s => s.ledger == ledger && s.n == q := ⟨_, rfl⟩
    rw [← hZ] at eZ ⊢
    simp only [← hZ] at eS
    clear hZ hh
    obtain ⟨xs, cA, hlen, eS, eZ⟩ : ∃ xs : List Sp, PCx Tryz.prog 17 [.agg p.c, ii n, uu sure] (slS xs) ∧ xs.length ≤ 1000000 ∧ (∀ s, xs.find? (fun s => s.ledger == ledger && s.n == q) = some s → Z = (s, 0)) ∧ (xs.find? (fun s => s.ledger == ledger && s.n == q) = none → Z = (sp0, 4)) := ⟨_, cA, hlen, eS, eZ⟩
    have eN : ((List.map Sp.c xs).length : Int) = (xs.length : Int) := by rw [List.length_map]
    refine PC_of_VC tabOk (draw_ok mixed tabOk) fn_r20Off rfl ?_
    repeat' ((conv => whnf); first | with_reducible refine zol ?_ | ((with_reducible refine fk (fun hc => ?_) fun hc => ?_) <;> first | exact absurd hc (by decide) | (exfalso; simp only [*, reduceCtorEq, Bool.not_true, Bool.not_false] at hc; done) | skip) | (refine zll ?_; (conv => whnf); refine ⟨_, cH, ?_⟩) | (refine zll ?_; (conv => whnf); refine ⟨_, cA, ?_⟩) | ((with_reducible apply And.intro); focus (first | rfl | exact znb rfl | omega | (simp only [zlc, zln, zlm, zla]; omega))))
    refine ⟨{k : Nat // k ≤ xs.length ∧ ∀ j (hj : j < xs.length), j < k → (xs[j].ledger == ledger && xs[j].n == q) = false}, fun ⟨k, _⟩ => ⟨[(3, .pv (uu ledger)), (4, .pv (uu q)), (12, .pv (slS xs)), (13, .pv (ii k))], 1000000000, []⟩, fun ⟨k, _⟩ => xs.length - k, ⟨⟨0, by simp⟩, ent_of ?_⟩, ?_⟩
    · repeat' first
        | fail
        | with_reducible exact True.intro
        | with_reducible exact rfl
        | with_reducible exact leRs_refl _
        | ((conv => whnf); with_reducible apply And.intro)
        | ((conv => whnf); with_reducible exact True.intro)
        | exact rfl
        | exact fun h => h
        | exact leRs_refl _
      all_goals try (conv => whnf)
    rintro ⟨k, hk, hn⟩
    by_cases hlt : k < xs.length
    · have d0 : decide ((k : Int) < (xs.length : Int)) = true := by simp only [zdt]; omega
      have eW : IntKind.i64.wrap ((k : Int) + 1) = ((k + 1 : Nat) : Int) := by rw [wrapI (by omega) (by omega)]; omega
      have r1 := rowK Sp.c xs k hlt
      have hgd : (xs[k].ledger == ledger && xs[k].n == q) = false → ∀ j (hj : j < xs.length), j < k + 1 → (xs[j].ledger == ledger && xs[j].n == q) = false := fun e => step_lt hn fun _ => e
      have hyes : (xs[k].ledger == ledger && xs[k].n == q) = true → Z = (xs[k], 0) := fun e => eS _ (by
        rw [List.find?_eq_some_iff_getElem]
        exact ⟨e, k, hlt, rfl, fun j hj => by rw [hn j (by omega) hj]; rfl⟩)
      clear eS eZ
      cases b1 : (xs[k].ledger == ledger) with
      | false =>
        have hg := hgd (by rw [b1]; rfl)
        clear hgd hyes
        repeat' ((conv => whnf); first | with_reducible refine zol ?_ | ((with_reducible refine fk (fun hc => ?_) fun hc => ?_) <;> first | exact absurd hc (by decide) | (exfalso; simp only [*, reduceCtorEq, Bool.not_true, Bool.not_false] at hc; done) | skip) | rewrite [eN] | ((refine ⟨_, r1, ?_⟩)) | ((with_reducible apply And.intro); focus (first | rfl | exact znb rfl | omega | (simp only [zlc, zln, zlm, zla]; omega))))
        refine ⟨⟨k + 1, hlt, hg⟩, dec_lt hlt, ent_of ?_⟩
        repeat' first | (with_reducible first | exact ⟨⟩ | exact rfl | exact lr _) | ((conv => whnf); with_reducible first | apply And.intro | exact ⟨⟩) | exact rfl | exact fun h => h | exact lr _
        all_goals try (conv => whnf)
        all_goals exact eW
      | true =>
        cases b2 : (xs[k].n == q) with
        | false =>
          have hg := hgd (by rw [b1, b2]; rfl)
          clear hgd hyes
          repeat' ((conv => whnf); first | with_reducible refine zol ?_ | ((with_reducible refine fk (fun hc => ?_) fun hc => ?_) <;> first | exact absurd hc (by decide) | (exfalso; simp only [*, reduceCtorEq, Bool.not_true, Bool.not_false] at hc; done) | skip) | rewrite [eN] | ((refine ⟨_, r1, ?_⟩)) | ((with_reducible apply And.intro); focus (first | rfl | exact znb rfl | omega | (simp only [zlc, zln, zlm, zla]; omega))))
          refine ⟨⟨k + 1, hlt, hg⟩, dec_lt hlt, ent_of ?_⟩
          repeat' first | (with_reducible first | exact ⟨⟩ | exact rfl | exact lr _) | ((conv => whnf); with_reducible first | apply And.intro | exact ⟨⟩) | exact rfl | exact fun h => h | exact lr _
          all_goals try (conv => whnf)
          all_goals exact eW
        | true =>
          have e := hyes (by rw [b1, b2]; rfl)
          clear hgd hyes
          subst e
          repeat' ((conv => whnf); first | with_reducible refine zol ?_ | ((with_reducible refine fk (fun hc => ?_) fun hc => ?_) <;> first | exact absurd hc (by decide) | (exfalso; simp only [*, reduceCtorEq, Bool.not_true, Bool.not_false] at hc; done) | skip) | rewrite [eN] | ((refine ⟨_, r1, ?_⟩)) | ((with_reducible apply And.intro); focus (first | rfl | exact znb rfl | omega | (simp only [zlc, zln, zlm, zla]; omega))))
          repeat' first | (with_reducible first | exact ⟨⟩ | exact rfl | exact lr _) | ((conv => whnf); with_reducible first | apply And.intro | exact ⟨⟩) | exact rfl | exact fun h => h | exact lr _
          all_goals try (conv => whnf)
    · have hke : k = xs.length := by omega
      subst hke
      have d0 : decide ((xs.length : Int) < (xs.length : Int)) = false := by simp
      have e := eZ (by
        rw [List.find?_eq_none]
        intro s hs2
        have := all_of (q := fun s : Sp => (s.ledger == ledger && s.n == q) = false) hn s hs2
        rw [this]; decide)
      clear eS eZ
      subst e
      repeat' ((conv => whnf); first | with_reducible refine zol ?_ | ((with_reducible refine fk (fun hc => ?_) fun hc => ?_) <;> first | exact absurd hc (by decide) | (exfalso; simp only [*, reduceCtorEq, Bool.not_true, Bool.not_false] at hc; done) | skip) | rewrite [eN] | ((with_reducible apply And.intro); focus (first | rfl | exact znb rfl | omega | (simp only [zlc, zln, zlm, zla]; omega))))
      repeat' first | (with_reducible first | exact ⟨⟩ | exact rfl | exact lr _) | ((conv => whnf); with_reducible first | apply And.intro | exact ⟨⟩) | exact rfl | exact fun h => h | exact lr _
      all_goals try (conv => whnf)
theorem fn_r20Gone : FnOk Tryz.prog 19 Tryz.f19 := ⟨Tryz.func19, by kernel_rfl, by kernel_rfl, by kernel_rfl⟩
theorem r20Gone_c (p : Pn) (n : Int) (h : PnJ p) : PCx Tryz.prog 19 [.agg p.c, ii n] (.tup [slU (goneC p n).1, uu (goneC p n).2.1, uu (goneC p n).2.2]) := by
  refine PC.le ?_
  have cH := r20Has_c p n h.i
  cases hh : hasC p n with
  | false =>
    have e : goneC p n = ([], 0, 0) := by unfold goneC; rw [if_neg (by rw [hh]; decide)]
    rw [e]
    rw [hh] at cH
    clear hh e
    refine PC_of_VC tabOk (draw_ok mixed tabOk) fn_r20Gone rfl ?_
    repeat' ((conv => whnf); first | with_reducible refine zol ?_ | ((with_reducible refine fk (fun hc => ?_) fun hc => ?_) <;> first | exact absurd hc (by decide) | (exfalso; simp only [*, reduceCtorEq, Bool.not_true, Bool.not_false] at hc; done) | skip) | (refine zll ?_; (conv => whnf); refine ⟨_, cH, ?_⟩) | ((with_reducible apply And.intro); focus (first | rfl | exact znb rfl | omega | (simp only [zlc, zln, zlm, zla]; omega))))
    repeat' first | (with_reducible first | exact ⟨⟩ | exact rfl | exact lr _) | ((conv => whnf); with_reducible first | apply And.intro | exact ⟨⟩) | exact rfl | exact fun h => h | exact lr _
    all_goals try (conv => whnf)
  | true =>
    rw [hh] at cH
    obtain ⟨F, hk⟩ := ch_facts h hh
    have eX : goneC p n = goneA p (chP p n).trim [] (chP p n).first (chP p n).ledgers := by unfold goneC; rw [if_pos hh]
    rw [eX]
    have hb := h.i.b.channels
    have hbl := h.i.b.ledgers
    obtain ⟨i, hi, en, ec⟩ := hasP_ix (hasC_P hh)
    have eI : IntKind.i64.wrap (n - 1) = ((i : Nat) : Int) := by rw [wrapI (by omega) (by omega)]; omega
    have hr := rowK Ch.c p.channels i hi
    rw [← ec] at hr
    clear ec en hh eX
    obtain ⟨x, hx⟩ : ∃ x, x = chP p n := ⟨_, rfl⟩
    rw [← hx] at hr F hk ⊢
    clear hx
    have hlen := F.len
    have hleds := F.leds
    obtain ⟨X, hX⟩ : ∃ X, X = goneA p x.trim [] x.first x.ledgers := ⟨_, rfl⟩
    rw [← hX]
    have eN : ((List.map uRow x.ledgers).length : Int) = (x.ledgers.length : Int) := by rw [List.length_map]
    have eU : ∀ a b : Int, IntKind.u64.wrap (a + b) = addU a b := fun _ _ => rfl
    clear hk F
    refine PC_of_VC tabOk (draw_ok mixed tabOk) fn_r20Gone rfl ?_
    repeat' ((conv => whnf); first | with_reducible refine zol ?_ | ((with_reducible refine fk (fun hc => ?_) fun hc => ?_) <;> first | exact absurd hc (by decide) | (exfalso; simp only [*, reduceCtorEq, Bool.not_true, Bool.not_false] at hc; done) | skip) | ((rewrite [eI])) | ((refine ⟨_, hr, ?_⟩)) | (refine zll ?_; (conv => whnf); refine ⟨_, cH, ?_⟩) | ((with_reducible apply And.intro); focus (first | rfl | exact znb rfl | omega | (simp only [zlc, zln, zlm, zla]; omega))))
    refine ⟨{k : Nat // k ≤ x.ledgers.length ∧ goneA p x.trim (goneG p x.ledgers k) (atK p x.first x.ledgers k) (x.ledgers.drop k) = X}, fun ⟨k, _⟩ => ⟨[(2, .ptr 1003 0), (7, .ptr 1007 0), (8, .slw 1008 0), (9, .pv (uu (atK p x.first x.ledgers k))), (10, .pv (ii k))], 1000000000, [(1003, .var (p.c.map .pv)), (1007, .var (x.c.map .pv)), (1008, .arr 22 0 1 ((goneG p x.ledgers k).map uRow))]⟩, fun ⟨k, _⟩ => x.ledgers.length - k, ⟨⟨0, by omega, by rw [atK_zero]; exact hX.symm⟩, ent_of ?_⟩, ?_⟩
    · repeat' first
        | fail
        | with_reducible exact True.intro
        | with_reducible exact rfl
        | with_reducible exact leRs_refl _
        | ((conv => whnf); with_reducible apply And.intro)
        | ((conv => whnf); with_reducible exact True.intro)
        | exact rfl
        | exact fun h => h
        | exact leRs_refl _
      all_goals try (conv => whnf)
      all_goals first
        | (rw [atK_zero]; done)
        | (rw [atK_zero])
        | exact True.intro
    clear cH eI hr hX
    rintro ⟨k, hk, hq⟩
    by_cases hlt : k < x.ledgers.length
    case neg =>
      have hke : k = x.ledgers.length := by omega
      subst hke
      have d0 : decide ((x.ledgers.length : Int) < (x.ledgers.length : Int)) = false := by simp
      rw [List.drop_length, goneA] at hq
      subst hq
      repeat' ((conv => whnf); first | with_reducible refine zol ?_ | ((with_reducible refine fk (fun hc => ?_) fun hc => ?_) <;> first | exact absurd hc (by decide) | (exfalso; simp only [*, reduceCtorEq, Bool.not_true, Bool.not_false] at hc; done) | skip) | rewrite [eN] | ((with_reducible apply And.intro); focus (first | rfl | exact znb rfl | omega | (simp only [zlc, zln, zlm, zla]; omega))))
      repeat' first | (with_reducible first | exact ⟨⟩ | exact rfl | exact lr _) | ((conv => whnf); with_reducible first | apply And.intro | exact ⟨⟩) | exact rfl | exact fun h => h | exact lr _
      all_goals try (conv => whnf)
    have d0 : decide ((k : Int) < (x.ledgers.length : Int)) = true := by simp only [zdt]; omega
    have eW : IntKind.i64.wrap ((k : Int) + 1) = ((k + 1 : Nat) : Int) := by rw [wrapI (by omega) (by omega)]; omega
    have r1 := rowK uRow x.ledgers k hlt
    have cF := r07Find_c p x.ledgers[k] hbl
    obtain ⟨j, hj, e1, e2⟩ := found_ix (hleds k hlt).1
    rw [e1] at cF
    have r2 := rowK Lg.c p.ledgers j hj
    have hS := fun hq2 => goneA_stop (p := p) (trim := x.trim) (a := atK p x.first x.ledgers k) (acc := goneG p x.ledgers k) (ids := x.ledgers) (k := k) hlt hq2
    have hA := atK_succ p x.first x.ledgers k hlt
    have hG := goneG_succ p x.ledgers k hlt
    have hGl := goneG_len p x.ledgers k
    have hN : ((findL p x.ledgers[k]).closed == 0 || decide (addU (atK p x.first x.ledgers k) (findL p x.ledgers[k]).last > x.trim)) = false → goneA p x.trim (goneG p x.ledgers (k + 1)) (atK p x.first x.ledgers (k + 1)) (x.ledgers.drop (k + 1)) = X := fun hq2 => by rw [hG, hA]; exact (goneA_next hlt hq2).symm.trans hq
    rw [hq] at hS
    have hAs : Hd (addU (atK p x.first x.ledgers k) (findL p x.ledgers[k]).last = atK p x.first x.ledgers (k + 1)) := ⟨hA.symm⟩
    have hGs : Hd ((goneG p x.ledgers k).map uRow ++ [uRow (findL p x.ledgers[k]).id] = (goneG p x.ledgers (k + 1)).map uRow) := ⟨by rw [hG, List.map_append]; rfl⟩
    rw [e2] at hS hAs hGs hN
    clear e1 e2 hA hG hleds
    obtain ⟨l, hl⟩ : ∃ l, l = p.ledgers[j] := ⟨_, rfl⟩
    rw [← hl] at r2 hS hAs hGs hN
    clear hl
    cases b1 : (l.closed == 0) with
    | true =>
      have e := hS (by rw [b1]; rfl)
      clear hS hN
      subst e
      repeat' ((conv => whnf); first | with_reducible refine zol ?_ | ((with_reducible refine fk (fun hc => ?_) fun hc => ?_) <;> first | exact absurd hc (by decide) | (exfalso; simp only [*, reduceCtorEq, Bool.not_true, Bool.not_false] at hc; done) | skip) | rewrite [eN] | ((refine ⟨_, r1, ?_⟩)) | ((refine ⟨_, r2, ?_⟩)) | (refine zll ?_; (conv => whnf); refine ⟨_, cF, ?_⟩) | ((with_reducible apply And.intro); focus (first | rfl | exact znb rfl | omega | (simp only [zlc, zln, zlm, zla]; omega))))
      repeat' first | (with_reducible first | exact ⟨⟩ | exact rfl | exact lr _) | ((conv => whnf); with_reducible first | apply And.intro | exact ⟨⟩) | exact rfl | exact fun h => h | exact lr _
      all_goals try (conv => whnf)
    | false =>
      cases b2 : decide (addU (atK p x.first x.ledgers k) l.last > x.trim) with
      | true =>
        have e := hS (by rw [b1, b2]; rfl)
        clear hS hN
        subst e
        repeat' ((conv => whnf); first | with_reducible refine zol ?_ | ((with_reducible refine fk (fun hc => ?_) fun hc => ?_) <;> first | exact absurd hc (by decide) | (exfalso; simp only [*, reduceCtorEq, Bool.not_true, Bool.not_false] at hc; done) | skip) | rewrite [eN] | rewrite [eU] | ((refine ⟨_, r1, ?_⟩)) | ((refine ⟨_, r2, ?_⟩)) | (refine zll ?_; (conv => whnf); refine ⟨_, cF, ?_⟩) | ((with_reducible apply And.intro); focus (first | rfl | exact znb rfl | omega | (simp only [zlc, zln, zlm, zla]; omega))))
        repeat' first | (with_reducible first | exact ⟨⟩ | exact rfl | exact lr _) | ((conv => whnf); with_reducible first | apply And.intro | exact ⟨⟩) | exact rfl | exact fun h => h | exact lr _
        all_goals try (conv => whnf)
      | false =>
        have e := hN (by rw [b1, b2]; rfl)
        clear hS hN
        repeat' ((conv => whnf); first | with_reducible refine zol ?_ | ((with_reducible refine fk (fun hc => ?_) fun hc => ?_) <;> first | exact absurd hc (by decide) | (exfalso; simp only [*, reduceCtorEq, Bool.not_true, Bool.not_false] at hc; done) | skip) | rewrite [eN] | rewrite [eU] | ((refine ⟨_, r1, ?_⟩)) | ((refine ⟨_, r2, ?_⟩)) | (refine zll ?_; (conv => whnf); refine ⟨_, cF, ?_⟩) | (((with_reducible apply And.intro); focus (simp only [List.length_map, List.length_cons, List.length_nil]; omega))) | ((with_reducible apply And.intro); focus (first | rfl | exact znb rfl | omega | (simp only [zlc, zln, zlm, zla]; omega))))
        refine ⟨⟨k + 1, hlt, e⟩, dec_lt hlt, ent_of ?_⟩
        repeat' first | (with_reducible first | exact ⟨⟩ | exact rfl | exact lr _) | ((conv => whnf); with_reducible first | apply And.intro | exact ⟨⟩) | exact rfl | exact fun h => h | exact lr _
        all_goals try (conv => whnf)
        all_goals first
          | exact eW
          | exact hAs.out
          | exact leRs_of_eq hGs.out
end Go.Proofs.YtgblabmhgdiicaaGreat.Tb

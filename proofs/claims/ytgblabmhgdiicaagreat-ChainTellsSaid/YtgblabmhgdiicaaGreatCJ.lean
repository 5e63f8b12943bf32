/-
  Contracts of functions of the program and of the document, each for every input that its premises name.
-/
import Derived.Test.YtgblabmhgdiicaaGreatCI
set_option linter.unusedSectionVars false
set_option maxRecDepth 100000
set_option maxHeartbeats 4000000
set_option linter.unusedVariables false
set_option linter.unusedSimpArgs false
open Go Go.AX
namespace Go.Proofs.YtgblabmhgdiicaaGreat.Tb
theorem fn_appendSeqS : FnOk Tryz.prog 52 Tryz.f52 := ⟨Tryz.func52, by kernel_rfl, by kernel_rfl, by kernel_rfl⟩
theorem appendSeqS_c (f : FuncId) (caps : List PV) (xs : List Sp) (h : SeqC Tryz.prog f caps (xs.map fun n => [.agg n.c])) (hl : xs.length ≤ 1000000) : PCx Tryz.prog 52 [nilS, .fn (.func f) [] caps] (slS xs) := by
  refine PC.le ?_
  refine PC_of_VC tabOk (draw_ok mixed tabOk) fn_appendSeqS rfl ?_
  repeat' ((conv => whnf); first | with_reducible refine zol ?_ | ((with_reducible refine fk (fun hc => ?_) fun hc => ?_) <;> first | exact absurd hc (by decide) | (exfalso; simp only [*, reduceCtorEq] at hc; done) | skip) | ((with_reducible apply And.intro); focus (first | rfl | exact znb rfl | omega | (simp only [zlc, zln, zlm, zla]; omega))))
  refine ⟨f, caps, _, h, Unit, fun _ _ => True, fun k _ => match k with
    | 0 => ⟨[(0, .pv nilS), (1, .pv (.fn (.func f) [] caps)), (2, .ptr 501 0), (4, .pv nilS), (6, .pv (.fn (.func f) [] caps))], 1000000000, [(501, .var [.pv nilS])]⟩
    | k + 1 => ⟨[(0, .pv nilS), (1, .pv (.fn (.func f) [] caps)), (2, .ptr 501 0), (4, .pv nilS), (6, .pv (.fn (.func f) [] caps))], 1000000000, [(501, .var [.slw 1502 0]), (1502, .arr 33 0 3 ((xs.take (k + 1)).map Sp.c))]⟩, ⟨(), ent_of ?_⟩, fun _ => rfl, fun k _ => by cases k <;> rfl, ?_, ?_⟩
  · repeat' first
      | fail
      | with_reducible exact True.intro
      | with_reducible exact rfl
      | with_reducible exact leRs_refl _
      | ((conv => whnf); with_reducible apply And.intro)
      | ((conv => whnf); with_reducible exact True.intro)
      | exact rfl
      | exact fun h => h
      | exact leRs_refl _
    all_goals try (conv => whnf)
  · intro k x _ hx
    have hk : k < xs.length := by simpa using (List.getElem?_eq_some_iff.1 hx).1
    have hx : x = [.agg xs[k].c] := by
      have := (List.getElem?_eq_some_iff.1 hx).2
      simpa using this.symm
    subst hx
    cases k with
    | zero =>
      (conv => whnf)
      intro _
      repeat' ((conv => whnf); first | with_reducible refine zol ?_ | ((with_reducible refine fk (fun hc => ?_) fun hc => ?_) <;> first | exact absurd hc (by decide) | (exfalso; simp only [*, reduceCtorEq] at hc; done) | skip) | ((with_reducible apply And.intro); focus (first | rfl | exact znb rfl | omega | (simp only [zlc, zln, zlm, zla]; omega))))
      refine ⟨(), trivial, ent_of ?_⟩
      repeat' first | (with_reducible first | exact ⟨⟩ | exact rfl | exact lr _) | ((conv => whnf); with_reducible first | apply And.intro | exact ⟨⟩) | exact rfl | exact fun h => h | exact lr _
      all_goals try (conv => whnf)
      refine leRs_of_eq ?_
      cases xs with
      | nil => simp at hk
      | cons x r => rfl
    | succ k =>
      (conv => whnf)
      intro _
      repeat' ((conv => whnf); first | with_reducible refine zol ?_ | ((with_reducible refine fk (fun hc => ?_) fun hc => ?_) <;> first | exact absurd hc (by decide) | (exfalso; simp only [*, reduceCtorEq] at hc; done) | skip) | (((with_reducible apply And.intro); focus (simp only [List.length_map, List.length_take, List.length_cons, List.length_nil]; omega))) | ((with_reducible apply And.intro); focus (first | rfl | exact znb rfl | omega | (simp only [zlc, zln, zlm, zla]; omega))))
      refine ⟨(), trivial, ent_of ?_⟩
      repeat' first | (with_reducible first | exact ⟨⟩ | exact rfl | exact lr _) | ((conv => whnf); with_reducible first | apply And.intro | exact ⟨⟩) | exact rfl | exact fun h => h | exact lr _
      all_goals try (conv => whnf)
      refine leRs_of_eq ?_
      rw [List.take_succ_eq_append_getElem hk, List.map_append]
      rfl
  · intro _ _
    rw [List.length_map]
    cases xs with
    | nil =>
      repeat' ((conv => whnf); first | with_reducible refine zol ?_ | ((with_reducible refine fk (fun hc => ?_) fun hc => ?_) <;> first | exact absurd hc (by decide) | (exfalso; simp only [*, reduceCtorEq] at hc; done) | skip) | ((with_reducible apply And.intro); focus (first | rfl | exact znb rfl | omega | (simp only [zlc, zln, zlm, zla]; omega))))
      repeat' first | (with_reducible first | exact ⟨⟩ | exact rfl | exact lr _) | ((conv => whnf); with_reducible first | apply And.intro | exact ⟨⟩) | exact rfl | exact fun h => h | exact lr _
      all_goals try (conv => whnf)
    | cons x r =>
      repeat' ((conv => whnf); first | with_reducible refine zol ?_ | ((with_reducible refine fk (fun hc => ?_) fun hc => ?_) <;> first | exact absurd hc (by decide) | (exfalso; simp only [*, reduceCtorEq] at hc; done) | skip) | ((with_reducible apply And.intro); focus (first | rfl | exact znb rfl | omega | (simp only [zlc, zln, zlm, zla]; omega))))
      repeat' first | (with_reducible first | exact ⟨⟩ | exact rfl | exact lr _) | ((conv => whnf); with_reducible first | apply And.intro | exact ⟨⟩) | exact rfl | exact fun h => h | exact lr _
      all_goals try (conv => whnf)
      rw [List.take_length]
      exact leRs_refl _
theorem fn_collectS : FnOk Tryz.prog 25 Tryz.f25 := ⟨Tryz.func25, by kernel_rfl, by kernel_rfl, by kernel_rfl⟩
theorem collectS_c (f : FuncId) (caps : List PV) (xs : List Sp) (h : SeqC Tryz.prog f caps (xs.map fun n => [.agg n.c])) (hl : xs.length ≤ 1000000) : PCx Tryz.prog 25 [.fn (.func f) [] caps] (slS xs) := by
  refine PC.le ?_
  refine PC_of_VC tabOk (draw_ok mixed tabOk) fn_collectS rfl ?_
  repeat' ((conv => whnf); first | with_reducible refine zol ?_ | ((with_reducible refine fk (fun hc => ?_) fun hc => ?_) <;> first | exact absurd hc (by decide) | (exfalso; simp only [*, reduceCtorEq] at hc; done) | skip) | (refine zll ?_; (conv => whnf); refine ⟨_, appendSeqS_c _ _ _ h hl, ?_⟩) | ((with_reducible apply And.intro); focus (first | rfl | exact znb rfl | omega | (simp only [zlc, zln, zlm, zla]; omega))))
  repeat' first | (with_reducible first | exact ⟨⟩ | exact rfl | exact lr _) | ((conv => whnf); with_reducible first | apply And.intro | exact ⟨⟩) | exact rfl | exact fun h => h | exact lr _
  all_goals try (conv => whnf)
structure PnOk (p : Pn) : Prop where
  b : PnB p
  r : lgsR p
  f : ∀ c ∈ p.channels, 0 ≤ c.first
theorem PnOk.len {p : Pn} (h : PnOk p) (n sure : Int) (hs : 0 ≤ sure) : (allC p n sure).length ≤ 1000000 := by
  cases hh : hasC p n with
  | false => rw [(findC_not (sure := sure) (o := 0) hh).2.1]; simp
  | true => have := allC_len hh h.r (h.f _ (chP_mem hh)) hs; omega
theorem fn_cAll : FnOk Tryz.prog 8 Tryz.f8 := ⟨Tryz.func8, by kernel_rfl, by kernel_rfl, by kernel_rfl⟩
theorem cAll_c (p : Pn) (n sure : Int) (h : PnOk p) (hs : 0 ≤ sure) : PCx Tryz.prog 8 [.agg p.c, ii n, uu sure] (slS (allC p n sure)) := by
  refine PC.le ?_
  refine PC_of_VC tabOk (draw_ok mixed tabOk) fn_cAll rfl ?_
  repeat' ((conv => whnf); first | with_reducible refine zol ?_ | ((with_reducible refine fk (fun hc => ?_) fun hc => ?_) <;> first | exact absurd hc (by decide) | (exfalso; simp only [*, reduceCtorEq] at hc; done) | skip) | (refine zll ?_; (conv => whnf); refine ⟨_, cSpots_c p n sure, ?_⟩) | (refine zll ?_; (conv => whnf); refine ⟨_, collectS_c _ _ _ (spots1_s p n sure h.b h.r hs) (h.len n sure hs), ?_⟩) | ((with_reducible apply And.intro); focus (first | rfl | exact znb rfl | omega | (simp only [zlc, zln, zlm, zla]; omega))))
  repeat' first | (with_reducible first | exact ⟨⟩ | exact rfl | exact lr _) | ((conv => whnf); with_reducible first | apply And.intro | exact ⟨⟩) | exact rfl | exact fun h => h | exact lr _
  all_goals try (conv => whnf)
theorem fn_cLength : FnOk Tryz.prog 11 Tryz.f11 := ⟨Tryz.func11, by kernel_rfl, by kernel_rfl, by kernel_rfl⟩
theorem cLength_c (p : Pn) (n sure : Int) (h : PnOk p) (hs : 0 ≤ sure) : PCx Tryz.prog 11 [.agg p.c, ii n, uu sure] (uu (lengthC p n sure)) := by
  refine PC.le ?_
  have cH := cHas_c p n h.b
  cases hh : hasC p n with
  | false =>
    rw [(findC_not (sure := sure) (o := 0) hh).2.2]
    rw [hh] at cH
    clear hh
    refine PC_of_VC tabOk (draw_ok mixed tabOk) fn_cLength rfl ?_
    repeat' ((conv => whnf); first | with_reducible refine zol ?_ | ((with_reducible refine fk (fun hc => ?_) fun hc => ?_) <;> first | exact absurd hc (by decide) | (exfalso; simp only [*, reduceCtorEq, Bool.not_true, Bool.not_false] at hc; done) | skip) | (refine zll ?_; (conv => whnf); refine ⟨_, cH, ?_⟩) | ((with_reducible apply And.intro); focus (first | rfl | exact znb rfl | omega | (simp only [zlc, zln, zlm, zla]; omega))))
    repeat' first | (with_reducible first | exact ⟨⟩ | exact rfl | exact lr _) | ((conv => whnf); with_reducible first | apply And.intro | exact ⟨⟩) | exact rfl | exact fun h => h | exact lr _
    all_goals try (conv => whnf)
  | true =>
    rw [hh] at cH
    have cA := cAll_c p n sure h hs
    have eL : lengthC p n sure = addU (chP p n).first (IntKind.u64.wrap (allC p n sure).length) := by unfold lengthC; rw [if_pos hh]
    rw [eL]
    have hb := h.b.channels
    obtain ⟨i, hi, en, ec⟩ := hasP_ix (hasC_P hh)
    have eI : IntKind.i64.wrap (n - 1) = ((i : Nat) : Int) := by rw [wrapI (by omega) (by omega)]; omega
    have hr := rowK Ch.c p.channels i hi
    rw [← ec] at hr
    clear ec en hh eL
    have eN : ((List.map Sp.c (allC p n sure)).length : Int) = ((allC p n sure).length : Int) := by rw [List.length_map]
    refine PC_of_VC tabOk (draw_ok mixed tabOk) fn_cLength rfl ?_
    repeat' ((conv => whnf); first | with_reducible refine zol ?_ | ((with_reducible refine fk (fun hc => ?_) fun hc => ?_) <;> first | exact absurd hc (by decide) | (exfalso; simp only [*, reduceCtorEq, Bool.not_true, Bool.not_false] at hc; done) | skip) | rewrite [eN] | ((rewrite [eI])) | ((refine ⟨_, hr, ?_⟩)) | (refine zll ?_; (conv => whnf); refine ⟨_, cH, ?_⟩) | (refine zll ?_; (conv => whnf); refine ⟨_, cA, ?_⟩) | ((with_reducible apply And.intro); focus (first | rfl | exact znb rfl | omega | (simp only [zlc, zln, zlm, zla]; omega))))
    repeat' first | (with_reducible first | exact ⟨⟩ | exact rfl | exact lr _) | ((conv => whnf); with_reducible first | apply And.intro | exact ⟨⟩) | exact rfl | exact fun h => h | exact lr _
    all_goals try (conv => whnf)
theorem fn_cOne : FnOk Tryz.prog 43 Tryz.f43 := ⟨Tryz.func43, by kernel_rfl, by kernel_rfl, by kernel_rfl⟩
theorem cOne_c (p : Pn) (n sure : Int) (h : PnOk p) (hs : 0 ≤ sure) (f : FuncId) (caps : List PV) (is : Sp → Bool) (hp : ∀ s, PCx Tryz.prog f ([] ++ ([.agg s.c] ++ caps)) (bl (is s))) :
    PCx Tryz.prog 43 [.agg p.c, ii n, uu sure, .fn (.func f) [] caps] (.tup [.agg (oneC p n sure is).1.c, ii (oneC p n sure is).2]) := by
  refine PC.le ?_
  have cH := cHas_c p n h.b
  have hsq := spots1_s p n sure h.b h.r hs
  have cS := cSpots_c p n sure
  cases hh : hasC p n with
  | false =>
    have e : oneC p n sure is = (sp0, 1) := by unfold oneC; rw [if_neg (by rw [hh]; decide)]
    rw [e]
    rw [hh] at cH
    clear hh e
    refine PC_of_VC tabOk (draw_ok mixed tabOk) fn_cOne rfl ?_
    repeat' ((conv => whnf); first | with_reducible refine zol ?_ | ((with_reducible refine fk (fun hc => ?_) fun hc => ?_) <;> first | exact absurd hc (by decide) | (exfalso; simp only [*, reduceCtorEq, Bool.not_true, Bool.not_false] at hc; done) | skip) | (refine zll ?_; (conv => whnf); refine ⟨_, cH, ?_⟩) | ((with_reducible apply And.intro); focus (first | rfl | exact znb rfl | omega | (simp only [zlc, zln, zlm, zla]; omega))))
    repeat' first | (with_reducible first | exact ⟨⟩ | exact rfl | exact lr _) | ((conv => whnf); with_reducible first | apply And.intro | exact ⟨⟩) | exact rfl | exact fun h => h | exact lr _
    all_goals try (conv => whnf)
  | true =>
    have eS := fun s => oneC_some (sure := sure) (is := is) (s := s) hh
    have eZ := oneC_none (sure := sure) (is := is) hh
    rw [hh] at cH
    clear hh
    obtain ⟨Z, hZ⟩ : ∃ Z, Z = oneC p n sure is := ⟨_, rfl⟩
    rw [← hZ] at eS eZ ⊢
    clear hZ
    obtain ⟨xs, hxs⟩ : ∃ xs, xs = allC p n sure := ⟨_, rfl⟩
    rw [← hxs] at hsq eS eZ
    clear hxs
    refine PC_of_VC tabOk (draw_ok mixed tabOk) fn_cOne rfl ?_
    repeat' ((conv => whnf); first | with_reducible refine zol ?_ | ((with_reducible refine fk (fun hc => ?_) fun hc => ?_) <;> first | exact absurd hc (by decide) | (exfalso; simp only [*, reduceCtorEq, Bool.not_true, Bool.not_false] at hc; done) | skip) | (refine zll ?_; (conv => whnf); refine ⟨_, cH, ?_⟩) | (refine zll ?_; (conv => whnf); refine ⟨_, cS, ?_⟩) | ((with_reducible apply And.intro); focus (first | rfl | exact znb rfl | omega | (simp only [zlc, zln, zlm, zla]; omega))))
    refine ⟨_, _, _, hsq, Unit, fun k _ => ∀ j (hj : j < xs.length), j < k → is xs[j] = false, fun k _ => ⟨[(7, .ptr 507 0), (8, .ptr 508 0), (9, .ptr 509 0), (19, .pv (.fn (.func 53) [] [.eptr p.c 0, .eptr [ii n] 0, .eptr [uu sure] 0]))], 1000000000, [(507, .var [.pv (.fn (.func f) [] caps)]), (508, .var [.pv (uu 0), .pv (uu 0), .pv (uu 0)]), (509, .var [.pv (ii 0)])]⟩, ⟨(), ent_of ?_⟩, fun _ => rfl, fun k _ => rfl, ?_, ?_⟩
    · repeat' first
        | fail
        | with_reducible exact True.intro
        | with_reducible exact rfl
        | with_reducible exact leRs_refl _
        | ((conv => whnf); with_reducible apply And.intro)
        | ((conv => whnf); with_reducible exact True.intro)
        | exact rfl
        | exact fun h => h
        | exact leRs_refl _
      all_goals try (conv => whnf)
    · intro k y _ hy
      have hk : k < xs.length := by simpa using (List.getElem?_eq_some_iff.1 hy).1
      have hy2 : y = [.agg xs[k].c] := by
        have := (List.getElem?_eq_some_iff.1 hy).2
        simpa using this.symm
      subst hy2
      have cI := hp xs[k]
      (conv => whnf)
      intro hok
      have hok2 : ∀ j (hj : j < xs.length), j < k → is xs[j] = false := fun j hj hjk => hok (by omega) j hj hjk
      clear hok hy
      cases hq : is xs[k] with
      | true =>
        have hf : xs.find? is = some xs[k] := by
          rw [List.find?_eq_some_iff_getElem]
          exact ⟨hq, k, hk, rfl, fun j hj => by rw [hok2 j (by omega) hj]; rfl⟩
        have e := eS _ hf
        rw [hq] at cI
        clear hok2 hq hf eS eZ
        subst e
        repeat' ((conv => whnf); first | with_reducible refine zol ?_ | ((with_reducible refine fk (fun hc => ?_) fun hc => ?_) <;> first | exact absurd hc (by decide) | (exfalso; simp only [*, reduceCtorEq, Bool.not_true, Bool.not_false] at hc; done) | skip) | (refine zll ?_; (conv => whnf); refine ⟨_, cI, ?_⟩) | ((with_reducible apply And.intro); focus (first | rfl | exact znb rfl | omega | (simp only [zlc, zln, zlm, zla]; omega))))
        repeat' first | (with_reducible first | exact ⟨⟩ | exact rfl | exact lr _) | ((conv => whnf); with_reducible first | apply And.intro | exact ⟨⟩) | exact rfl | exact fun h => h | exact lr _
        all_goals try (conv => whnf)
      | false =>
        rw [hq] at cI
        have hg : ∀ j (hj : j < xs.length), j < k + 1 → is xs[j] = false := step_lt hok2 fun _ => hq
        clear hok2 hq
        repeat' ((conv => whnf); first | with_reducible refine zol ?_ | ((with_reducible refine fk (fun hc => ?_) fun hc => ?_) <;> first | exact absurd hc (by decide) | (exfalso; simp only [*, reduceCtorEq, Bool.not_true, Bool.not_false] at hc; done) | skip) | (refine zll ?_; (conv => whnf); refine ⟨_, cI, ?_⟩) | ((with_reducible apply And.intro); focus (first | rfl | exact znb rfl | omega | (simp only [zlc, zln, zlm, zla]; omega))))
        refine ⟨(), hg, ent_of ?_⟩
        repeat' first | (with_reducible first | exact ⟨⟩ | exact rfl | exact lr _) | ((conv => whnf); with_reducible first | apply And.intro | exact ⟨⟩) | exact rfl | exact fun h => h | exact lr _
        all_goals try (conv => whnf)
    · intro _ hok
      rw [List.length_map] at hok ⊢
      have hf : xs.find? is = none := by
        rw [List.find?_eq_none]
        intro s hs2
        obtain ⟨j, hj, rfl⟩ := List.getElem_of_mem hs2
        rw [hok (by omega) j hj hj]
        decide
      have e := eZ hf
      clear hok hf eS eZ
      subst e
      repeat' ((conv => whnf); first | with_reducible refine zol ?_ | ((with_reducible refine fk (fun hc => ?_) fun hc => ?_) <;> first | exact absurd hc (by decide) | (exfalso; simp only [*, reduceCtorEq, Bool.not_true, Bool.not_false] at hc; done) | skip) | ((with_reducible apply And.intro); focus (first | rfl | exact znb rfl | omega | (simp only [zlc, zln, zlm, zla]; omega))))
      repeat' first | (with_reducible first | exact ⟨⟩ | exact rfl | exact lr _) | ((conv => whnf); with_reducible first | apply And.intro | exact ⟨⟩) | exact rfl | exact fun h => h | exact lr _
      all_goals try (conv => whnf)
theorem fn_cFind1 : FnOk Tryz.prog 44 Tryz.f44 := ⟨Tryz.func44, by kernel_rfl, by kernel_rfl, by kernel_rfl⟩
theorem cFind1_c (o : Int) (s : Sp) : PCx Tryz.prog 44 ([] ++ ([.agg s.c] ++ [.eptr [uu o] 0])) (bl (s.offset == o)) := by
  refine PC.le ?_
  refine PC_of_VC tabOk (draw_ok mixed tabOk) fn_cFind1 rfl ?_
  repeat' ((conv => whnf); first | with_reducible refine zol ?_ | ((with_reducible refine fk (fun hc => ?_) fun hc => ?_) <;> first | exact absurd hc (by decide) | (exfalso; simp only [*, reduceCtorEq] at hc; done) | skip) | ((with_reducible apply And.intro); focus (first | rfl | exact znb rfl | omega | (simp only [zlc, zln, zlm, zla]; omega))))
  repeat' first | (with_reducible first | exact ⟨⟩ | exact rfl | exact lr _) | ((conv => whnf); with_reducible first | apply And.intro | exact ⟨⟩) | exact rfl | exact fun h => h | exact lr _
  all_goals try (conv => whnf)
theorem fn_cFind : FnOk Tryz.prog 10 Tryz.f10 := ⟨Tryz.func10, by kernel_rfl, by kernel_rfl, by kernel_rfl⟩
theorem cFind_c (p : Pn) (n sure o : Int) (h : PnOk p) (hs : 0 ≤ sure) : PCx Tryz.prog 10 [.agg p.c, ii n, uu sure, uu o] (.tup [.agg (findC p n sure o).1.c, ii (findC p n sure o).2]) := by
  refine PC.le ?_
  refine PC_of_VC tabOk (draw_ok mixed tabOk) fn_cFind rfl ?_
  repeat' ((conv => whnf); first | with_reducible refine zol ?_ | ((with_reducible refine fk (fun hc => ?_) fun hc => ?_) <;> first | exact absurd hc (by decide) | (exfalso; simp only [*, reduceCtorEq] at hc; done) | skip) | (refine zll ?_; (conv => whnf); refine ⟨_, cOne_c p n sure h hs _ _ (fun s => s.offset == o) (cFind1_c o), ?_⟩) | ((with_reducible apply And.intro); focus (first | rfl | exact znb rfl | omega | (simp only [zlc, zln, zlm, zla]; omega))))
  repeat' first | (with_reducible first | exact ⟨⟩ | exact rfl | exact lr _) | ((conv => whnf); with_reducible first | apply And.intro | exact ⟨⟩) | exact rfl | exact fun h => h | exact lr _
  all_goals try (conv => whnf)
theorem fn_cOff1 : FnOk Tryz.prog 46 Tryz.f46 := ⟨Tryz.func46, by kernel_rfl, by kernel_rfl, by kernel_rfl⟩
theorem cOff1_c (l k : Int) (s : Sp) : PCx Tryz.prog 46 ([] ++ ([.agg s.c] ++ [.eptr [uu l] 0, .eptr [uu k] 0])) (bl (s.ledger == l && s.n == k)) := by
  refine PC.le ?_
  refine PC_of_VC tabOk (draw_ok mixed tabOk) fn_cOff1 rfl ?_
  repeat' ((conv => whnf); first | with_reducible refine zol ?_ | ((with_reducible refine fk (fun hc => ?_) fun hc => ?_) <;> first | exact absurd hc (by decide) | (exfalso; simp only [*, reduceCtorEq] at hc; done) | skip) | ((with_reducible apply And.intro); focus (first | rfl | exact znb rfl | omega | (simp only [zlc, zln, zlm, zla]; omega))))
  all_goals
    repeat' first | (with_reducible first | exact ⟨⟩ | exact rfl | exact lr _) | ((conv => whnf); with_reducible first | apply And.intro | exact ⟨⟩) | exact rfl | exact fun h => h | exact lr _
    all_goals try (conv => whnf)
    simp only [*, Bool.true_and, Bool.false_and]
theorem fn_cOff : FnOk Tryz.prog 12 Tryz.f12 := ⟨Tryz.func12, by kernel_rfl, by kernel_rfl, by kernel_rfl⟩
theorem cOff_c (p : Pn) (n sure l k : Int) (h : PnOk p) (hs : 0 ≤ sure) : PCx Tryz.prog 12 [.agg p.c, ii n, uu sure, uu l, uu k] (.tup [uu (offC p n sure l k).1, ii (offC p n sure l k).2]) := by
  refine PC.le ?_
  refine PC_of_VC tabOk (draw_ok mixed tabOk) fn_cOff rfl ?_
  repeat' ((conv => whnf); first | with_reducible refine zol ?_ | ((with_reducible refine fk (fun hc => ?_) fun hc => ?_) <;> first | exact absurd hc (by decide) | (exfalso; simp only [*, reduceCtorEq] at hc; done) | skip) | (refine zll ?_; (conv => whnf); refine ⟨_, cOne_c p n sure h hs _ _ (fun s => s.ledger == l && s.n == k) (cOff1_c l k), ?_⟩) | ((with_reducible apply And.intro); focus (first | rfl | exact znb rfl | omega | (simp only [zlc, zln, zlm, zla]; omega))))
  repeat' first | (with_reducible first | exact ⟨⟩ | exact rfl | exact lr _) | ((conv => whnf); with_reducible first | apply And.intro | exact ⟨⟩) | exact rfl | exact fun h => h | exact lr _
  all_goals try (conv => whnf)
end Go.Proofs.YtgblabmhgdiicaaGreat.Tb

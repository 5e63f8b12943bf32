/-
  Contracts of functions of the program and of the document, each for every input that its premises name.
-/
import Derived.Test.YtgblabmhgdiicaaGreatCG
import Derived.Test.YtgblabmhgdiicaaGreatAd
import Derived.Test.YtgblabmhgdiicaaGreatAe
set_option linter.unusedSectionVars false
set_option maxRecDepth 100000
set_option maxHeartbeats 4000000
set_option linter.unusedVariables false
set_option linter.unusedSimpArgs false
open Go Go.AX
namespace Go.Proofs.YtgblabmhgdiicaaGreat.Tb
theorem fn_r07Place : FnOk Tryz.prog 138 Tryz.f138 := ⟨Tryz.func138, by kernel_rfl, by kernel_rfl, by kernel_rfl⟩
theorem r07Place_c (a b : Int) : PCx Tryz.prog 138 [.agg [ii a, uu b]] (bl (mayPl ⟨a, b⟩)) := by
  refine PC.le ?_
  refine PC_of_VC tabOk (draw_ok mixed tabOk) fn_r07Place rfl ?_
  repeat' ((conv => whnf); first | with_reducible refine zol ?_ | ((with_reducible refine fk (fun hc => ?_) fun hc => ?_) <;> first | exact absurd hc (by decide) | (exfalso; simp only [*, reduceCtorEq] at hc; done) | skip) | ((with_reducible apply And.intro); focus (first | rfl | exact znb rfl | omega | (simp only [zlc, zln, zlm, zla]; omega))))
  all_goals
    repeat' first | (with_reducible first | exact ⟨⟩ | exact rfl | exact lr _) | ((conv => whnf); with_reducible first | apply And.intro | exact ⟨⟩) | exact rfl | exact fun h => h | exact lr _
    all_goals try (conv => whnf)
    simp only [mayPl, fromZ]
    simp only [decide_eq_true_eq, decide_eq_false_iff_not] at *
    first
      | (symm; simp only [Bool.and_eq_false_iff, decide_eq_false_iff_not]; omega)
      | (rw [Bool.eq_iff_iff]; simp only [Bool.and_eq_true, decide_eq_true_eq]; omega)
theorem fn_r07Frags : FnOk Tryz.prog 112 Tryz.f112 := ⟨Tryz.func112, by kernel_rfl, by kernel_rfl, by kernel_rfl⟩
theorem r07Frags_c (w : Int) (l : List Fr) : PCx Tryz.prog 112 [ii w, slF l] (bl (mayFrs w l)) := by
  refine PC.le (PC_bd fn_r07Frags fun hb => ?_)
  have hb : l.length ≤ 9223372036854775807 := by simpa [bdL, bdP, slF] using hb
  refine PC_of_VC tabOk (draw_ok mixed tabOk) fn_r07Frags rfl ?_
  cases hf1 : first1 l with
  | false =>
    cases l with
    | nil =>
      repeat' ((conv => whnf); first | with_reducible refine zol ?_ | ((with_reducible refine fk (fun hc => ?_) fun hc => ?_) <;> first | exact absurd hc (by decide) | (exfalso; simp only [*, reduceCtorEq] at hc; done) | skip) | ((with_reducible apply And.intro); focus (first | rfl | exact znb rfl | omega | (simp only [zlc, zln, zlm, zla]; omega))))
      repeat' first | (with_reducible first | exact ⟨⟩ | exact rfl | exact lr _) | ((conv => whnf); with_reducible first | apply And.intro | exact ⟨⟩) | exact rfl | exact fun h => h | exact lr _
      all_goals try (conv => whnf)
      all_goals simp [mayFrs, fromZ]
    | cons x r =>
      repeat' ((conv => whnf); first | with_reducible refine zol ?_ | ((with_reducible refine fk (fun hc => ?_) fun hc => ?_) <;> first | exact absurd hc (by decide) | (exfalso; simp only [*, reduceCtorEq] at hc; done) | skip) | ((refine ⟨_, rfl, ?_⟩)) | ((with_reducible apply And.intro); focus (first | rfl | exact znb rfl | omega | (simp only [zlc, zln, zlm, zla]; omega))))
      all_goals try (exfalso; simp [first1] at hf1 hc; exact hf1 hc)
      all_goals
        repeat' first | (with_reducible first | exact ⟨⟩ | exact rfl | exact lr _) | ((conv => whnf); with_reducible first | apply And.intro | exact ⟨⟩) | exact rfl | exact fun h => h | exact lr _
        all_goals try (conv => whnf)
        all_goals (simp only [mayFrs, hf1, Bool.false_and, Bool.and_false])
  | true =>
    obtain ⟨h0, e0⟩ := (first1_iff l).1 hf1
    have hrow : (l.map Fr.c)[(0 : Int).toNat]? = some l[0].c := rowK Fr.c l 0 h0
    have hlen : (¬ (1 ≤ l.length ∧ l.length ≤ 6)) → mayFrs w l = false := fun h => by
      cases e : mayFrs w l with
      | false => rfl
      | true => exact absurd ⟨((mayFrs_iff w l).1 e).1, ((mayFrs_iff w l).1 e).2.1⟩ h
    repeat' ((conv => whnf); first | with_reducible refine zol ?_ | ((with_reducible refine fk (fun hc => ?_) fun hc => ?_) <;> first | exact absurd hc (by decide) | (exfalso; simp only [*, reduceCtorEq] at hc; done) | skip) | ((refine ⟨_, hrow, ?_⟩)) | ((with_reducible apply And.intro); focus (first | rfl | exact znb rfl | omega | (simp only [zlc, zln, zlm, zla]; omega))))
    · repeat' first
        | fail
        | with_reducible exact True.intro
        | with_reducible exact rfl
        | with_reducible exact leRs_refl _
        | ((conv => whnf); with_reducible apply And.intro)
        | ((conv => whnf); with_reducible exact True.intro)
        | exact rfl
        | exact fun h => h
        | exact leRs_refl _
      all_goals try (conv => whnf)
      exact (hlen (by simp at *; omega)).symm
    · repeat' first
        | fail
        | with_reducible exact True.intro
        | with_reducible exact rfl
        | with_reducible exact leRs_refl _
        | ((conv => whnf); with_reducible apply And.intro)
        | ((conv => whnf); with_reducible exact True.intro)
        | exact rfl
        | exact fun h => h
        | exact leRs_refl _
      all_goals try (conv => whnf)
      exact (hlen (by simp at *; omega)).symm
    · exfalso; simp [e0] at hc
    have h6 : 1 ≤ l.length ∧ l.length ≤ 6 := by simp at *; omega
    refine ⟨{k : Nat // k ≤ l.length ∧ ∀ j (hj : j < l.length), j < k → frGood w l j hj}, fun ⟨k, _⟩ => ⟨[(0, .pv (ii w)), (1, .pv (slF l)), (5, .pv (ii k))], 1000000000, []⟩, fun ⟨k, _⟩ => l.length - k, ⟨⟨0, by simp⟩, ent_of ?_⟩, ?_⟩
    · repeat' first
        | fail
        | with_reducible exact True.intro
        | with_reducible exact rfl
        | with_reducible exact leRs_refl _
        | ((conv => whnf); with_reducible apply And.intro)
        | ((conv => whnf); with_reducible exact True.intro)
        | exact rfl
        | exact fun h => h
        | exact leRs_refl _
      all_goals try (conv => whnf)
    rintro ⟨k, hk, hn⟩
    repeat' ((conv => whnf); first | with_reducible refine zol ?_ | ((with_reducible refine fk (fun hc => ?_) fun hc => ?_) <;> first | exact absurd hc (by decide) | (exfalso; simp only [*, reduceCtorEq] at hc; done) | skip) | ((with_reducible apply And.intro); focus (first | rfl | exact znb rfl | omega | (simp only [zlc, zln, zlm, zla]; omega))))
    · have hlt : k < l.length := by simpa using hc
      have hbad : ¬ frGood w l k hlt → mayFrs w l = false := mayFrs_not hlt
      have e1 (h : 0 < k) : IntKind.i64.wrap (((k : Nat) : Int) - 1) = ((k - 1 : Nat) : Int) := by rw [wrapI (by omega) (by omega)]; omega
      refine ⟨_, rowK _ _ _ hlt, ?_⟩
      repeat' ((conv => whnf); first | with_reducible refine zol ?_ | ((with_reducible refine fk (fun hc => ?_) fun hc => ?_) <;> first | exact absurd hc (by decide) | (exfalso; simp only [*, reduceCtorEq] at hc; done) | skip) | ((refine ⟨_, rowK _ _ _ hlt, ?_⟩)) | ((refine ⟨by rw [e1 (by simp at hc; omega)]; omega, _, rowE _ _ (e1 (by simp at hc; omega)) (by omega), ?_⟩)) | ((with_reducible apply And.intro); focus (first | rfl | exact znb rfl | omega | (simp only [zlc, zln, zlm, zla]; omega))))
      all_goals
        first
          | (have hgood : (∀ x ∈ l[k].bookies, mayPl x = true) → (l[k].bookies.map (·.node)).Nodup → frGood w l k hlt := fun h1 h2 => by
               simp only [decide_eq_true_eq, decide_eq_false_iff_not, List.length_map] at *
               exact ⟨by omega, fun h => by omega, by omega, by omega, List.all_eq_true.2 h1, h2⟩)
          | (have hb2 : ¬ frGood w l k hlt := fun g => by
               obtain ⟨g1, g2, g3, g4, _⟩ := g
               simp only [decide_eq_true_eq, decide_eq_false_iff_not, List.length_map] at *
               by_cases hk0 : 0 < k
               · have g2 := g2 hk0
                 omega
               · omega
             repeat' first | (with_reducible first | exact ⟨⟩ | exact rfl | exact lr _) | ((conv => whnf); with_reducible first | apply And.intro | exact ⟨⟩) | exact rfl | exact fun h => h | exact lr _
             all_goals try (conv => whnf)
             exact (hbad hb2).symm)
      all_goals
        repeat' ((conv => whnf); first | with_reducible refine zol ?_ | ((with_reducible refine fk (fun hc => ?_) fun hc => ?_) <;> first | exact absurd hc (by decide) | (exfalso; simp only [*, reduceCtorEq] at hc; done) | skip) | ((with_reducible apply And.intro); focus (first | rfl | exact znb rfl | omega | (simp only [zlc, zln, zlm, zla]; omega))))
        generalize hbk : l[k].bookies = bk at *
        have hbl : bk.length ≤ 5 := by simp only [decide_eq_true_eq, decide_eq_false_iff_not, List.length_map] at *; omega
        refine ⟨{j : Nat // j ≤ bk.length ∧ (∀ i (hi : i < bk.length), i < j → mayPl bk[i] = true) ∧ ((bk.take j).map (·.node)).Nodup}, fun ⟨j, _⟩ => ⟨[(0, .pv (ii w)), (1, .pv (slF l)), (5, .pv (ii k)), (6, .pv (slP bk)), (7, .pv (ii j))], 1000000000, []⟩, fun ⟨j, _⟩ => bk.length - j, ⟨⟨0, by simp⟩, ent_of ?_⟩, ?_⟩
        · repeat' first
            | fail
            | with_reducible exact True.intro
            | with_reducible exact rfl
            | with_reducible exact leRs_refl _
            | ((conv => whnf); with_reducible apply And.intro)
            | ((conv => whnf); with_reducible exact True.intro)
            | exact rfl
            | exact fun h => h
            | exact leRs_refl _
          all_goals try (conv => whnf)
        rintro ⟨j, hj, hm, hd⟩
        repeat' ((conv => whnf); first | with_reducible refine zol ?_ | ((with_reducible refine fk (fun hc => ?_) fun hc => ?_) <;> first | exact absurd hc (by decide) | (exfalso; simp only [*, reduceCtorEq] at hc; done) | skip) | ((with_reducible apply And.intro); focus (first | rfl | exact znb rfl | omega | (simp only [zlc, zln, zlm, zla]; omega))))
        · have hjl : j < bk.length := by simpa using hc
          refine ⟨_, rowK _ _ _ hjl, ?_⟩
          repeat' ((conv => whnf); first | with_reducible refine zol ?_ | ((with_reducible refine fk (fun hc => ?_) fun hc => ?_) <;> first | exact absurd hc (by decide) | (exfalso; simp only [*, reduceCtorEq] at hc; done) | skip) | (refine zll ?_; (conv => whnf); refine ⟨_, r07Place_c _ _, ?_⟩) | ((with_reducible apply And.intro); focus (first | rfl | exact znb rfl | omega | (simp only [zlc, zln, zlm, zla]; omega))))
          · repeat' first
              | fail
              | with_reducible exact True.intro
              | with_reducible exact rfl
              | with_reducible exact leRs_refl _
              | ((conv => whnf); with_reducible apply And.intro)
              | ((conv => whnf); with_reducible exact True.intro)
              | exact rfl
              | exact fun h => h
              | exact leRs_refl _
            all_goals try (conv => whnf)
            refine (hbad fun g => ?_).symm
            have := List.all_eq_true.1 g.2.2.2.2.1 bk[j] (by rw [hbk]; exact List.getElem_mem hjl)
            rw [Pl.eta] at hc
            rw [this] at hc; cases hc
          repeat' ((conv => whnf); first | with_reducible refine zol ?_ | ((with_reducible refine fk (fun hc => ?_) fun hc => ?_) <;> first | exact absurd hc (by decide) | (exfalso; simp only [*, reduceCtorEq] at hc; done) | skip) | ((with_reducible apply And.intro); focus (first | rfl | exact znb rfl | omega | (simp only [zlc, zln, zlm, zla]; omega))))
          refine ⟨{i : Nat // i ≤ j ∧ ∀ x (hx : x < bk.length), x < i → bk[x].node ≠ bk[j].node}, fun ⟨i, _⟩ => ⟨[(0, .pv (ii w)), (1, .pv (slF l)), (5, .pv (ii k)), (6, .pv (slP bk)), (7, .pv (ii j)), (8, .pv (ii i))], 1000000000, []⟩, fun ⟨i, _⟩ => j - i, ⟨⟨0, by simp⟩, ent_of ?_⟩, ?_⟩
          · repeat' first
              | fail
              | with_reducible exact True.intro
              | with_reducible exact rfl
              | with_reducible exact leRs_refl _
              | ((conv => whnf); with_reducible apply And.intro)
              | ((conv => whnf); with_reducible exact True.intro)
              | exact rfl
              | exact fun h => h
              | exact leRs_refl _
            all_goals try (conv => whnf)
          have hpl : mayPl bk[j] = true := by rw [Pl.eta] at hc; simpa using hc
          rintro ⟨i, hi, hx⟩
          repeat' ((conv => whnf); first | with_reducible refine zol ?_ | ((with_reducible refine fk (fun hc => ?_) fun hc => ?_) <;> first | exact absurd hc (by decide) | (exfalso; simp only [*, reduceCtorEq] at hc; done) | skip) | ((with_reducible apply And.intro); focus (first | rfl | exact znb rfl | omega | (simp only [zlc, zln, zlm, zla]; omega))))
          · have hij : i < j := by simpa using hc
            refine ⟨_, rowK _ _ _ (by omega : i < bk.length), ?_⟩
            repeat' ((conv => whnf); first | with_reducible refine zol ?_ | ((with_reducible refine fk (fun hc => ?_) fun hc => ?_) <;> first | exact absurd hc (by decide) | (exfalso; simp only [*, reduceCtorEq] at hc; done) | skip) | ((refine ⟨_, rowK _ _ _ hjl, ?_⟩)) | ((with_reducible apply And.intro); focus (first | rfl | exact znb rfl | omega | (simp only [zlc, zln, zlm, zla]; omega))))
            · repeat' first
                | fail
                | with_reducible exact True.intro
                | with_reducible exact rfl
                | with_reducible exact leRs_refl _
                | ((conv => whnf); with_reducible apply And.intro)
                | ((conv => whnf); with_reducible exact True.intro)
                | exact rfl
                | exact fun h => h
                | exact leRs_refl _
              all_goals try (conv => whnf)
              refine (hbad fun g => ?_).symm
              have := g.2.2.2.2.2
              rw [hbk] at this
              have := List.pairwise_iff_getElem.1 this i j (by simp; omega) (by simp; omega) hij
              simp at this hc
              exact this hc
            · repeat' ((conv => whnf)
                       first
                       | with_reducible refine zol ?_
                       | ((with_reducible refine fk (fun hc => ?_) fun hc => ?_) <;> first | exact absurd hc (by decide) | (exfalso; simp only [*, reduceCtorEq] at hc; done) | skip)
                       | ((with_reducible apply And.intro); focus (first | rfl | exact znb rfl | omega | (simp only [zlc, zln, zlm, zla]; omega))))
              refine ⟨⟨i + 1, hij, step_lt hx fun _ => by simpa using hc⟩, dec_lt hij, ent_of ?_⟩
              repeat' first | (with_reducible first | exact ⟨⟩ | exact rfl | exact lr _) | ((conv => whnf); with_reducible first | apply And.intro | exact ⟨⟩) | exact rfl | exact fun h => h | exact lr _
              all_goals try (conv => whnf)
              exact wrapI (by omega) (by omega)
          · have hij : i = j := by simp at hc; omega
            subst hij
            repeat' ((conv => whnf); first | with_reducible refine zol ?_ | ((with_reducible refine fk (fun hc => ?_) fun hc => ?_) <;> first | exact absurd hc (by decide) | (exfalso; simp only [*, reduceCtorEq] at hc; done) | skip) | ((with_reducible apply And.intro); focus (first | rfl | exact znb rfl | omega | (simp only [zlc, zln, zlm, zla]; omega))))
            refine ⟨⟨i + 1, hjl, step_lt hm fun _ => hpl, nodup_take hjl hd hx⟩, dec_lt hjl, ent_of ?_⟩
            repeat' first | (with_reducible first | exact ⟨⟩ | exact rfl | exact lr _) | ((conv => whnf); with_reducible first | apply And.intro | exact ⟨⟩) | exact rfl | exact fun h => h | exact lr _
            all_goals try (conv => whnf)
            exact wrapI (by omega) (by omega)
        · have hj : j = bk.length := by simp at hc; omega
          subst hj
          repeat' ((conv => whnf); first | with_reducible refine zol ?_ | ((with_reducible refine fk (fun hc => ?_) fun hc => ?_) <;> first | exact absurd hc (by decide) | (exfalso; simp only [*, reduceCtorEq] at hc; done) | skip) | ((with_reducible apply And.intro); focus (first | rfl | exact znb rfl | omega | (simp only [zlc, zln, zlm, zla]; omega))))
          refine ⟨⟨k + 1, hlt, step_lt hn fun _ => hgood (all_of hm) (by simpa using hd)⟩, dec_lt hlt, ent_of ?_⟩
          repeat' first | (with_reducible first | exact ⟨⟩ | exact rfl | exact lr _) | ((conv => whnf); with_reducible first | apply And.intro | exact ⟨⟩) | exact rfl | exact fun h => h | exact lr _
          all_goals try (conv => whnf)
          exact wrapI (by omega) (by omega)
    · repeat' first
        | fail
        | with_reducible exact True.intro
        | with_reducible exact rfl
        | with_reducible exact leRs_refl _
        | ((conv => whnf); with_reducible apply And.intro)
        | ((conv => whnf); with_reducible exact True.intro)
        | exact rfl
        | exact fun h => h
        | exact leRs_refl _
      all_goals try (conv => whnf)
      have : k = l.length := by simp at hc; omega
      subst this
      exact ((mayFrs_iff w l).2 ⟨h6.1, h6.2, hf1, fun j hj => hn j hj hj⟩).symm
theorem fn_r07Ledger : FnOk Tryz.prog 76 Tryz.f76 := ⟨Tryz.func76, by kernel_rfl, by kernel_rfl, by kernel_rfl⟩
theorem r07Ledger_c (l : Lg) (hr : -9223372036854775808 ≤ l.closed ∧ l.closed ≤ 9223372036854775807 ∧ 0 ≤ l.last) : PCx Tryz.prog 76 [.agg l.c] (bl (mayLg l)) := by
  refine PC.le ?_
  obtain ⟨X, hX⟩ : ∃ X, X = mayLg l := ⟨_, rfl⟩
  rw [← hX]
  refine PC_of_VC tabOk (draw_ok mixed tabOk) fn_r07Ledger rfl ?_
  repeat' ((conv => whnf); first | with_reducible refine zol ?_ | ((with_reducible refine fk (fun hc => ?_) fun hc => ?_) <;> first | exact absurd hc (by decide) | (exfalso; simp only [*, reduceCtorEq] at hc; done) | skip) | (refine zll ?_; (conv => whnf); refine ⟨_, r07Frags_c _ _, ?_⟩) | ((with_reducible apply And.intro); focus (first | rfl | exact znb rfl | omega | (simp only [zlc, zln, zlm, zla]; omega))))
  all_goals
    repeat' first | (with_reducible first | exact ⟨⟩ | exact rfl | exact lr _) | ((conv => whnf); with_reducible first | apply And.intro | exact ⟨⟩) | exact rfl | exact fun h => h | exact lr _
    all_goals try (conv => whnf)
    subst hX
    simp only [mayLg, fromZ]
    grind
end Go.Proofs.YtgblabmhgdiicaaGreat.Tb

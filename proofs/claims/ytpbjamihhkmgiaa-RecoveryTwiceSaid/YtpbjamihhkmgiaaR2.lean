/-
  Contracts of functions of the program and of the document, each for every input that its premises name.
-/
import Derived.Test.YtpbjamihhkmgiaaRE
import Derived.Test.YtpbjamihhkmgiaaFB
import Derived.Test.YtpbjamihhkmgiaaRY3
import Derived.Test.YtpbjamihhkmgiaaR1
import Derived.Test.YtpbjamihhkmgiaaAe
set_option linter.unusedSectionVars false
set_option maxRecDepth 100000
set_option maxHeartbeats 4000000
set_option linter.unusedVariables false
set_option linter.unusedSimpArgs false
open Go Go.AX
namespace Go.Proofs.Ytpbjamihhkmgiaa.Tb
theorem fn_rcGone : FnOk Try.prog 17 Try.f17 := ⟨Try.func17, by kernel_rfl, by kernel_rfl, by kernel_rfl⟩
theorem gone_c (now since t : Int) (h1 : 0 ≤ now ∧ now ≤ 18446744073709551615) (h2 : 0 ≤ since ∧ since ≤ 18446744073709551615) : PCx Try.prog 17 [uu now, uu since, uu t] (bl (goneR now since t)) := by
  refine PC.le ?_
  have e : IntKind.u64.wrap ((if since > now then since else now) - since) = (if since > now then since else now) - since := wrapU (by split <;> omega) (by split <;> omega)
  refine PC_of_VC tabOk (draw_ok mixed tabOk) fn_rcGone rfl ?_
  repeat' ((conv => whnf); first | with_reducible refine (Or.inl ?_ : VC _ _ _ _ _ ∨ _) | ((with_reducible refine fk (fun hc => ?_) fun hc => ?_) <;> first | exact absurd hc (by decide) | (exfalso; simp only [*, reduceCtorEq] at hc; done) | skip) | ((with_reducible apply And.intro); focus (first | rfl | exact Nat.le_of_ble_eq_true rfl | omega | (simp only [List.length_cons, List.length_nil, List.length_map, List.length_append]; omega))))
  repeat' first | (with_reducible first | exact ⟨⟩ | exact rfl | exact lr _) | ((conv => whnf); with_reducible first | apply And.intro | exact ⟨⟩) | exact rfl | exact id | exact lr _
  all_goals try (conv => whnf)
  rw [e]; rfl
theorem fn_rcNew : FnOk Try.prog 6 Try.f6 := ⟨Try.func6, by kernel_rfl, by kernel_rfl, by kernel_rfl⟩
theorem new_c (l : Lg) (epoch now : Int) (hok : l.ok) (hfr : mayLg l = true → 0 < l.frags.length ∧ l.frags.length ≤ 1000 ∧ ∀ f ∈ l.frags, f.bookies.length ≤ 1000) :
    PCx Try.prog 6 [.agg l.c, uu epoch, uu now] (.tup [.agg (newR l epoch now).1.c, slR (newR l epoch now).2.1, ii (newR l epoch now).2.2]) := by
  refine PC.le ?_
  have hml := mayLedger_c l hok
  cases e1 : mayLg l with
  | false =>
    have e : newR l epoch now = (⟨⟨0, 0, 0, [], 0, 0⟩, 0, 0, [], 0, 0, [], [], [], [], [], 0, 0⟩, [], 1) := by simp only [newR, e1, Bool.not_false, Bool.true_or, ↓reduceIte]
    rw [e]
    rw [e1] at hml
    clear hfr
    refine PC_of_VC tabOk (draw_ok mixed tabOk) fn_rcNew rfl ?_
    repeat' ((conv => whnf); first | with_reducible refine (Or.inl ?_ : VC _ _ _ _ _ ∨ _) | ((with_reducible refine fk (fun hc => ?_) fun hc => ?_) <;> first | exact absurd hc (by decide) | (exfalso; simp only [*, reduceCtorEq] at hc; done) | skip) | (refine Or.inl (Or.inl ?_); (conv => whnf); refine ⟨_, hml, ?_⟩) | ((with_reducible apply And.intro); focus (first | rfl | exact Nat.le_of_ble_eq_true rfl | omega | (simp only [List.length_cons, List.length_nil, List.length_map, List.length_append]; omega))))
    all_goals
      repeat' first | (with_reducible first | exact ⟨⟩ | exact rfl | exact lr _) | ((conv => whnf); with_reducible first | apply And.intro | exact ⟨⟩) | exact rfl | exact id | exact lr _
      all_goals try (conv => whnf)
  | true =>
  rw [e1] at hml
  obtain ⟨f0, f1, f2⟩ := hfr e1
  cases e2 : (l.closed != 0) with
  | true =>
    have e : newR l epoch now = (⟨⟨0, 0, 0, [], 0, 0⟩, 0, 0, [], 0, 0, [], [], [], [], [], 0, 0⟩, [], 1) := by simp only [newR, e1, e2, Bool.or_true, Bool.true_or, ↓reduceIte]
    rw [e]
    refine PC_of_VC tabOk (draw_ok mixed tabOk) fn_rcNew rfl ?_
    repeat' ((conv => whnf); first | with_reducible refine (Or.inl ?_ : VC _ _ _ _ _ ∨ _) | ((with_reducible refine fk (fun hc => ?_) fun hc => ?_) <;> first | exact absurd hc (by decide) | (exfalso; simp only [*, reduceCtorEq] at hc; done) | skip) | (refine Or.inl (Or.inl ?_); (conv => whnf); refine ⟨_, hml, ?_⟩) | ((with_reducible apply And.intro); focus (first | rfl | exact Nat.le_of_ble_eq_true rfl | omega | (simp only [List.length_cons, List.length_nil, List.length_map, List.length_append]; omega))))
    all_goals
      repeat' first | (with_reducible first | exact ⟨⟩ | exact rfl | exact lr _) | ((conv => whnf); with_reducible first | apply And.intro | exact ⟨⟩) | exact rfl | exact id | exact lr _
      all_goals try (conv => whnf)
  | false =>
  cases e3 : decide (epoch < 1) with
  | true =>
    have e : newR l epoch now = (⟨⟨0, 0, 0, [], 0, 0⟩, 0, 0, [], 0, 0, [], [], [], [], [], 0, 0⟩, [], 1) := by simp only [newR, e1, e2, e3, Bool.or_true, Bool.true_or, ↓reduceIte]
    rw [e]
    refine PC_of_VC tabOk (draw_ok mixed tabOk) fn_rcNew rfl ?_
    repeat' ((conv => whnf); first | with_reducible refine (Or.inl ?_ : VC _ _ _ _ _ ∨ _) | ((with_reducible refine fk (fun hc => ?_) fun hc => ?_) <;> first | exact absurd hc (by decide) | (exfalso; simp only [*, reduceCtorEq] at hc; done) | skip) | (refine Or.inl (Or.inl ?_); (conv => whnf); refine ⟨_, hml, ?_⟩) | ((with_reducible apply And.intro); focus (first | rfl | exact Nat.le_of_ble_eq_true rfl | omega | (simp only [List.length_cons, List.length_nil, List.length_map, List.length_append]; omega))))
    all_goals
      repeat' first | (with_reducible first | exact ⟨⟩ | exact rfl | exact lr _) | ((conv => whnf); with_reducible first | apply And.intro | exact ⟨⟩) | exact rfl | exact id | exact lr _
      all_goals try (conv => whnf)
  | false =>
  cases e4 : decide (epoch > 4611686018427387903) with
  | true =>
    have e : newR l epoch now = (⟨⟨0, 0, 0, [], 0, 0⟩, 0, 0, [], 0, 0, [], [], [], [], [], 0, 0⟩, [], 1) := by simp only [newR, e1, e2, e3, e4, Bool.or_true, ↓reduceIte]
    rw [e]
    refine PC_of_VC tabOk (draw_ok mixed tabOk) fn_rcNew rfl ?_
    repeat' ((conv => whnf); first | with_reducible refine (Or.inl ?_ : VC _ _ _ _ _ ∨ _) | ((with_reducible refine fk (fun hc => ?_) fun hc => ?_) <;> first | exact absurd hc (by decide) | (exfalso; simp only [*, reduceCtorEq] at hc; done) | skip) | (refine Or.inl (Or.inl ?_); (conv => whnf); refine ⟨_, hml, ?_⟩) | ((with_reducible apply And.intro); focus (first | rfl | exact Nat.le_of_ble_eq_true rfl | omega | (simp only [List.length_cons, List.length_nil, List.length_map, List.length_append]; omega))))
    all_goals
      repeat' first | (with_reducible first | exact ⟨⟩ | exact rfl | exact lr _) | ((conv => whnf); with_reducible first | apply And.intro | exact ⟨⟩) | exact rfl | exact id | exact lr _
      all_goals try (conv => whnf)
  | false =>
  obtain ⟨x, hx⟩ : ∃ x : Rv, x = ⟨l, epoch, 0, [], 0, 0, [], [], [], l.frags, [], 0, 0⟩ := ⟨_, rfl⟩
  have hsm : x.sm := by
    subst hx
    exact ⟨⟨f1, f2⟩, ⟨f1, f2⟩, by simp, by simp, by simp, by simp, by simp⟩
  have hown := ownP_g x hsm
  have hlf : lastF x ∈ x.l.frags := lastF_mem (by rw [hx]; exact f0)
  have hask := fencesP_g { x with phase := 1, born := now } now rfl (by rw [hx]; exact f0) (by rw [hx]; exact f1) (by have := f2 (lastF x) (by rw [hx] at hlf ⊢; exact hlf); show (lastF x).bookies.length ≤ 1000000; omega)
  have e : newR l epoch now = ({ x with phase := 1, born := now, since := now }, fencesQ { x with phase := 1, born := now } (lastF x).bookies, 0) := by
    subst hx
    simp only [newR, e1, e2, e3, e4, Bool.not_true, Bool.or_self, Bool.false_eq_true, ↓reduceIte]
    rfl
  rw [e]
  rw [show lastF { x with phase := 1, born := now } = lastF x from rfl] at hask
  obtain ⟨Q, hQ⟩ : ∃ Q, fencesQ { x with phase := 1, born := now } (lastF x).bookies = Q := ⟨_, rfl⟩
  rw [hQ] at hask ⊢
  clear hQ hlf hsm e f0 f1 f2 hfr hok
  subst hx
  refine PC_of_VC tabOk (draw_ok mixed tabOk) fn_rcNew rfl ?_
  repeat' ((conv => whnf); first | with_reducible refine (Or.inl ?_ : VC _ _ _ _ _ ∨ _) | ((with_reducible refine fk (fun hc => ?_) fun hc => ?_) <;> first | exact absurd hc (by decide) | (exfalso; simp only [*, reduceCtorEq] at hc; done) | skip) | (refine Or.inl (Or.inl ?_); (conv => whnf); refine ⟨_, hml, ?_⟩) | (refine Or.inl (Or.inr ?_); (conv => whnf); refine ⟨_, _, GCx_pre (hown) ?_, ?_⟩; focus ((repeat' first | (with_reducible first | exact ⟨⟩ | exact rfl | exact lr _) | ((conv => whnf); with_reducible first | apply And.intro | exact ⟨⟩) | exact rfl | exact id | assumption | exact lr _); done)) | (refine Or.inr ?_; (conv => whnf); refine ⟨_, GI_of_VC tabOk (draw_ok mixed tabOk) fn_wBegin rfl ?_, fun _ _ h => h⟩) | (refine Or.inl (Or.inr ?_); (conv => whnf); refine ⟨_, _, GCx_pre (hask) ?_, ?_⟩; focus ((repeat' first | (with_reducible first | exact ⟨⟩ | exact rfl | exact lr _) | ((conv => whnf); with_reducible first | apply And.intro | exact ⟨⟩) | exact rfl | exact id | assumption | exact lr _); done)) | ((with_reducible apply And.intro); focus (first | rfl | exact Nat.le_of_ble_eq_true rfl | omega | (simp only [List.length_cons, List.length_nil, List.length_map, List.length_append]; omega))))
  all_goals
    repeat' first | (with_reducible first | exact ⟨⟩ | exact rfl | exact lr _) | ((conv => whnf); with_reducible first | apply And.intro | exact ⟨⟩) | exact rfl | exact id | exact lr _
    all_goals try (conv => whnf)
theorem writesFB_g (x : Rv) (hf : frsOk x.frags) (hl : x.frags.length ≤ 1000000) (hn : 0 ≤ x.n ∧ x.n ≤ 18446744073709551615) :
    GCx Try.prog 18 [.ptr 1 0] [(1, .var (x.v (.pv (slP x.heard)) (.pv (slP x.none)) (.pv (slP x.has)) (.slw 2 0) (.slw 3 0) (.pv (.sc (.slice none 0 0))))), (2, .arr 49 0 2 (x.frags.map Fr.c)), (3, .arr 38 0 2 (x.bad.map Pl.c))] (.pv (slP (writesR x)))
      [(1, .var (x.v (.pv (slP x.heard)) (.pv (slP x.none)) (.pv (slP x.has)) (.slw 2 0) (.slw 3 0) (.pv (.sc (.slice none 0 0))))), (2, .arr 49 0 2 (x.frags.map Fr.c)), (3, .arr 38 0 2 (x.bad.map Pl.c))] := by
  refine GC_of_VC tabOk (draw_ok mixed tabOk) fn_wWrites rfl ?_
  repeat' ((conv => whnf); first | with_reducible refine (Or.inl ?_ : VC _ _ _ _ _ ∨ _) | ((with_reducible refine fk (fun hc => ?_) fun hc => ?_) <;> first | exact absurd hc (by decide) | (exfalso; simp only [*, reduceCtorEq] at hc; done) | skip) | (refine Or.inl (Or.inr ?_); (conv => whnf); refine ⟨_, _, sSetO_g _ _ _ hl hf hn, ?_⟩) | ((with_reducible apply And.intro); focus (first | rfl | exact Nat.le_of_ble_eq_true rfl | omega | (simp only [List.length_cons, List.length_nil, List.length_map, List.length_append]; omega))))
  refine ⟨_, _, ⟨rfl, rfl⟩, ?_⟩
  repeat' first | (with_reducible first | exact ⟨⟩ | exact rfl | exact lr _) | ((conv => whnf); with_reducible first | apply And.intro | exact ⟨⟩) | exact rfl | exact id | exact lr _
  all_goals try (conv => whnf)
theorem fn_wRenew : FnOk Try.prog 20 Try.f20 := ⟨Try.func20, by kernel_rfl, by kernel_rfl, by kernel_rfl⟩
section
variable (x : Rv) (known : List Pl) (hk : known.length ≤ 1000) (hf : frsOk x.frags) (hfl : x.frags.length ≤ 1000) (hfb : ∀ f ∈ x.frags, f.bookies.length ≤ 1000)
include hk hf hfl hfb
theorem fragN_len : (fragN x).bookies.length ≤ 1000 := by
  unfold fragN
  cases h : fragAt x.frags x.n with
  | none => simp [fr0]
  | some f => exact hfb f (lastP_mem _ _ _ h).1
theorem renewO_g (h1 : (renewN x known).2 = false) :
    GCx Try.prog 20 [.ptr 1 0, .pv (slP known)] [(1, .var (x.v (.pv (slP x.heard)) (.pv (slP x.none)) (.pv (slP x.has)) (.slw 2 0) (.slw 3 0) (.pv (.sc (.slice none 0 0))))), (2, .arr 49 0 2 (x.frags.map Fr.c)), (3, .arr 38 0 2 (x.bad.map Pl.c))] (.pv (bl false))
      [(1, .var (({ x with bad := [] } : Rv).v (.pv (slP x.heard)) (.pv (slP x.none)) (.pv (slP x.has)) (.slw 2 0) (.pv (slP [])) (.pv (.sc (.slice none 0 0))))), (2, .arr 49 0 2 (x.frags.map Fr.c)), (3, .roa 0 2 (x.bad.map Pl.c))] := by
  have hfr := sFragO_g x.frags x.n (by omega) hf
  have hre : PCx Try.prog 38 [.agg (fragN x).c, ii x.l.w, ii ((List.map Pl.c (fragN x).bookies).length : Int), slP x.bad, slP known] (.tup [.agg (renewN x known).1.c, bl (renewN x known).2]) := by
    rw [List.length_map]; exact sRenew_c _ _ _ _ _ (fragN_len x known hk hf hfl hfb) hk
  rw [h1] at hre
  rw [show ((fragAt x.frags x.n).getD fr0) = fragN x from rfl] at hfr
  obtain ⟨F, hF⟩ : ∃ F, fragN x = F := ⟨_, rfl⟩
  obtain ⟨G, hG⟩ : ∃ G, (renewN x known).1 = G := ⟨_, rfl⟩
  obtain ⟨ok, hok⟩ : ∃ ok, (fragAt x.frags x.n).isSome = ok := ⟨_, rfl⟩
  rw [hF] at hfr hre
  rw [hG] at hre
  rw [hok] at hfr
  clear hF hG h1 hok hfb hf
  refine GC_of_VC tabOk (draw_ok mixed tabOk) fn_wRenew rfl ?_
  repeat' ((conv => whnf); first | with_reducible refine (Or.inl ?_ : VC _ _ _ _ _ ∨ _) | ((with_reducible refine fk (fun hc => ?_) fun hc => ?_) <;> first | exact absurd hc (by decide) | (exfalso; simp only [*, reduceCtorEq] at hc; done) | skip) | (refine Or.inr ?_; (conv => whnf); refine ⟨_, _, GCx_pre (hfr) ?_, ?_⟩; focus ((repeat' first | (with_reducible first | exact ⟨⟩ | exact rfl | exact lr _) | ((conv => whnf); with_reducible first | apply And.intro | exact ⟨⟩) | exact rfl | exact id | assumption | exact lr _); done)) | (refine Or.inl (Or.inl ?_); (conv => whnf); refine ⟨_, PCx_pre (hre) ?_, ?_⟩; focus ((repeat' first | (with_reducible first | exact ⟨⟩ | exact rfl | exact lr _) | ((conv => whnf); with_reducible first | apply And.intro | exact ⟨⟩) | exact rfl | exact id | assumption | exact lr _); done)) | (((with_reducible apply And.intro); focus (simp only [List.length_map, decide_eq_true_eq] at *; rw [wrapI (by omega) (by omega)]; omega))) | ((with_reducible apply And.intro); focus (first | rfl | exact Nat.le_of_ble_eq_true rfl | omega | (simp only [List.length_cons, List.length_nil, List.length_map, List.length_append]; omega))))
  all_goals
    refine ⟨_, _, ⟨rfl, rfl⟩, ?_⟩
    repeat' first | (with_reducible first | exact ⟨⟩ | exact rfl | exact lr _) | ((conv => whnf); with_reducible first | apply And.intro | exact ⟨⟩) | exact rfl | exact id | exact lr _
    all_goals try (conv => whnf)
end
end Go.Proofs.Ytpbjamihhkmgiaa.Tb

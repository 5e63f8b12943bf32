/-
  Contracts of functions of the program and of the document, each for every input that its premises name.
-/
import Derived.Test.YtgblabmhgdiicaaGreatCS
import Derived.Test.YtgblabmhgdiicaaGreatAe
set_option linter.unusedSectionVars false
set_option maxRecDepth 100000
set_option maxHeartbeats 4000000
set_option linter.unusedVariables false
set_option linter.unusedSimpArgs false
open Go Go.AX
namespace Go.Proofs.YtgblabmhgdiicaaGreat.Tb
theorem fn_fromU : FnOk Tryz.prog 29 Tryz.f29 := ⟨Tryz.func29, by kernel_rfl, by kernel_rfl, by kernel_rfl⟩
theorem fromU_c (n l m : Int) : PCx Tryz.prog 29 [uu n, uu l, uu m] (bl (fromZ n l m)) := by
  refine PC.le ?_
  refine PC_of_VC tabOk (draw_ok mixed tabOk) fn_fromU rfl ?_
  repeat' ((conv => whnf); first | with_reducible refine zol ?_ | ((with_reducible refine fk (fun hc => ?_) fun hc => ?_) <;> first | exact absurd hc (by decide) | (exfalso; simp only [*, reduceCtorEq] at hc; done) | skip) | ((with_reducible apply And.intro); focus (first | rfl | exact znb rfl | omega | (simp only [zlc, zln, zlm, zla]; omega))))
  all_goals
    repeat' first | (with_reducible first | exact ⟨⟩ | exact rfl | exact lr _) | ((conv => whnf); with_reducible first | apply And.intro | exact ⟨⟩) | exact rfl | exact fun h => h | exact lr _
    all_goals try (conv => whnf)
    simp_all [fromZ]
  omega
theorem fn_fromI : FnOk Tryz.prog 30 Tryz.f30 := ⟨Tryz.func30, by kernel_rfl, by kernel_rfl, by kernel_rfl⟩
theorem fromI_c (n l m : Int) : PCx Tryz.prog 30 [ii n, ii l, ii m] (bl (fromZ n l m)) := by
  refine PC.le ?_
  refine PC_of_VC tabOk (draw_ok mixed tabOk) fn_fromI rfl ?_
  repeat' ((conv => whnf); first | with_reducible refine zol ?_ | ((with_reducible refine fk (fun hc => ?_) fun hc => ?_) <;> first | exact absurd hc (by decide) | (exfalso; simp only [*, reduceCtorEq] at hc; done) | skip) | ((with_reducible apply And.intro); focus (first | rfl | exact znb rfl | omega | (simp only [zlc, zln, zlm, zla]; omega))))
  all_goals
    repeat' first | (with_reducible first | exact ⟨⟩ | exact rfl | exact lr _) | ((conv => whnf); with_reducible first | apply And.intro | exact ⟨⟩) | exact rfl | exact fun h => h | exact lr _
    all_goals try (conv => whnf)
    simp_all [fromZ]
  omega
theorem fn_fromE : FnOk Tryz.prog 74 Tryz.f74 := ⟨Tryz.func74, by kernel_rfl, by kernel_rfl, by kernel_rfl⟩
theorem fromE_c (n l m : Int) : PCx Tryz.prog 74 [ii n, ii l, ii m] (bl (fromZ n l m)) := by
  refine PC.le ?_
  refine PC_of_VC tabOk (draw_ok mixed tabOk) fn_fromE rfl ?_
  repeat' ((conv => whnf); first | with_reducible refine zol ?_ | ((with_reducible refine fk (fun hc => ?_) fun hc => ?_) <;> first | exact absurd hc (by decide) | (exfalso; simp only [*, reduceCtorEq] at hc; done) | skip) | ((with_reducible apply And.intro); focus (first | rfl | exact znb rfl | omega | (simp only [zlc, zln, zlm, zla]; omega))))
  all_goals
    repeat' first | (with_reducible first | exact ⟨⟩ | exact rfl | exact lr _) | ((conv => whnf); with_reducible first | apply And.intro | exact ⟨⟩) | exact rfl | exact fun h => h | exact lr _
    all_goals try (conv => whnf)
    simp_all [fromZ]
  omega
theorem fn_place : FnOk Tryz.prog 129 Tryz.f129 := ⟨Tryz.func129, by kernel_rfl, by kernel_rfl, by kernel_rfl⟩
theorem place_c (a b : Int) : PCx Tryz.prog 129 [.agg [ii a, uu b]] (bl (mayPl ⟨a, b⟩)) := by
  refine PC.le ?_
  refine PC_of_VC tabOk (draw_ok mixed tabOk) fn_place rfl ?_
  repeat' ((conv => whnf); first | with_reducible refine zol ?_ | ((with_reducible refine fk (fun hc => ?_) fun hc => ?_) <;> first | exact absurd hc (by decide) | (exfalso; simp only [*, reduceCtorEq] at hc; done) | skip) | (refine zll ?_; (conv => whnf); refine ⟨_, fromI_c _ _ _, ?_⟩) | (refine zll ?_; (conv => whnf); refine ⟨_, fromU_c _ _ _, ?_⟩) | ((with_reducible apply And.intro); focus (first | rfl | exact znb rfl | omega | (simp only [zlc, zln, zlm, zla]; omega))))
  all_goals
    repeat' first | (with_reducible first | exact ⟨⟩ | exact rfl | exact lr _) | ((conv => whnf); with_reducible first | apply And.intro | exact ⟨⟩) | exact rfl | exact fun h => h | exact lr _
    all_goals try (conv => whnf)
    simp_all [mayPl]
theorem fn_all1Place : FnOk Tryz.prog 144 Tryz.f144 := ⟨Tryz.func144, by kernel_rfl, by kernel_rfl, by kernel_rfl⟩
theorem all1Place_c (x : Pl) (f : FuncId) (first caps : List PV) (p : Pl → Bool) (hp : PCx Tryz.prog f (first ++ ([.agg x.c] ++ caps)) (bl (p x))) :
    PCx Tryz.prog 144 ([] ++ ([.agg x.c] ++ [.eptr [.fn (.func f) first caps] 0])) (bl (!p x)) := by
  refine PC.le ?_
  refine PC_of_VC tabOk (draw_ok mixed tabOk) fn_all1Place rfl ?_
  repeat' ((conv => whnf); first | with_reducible refine zol ?_ | ((with_reducible refine fk (fun hc => ?_) fun hc => ?_) <;> first | exact absurd hc (by decide) | (exfalso; simp only [*, reduceCtorEq] at hc; done) | skip) | (refine zll ?_; (conv => whnf); refine ⟨_, hp, ?_⟩) | ((with_reducible apply And.intro); focus (first | rfl | exact znb rfl | omega | (simp only [zlc, zln, zlm, zla]; omega))))
  repeat' first | (with_reducible first | exact ⟨⟩ | exact rfl | exact lr _) | ((conv => whnf); with_reducible first | apply And.intro | exact ⟨⟩) | exact rfl | exact fun h => h | exact lr _
  all_goals try (conv => whnf)
theorem fn_allPlace : FnOk Tryz.prog 128 Tryz.f128 := ⟨Tryz.func128, by kernel_rfl, by kernel_rfl, by kernel_rfl⟩
theorem allPlace_c (l : List Pl) (f : FuncId) (first caps : List PV) (p : Pl → Bool) (hp : ∀ x ∈ l, PCx Tryz.prog f (first ++ ([.agg x.c] ++ caps)) (bl (p x))) :
    PCx Tryz.prog 128 [slP l, .fn (.func f) first caps] (bl (l.all p)) := by
  refine PC.le ?_
  refine PC_of_VC tabOk (draw_ok mixed tabOk) fn_allPlace rfl ?_
  repeat' ((conv => whnf); first | with_reducible refine zol ?_ | ((with_reducible refine fk (fun hc => ?_) fun hc => ?_) <;> first | exact absurd hc (by decide) | (exfalso; simp only [*, reduceCtorEq] at hc; done) | skip) | (refine zll ?_; (conv => whnf); refine ⟨_, containsFuncPlace_c _ _ _ _ _ fun x hx => all1Place_c x _ _ _ p (hp x hx), ?_⟩) | ((with_reducible apply And.intro); focus (first | rfl | exact znb rfl | omega | (simp only [zlc, zln, zlm, zla]; omega))))
  repeat' first | (with_reducible first | exact ⟨⟩ | exact rfl | exact lr _) | ((conv => whnf); with_reducible first | apply And.intro | exact ⟨⟩) | exact rfl | exact fun h => h | exact lr _
  all_goals try (conv => whnf)
  rw [List.not_any_eq_all_not]
  simp
theorem fn_all1Frag : FnOk Tryz.prog 123 Tryz.f123 := ⟨Tryz.func123, by kernel_rfl, by kernel_rfl, by kernel_rfl⟩
theorem all1Frag_c (x : Fr) (f : FuncId) (first caps : List PV) (p : Fr → Bool) (hp : PCx Tryz.prog f (first ++ ([.agg x.c] ++ caps)) (bl (p x))) :
    PCx Tryz.prog 123 ([] ++ ([.agg x.c] ++ [.eptr [.fn (.func f) first caps] 0])) (bl (!p x)) := by
  refine PC.le ?_
  refine PC_of_VC tabOk (draw_ok mixed tabOk) fn_all1Frag rfl ?_
  repeat' ((conv => whnf); first | with_reducible refine zol ?_ | ((with_reducible refine fk (fun hc => ?_) fun hc => ?_) <;> first | exact absurd hc (by decide) | (exfalso; simp only [*, reduceCtorEq] at hc; done) | skip) | (refine zll ?_; (conv => whnf); refine ⟨_, hp, ?_⟩) | ((with_reducible apply And.intro); focus (first | rfl | exact znb rfl | omega | (simp only [zlc, zln, zlm, zla]; omega))))
  repeat' first | (with_reducible first | exact ⟨⟩ | exact rfl | exact lr _) | ((conv => whnf); with_reducible first | apply And.intro | exact ⟨⟩) | exact rfl | exact fun h => h | exact lr _
  all_goals try (conv => whnf)
theorem fn_allFrag : FnOk Tryz.prog 91 Tryz.f91 := ⟨Tryz.func91, by kernel_rfl, by kernel_rfl, by kernel_rfl⟩
theorem allFrag_c (l : List Fr) (f : FuncId) (first caps : List PV) (p : Fr → Bool) (hp : ∀ x ∈ l, PCx Tryz.prog f (first ++ ([.agg x.c] ++ caps)) (bl (p x))) :
    PCx Tryz.prog 91 [slF l, .fn (.func f) first caps] (bl (l.all p)) := by
  refine PC.le ?_
  refine PC_of_VC tabOk (draw_ok mixed tabOk) fn_allFrag rfl ?_
  repeat' ((conv => whnf); first | with_reducible refine zol ?_ | ((with_reducible refine fk (fun hc => ?_) fun hc => ?_) <;> first | exact absurd hc (by decide) | (exfalso; simp only [*, reduceCtorEq] at hc; done) | skip) | (refine zll ?_; (conv => whnf); refine ⟨_, containsFuncFrag_c _ _ _ _ _ fun x hx => all1Frag_c x _ _ _ p (hp x hx), ?_⟩) | ((with_reducible apply And.intro); focus (first | rfl | exact znb rfl | omega | (simp only [zlc, zln, zlm, zla]; omega))))
  repeat' first | (with_reducible first | exact ⟨⟩ | exact rfl | exact lr _) | ((conv => whnf); with_reducible first | apply And.intro | exact ⟨⟩) | exact rfl | exact fun h => h | exact lr _
  all_goals try (conv => whnf)
  rw [List.not_any_eq_all_not]
  simp
theorem fn_all1Ledger : FnOk Tryz.prog 59 Tryz.f59 := ⟨Tryz.func59, by kernel_rfl, by kernel_rfl, by kernel_rfl⟩
theorem all1Ledger_c (x : Lg) (f : FuncId) (first caps : List PV) (p : Lg → Bool) (hp : PCx Tryz.prog f (first ++ ([.agg x.c] ++ caps)) (bl (p x))) :
    PCx Tryz.prog 59 ([] ++ ([.agg x.c] ++ [.eptr [.fn (.func f) first caps] 0])) (bl (!p x)) := by
  refine PC.le ?_
  refine PC_of_VC tabOk (draw_ok mixed tabOk) fn_all1Ledger rfl ?_
  repeat' ((conv => whnf); first | with_reducible refine zol ?_ | ((with_reducible refine fk (fun hc => ?_) fun hc => ?_) <;> first | exact absurd hc (by decide) | (exfalso; simp only [*, reduceCtorEq] at hc; done) | skip) | (refine zll ?_; (conv => whnf); refine ⟨_, hp, ?_⟩) | ((with_reducible apply And.intro); focus (first | rfl | exact znb rfl | omega | (simp only [zlc, zln, zlm, zla]; omega))))
  repeat' first | (with_reducible first | exact ⟨⟩ | exact rfl | exact lr _) | ((conv => whnf); with_reducible first | apply And.intro | exact ⟨⟩) | exact rfl | exact fun h => h | exact lr _
  all_goals try (conv => whnf)
theorem fn_allLedger : FnOk Tryz.prog 31 Tryz.f31 := ⟨Tryz.func31, by kernel_rfl, by kernel_rfl, by kernel_rfl⟩
theorem allLedger_c (l : List Lg) (f : FuncId) (first caps : List PV) (p : Lg → Bool) (hp : ∀ x ∈ l, PCx Tryz.prog f (first ++ ([.agg x.c] ++ caps)) (bl (p x))) :
    PCx Tryz.prog 31 [slLg l, .fn (.func f) first caps] (bl (l.all p)) := by
  refine PC.le ?_
  refine PC_of_VC tabOk (draw_ok mixed tabOk) fn_allLedger rfl ?_
  repeat' ((conv => whnf); first | with_reducible refine zol ?_ | ((with_reducible refine fk (fun hc => ?_) fun hc => ?_) <;> first | exact absurd hc (by decide) | (exfalso; simp only [*, reduceCtorEq] at hc; done) | skip) | (refine zll ?_; (conv => whnf); refine ⟨_, containsFuncLedger_c _ _ _ _ _ fun x hx => all1Ledger_c x _ _ _ p (hp x hx), ?_⟩) | ((with_reducible apply And.intro); focus (first | rfl | exact znb rfl | omega | (simp only [zlc, zln, zlm, zla]; omega))))
  repeat' first | (with_reducible first | exact ⟨⟩ | exact rfl | exact lr _) | ((conv => whnf); with_reducible first | apply And.intro | exact ⟨⟩) | exact rfl | exact fun h => h | exact lr _
  all_goals try (conv => whnf)
  rw [List.not_any_eq_all_not]
  simp
theorem fn_all1Mark : FnOk Tryz.prog 136 Tryz.f136 := ⟨Tryz.func136, by kernel_rfl, by kernel_rfl, by kernel_rfl⟩
theorem all1Mark_c (x : Mk) (f : FuncId) (first caps : List PV) (p : Mk → Bool) (hp : PCx Tryz.prog f (first ++ ([.agg x.c] ++ caps)) (bl (p x))) :
    PCx Tryz.prog 136 ([] ++ ([.agg x.c] ++ [.eptr [.fn (.func f) first caps] 0])) (bl (!p x)) := by
  refine PC.le ?_
  refine PC_of_VC tabOk (draw_ok mixed tabOk) fn_all1Mark rfl ?_
  repeat' ((conv => whnf); first | with_reducible refine zol ?_ | ((with_reducible refine fk (fun hc => ?_) fun hc => ?_) <;> first | exact absurd hc (by decide) | (exfalso; simp only [*, reduceCtorEq] at hc; done) | skip) | (refine zll ?_; (conv => whnf); refine ⟨_, hp, ?_⟩) | ((with_reducible apply And.intro); focus (first | rfl | exact znb rfl | omega | (simp only [zlc, zln, zlm, zla]; omega))))
  repeat' first | (with_reducible first | exact ⟨⟩ | exact rfl | exact lr _) | ((conv => whnf); with_reducible first | apply And.intro | exact ⟨⟩) | exact rfl | exact fun h => h | exact lr _
  all_goals try (conv => whnf)
theorem fn_allMark : FnOk Tryz.prog 107 Tryz.f107 := ⟨Tryz.func107, by kernel_rfl, by kernel_rfl, by kernel_rfl⟩
theorem allMark_c (l : List Mk) (f : FuncId) (first caps : List PV) (p : Mk → Bool) (hp : ∀ x ∈ l, PCx Tryz.prog f (first ++ ([.agg x.c] ++ caps)) (bl (p x))) :
    PCx Tryz.prog 107 [slM l, .fn (.func f) first caps] (bl (l.all p)) := by
  refine PC.le ?_
  refine PC_of_VC tabOk (draw_ok mixed tabOk) fn_allMark rfl ?_
  repeat' ((conv => whnf); first | with_reducible refine zol ?_ | ((with_reducible refine fk (fun hc => ?_) fun hc => ?_) <;> first | exact absurd hc (by decide) | (exfalso; simp only [*, reduceCtorEq] at hc; done) | skip) | (refine zll ?_; (conv => whnf); refine ⟨_, containsFuncMark_c _ _ _ _ _ fun x hx => all1Mark_c x _ _ _ p (hp x hx), ?_⟩) | ((with_reducible apply And.intro); focus (first | rfl | exact znb rfl | omega | (simp only [zlc, zln, zlm, zla]; omega))))
  repeat' first | (with_reducible first | exact ⟨⟩ | exact rfl | exact lr _) | ((conv => whnf); with_reducible first | apply And.intro | exact ⟨⟩) | exact rfl | exact fun h => h | exact lr _
  all_goals try (conv => whnf)
  rw [List.not_any_eq_all_not]
  simp
theorem fn_all1Cursor : FnOk Tryz.prog 110 Tryz.f110 := ⟨Tryz.func110, by kernel_rfl, by kernel_rfl, by kernel_rfl⟩
theorem all1Cursor_c (x : Cu) (f : FuncId) (first caps : List PV) (p : Cu → Bool) (hp : PCx Tryz.prog f (first ++ ([.agg x.c] ++ caps)) (bl (p x))) :
    PCx Tryz.prog 110 ([] ++ ([.agg x.c] ++ [.eptr [.fn (.func f) first caps] 0])) (bl (!p x)) := by
  refine PC.le ?_
  refine PC_of_VC tabOk (draw_ok mixed tabOk) fn_all1Cursor rfl ?_
  repeat' ((conv => whnf); first | with_reducible refine zol ?_ | ((with_reducible refine fk (fun hc => ?_) fun hc => ?_) <;> first | exact absurd hc (by decide) | (exfalso; simp only [*, reduceCtorEq] at hc; done) | skip) | (refine zll ?_; (conv => whnf); refine ⟨_, hp, ?_⟩) | ((with_reducible apply And.intro); focus (first | rfl | exact znb rfl | omega | (simp only [zlc, zln, zlm, zla]; omega))))
  repeat' first | (with_reducible first | exact ⟨⟩ | exact rfl | exact lr _) | ((conv => whnf); with_reducible first | apply And.intro | exact ⟨⟩) | exact rfl | exact fun h => h | exact lr _
  all_goals try (conv => whnf)
theorem fn_allCursor : FnOk Tryz.prog 70 Tryz.f70 := ⟨Tryz.func70, by kernel_rfl, by kernel_rfl, by kernel_rfl⟩
theorem allCursor_c (l : List Cu) (f : FuncId) (first caps : List PV) (p : Cu → Bool) (hp : ∀ x ∈ l, PCx Tryz.prog f (first ++ ([.agg x.c] ++ caps)) (bl (p x))) :
    PCx Tryz.prog 70 [slK l, .fn (.func f) first caps] (bl (l.all p)) := by
  refine PC.le ?_
  refine PC_of_VC tabOk (draw_ok mixed tabOk) fn_allCursor rfl ?_
  repeat' ((conv => whnf); first | with_reducible refine zol ?_ | ((with_reducible refine fk (fun hc => ?_) fun hc => ?_) <;> first | exact absurd hc (by decide) | (exfalso; simp only [*, reduceCtorEq] at hc; done) | skip) | (refine zll ?_; (conv => whnf); refine ⟨_, containsFuncCursor_c _ _ _ _ _ fun x hx => all1Cursor_c x _ _ _ p (hp x hx), ?_⟩) | ((with_reducible apply And.intro); focus (first | rfl | exact znb rfl | omega | (simp only [zlc, zln, zlm, zla]; omega))))
  repeat' first | (with_reducible first | exact ⟨⟩ | exact rfl | exact lr _) | ((conv => whnf); with_reducible first | apply And.intro | exact ⟨⟩) | exact rfl | exact fun h => h | exact lr _
  all_goals try (conv => whnf)
  rw [List.not_any_eq_all_not]
  simp
theorem fn_all1Past : FnOk Tryz.prog 73 Tryz.f73 := ⟨Tryz.func73, by kernel_rfl, by kernel_rfl, by kernel_rfl⟩
theorem all1Past_c (x : Pa) (f : FuncId) (first caps : List PV) (p : Pa → Bool) (hp : PCx Tryz.prog f (first ++ ([.agg x.c] ++ caps)) (bl (p x))) :
    PCx Tryz.prog 73 ([] ++ ([.agg x.c] ++ [.eptr [.fn (.func f) first caps] 0])) (bl (!p x)) := by
  refine PC.le ?_
  refine PC_of_VC tabOk (draw_ok mixed tabOk) fn_all1Past rfl ?_
  repeat' ((conv => whnf); first | with_reducible refine zol ?_ | ((with_reducible refine fk (fun hc => ?_) fun hc => ?_) <;> first | exact absurd hc (by decide) | (exfalso; simp only [*, reduceCtorEq] at hc; done) | skip) | (refine zll ?_; (conv => whnf); refine ⟨_, hp, ?_⟩) | ((with_reducible apply And.intro); focus (first | rfl | exact znb rfl | omega | (simp only [zlc, zln, zlm, zla]; omega))))
  repeat' first | (with_reducible first | exact ⟨⟩ | exact rfl | exact lr _) | ((conv => whnf); with_reducible first | apply And.intro | exact ⟨⟩) | exact rfl | exact fun h => h | exact lr _
  all_goals try (conv => whnf)
theorem fn_allPast : FnOk Tryz.prog 41 Tryz.f41 := ⟨Tryz.func41, by kernel_rfl, by kernel_rfl, by kernel_rfl⟩
theorem allPast_c (l : List Pa) (f : FuncId) (first caps : List PV) (p : Pa → Bool) (hp : ∀ x ∈ l, PCx Tryz.prog f (first ++ ([.agg x.c] ++ caps)) (bl (p x))) :
    PCx Tryz.prog 41 [slA l, .fn (.func f) first caps] (bl (l.all p)) := by
  refine PC.le ?_
  refine PC_of_VC tabOk (draw_ok mixed tabOk) fn_allPast rfl ?_
  repeat' ((conv => whnf); first | with_reducible refine zol ?_ | ((with_reducible refine fk (fun hc => ?_) fun hc => ?_) <;> first | exact absurd hc (by decide) | (exfalso; simp only [*, reduceCtorEq] at hc; done) | skip) | (refine zll ?_; (conv => whnf); refine ⟨_, containsFuncPast_c _ _ _ _ _ fun x hx => all1Past_c x _ _ _ p (hp x hx), ?_⟩) | ((with_reducible apply And.intro); focus (first | rfl | exact znb rfl | omega | (simp only [zlc, zln, zlm, zla]; omega))))
  repeat' first | (with_reducible first | exact ⟨⟩ | exact rfl | exact lr _) | ((conv => whnf); with_reducible first | apply And.intro | exact ⟨⟩) | exact rfl | exact fun h => h | exact lr _
  all_goals try (conv => whnf)
  rw [List.not_any_eq_all_not]
  simp
theorem fn_risePlace : FnOk Tryz.prog 130 Tryz.f130 := ⟨Tryz.func130, by kernel_rfl, by kernel_rfl, by kernel_rfl⟩
theorem risePlace_c (l : List Pl) (f : FuncId) (first caps : List PV) (key : Pl → Int) (hp : ∀ x ∈ l, PCx Tryz.prog f (first ++ ([.agg x.c] ++ caps)) (ii (key x))) :
    PCx Tryz.prog 130 [slP l, .fn (.func f) first caps] (bl (decide (l.Pairwise fun a b => key a < key b))) := by
  refine PC.le (PC_bd fn_risePlace fun hb => ?_)
  have hb : l.length ≤ 9223372036854775807 := by simpa [bdL, bdP, slP] using hb
  refine PC_of_VC tabOk (draw_ok mixed tabOk) fn_risePlace rfl ?_
  repeat' ((conv => whnf); first | with_reducible refine zol ?_ | ((with_reducible refine fk (fun hc => ?_) fun hc => ?_) <;> first | exact absurd hc (by decide) | (exfalso; simp only [*, reduceCtorEq] at hc; done) | skip) | ((with_reducible apply And.intro); focus (first | rfl | exact znb rfl | omega | (simp only [zlc, zln, zlm, zla]; omega))))
  refine ⟨{k : Nat // (k + 1 ≤ l.length ∨ k = 0) ∧ ∀ j (hj : j + 1 < l.length), j < k → key (l[j]'(by omega)) < key l[j + 1]}, fun ⟨k, _⟩ => ⟨[(0, .pv (slP l)), (1, .pv (.fn (.func f) first caps)), (5, .pv (ii ((k + 1 : Nat) : Int)))], 1000000000, []⟩, fun ⟨k, _⟩ => l.length - k, ⟨⟨0, by simp⟩, ent_of ?_⟩, ?_⟩
  · repeat' first
      | fail
      | with_reducible exact True.intro
      | with_reducible exact rfl
      | with_reducible exact leRs_refl _
      | ((conv => whnf); with_reducible apply And.intro)
      | ((conv => whnf); with_reducible exact True.intro)
      | exact rfl
      | exact fun h => h
      | exact leRs_refl _
    all_goals try (conv => whnf)
  rintro ⟨k, hk, hn⟩
  repeat' ((conv => whnf); first | with_reducible refine zol ?_ | ((with_reducible refine fk (fun hc => ?_) fun hc => ?_) <;> first | exact absurd hc (by decide) | (exfalso; simp only [*, reduceCtorEq] at hc; done) | skip) | ((with_reducible apply And.intro); focus (first | rfl | exact znb rfl | omega | (simp only [zlc, zln, zlm, zla]; omega))))
  · have hlt : k + 1 < l.length := by simp at hc; omega
    have e1 : IntKind.i64.wrap (((k + 1 : Nat) : Int) - 1) = ((k : Nat) : Int) := by rw [wrapI (by omega) (by omega)]; omega
    repeat' ((conv => whnf); first | with_reducible refine zol ?_ | ((with_reducible refine fk (fun hc => ?_) fun hc => ?_) <;> first | exact absurd hc (by decide) | (exfalso; simp only [*, reduceCtorEq] at hc; done) | skip) | ((refine ⟨by rw [e1]; omega, _, rowE _ _ e1 (by omega), ?_⟩)) | ((with_reducible apply And.intro); focus (first | rfl | exact znb rfl | omega | (simp only [zlc, zln, zlm, zla]; omega))))
    repeat' ((conv => whnf); first | with_reducible refine zol ?_ | ((with_reducible refine fk (fun hc => ?_) fun hc => ?_) <;> first | exact absurd hc (by decide) | (exfalso; simp only [*, reduceCtorEq] at hc; done) | skip) | (refine zll ?_; (conv => whnf); refine ⟨_, hp _ (List.getElem_mem _), ?_⟩) | ((with_reducible apply And.intro); focus (first | rfl | exact znb rfl | omega | (simp only [zlc, zln, zlm, zla]; omega))))
    refine ⟨_, rowK _ _ _ hlt, ?_⟩
    repeat' ((conv => whnf); first | with_reducible refine zol ?_ | ((with_reducible refine fk (fun hc => ?_) fun hc => ?_) <;> first | exact absurd hc (by decide) | (exfalso; simp only [*, reduceCtorEq] at hc; done) | skip) | (refine zll ?_; (conv => whnf); refine ⟨_, hp _ (List.getElem_mem _), ?_⟩) | ((with_reducible apply And.intro); focus (first | rfl | exact znb rfl | omega | (simp only [zlc, zln, zlm, zla]; omega))))
    · repeat' first
        | fail
        | with_reducible exact True.intro
        | with_reducible exact rfl
        | with_reducible exact leRs_refl _
        | ((conv => whnf); with_reducible apply And.intro)
        | ((conv => whnf); with_reducible exact True.intro)
        | exact rfl
        | exact fun h => h
        | exact leRs_refl _
      all_goals try (conv => whnf)
      simp at hc
      simp
      intro hp
      have := List.pairwise_iff_getElem.1 hp k (k + 1) (by omega) hlt (by omega)
      omega
    · repeat' ((conv => whnf)
               first
               | with_reducible refine zol ?_
               | ((with_reducible refine fk (fun hc => ?_) fun hc => ?_) <;> first | exact absurd hc (by decide) | (exfalso; simp only [*, reduceCtorEq] at hc; done) | skip)
               | ((with_reducible apply And.intro); focus (first | rfl | exact znb rfl | omega | (simp only [zlc, zln, zlm, zla]; omega))))
      refine ⟨⟨k + 1, .inl hlt, ?_⟩, dec_lt (by omega), ent_of ?_⟩
      · intro j hj hjk
        rcases Nat.lt_succ_iff_lt_or_eq.1 hjk with hj' | rfl
        · exact hn j hj hj'
        · simp at hc; exact hc
      · repeat' first
          | fail
          | with_reducible exact True.intro
          | with_reducible exact rfl
          | with_reducible exact leRs_refl _
          | ((conv => whnf); with_reducible apply And.intro)
          | ((conv => whnf); with_reducible exact True.intro)
          | exact rfl
          | exact fun h => h
          | exact leRs_refl _
        all_goals try (conv => whnf)
        rw [wrapI (by omega) (by omega)]; omega
  · repeat' first
      | fail
      | with_reducible exact True.intro
      | with_reducible exact rfl
      | with_reducible exact leRs_refl _
      | ((conv => whnf); with_reducible apply And.intro)
      | ((conv => whnf); with_reducible exact True.intro)
      | exact rfl
      | exact fun h => h
      | exact leRs_refl _
    all_goals try (conv => whnf)
    simp at hc
    simp
    exact adj_pairwise fun j hj => hn j hj (by omega)
theorem fn_riseFrag : FnOk Tryz.prog 94 Tryz.f94 := ⟨Tryz.func94, by kernel_rfl, by kernel_rfl, by kernel_rfl⟩
theorem riseFrag_c (l : List Fr) (f : FuncId) (first caps : List PV) (key : Fr → Int) (hp : ∀ x ∈ l, PCx Tryz.prog f (first ++ ([.agg x.c] ++ caps)) (uu (key x))) :
    PCx Tryz.prog 94 [slF l, .fn (.func f) first caps] (bl (decide (l.Pairwise fun a b => key a < key b))) := by
  refine PC.le (PC_bd fn_riseFrag fun hb => ?_)
  have hb : l.length ≤ 9223372036854775807 := by simpa [bdL, bdP, slF] using hb
  refine PC_of_VC tabOk (draw_ok mixed tabOk) fn_riseFrag rfl ?_
  repeat' ((conv => whnf); first | with_reducible refine zol ?_ | ((with_reducible refine fk (fun hc => ?_) fun hc => ?_) <;> first | exact absurd hc (by decide) | (exfalso; simp only [*, reduceCtorEq] at hc; done) | skip) | ((with_reducible apply And.intro); focus (first | rfl | exact znb rfl | omega | (simp only [zlc, zln, zlm, zla]; omega))))
  refine ⟨{k : Nat // (k + 1 ≤ l.length ∨ k = 0) ∧ ∀ j (hj : j + 1 < l.length), j < k → key (l[j]'(by omega)) < key l[j + 1]}, fun ⟨k, _⟩ => ⟨[(0, .pv (slF l)), (1, .pv (.fn (.func f) first caps)), (5, .pv (ii ((k + 1 : Nat) : Int)))], 1000000000, []⟩, fun ⟨k, _⟩ => l.length - k, ⟨⟨0, by simp⟩, ent_of ?_⟩, ?_⟩
  · repeat' first
      | fail
      | with_reducible exact True.intro
      | with_reducible exact rfl
      | with_reducible exact leRs_refl _
      | ((conv => whnf); with_reducible apply And.intro)
      | ((conv => whnf); with_reducible exact True.intro)
      | exact rfl
      | exact fun h => h
      | exact leRs_refl _
    all_goals try (conv => whnf)
  rintro ⟨k, hk, hn⟩
  repeat' ((conv => whnf); first | with_reducible refine zol ?_ | ((with_reducible refine fk (fun hc => ?_) fun hc => ?_) <;> first | exact absurd hc (by decide) | (exfalso; simp only [*, reduceCtorEq] at hc; done) | skip) | ((with_reducible apply And.intro); focus (first | rfl | exact znb rfl | omega | (simp only [zlc, zln, zlm, zla]; omega))))
  · have hlt : k + 1 < l.length := by simp at hc; omega
    have e1 : IntKind.i64.wrap (((k + 1 : Nat) : Int) - 1) = ((k : Nat) : Int) := by rw [wrapI (by omega) (by omega)]; omega
    repeat' ((conv => whnf); first | with_reducible refine zol ?_ | ((with_reducible refine fk (fun hc => ?_) fun hc => ?_) <;> first | exact absurd hc (by decide) | (exfalso; simp only [*, reduceCtorEq] at hc; done) | skip) | ((refine ⟨by rw [e1]; omega, _, rowE _ _ e1 (by omega), ?_⟩)) | ((with_reducible apply And.intro); focus (first | rfl | exact znb rfl | omega | (simp only [zlc, zln, zlm, zla]; omega))))
    repeat' ((conv => whnf); first | with_reducible refine zol ?_ | ((with_reducible refine fk (fun hc => ?_) fun hc => ?_) <;> first | exact absurd hc (by decide) | (exfalso; simp only [*, reduceCtorEq] at hc; done) | skip) | (refine zll ?_; (conv => whnf); refine ⟨_, hp _ (List.getElem_mem _), ?_⟩) | ((with_reducible apply And.intro); focus (first | rfl | exact znb rfl | omega | (simp only [zlc, zln, zlm, zla]; omega))))
    refine ⟨_, rowK _ _ _ hlt, ?_⟩
    repeat' ((conv => whnf); first | with_reducible refine zol ?_ | ((with_reducible refine fk (fun hc => ?_) fun hc => ?_) <;> first | exact absurd hc (by decide) | (exfalso; simp only [*, reduceCtorEq] at hc; done) | skip) | (refine zll ?_; (conv => whnf); refine ⟨_, hp _ (List.getElem_mem _), ?_⟩) | ((with_reducible apply And.intro); focus (first | rfl | exact znb rfl | omega | (simp only [zlc, zln, zlm, zla]; omega))))
    · repeat' first
        | fail
        | with_reducible exact True.intro
        | with_reducible exact rfl
        | with_reducible exact leRs_refl _
        | ((conv => whnf); with_reducible apply And.intro)
        | ((conv => whnf); with_reducible exact True.intro)
        | exact rfl
        | exact fun h => h
        | exact leRs_refl _
      all_goals try (conv => whnf)
      simp at hc
      simp
      intro hp
      have := List.pairwise_iff_getElem.1 hp k (k + 1) (by omega) hlt (by omega)
      omega
    · repeat' ((conv => whnf)
               first
               | with_reducible refine zol ?_
               | ((with_reducible refine fk (fun hc => ?_) fun hc => ?_) <;> first | exact absurd hc (by decide) | (exfalso; simp only [*, reduceCtorEq] at hc; done) | skip)
               | ((with_reducible apply And.intro); focus (first | rfl | exact znb rfl | omega | (simp only [zlc, zln, zlm, zla]; omega))))
      refine ⟨⟨k + 1, .inl hlt, ?_⟩, dec_lt (by omega), ent_of ?_⟩
      · intro j hj hjk
        rcases Nat.lt_succ_iff_lt_or_eq.1 hjk with hj' | rfl
        · exact hn j hj hj'
        · simp at hc; exact hc
      · repeat' first
          | fail
          | with_reducible exact True.intro
          | with_reducible exact rfl
          | with_reducible exact leRs_refl _
          | ((conv => whnf); with_reducible apply And.intro)
          | ((conv => whnf); with_reducible exact True.intro)
          | exact rfl
          | exact fun h => h
          | exact leRs_refl _
        all_goals try (conv => whnf)
        rw [wrapI (by omega) (by omega)]; omega
  · repeat' first
      | fail
      | with_reducible exact True.intro
      | with_reducible exact rfl
      | with_reducible exact leRs_refl _
      | ((conv => whnf); with_reducible apply And.intro)
      | ((conv => whnf); with_reducible exact True.intro)
      | exact rfl
      | exact fun h => h
      | exact leRs_refl _
    all_goals try (conv => whnf)
    simp at hc
    simp
    exact adj_pairwise fun j hj => hn j hj (by omega)
theorem fn_riseLedger : FnOk Tryz.prog 34 Tryz.f34 := ⟨Tryz.func34, by kernel_rfl, by kernel_rfl, by kernel_rfl⟩
theorem riseLedger_c (l : List Lg) (f : FuncId) (first caps : List PV) (key : Lg → Int) (hp : ∀ x ∈ l, PCx Tryz.prog f (first ++ ([.agg x.c] ++ caps)) (uu (key x))) :
    PCx Tryz.prog 34 [slLg l, .fn (.func f) first caps] (bl (decide (l.Pairwise fun a b => key a < key b))) := by
  refine PC.le (PC_bd fn_riseLedger fun hb => ?_)
  have hb : l.length ≤ 9223372036854775807 := by simpa [bdL, bdP, slLg] using hb
  refine PC_of_VC tabOk (draw_ok mixed tabOk) fn_riseLedger rfl ?_
  repeat' ((conv => whnf); first | with_reducible refine zol ?_ | ((with_reducible refine fk (fun hc => ?_) fun hc => ?_) <;> first | exact absurd hc (by decide) | (exfalso; simp only [*, reduceCtorEq] at hc; done) | skip) | ((with_reducible apply And.intro); focus (first | rfl | exact znb rfl | omega | (simp only [zlc, zln, zlm, zla]; omega))))
  refine ⟨{k : Nat // (k + 1 ≤ l.length ∨ k = 0) ∧ ∀ j (hj : j + 1 < l.length), j < k → key (l[j]'(by omega)) < key l[j + 1]}, fun ⟨k, _⟩ => ⟨[(0, .pv (slLg l)), (1, .pv (.fn (.func f) first caps)), (5, .pv (ii ((k + 1 : Nat) : Int)))], 1000000000, []⟩, fun ⟨k, _⟩ => l.length - k, ⟨⟨0, by simp⟩, ent_of ?_⟩, ?_⟩
  · repeat' first
      | fail
      | with_reducible exact True.intro
      | with_reducible exact rfl
      | with_reducible exact leRs_refl _
      | ((conv => whnf); with_reducible apply And.intro)
      | ((conv => whnf); with_reducible exact True.intro)
      | exact rfl
      | exact fun h => h
      | exact leRs_refl _
    all_goals try (conv => whnf)
  rintro ⟨k, hk, hn⟩
  repeat' ((conv => whnf); first | with_reducible refine zol ?_ | ((with_reducible refine fk (fun hc => ?_) fun hc => ?_) <;> first | exact absurd hc (by decide) | (exfalso; simp only [*, reduceCtorEq] at hc; done) | skip) | ((with_reducible apply And.intro); focus (first | rfl | exact znb rfl | omega | (simp only [zlc, zln, zlm, zla]; omega))))
  · have hlt : k + 1 < l.length := by simp at hc; omega
    have e1 : IntKind.i64.wrap (((k + 1 : Nat) : Int) - 1) = ((k : Nat) : Int) := by rw [wrapI (by omega) (by omega)]; omega
    repeat' ((conv => whnf); first | with_reducible refine zol ?_ | ((with_reducible refine fk (fun hc => ?_) fun hc => ?_) <;> first | exact absurd hc (by decide) | (exfalso; simp only [*, reduceCtorEq] at hc; done) | skip) | ((refine ⟨by rw [e1]; omega, _, rowE _ _ e1 (by omega), ?_⟩)) | ((with_reducible apply And.intro); focus (first | rfl | exact znb rfl | omega | (simp only [zlc, zln, zlm, zla]; omega))))
    repeat' ((conv => whnf); first | with_reducible refine zol ?_ | ((with_reducible refine fk (fun hc => ?_) fun hc => ?_) <;> first | exact absurd hc (by decide) | (exfalso; simp only [*, reduceCtorEq] at hc; done) | skip) | (refine zll ?_; (conv => whnf); refine ⟨_, hp _ (List.getElem_mem _), ?_⟩) | ((with_reducible apply And.intro); focus (first | rfl | exact znb rfl | omega | (simp only [zlc, zln, zlm, zla]; omega))))
    refine ⟨_, rowK _ _ _ hlt, ?_⟩
    repeat' ((conv => whnf); first | with_reducible refine zol ?_ | ((with_reducible refine fk (fun hc => ?_) fun hc => ?_) <;> first | exact absurd hc (by decide) | (exfalso; simp only [*, reduceCtorEq] at hc; done) | skip) | (refine zll ?_; (conv => whnf); refine ⟨_, hp _ (List.getElem_mem _), ?_⟩) | ((with_reducible apply And.intro); focus (first | rfl | exact znb rfl | omega | (simp only [zlc, zln, zlm, zla]; omega))))
    · repeat' first
        | fail
        | with_reducible exact True.intro
        | with_reducible exact rfl
        | with_reducible exact leRs_refl _
        | ((conv => whnf); with_reducible apply And.intro)
        | ((conv => whnf); with_reducible exact True.intro)
        | exact rfl
        | exact fun h => h
        | exact leRs_refl _
      all_goals try (conv => whnf)
      simp at hc
      simp
      intro hp
      have := List.pairwise_iff_getElem.1 hp k (k + 1) (by omega) hlt (by omega)
      omega
    · repeat' ((conv => whnf)
               first
               | with_reducible refine zol ?_
               | ((with_reducible refine fk (fun hc => ?_) fun hc => ?_) <;> first | exact absurd hc (by decide) | (exfalso; simp only [*, reduceCtorEq] at hc; done) | skip)
               | ((with_reducible apply And.intro); focus (first | rfl | exact znb rfl | omega | (simp only [zlc, zln, zlm, zla]; omega))))
      refine ⟨⟨k + 1, .inl hlt, ?_⟩, dec_lt (by omega), ent_of ?_⟩
      · intro j hj hjk
        rcases Nat.lt_succ_iff_lt_or_eq.1 hjk with hj' | rfl
        · exact hn j hj hj'
        · simp at hc; exact hc
      · repeat' first
          | fail
          | with_reducible exact True.intro
          | with_reducible exact rfl
          | with_reducible exact leRs_refl _
          | ((conv => whnf); with_reducible apply And.intro)
          | ((conv => whnf); with_reducible exact True.intro)
          | exact rfl
          | exact fun h => h
          | exact leRs_refl _
        all_goals try (conv => whnf)
        rw [wrapI (by omega) (by omega)]; omega
  · repeat' first
      | fail
      | with_reducible exact True.intro
      | with_reducible exact rfl
      | with_reducible exact leRs_refl _
      | ((conv => whnf); with_reducible apply And.intro)
      | ((conv => whnf); with_reducible exact True.intro)
      | exact rfl
      | exact fun h => h
      | exact leRs_refl _
    all_goals try (conv => whnf)
    simp at hc
    simp
    exact adj_pairwise fun j hj => hn j hj (by omega)
theorem fn_riseMark : FnOk Tryz.prog 103 Tryz.f103 := ⟨Tryz.func103, by kernel_rfl, by kernel_rfl, by kernel_rfl⟩
theorem riseMark_c (l : List Mk) (f : FuncId) (first caps : List PV) (key : Mk → Int) (hp : ∀ x ∈ l, PCx Tryz.prog f (first ++ ([.agg x.c] ++ caps)) (ii (key x))) :
    PCx Tryz.prog 103 [slM l, .fn (.func f) first caps] (bl (decide (l.Pairwise fun a b => key a < key b))) := by
  refine PC.le (PC_bd fn_riseMark fun hb => ?_)
  have hb : l.length ≤ 9223372036854775807 := by simpa [bdL, bdP, slM] using hb
  refine PC_of_VC tabOk (draw_ok mixed tabOk) fn_riseMark rfl ?_
  repeat' ((conv => whnf); first | with_reducible refine zol ?_ | ((with_reducible refine fk (fun hc => ?_) fun hc => ?_) <;> first | exact absurd hc (by decide) | (exfalso; simp only [*, reduceCtorEq] at hc; done) | skip) | ((with_reducible apply And.intro); focus (first | rfl | exact znb rfl | omega | (simp only [zlc, zln, zlm, zla]; omega))))
  refine ⟨{k : Nat // (k + 1 ≤ l.length ∨ k = 0) ∧ ∀ j (hj : j + 1 < l.length), j < k → key (l[j]'(by omega)) < key l[j + 1]}, fun ⟨k, _⟩ => ⟨[(0, .pv (slM l)), (1, .pv (.fn (.func f) first caps)), (5, .pv (ii ((k + 1 : Nat) : Int)))], 1000000000, []⟩, fun ⟨k, _⟩ => l.length - k, ⟨⟨0, by simp⟩, ent_of ?_⟩, ?_⟩
  · repeat' first
      | fail
      | with_reducible exact True.intro
      | with_reducible exact rfl
      | with_reducible exact leRs_refl _
      | ((conv => whnf); with_reducible apply And.intro)
      | ((conv => whnf); with_reducible exact True.intro)
      | exact rfl
      | exact fun h => h
      | exact leRs_refl _
    all_goals try (conv => whnf)
  rintro ⟨k, hk, hn⟩
  repeat' ((conv => whnf); first | with_reducible refine zol ?_ | ((with_reducible refine fk (fun hc => ?_) fun hc => ?_) <;> first | exact absurd hc (by decide) | (exfalso; simp only [*, reduceCtorEq] at hc; done) | skip) | ((with_reducible apply And.intro); focus (first | rfl | exact znb rfl | omega | (simp only [zlc, zln, zlm, zla]; omega))))
  · have hlt : k + 1 < l.length := by simp at hc; omega
    have e1 : IntKind.i64.wrap (((k + 1 : Nat) : Int) - 1) = ((k : Nat) : Int) := by rw [wrapI (by omega) (by omega)]; omega
    repeat' ((conv => whnf); first | with_reducible refine zol ?_ | ((with_reducible refine fk (fun hc => ?_) fun hc => ?_) <;> first | exact absurd hc (by decide) | (exfalso; simp only [*, reduceCtorEq] at hc; done) | skip) | ((refine ⟨by rw [e1]; omega, _, rowE _ _ e1 (by omega), ?_⟩)) | ((with_reducible apply And.intro); focus (first | rfl | exact znb rfl | omega | (simp only [zlc, zln, zlm, zla]; omega))))
    repeat' ((conv => whnf); first | with_reducible refine zol ?_ | ((with_reducible refine fk (fun hc => ?_) fun hc => ?_) <;> first | exact absurd hc (by decide) | (exfalso; simp only [*, reduceCtorEq] at hc; done) | skip) | (refine zll ?_; (conv => whnf); refine ⟨_, hp _ (List.getElem_mem _), ?_⟩) | ((with_reducible apply And.intro); focus (first | rfl | exact znb rfl | omega | (simp only [zlc, zln, zlm, zla]; omega))))
    refine ⟨_, rowK _ _ _ hlt, ?_⟩
    repeat' ((conv => whnf); first | with_reducible refine zol ?_ | ((with_reducible refine fk (fun hc => ?_) fun hc => ?_) <;> first | exact absurd hc (by decide) | (exfalso; simp only [*, reduceCtorEq] at hc; done) | skip) | (refine zll ?_; (conv => whnf); refine ⟨_, hp _ (List.getElem_mem _), ?_⟩) | ((with_reducible apply And.intro); focus (first | rfl | exact znb rfl | omega | (simp only [zlc, zln, zlm, zla]; omega))))
    · repeat' first
        | fail
        | with_reducible exact True.intro
        | with_reducible exact rfl
        | with_reducible exact leRs_refl _
        | ((conv => whnf); with_reducible apply And.intro)
        | ((conv => whnf); with_reducible exact True.intro)
        | exact rfl
        | exact fun h => h
        | exact leRs_refl _
      all_goals try (conv => whnf)
      simp at hc
      simp
      intro hp
      have := List.pairwise_iff_getElem.1 hp k (k + 1) (by omega) hlt (by omega)
      omega
    · repeat' ((conv => whnf)
               first
               | with_reducible refine zol ?_
               | ((with_reducible refine fk (fun hc => ?_) fun hc => ?_) <;> first | exact absurd hc (by decide) | (exfalso; simp only [*, reduceCtorEq] at hc; done) | skip)
               | ((with_reducible apply And.intro); focus (first | rfl | exact znb rfl | omega | (simp only [zlc, zln, zlm, zla]; omega))))
      refine ⟨⟨k + 1, .inl hlt, ?_⟩, dec_lt (by omega), ent_of ?_⟩
      · intro j hj hjk
        rcases Nat.lt_succ_iff_lt_or_eq.1 hjk with hj' | rfl
        · exact hn j hj hj'
        · simp at hc; exact hc
      · repeat' first
          | fail
          | with_reducible exact True.intro
          | with_reducible exact rfl
          | with_reducible exact leRs_refl _
          | ((conv => whnf); with_reducible apply And.intro)
          | ((conv => whnf); with_reducible exact True.intro)
          | exact rfl
          | exact fun h => h
          | exact leRs_refl _
        all_goals try (conv => whnf)
        rw [wrapI (by omega) (by omega)]; omega
  · repeat' first
      | fail
      | with_reducible exact True.intro
      | with_reducible exact rfl
      | with_reducible exact leRs_refl _
      | ((conv => whnf); with_reducible apply And.intro)
      | ((conv => whnf); with_reducible exact True.intro)
      | exact rfl
      | exact fun h => h
      | exact leRs_refl _
    all_goals try (conv => whnf)
    simp at hc
    simp
    exact adj_pairwise fun j hj => hn j hj (by omega)
theorem fn_riseMarkU : FnOk Tryz.prog 105 Tryz.f105 := ⟨Tryz.func105, by kernel_rfl, by kernel_rfl, by kernel_rfl⟩
theorem riseMarkU_c (l : List Mk) (f : FuncId) (first caps : List PV) (key : Mk → Int) (hp : ∀ x ∈ l, PCx Tryz.prog f (first ++ ([.agg x.c] ++ caps)) (uu (key x))) :
    PCx Tryz.prog 105 [slM l, .fn (.func f) first caps] (bl (decide (l.Pairwise fun a b => key a < key b))) := by
  refine PC.le (PC_bd fn_riseMarkU fun hb => ?_)
  have hb : l.length ≤ 9223372036854775807 := by simpa [bdL, bdP, slM] using hb
  refine PC_of_VC tabOk (draw_ok mixed tabOk) fn_riseMarkU rfl ?_
  repeat' ((conv => whnf); first | with_reducible refine zol ?_ | ((with_reducible refine fk (fun hc => ?_) fun hc => ?_) <;> first | exact absurd hc (by decide) | (exfalso; simp only [*, reduceCtorEq] at hc; done) | skip) | ((with_reducible apply And.intro); focus (first | rfl | exact znb rfl | omega | (simp only [zlc, zln, zlm, zla]; omega))))
  refine ⟨{k : Nat // (k + 1 ≤ l.length ∨ k = 0) ∧ ∀ j (hj : j + 1 < l.length), j < k → key (l[j]'(by omega)) < key l[j + 1]}, fun ⟨k, _⟩ => ⟨[(0, .pv (slM l)), (1, .pv (.fn (.func f) first caps)), (5, .pv (ii ((k + 1 : Nat) : Int)))], 1000000000, []⟩, fun ⟨k, _⟩ => l.length - k, ⟨⟨0, by simp⟩, ent_of ?_⟩, ?_⟩
  · repeat' first
      | fail
      | with_reducible exact True.intro
      | with_reducible exact rfl
      | with_reducible exact leRs_refl _
      | ((conv => whnf); with_reducible apply And.intro)
      | ((conv => whnf); with_reducible exact True.intro)
      | exact rfl
      | exact fun h => h
      | exact leRs_refl _
    all_goals try (conv => whnf)
  rintro ⟨k, hk, hn⟩
  repeat' ((conv => whnf); first | with_reducible refine zol ?_ | ((with_reducible refine fk (fun hc => ?_) fun hc => ?_) <;> first | exact absurd hc (by decide) | (exfalso; simp only [*, reduceCtorEq] at hc; done) | skip) | ((with_reducible apply And.intro); focus (first | rfl | exact znb rfl | omega | (simp only [zlc, zln, zlm, zla]; omega))))
  · have hlt : k + 1 < l.length := by simp at hc; omega
    have e1 : IntKind.i64.wrap (((k + 1 : Nat) : Int) - 1) = ((k : Nat) : Int) := by rw [wrapI (by omega) (by omega)]; omega
    repeat' ((conv => whnf); first | with_reducible refine zol ?_ | ((with_reducible refine fk (fun hc => ?_) fun hc => ?_) <;> first | exact absurd hc (by decide) | (exfalso; simp only [*, reduceCtorEq] at hc; done) | skip) | ((refine ⟨by rw [e1]; omega, _, rowE _ _ e1 (by omega), ?_⟩)) | ((with_reducible apply And.intro); focus (first | rfl | exact znb rfl | omega | (simp only [zlc, zln, zlm, zla]; omega))))
    repeat' ((conv => whnf); first | with_reducible refine zol ?_ | ((with_reducible refine fk (fun hc => ?_) fun hc => ?_) <;> first | exact absurd hc (by decide) | (exfalso; simp only [*, reduceCtorEq] at hc; done) | skip) | (refine zll ?_; (conv => whnf); refine ⟨_, hp _ (List.getElem_mem _), ?_⟩) | ((with_reducible apply And.intro); focus (first | rfl | exact znb rfl | omega | (simp only [zlc, zln, zlm, zla]; omega))))
    refine ⟨_, rowK _ _ _ hlt, ?_⟩
    repeat' ((conv => whnf); first | with_reducible refine zol ?_ | ((with_reducible refine fk (fun hc => ?_) fun hc => ?_) <;> first | exact absurd hc (by decide) | (exfalso; simp only [*, reduceCtorEq] at hc; done) | skip) | (refine zll ?_; (conv => whnf); refine ⟨_, hp _ (List.getElem_mem _), ?_⟩) | ((with_reducible apply And.intro); focus (first | rfl | exact znb rfl | omega | (simp only [zlc, zln, zlm, zla]; omega))))
    · repeat' first
        | fail
        | with_reducible exact True.intro
        | with_reducible exact rfl
        | with_reducible exact leRs_refl _
        | ((conv => whnf); with_reducible apply And.intro)
        | ((conv => whnf); with_reducible exact True.intro)
        | exact rfl
        | exact fun h => h
        | exact leRs_refl _
      all_goals try (conv => whnf)
      simp at hc
      simp
      intro hp
      have := List.pairwise_iff_getElem.1 hp k (k + 1) (by omega) hlt (by omega)
      omega
    · repeat' ((conv => whnf)
               first
               | with_reducible refine zol ?_
               | ((with_reducible refine fk (fun hc => ?_) fun hc => ?_) <;> first | exact absurd hc (by decide) | (exfalso; simp only [*, reduceCtorEq] at hc; done) | skip)
               | ((with_reducible apply And.intro); focus (first | rfl | exact znb rfl | omega | (simp only [zlc, zln, zlm, zla]; omega))))
      refine ⟨⟨k + 1, .inl hlt, ?_⟩, dec_lt (by omega), ent_of ?_⟩
      · intro j hj hjk
        rcases Nat.lt_succ_iff_lt_or_eq.1 hjk with hj' | rfl
        · exact hn j hj hj'
        · simp at hc; exact hc
      · repeat' first
          | fail
          | with_reducible exact True.intro
          | with_reducible exact rfl
          | with_reducible exact leRs_refl _
          | ((conv => whnf); with_reducible apply And.intro)
          | ((conv => whnf); with_reducible exact True.intro)
          | exact rfl
          | exact fun h => h
          | exact leRs_refl _
        all_goals try (conv => whnf)
        rw [wrapI (by omega) (by omega)]; omega
  · repeat' first
      | fail
      | with_reducible exact True.intro
      | with_reducible exact rfl
      | with_reducible exact leRs_refl _
      | ((conv => whnf); with_reducible apply And.intro)
      | ((conv => whnf); with_reducible exact True.intro)
      | exact rfl
      | exact fun h => h
      | exact leRs_refl _
    all_goals try (conv => whnf)
    simp at hc
    simp
    exact adj_pairwise fun j hj => hn j hj (by omega)
theorem fn_riseCursor : FnOk Tryz.prog 68 Tryz.f68 := ⟨Tryz.func68, by kernel_rfl, by kernel_rfl, by kernel_rfl⟩
theorem riseCursor_c (l : List Cu) (f : FuncId) (first caps : List PV) (key : Cu → Int) (hp : ∀ x ∈ l, PCx Tryz.prog f (first ++ ([.agg x.c] ++ caps)) (ii (key x))) :
    PCx Tryz.prog 68 [slK l, .fn (.func f) first caps] (bl (decide (l.Pairwise fun a b => key a < key b))) := by
  refine PC.le (PC_bd fn_riseCursor fun hb => ?_)
  have hb : l.length ≤ 9223372036854775807 := by simpa [bdL, bdP, slK] using hb
  refine PC_of_VC tabOk (draw_ok mixed tabOk) fn_riseCursor rfl ?_
  repeat' ((conv => whnf); first | with_reducible refine zol ?_ | ((with_reducible refine fk (fun hc => ?_) fun hc => ?_) <;> first | exact absurd hc (by decide) | (exfalso; simp only [*, reduceCtorEq] at hc; done) | skip) | ((with_reducible apply And.intro); focus (first | rfl | exact znb rfl | omega | (simp only [zlc, zln, zlm, zla]; omega))))
  refine ⟨{k : Nat // (k + 1 ≤ l.length ∨ k = 0) ∧ ∀ j (hj : j + 1 < l.length), j < k → key (l[j]'(by omega)) < key l[j + 1]}, fun ⟨k, _⟩ => ⟨[(0, .pv (slK l)), (1, .pv (.fn (.func f) first caps)), (5, .pv (ii ((k + 1 : Nat) : Int)))], 1000000000, []⟩, fun ⟨k, _⟩ => l.length - k, ⟨⟨0, by simp⟩, ent_of ?_⟩, ?_⟩
  · repeat' first
      | fail
      | with_reducible exact True.intro
      | with_reducible exact rfl
      | with_reducible exact leRs_refl _
      | ((conv => whnf); with_reducible apply And.intro)
      | ((conv => whnf); with_reducible exact True.intro)
      | exact rfl
      | exact fun h => h
      | exact leRs_refl _
    all_goals try (conv => whnf)
  rintro ⟨k, hk, hn⟩
  repeat' ((conv => whnf); first | with_reducible refine zol ?_ | ((with_reducible refine fk (fun hc => ?_) fun hc => ?_) <;> first | exact absurd hc (by decide) | (exfalso; simp only [*, reduceCtorEq] at hc; done) | skip) | ((with_reducible apply And.intro); focus (first | rfl | exact znb rfl | omega | (simp only [zlc, zln, zlm, zla]; omega))))
  · have hlt : k + 1 < l.length := by simp at hc; omega
    have e1 : IntKind.i64.wrap (((k + 1 : Nat) : Int) - 1) = ((k : Nat) : Int) := by rw [wrapI (by omega) (by omega)]; omega
    repeat' ((conv => whnf); first | with_reducible refine zol ?_ | ((with_reducible refine fk (fun hc => ?_) fun hc => ?_) <;> first | exact absurd hc (by decide) | (exfalso; simp only [*, reduceCtorEq] at hc; done) | skip) | ((refine ⟨by rw [e1]; omega, _, rowE _ _ e1 (by omega), ?_⟩)) | ((with_reducible apply And.intro); focus (first | rfl | exact znb rfl | omega | (simp only [zlc, zln, zlm, zla]; omega))))
    repeat' ((conv => whnf); first | with_reducible refine zol ?_ | ((with_reducible refine fk (fun hc => ?_) fun hc => ?_) <;> first | exact absurd hc (by decide) | (exfalso; simp only [*, reduceCtorEq] at hc; done) | skip) | (refine zll ?_; (conv => whnf); refine ⟨_, hp _ (List.getElem_mem _), ?_⟩) | ((with_reducible apply And.intro); focus (first | rfl | exact znb rfl | omega | (simp only [zlc, zln, zlm, zla]; omega))))
    refine ⟨_, rowK _ _ _ hlt, ?_⟩
    repeat' ((conv => whnf); first | with_reducible refine zol ?_ | ((with_reducible refine fk (fun hc => ?_) fun hc => ?_) <;> first | exact absurd hc (by decide) | (exfalso; simp only [*, reduceCtorEq] at hc; done) | skip) | (refine zll ?_; (conv => whnf); refine ⟨_, hp _ (List.getElem_mem _), ?_⟩) | ((with_reducible apply And.intro); focus (first | rfl | exact znb rfl | omega | (simp only [zlc, zln, zlm, zla]; omega))))
    · repeat' first
        | fail
        | with_reducible exact True.intro
        | with_reducible exact rfl
        | with_reducible exact leRs_refl _
        | ((conv => whnf); with_reducible apply And.intro)
        | ((conv => whnf); with_reducible exact True.intro)
        | exact rfl
        | exact fun h => h
        | exact leRs_refl _
      all_goals try (conv => whnf)
      simp at hc
      simp
      intro hp
      have := List.pairwise_iff_getElem.1 hp k (k + 1) (by omega) hlt (by omega)
      omega
    · repeat' ((conv => whnf)
               first
               | with_reducible refine zol ?_
               | ((with_reducible refine fk (fun hc => ?_) fun hc => ?_) <;> first | exact absurd hc (by decide) | (exfalso; simp only [*, reduceCtorEq] at hc; done) | skip)
               | ((with_reducible apply And.intro); focus (first | rfl | exact znb rfl | omega | (simp only [zlc, zln, zlm, zla]; omega))))
      refine ⟨⟨k + 1, .inl hlt, ?_⟩, dec_lt (by omega), ent_of ?_⟩
      · intro j hj hjk
        rcases Nat.lt_succ_iff_lt_or_eq.1 hjk with hj' | rfl
        · exact hn j hj hj'
        · simp at hc; exact hc
      · repeat' first
          | fail
          | with_reducible exact True.intro
          | with_reducible exact rfl
          | with_reducible exact leRs_refl _
          | ((conv => whnf); with_reducible apply And.intro)
          | ((conv => whnf); with_reducible exact True.intro)
          | exact rfl
          | exact fun h => h
          | exact leRs_refl _
        all_goals try (conv => whnf)
        rw [wrapI (by omega) (by omega)]; omega
  · repeat' first
      | fail
      | with_reducible exact True.intro
      | with_reducible exact rfl
      | with_reducible exact leRs_refl _
      | ((conv => whnf); with_reducible apply And.intro)
      | ((conv => whnf); with_reducible exact True.intro)
      | exact rfl
      | exact fun h => h
      | exact leRs_refl _
    all_goals try (conv => whnf)
    simp at hc
    simp
    exact adj_pairwise fun j hj => hn j hj (by omega)
theorem fn_risePast : FnOk Tryz.prog 39 Tryz.f39 := ⟨Tryz.func39, by kernel_rfl, by kernel_rfl, by kernel_rfl⟩
theorem risePast_c (l : List Pa) (f : FuncId) (first caps : List PV) (key : Pa → Int) (hp : ∀ x ∈ l, PCx Tryz.prog f (first ++ ([.agg x.c] ++ caps)) (ii (key x))) :
    PCx Tryz.prog 39 [slA l, .fn (.func f) first caps] (bl (decide (l.Pairwise fun a b => key a < key b))) := by
  refine PC.le (PC_bd fn_risePast fun hb => ?_)
  have hb : l.length ≤ 9223372036854775807 := by simpa [bdL, bdP, slA] using hb
  refine PC_of_VC tabOk (draw_ok mixed tabOk) fn_risePast rfl ?_
  repeat' ((conv => whnf); first | with_reducible refine zol ?_ | ((with_reducible refine fk (fun hc => ?_) fun hc => ?_) <;> first | exact absurd hc (by decide) | (exfalso; simp only [*, reduceCtorEq] at hc; done) | skip) | ((with_reducible apply And.intro); focus (first | rfl | exact znb rfl | omega | (simp only [zlc, zln, zlm, zla]; omega))))
  refine ⟨{k : Nat // (k + 1 ≤ l.length ∨ k = 0) ∧ ∀ j (hj : j + 1 < l.length), j < k → key (l[j]'(by omega)) < key l[j + 1]}, fun ⟨k, _⟩ => ⟨[(0, .pv (slA l)), (1, .pv (.fn (.func f) first caps)), (5, .pv (ii ((k + 1 : Nat) : Int)))], 1000000000, []⟩, fun ⟨k, _⟩ => l.length - k, ⟨⟨0, by simp⟩, ent_of ?_⟩, ?_⟩
  · repeat' first
      | fail
      | with_reducible exact True.intro
      | with_reducible exact rfl
      | with_reducible exact leRs_refl _
      | ((conv => whnf); with_reducible apply And.intro)
      | ((conv => whnf); with_reducible exact True.intro)
      | exact rfl
      | exact fun h => h
      | exact leRs_refl _
    all_goals try (conv => whnf)
  rintro ⟨k, hk, hn⟩
  repeat' ((conv => whnf); first | with_reducible refine zol ?_ | ((with_reducible refine fk (fun hc => ?_) fun hc => ?_) <;> first | exact absurd hc (by decide) | (exfalso; simp only [*, reduceCtorEq] at hc; done) | skip) | ((with_reducible apply And.intro); focus (first | rfl | exact znb rfl | omega | (simp only [zlc, zln, zlm, zla]; omega))))
  · have hlt : k + 1 < l.length := by simp at hc; omega
    have e1 : IntKind.i64.wrap (((k + 1 : Nat) : Int) - 1) = ((k : Nat) : Int) := by rw [wrapI (by omega) (by omega)]; omega
    repeat' ((conv => whnf); first | with_reducible refine zol ?_ | ((with_reducible refine fk (fun hc => ?_) fun hc => ?_) <;> first | exact absurd hc (by decide) | (exfalso; simp only [*, reduceCtorEq] at hc; done) | skip) | ((refine ⟨by rw [e1]; omega, _, rowE _ _ e1 (by omega), ?_⟩)) | ((with_reducible apply And.intro); focus (first | rfl | exact znb rfl | omega | (simp only [zlc, zln, zlm, zla]; omega))))
    repeat' ((conv => whnf); first | with_reducible refine zol ?_ | ((with_reducible refine fk (fun hc => ?_) fun hc => ?_) <;> first | exact absurd hc (by decide) | (exfalso; simp only [*, reduceCtorEq] at hc; done) | skip) | (refine zll ?_; (conv => whnf); refine ⟨_, hp _ (List.getElem_mem _), ?_⟩) | ((with_reducible apply And.intro); focus (first | rfl | exact znb rfl | omega | (simp only [zlc, zln, zlm, zla]; omega))))
    refine ⟨_, rowK _ _ _ hlt, ?_⟩
    repeat' ((conv => whnf); first | with_reducible refine zol ?_ | ((with_reducible refine fk (fun hc => ?_) fun hc => ?_) <;> first | exact absurd hc (by decide) | (exfalso; simp only [*, reduceCtorEq] at hc; done) | skip) | (refine zll ?_; (conv => whnf); refine ⟨_, hp _ (List.getElem_mem _), ?_⟩) | ((with_reducible apply And.intro); focus (first | rfl | exact znb rfl | omega | (simp only [zlc, zln, zlm, zla]; omega))))
    · repeat' first
        | fail
        | with_reducible exact True.intro
        | with_reducible exact rfl
        | with_reducible exact leRs_refl _
        | ((conv => whnf); with_reducible apply And.intro)
        | ((conv => whnf); with_reducible exact True.intro)
        | exact rfl
        | exact fun h => h
        | exact leRs_refl _
      all_goals try (conv => whnf)
      simp at hc
      simp
      intro hp
      have := List.pairwise_iff_getElem.1 hp k (k + 1) (by omega) hlt (by omega)
      omega
    · repeat' ((conv => whnf)
               first
               | with_reducible refine zol ?_
               | ((with_reducible refine fk (fun hc => ?_) fun hc => ?_) <;> first | exact absurd hc (by decide) | (exfalso; simp only [*, reduceCtorEq] at hc; done) | skip)
               | ((with_reducible apply And.intro); focus (first | rfl | exact znb rfl | omega | (simp only [zlc, zln, zlm, zla]; omega))))
      refine ⟨⟨k + 1, .inl hlt, ?_⟩, dec_lt (by omega), ent_of ?_⟩
      · intro j hj hjk
        rcases Nat.lt_succ_iff_lt_or_eq.1 hjk with hj' | rfl
        · exact hn j hj hj'
        · simp at hc; exact hc
      · repeat' first
          | fail
          | with_reducible exact True.intro
          | with_reducible exact rfl
          | with_reducible exact leRs_refl _
          | ((conv => whnf); with_reducible apply And.intro)
          | ((conv => whnf); with_reducible exact True.intro)
          | exact rfl
          | exact fun h => h
          | exact leRs_refl _
        all_goals try (conv => whnf)
        rw [wrapI (by omega) (by omega)]; omega
  · repeat' first
      | fail
      | with_reducible exact True.intro
      | with_reducible exact rfl
      | with_reducible exact leRs_refl _
      | ((conv => whnf); with_reducible apply And.intro)
      | ((conv => whnf); with_reducible exact True.intro)
      | exact rfl
      | exact fun h => h
      | exact leRs_refl _
    all_goals try (conv => whnf)
    simp at hc
    simp
    exact adj_pairwise fun j hj => hn j hj (by omega)
theorem fn_riseU : FnOk Tryz.prog 64 Tryz.f64 := ⟨Tryz.func64, by kernel_rfl, by kernel_rfl, by kernel_rfl⟩
theorem riseU_c (l : List Int) (f : FuncId) (first caps : List PV) (key : Int → Int) (hp : ∀ x ∈ l, PCx Tryz.prog f (first ++ ([uu x] ++ caps)) (uu (key x))) :
    PCx Tryz.prog 64 [slU l, .fn (.func f) first caps] (bl (decide (l.Pairwise fun a b => key a < key b))) := by
  refine PC.le (PC_bd fn_riseU fun hb => ?_)
  have hb : l.length ≤ 9223372036854775807 := by simpa [bdL, bdP, slU] using hb
  refine PC_of_VC tabOk (draw_ok mixed tabOk) fn_riseU rfl ?_
  repeat' ((conv => whnf); first | with_reducible refine zol ?_ | ((with_reducible refine fk (fun hc => ?_) fun hc => ?_) <;> first | exact absurd hc (by decide) | (exfalso; simp only [*, reduceCtorEq] at hc; done) | skip) | ((with_reducible apply And.intro); focus (first | rfl | exact znb rfl | omega | (simp only [zlc, zln, zlm, zla]; omega))))
  refine ⟨{k : Nat // (k + 1 ≤ l.length ∨ k = 0) ∧ ∀ j (hj : j + 1 < l.length), j < k → key (l[j]'(by omega)) < key l[j + 1]}, fun ⟨k, _⟩ => ⟨[(0, .pv (slU l)), (1, .pv (.fn (.func f) first caps)), (5, .pv (ii ((k + 1 : Nat) : Int)))], 1000000000, []⟩, fun ⟨k, _⟩ => l.length - k, ⟨⟨0, by simp⟩, ent_of ?_⟩, ?_⟩
  · repeat' first
      | fail
      | with_reducible exact True.intro
      | with_reducible exact rfl
      | with_reducible exact leRs_refl _
      | ((conv => whnf); with_reducible apply And.intro)
      | ((conv => whnf); with_reducible exact True.intro)
      | exact rfl
      | exact fun h => h
      | exact leRs_refl _
    all_goals try (conv => whnf)
  rintro ⟨k, hk, hn⟩
  repeat' ((conv => whnf); first | with_reducible refine zol ?_ | ((with_reducible refine fk (fun hc => ?_) fun hc => ?_) <;> first | exact absurd hc (by decide) | (exfalso; simp only [*, reduceCtorEq] at hc; done) | skip) | ((with_reducible apply And.intro); focus (first | rfl | exact znb rfl | omega | (simp only [zlc, zln, zlm, zla]; omega))))
  · have hlt : k + 1 < l.length := by simp at hc; omega
    have e1 : IntKind.i64.wrap (((k + 1 : Nat) : Int) - 1) = ((k : Nat) : Int) := by rw [wrapI (by omega) (by omega)]; omega
    repeat' ((conv => whnf); first | with_reducible refine zol ?_ | ((with_reducible refine fk (fun hc => ?_) fun hc => ?_) <;> first | exact absurd hc (by decide) | (exfalso; simp only [*, reduceCtorEq] at hc; done) | skip) | ((refine ⟨by rw [e1]; omega, _, rowE _ _ e1 (by omega), ?_⟩)) | ((with_reducible apply And.intro); focus (first | rfl | exact znb rfl | omega | (simp only [zlc, zln, zlm, zla]; omega))))
    repeat' ((conv => whnf); first | with_reducible refine zol ?_ | ((with_reducible refine fk (fun hc => ?_) fun hc => ?_) <;> first | exact absurd hc (by decide) | (exfalso; simp only [*, reduceCtorEq] at hc; done) | skip) | (refine zll ?_; (conv => whnf); refine ⟨_, hp _ (List.getElem_mem _), ?_⟩) | ((with_reducible apply And.intro); focus (first | rfl | exact znb rfl | omega | (simp only [zlc, zln, zlm, zla]; omega))))
    refine ⟨_, rowK _ _ _ hlt, ?_⟩
    repeat' ((conv => whnf); first | with_reducible refine zol ?_ | ((with_reducible refine fk (fun hc => ?_) fun hc => ?_) <;> first | exact absurd hc (by decide) | (exfalso; simp only [*, reduceCtorEq] at hc; done) | skip) | (refine zll ?_; (conv => whnf); refine ⟨_, hp _ (List.getElem_mem _), ?_⟩) | ((with_reducible apply And.intro); focus (first | rfl | exact znb rfl | omega | (simp only [zlc, zln, zlm, zla]; omega))))
    · repeat' first
        | fail
        | with_reducible exact True.intro
        | with_reducible exact rfl
        | with_reducible exact leRs_refl _
        | ((conv => whnf); with_reducible apply And.intro)
        | ((conv => whnf); with_reducible exact True.intro)
        | exact rfl
        | exact fun h => h
        | exact leRs_refl _
      all_goals try (conv => whnf)
      simp at hc
      simp
      intro hp
      have := List.pairwise_iff_getElem.1 hp k (k + 1) (by omega) hlt (by omega)
      omega
    · repeat' ((conv => whnf)
               first
               | with_reducible refine zol ?_
               | ((with_reducible refine fk (fun hc => ?_) fun hc => ?_) <;> first | exact absurd hc (by decide) | (exfalso; simp only [*, reduceCtorEq] at hc; done) | skip)
               | ((with_reducible apply And.intro); focus (first | rfl | exact znb rfl | omega | (simp only [zlc, zln, zlm, zla]; omega))))
      refine ⟨⟨k + 1, .inl hlt, ?_⟩, dec_lt (by omega), ent_of ?_⟩
      · intro j hj hjk
        rcases Nat.lt_succ_iff_lt_or_eq.1 hjk with hj' | rfl
        · exact hn j hj hj'
        · simp at hc; exact hc
      · repeat' first
          | fail
          | with_reducible exact True.intro
          | with_reducible exact rfl
          | with_reducible exact leRs_refl _
          | ((conv => whnf); with_reducible apply And.intro)
          | ((conv => whnf); with_reducible exact True.intro)
          | exact rfl
          | exact fun h => h
          | exact leRs_refl _
        all_goals try (conv => whnf)
        rw [wrapI (by omega) (by omega)]; omega
  · repeat' first
      | fail
      | with_reducible exact True.intro
      | with_reducible exact rfl
      | with_reducible exact leRs_refl _
      | ((conv => whnf); with_reducible apply And.intro)
      | ((conv => whnf); with_reducible exact True.intro)
      | exact rfl
      | exact fun h => h
      | exact leRs_refl _
    all_goals try (conv => whnf)
    simp at hc
    simp
    exact adj_pairwise fun j hj => hn j hj (by omega)
theorem fn_frag2 : FnOk Tryz.prog 131 Tryz.f131 := ⟨Tryz.func131, by kernel_rfl, by kernel_rfl, by kernel_rfl⟩
theorem frag2_c (a b : Int) : PCx Tryz.prog 131 ([] ++ ([.agg [ii a, uu b]] ++ [])) (ii a) := by
  refine PC.le ?_
  refine PC_of_VC tabOk (draw_ok mixed tabOk) fn_frag2 rfl ?_
  repeat' ((conv => whnf); first | with_reducible refine zol ?_ | ((with_reducible refine fk (fun hc => ?_) fun hc => ?_) <;> first | exact absurd hc (by decide) | (exfalso; simp only [*, reduceCtorEq] at hc; done) | skip) | ((with_reducible apply And.intro); focus (first | rfl | exact znb rfl | omega | (simp only [zlc, zln, zlm, zla]; omega))))
  repeat' first | (with_reducible first | exact ⟨⟩ | exact rfl | exact lr _) | ((conv => whnf); with_reducible first | apply And.intro | exact ⟨⟩) | exact rfl | exact fun h => h | exact lr _
  all_goals try (conv => whnf)
theorem fn_mayFrags2 : FnOk Tryz.prog 95 Tryz.f95 := ⟨Tryz.func95, by kernel_rfl, by kernel_rfl, by kernel_rfl⟩
theorem mayFrags2_c (x : Fr) : PCx Tryz.prog 95 ([] ++ ([.agg x.c] ++ [])) (uu x.first) := by
  refine PC.le ?_
  refine PC_of_VC tabOk (draw_ok mixed tabOk) fn_mayFrags2 rfl ?_
  repeat' ((conv => whnf); first | with_reducible refine zol ?_ | ((with_reducible refine fk (fun hc => ?_) fun hc => ?_) <;> first | exact absurd hc (by decide) | (exfalso; simp only [*, reduceCtorEq] at hc; done) | skip) | ((with_reducible apply And.intro); focus (first | rfl | exact znb rfl | omega | (simp only [zlc, zln, zlm, zla]; omega))))
  repeat' first | (with_reducible first | exact ⟨⟩ | exact rfl | exact lr _) | ((conv => whnf); with_reducible first | apply And.intro | exact ⟨⟩) | exact rfl | exact fun h => h | exact lr _
  all_goals try (conv => whnf)
theorem fn_frag : FnOk Tryz.prog 93 Tryz.f93 := ⟨Tryz.func93, by kernel_rfl, by kernel_rfl, by kernel_rfl⟩
theorem frag_c (w n : Int) (l : List Pl) (h : l.length ≤ 8796093022208) : PCx Tryz.prog 93 [ii w, .agg [uu n, slP l]] (bl (mayFr w ⟨n, l⟩)) := by
  refine PC.le ?_
  refine PC_of_VC tabOk (draw_ok mixed tabOk) fn_frag rfl ?_
  repeat' ((conv => whnf); first | with_reducible refine zol ?_ | ((with_reducible refine fk (fun hc => ?_) fun hc => ?_) <;> first | exact absurd hc (by decide) | (exfalso; simp only [*, reduceCtorEq] at hc; done) | skip) | (refine zlr ?_; (conv => whnf); refine ⟨_, _, clonePlace_g _ (by omega), ?_⟩) | (refine zlr ?_; (conv => whnf); refine ⟨_, _, sortPlace_g _ (by omega), ?_⟩) | (refine zll ?_; (conv => whnf); refine ⟨_, fromU_c _ _ _, ?_⟩) | (refine zll ?_; (conv => whnf); refine ⟨_, fromI_c _ _ _, ?_⟩) | (refine zll ?_; (conv => whnf); refine ⟨_, allPlace_c _ _ _ _ mayPl fun x _ => place_c x.node x.serial, ?_⟩) | (refine zll ?_; (conv => whnf); refine ⟨_, risePlace_c _ _ _ _ (·.node) fun x _ => frag2_c _ _, ?_⟩) | ((with_reducible apply And.intro); focus (first | rfl | exact znb rfl | omega | (simp only [zlc, zln, zlm, zla]; omega))))
  all_goals
    repeat' first | (with_reducible first | exact ⟨⟩ | exact rfl | exact lr _) | ((conv => whnf); with_reducible first | apply And.intro | exact ⟨⟩) | exact rfl | exact fun h => h | exact lr _
    all_goals try (conv => whnf)
    simp_all only [mayFr, ← sortPl_rise, Bool.and_true, Bool.and_false, Bool.true_and, Bool.false_and, List.length_map]
    try rfl
theorem fn_mayFrags1 : FnOk Tryz.prog 92 Tryz.f92 := ⟨Tryz.func92, by kernel_rfl, by kernel_rfl, by kernel_rfl⟩
theorem mayFrags1_c (w : Int) (x : Fr) (h : x.bookies.length ≤ 8796093022208) : PCx Tryz.prog 92 ([] ++ ([.agg x.c] ++ [.eptr [ii w] 0])) (bl (mayFr w x)) := by
  refine PC.le ?_
  refine PC_of_VC tabOk (draw_ok mixed tabOk) fn_mayFrags1 rfl ?_
  repeat' ((conv => whnf); first | with_reducible refine zol ?_ | ((with_reducible refine fk (fun hc => ?_) fun hc => ?_) <;> first | exact absurd hc (by decide) | (exfalso; simp only [*, reduceCtorEq] at hc; done) | skip) | (refine zll ?_; (conv => whnf); refine ⟨_, frag_c _ _ _ h, ?_⟩) | ((with_reducible apply And.intro); focus (first | rfl | exact znb rfl | omega | (simp only [zlc, zln, zlm, zla]; omega))))
  repeat' first | (with_reducible first | exact ⟨⟩ | exact rfl | exact lr _) | ((conv => whnf); with_reducible first | apply And.intro | exact ⟨⟩) | exact rfl | exact fun h => h | exact lr _
  all_goals try (conv => whnf)
theorem fn_mayFrags : FnOk Tryz.prog 60 Tryz.f60 := ⟨Tryz.func60, by kernel_rfl, by kernel_rfl, by kernel_rfl⟩
theorem mayFrags_c (w : Int) (l : List Fr) (h : ∀ x ∈ l, x.bookies.length ≤ 8796093022208) : PCx Tryz.prog 60 [ii w, slF l] (bl (mayFrs w l)) := by
  refine PC.le ?_
  refine PC_of_VC tabOk (draw_ok mixed tabOk) fn_mayFrags rfl ?_
  cases l with
  | nil =>
    repeat' ((conv => whnf); first | with_reducible refine zol ?_ | ((with_reducible refine fk (fun hc => ?_) fun hc => ?_) <;> first | exact absurd hc (by decide) | (exfalso; simp only [*, reduceCtorEq] at hc; done) | skip) | (refine zll ?_; (conv => whnf); refine ⟨_, fromI_c _ _ _, ?_⟩) | ((with_reducible apply And.intro); focus (first | rfl | exact znb rfl | omega | (simp only [zlc, zln, zlm, zla]; omega))))
    all_goals
      repeat' first | (with_reducible first | exact ⟨⟩ | exact rfl | exact lr _) | ((conv => whnf); with_reducible first | apply And.intro | exact ⟨⟩) | exact rfl | exact fun h => h | exact lr _
      all_goals try (conv => whnf)
      all_goals simp [mayFrs, fromZ]
  | cons x r =>
    repeat' ((conv => whnf); first | with_reducible refine zol ?_ | ((with_reducible refine fk (fun hc => ?_) fun hc => ?_) <;> first | exact absurd hc (by decide) | (exfalso; simp only [*, reduceCtorEq] at hc; done) | skip) | (refine zll ?_; (conv => whnf); refine ⟨_, fromI_c _ _ _, ?_⟩) | (refine zll ?_; (conv => whnf); refine ⟨_, allFrag_c _ _ _ _ _ fun x hx => mayFrags1_c w x (h x hx), ?_⟩) | (refine zll ?_; (conv => whnf); refine ⟨_, riseFrag_c _ _ _ _ (·.first) fun x _ => mayFrags2_c x, ?_⟩) | ((refine ⟨_, rfl, ?_⟩)) | ((with_reducible apply And.intro); focus (first | rfl | exact znb rfl | omega | (simp only [zlc, zln, zlm, zla]; omega))))
    all_goals
      repeat' first | (with_reducible first | exact ⟨⟩ | exact rfl | exact lr _) | ((conv => whnf); with_reducible first | apply And.intro | exact ⟨⟩) | exact rfl | exact fun h => h | exact lr _
      all_goals try (conv => whnf)
      simp_all only [mayFrs, first1, List.length_map, Bool.true_and, Bool.false_and, Bool.and_true]
theorem fn_mayLedger : FnOk Tryz.prog 33 Tryz.f33 := ⟨Tryz.func33, by kernel_rfl, by kernel_rfl, by kernel_rfl⟩
theorem mayLedger_c (l : Lg) (h : l.ok) : PCx Tryz.prog 33 [.agg l.c] (bl (mayLg l)) := by
  refine PC.le ?_
  refine PC_of_VC tabOk (draw_ok mixed tabOk) fn_mayLedger rfl ?_
  repeat' ((conv => whnf); first | with_reducible refine zol ?_ | ((with_reducible refine fk (fun hc => ?_) fun hc => ?_) <;> first | exact absurd hc (by decide) | (exfalso; simp only [*, reduceCtorEq] at hc; done) | skip) | (refine zll ?_; (conv => whnf); refine ⟨_, fromI_c _ _ _, ?_⟩) | (refine zll ?_; (conv => whnf); refine ⟨_, fromU_c _ _ _, ?_⟩) | (refine zll ?_; (conv => whnf); refine ⟨_, mayFrags_c _ _ h, ?_⟩) | ((with_reducible apply And.intro); focus (first | rfl | exact znb rfl | omega | (simp only [zlc, zln, zlm, zla]; omega))))
  all_goals
    repeat' first | (with_reducible first | exact ⟨⟩ | exact rfl | exact lr _) | ((conv => whnf); with_reducible first | apply And.intro | exact ⟨⟩) | exact rfl | exact fun h => h | exact lr _
    all_goals try (conv => whnf)
    try (simp only [mayLg, *, Bool.true_and, Bool.false_and]; done)
  have hq : 0 ≤ l.closed ∧ l.closed ≤ 1 := by simpa [fromZ] using hc
  simp only [mayLg, *, Bool.true_and]
  rw [wrapU hq.1 (by omega), wrapU (by omega) (by omega)]
end Go.Proofs.YtgblabmhgdiicaaGreat.Tb

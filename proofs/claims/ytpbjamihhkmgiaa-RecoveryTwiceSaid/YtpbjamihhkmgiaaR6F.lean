/-
  Contracts of functions of the program and of the document, each for every input that its premises name.
-/
import Derived.Test.YtpbjamihhkmgiaaR5
set_option linter.unusedSectionVars false
set_option maxRecDepth 100000
set_option maxHeartbeats 4000000
set_option linter.unusedVariables false
set_option linter.unusedSimpArgs false
open Go Go.AX
namespace Go.Proofs.Ytpbjamihhkmgiaa.Tb
section
variable (x : Rv) (now : Int) (known : List Pl) (hsm : x.sm) (hk : known.length ≤ 1000) (hnow : 0 ≤ now ∧ now ≤ 18446744073709551615) (hsi : 0 ≤ x.since ∧ x.since ≤ 18446744073709551615) (hbo : 0 ≤ x.born ∧ x.born ≤ 18446744073709551615) (hff : frsOk x.frags) (hn : 0 ≤ x.n ∧ x.n ≤ 1000) (hw : (writesR x).length ≤ 1000) (p3 : (x.phase == 3) = true)
include hsm hk hnow hsi hbo hff hn hw p3
theorem tickF1_c (g1 : goneR now x.born 9 = false) (eb0 : decide ((x.bad.length : Int) > 0) = false) (g2 : goneR now x.since 3 = false) :
    PCx Try.prog 7 [.agg x.c, uu now, slP known] (.tup [.agg x.c, slR []]) := by
  refine PC.le ?_
  have p4 : (x.phase != 4) = true := by have : x.phase = 3 := by simpa using p3
                                        rw [this]; rfl
  have hg1 := gone_c now x.born 9 hnow hbo
  have hg2 := gone_c now x.since 3 hnow hsi
  rw [g1] at hg1
  rw [g2] at hg2
  have eb : decide (((List.map Pl.c x.bad).length : Int) > 0) = false := by rw [List.length_map]; exact eb0
  try simp only at eb
  have hown := ownFB_g x hsm
  clear hsm hk hnow hsi hbo hff hn hw g1 g2 eb0
  refine PC_of_VC tabOk (draw_ok mixed tabOk) fn_rcTick rfl ?_
  repeat' ((conv => whnf); first | with_reducible refine (Or.inl ?_ : VC _ _ _ _ _ ∨ _) | ((with_reducible refine fk (fun hc => ?_) fun hc => ?_) <;> first | exact absurd hc (by decide) | (exfalso; simp only [*, reduceCtorEq] at hc; done) | skip) | (refine Or.inl (Or.inr ?_); (conv => whnf); refine ⟨_, _, GCx_pre (hown) ?_, ?_⟩; focus ((repeat' first | (with_reducible first | exact ⟨⟩ | exact rfl | exact lr _) | ((conv => whnf); with_reducible first | apply And.intro | exact ⟨⟩) | exact rfl | exact id | assumption | exact lr _); done)) | (refine Or.inl (Or.inl ?_); (conv => whnf); refine ⟨_, PCx_pre (hg1) ?_, ?_⟩; focus ((repeat' first | (with_reducible first | exact ⟨⟩ | exact rfl | exact lr _) | ((conv => whnf); with_reducible first | apply And.intro | exact ⟨⟩) | exact rfl | exact id | assumption | exact lr _); done)) | (refine Or.inl (Or.inl ?_); (conv => whnf); refine ⟨_, PCx_pre (hg2) ?_, ?_⟩; focus ((repeat' first | (with_reducible first | exact ⟨⟩ | exact rfl | exact lr _) | ((conv => whnf); with_reducible first | apply And.intro | exact ⟨⟩) | exact rfl | exact id | assumption | exact lr _); done)) | ((with_reducible apply And.intro); focus (first | rfl | exact Nat.le_of_ble_eq_true rfl | omega | (simp only [List.length_cons, List.length_nil, List.length_map, List.length_append]; omega))))
  all_goals
    repeat' first | (with_reducible first | exact ⟨⟩ | exact rfl | exact lr _) | ((conv => whnf); with_reducible first | apply And.intro | exact ⟨⟩) | exact rfl | exact id | exact lr _
    all_goals try (conv => whnf)
theorem tickF2_c (g1 : goneR now x.born 9 = false) (eb0 : decide ((x.bad.length : Int) > 0) = false) (g2 : goneR now x.since 3 = true) :
    PCx Try.prog 7 [.agg x.c, uu now, slP known] (.tup [.agg ({ x with since := now } : Rv).c, slR (copiesQ x (writesR x))]) := by
  refine PC.le ?_
  have p4 : (x.phase != 4) = true := by have : x.phase = 3 := by simpa using p3
                                        rw [this]; rfl
  have hg1 := gone_c now x.born 9 hnow hbo
  have hg2 := gone_c now x.since 3 hnow hsi
  rw [g1] at hg1
  rw [g2] at hg2
  have eb : decide (((List.map Pl.c x.bad).length : Int) > 0) = false := by rw [List.length_map]; exact eb0
  try simp only at eb
  have hbody := hsm.bo
  have hco := copiesFB_g x now (by simpa using p3) hff (by show 0 ≤ x.n ∧ x.n ≤ 18446744073709551615; omega) (by show (writesR x).length ≤ 1000000; omega) hbody
  clear hbody
  have hown := ownFB_g x hsm
  clear hsm hk hnow hsi hbo hff hn hw g1 g2 eb0
  refine PC_of_VC tabOk (draw_ok mixed tabOk) fn_rcTick rfl ?_
  repeat' ((conv => whnf); first | with_reducible refine (Or.inl ?_ : VC _ _ _ _ _ ∨ _) | ((with_reducible refine fk (fun hc => ?_) fun hc => ?_) <;> first | exact absurd hc (by decide) | (exfalso; simp only [*, reduceCtorEq] at hc; done) | skip) | (refine Or.inl (Or.inr ?_); (conv => whnf); refine ⟨_, _, GCx_pre (hown) ?_, ?_⟩; focus ((repeat' first | (with_reducible first | exact ⟨⟩ | exact rfl | exact lr _) | ((conv => whnf); with_reducible first | apply And.intro | exact ⟨⟩) | exact rfl | exact id | assumption | exact lr _); done)) | (refine Or.inl (Or.inl ?_); (conv => whnf); refine ⟨_, PCx_pre (hg1) ?_, ?_⟩; focus ((repeat' first | (with_reducible first | exact ⟨⟩ | exact rfl | exact lr _) | ((conv => whnf); with_reducible first | apply And.intro | exact ⟨⟩) | exact rfl | exact id | assumption | exact lr _); done)) | (refine Or.inl (Or.inl ?_); (conv => whnf); refine ⟨_, PCx_pre (hg2) ?_, ?_⟩; focus ((repeat' first | (with_reducible first | exact ⟨⟩ | exact rfl | exact lr _) | ((conv => whnf); with_reducible first | apply And.intro | exact ⟨⟩) | exact rfl | exact id | assumption | exact lr _); done)) | (refine Or.inl (Or.inr ?_); (conv => whnf); refine ⟨_, _, GCx_pre (hco) ?_, ?_⟩; focus ((repeat' first | (with_reducible first | exact ⟨⟩ | exact rfl | exact lr _) | ((conv => whnf); with_reducible first | apply And.intro | exact ⟨⟩) | exact rfl | exact id | assumption | exact lr _); done)) | ((with_reducible apply And.intro); focus (first | rfl | exact Nat.le_of_ble_eq_true rfl | omega | (simp only [List.length_cons, List.length_nil, List.length_map, List.length_append]; omega))))
  all_goals
    repeat' first | (with_reducible first | exact ⟨⟩ | exact rfl | exact lr _) | ((conv => whnf); with_reducible first | apply And.intro | exact ⟨⟩) | exact rfl | exact id | exact lr _
    all_goals try (conv => whnf)
theorem tickF6_c (g1 : goneR now x.born 9 = false) (eb0 : decide ((x.bad.length : Int) > 0) = true) (g2 : goneR now x.since 3 = false) (hren : GCx Try.prog 20 [.ptr 1 0, .pv (slP known)] [(1, .var (x.v (.pv (slP x.heard)) (.pv (slP x.none)) (.pv (slP x.has)) (.slw 2 0) (.slw 3 0) (.pv (.sc (.slice none 0 0))))), (2, .arr 49 0 2 (x.frags.map Fr.c)), (3, .arr 38 0 2 (x.bad.map Pl.c))] (.pv (bl false)) [(1, .var (({ x with bad := [] } : Rv).v (.pv (slP x.heard)) (.pv (slP x.none)) (.pv (slP x.has)) (.slw 2 0) (.pv (slP [])) (.pv (.sc (.slice none 0 0))))), (2, .arr 49 0 2 (x.frags.map Fr.c)), (3, .roa 0 2 (x.bad.map Pl.c))]) :
    PCx Try.prog 7 [.agg x.c, uu now, slP known] (.tup [.agg ({ x with bad := [] } : Rv).c, slR []]) := by
  refine PC.le ?_
  have p4 : (x.phase != 4) = true := by have : x.phase = 3 := by simpa using p3
                                        rw [this]; rfl
  have hg1 := gone_c now x.born 9 hnow hbo
  have hg2 := gone_c now x.since 3 hnow hsi
  rw [g1] at hg1
  rw [g2] at hg2
  have eb : decide (((List.map Pl.c x.bad).length : Int) > 0) = true := by rw [List.length_map]; exact eb0
  try simp only at eb
  have hown := ownFB_g x hsm
  clear hsm hk hnow hsi hbo hff hn hw g1 g2 eb0
  refine PC_of_VC tabOk (draw_ok mixed tabOk) fn_rcTick rfl ?_
  repeat' ((conv => whnf); first | with_reducible refine (Or.inl ?_ : VC _ _ _ _ _ ∨ _) | ((with_reducible refine fk (fun hc => ?_) fun hc => ?_) <;> first | exact absurd hc (by decide) | (exfalso; simp only [*, reduceCtorEq] at hc; done) | skip) | (refine Or.inl (Or.inr ?_); (conv => whnf); refine ⟨_, _, GCx_pre (hown) ?_, ?_⟩; focus ((repeat' first | (with_reducible first | exact ⟨⟩ | exact rfl | exact lr _) | ((conv => whnf); with_reducible first | apply And.intro | exact ⟨⟩) | exact rfl | exact id | assumption | exact lr _); done)) | (refine Or.inl (Or.inl ?_); (conv => whnf); refine ⟨_, PCx_pre (hg1) ?_, ?_⟩; focus ((repeat' first | (with_reducible first | exact ⟨⟩ | exact rfl | exact lr _) | ((conv => whnf); with_reducible first | apply And.intro | exact ⟨⟩) | exact rfl | exact id | assumption | exact lr _); done)) | (refine Or.inl (Or.inl ?_); (conv => whnf); refine ⟨_, PCx_pre (hg2) ?_, ?_⟩; focus ((repeat' first | (with_reducible first | exact ⟨⟩ | exact rfl | exact lr _) | ((conv => whnf); with_reducible first | apply And.intro | exact ⟨⟩) | exact rfl | exact id | assumption | exact lr _); done)) | (refine Or.inl (Or.inr ?_); (conv => whnf); refine ⟨_, _, GCx_pre (hren) ?_, ?_⟩; focus ((repeat' first | (with_reducible first | exact ⟨⟩ | exact rfl | exact lr _) | ((conv => whnf); with_reducible first | apply And.intro | exact ⟨⟩) | exact rfl | exact id | assumption | exact lr _); done)) | ((with_reducible apply And.intro); focus (first | rfl | exact Nat.le_of_ble_eq_true rfl | omega | (simp only [List.length_cons, List.length_nil, List.length_map, List.length_append]; omega))))
  all_goals
    repeat' first | (with_reducible first | exact ⟨⟩ | exact rfl | exact lr _) | ((conv => whnf); with_reducible first | apply And.intro | exact ⟨⟩) | exact rfl | exact id | exact lr _
    all_goals try (conv => whnf)
theorem tickF7_c (g1 : goneR now x.born 9 = false) (eb0 : decide ((x.bad.length : Int) > 0) = true) (g2 : goneR now x.since 3 = true) (hren : GCx Try.prog 20 [.ptr 1 0, .pv (slP known)] [(1, .var (x.v (.pv (slP x.heard)) (.pv (slP x.none)) (.pv (slP x.has)) (.slw 2 0) (.slw 3 0) (.pv (.sc (.slice none 0 0))))), (2, .arr 49 0 2 (x.frags.map Fr.c)), (3, .arr 38 0 2 (x.bad.map Pl.c))] (.pv (bl false)) [(1, .var (({ x with bad := [] } : Rv).v (.pv (slP x.heard)) (.pv (slP x.none)) (.pv (slP x.has)) (.slw 2 0) (.pv (slP [])) (.pv (.sc (.slice none 0 0))))), (2, .arr 49 0 2 (x.frags.map Fr.c)), (3, .roa 0 2 (x.bad.map Pl.c))]) :
    PCx Try.prog 7 [.agg x.c, uu now, slP known] (.tup [.agg ({ x with bad := [], since := now } : Rv).c, slR (copiesQ ({ x with bad := [] } : Rv) (writesR ({ x with bad := [] } : Rv)))]) := by
  refine PC.le ?_
  have p4 : (x.phase != 4) = true := by have : x.phase = 3 := by simpa using p3
                                        rw [this]; rfl
  have hg1 := gone_c now x.born 9 hnow hbo
  have hg2 := gone_c now x.since 3 hnow hsi
  rw [g1] at hg1
  rw [g2] at hg2
  have eb : decide (((List.map Pl.c x.bad).length : Int) > 0) = true := by rw [List.length_map]; exact eb0
  try simp only at eb
  have hbody := hsm.bo
  have hco := copiesF_g ({ x with bad := [] } : Rv) now (by simpa using p3) hff (by show 0 ≤ x.n ∧ x.n ≤ 18446744073709551615; omega) (by show (writesR x).length ≤ 1000000; omega) hbody
  clear hbody
  have hown := ownFB_g x hsm
  clear hsm hk hnow hsi hbo hff hn hw g1 g2 eb0
  refine PC_of_VC tabOk (draw_ok mixed tabOk) fn_rcTick rfl ?_
  repeat' ((conv => whnf); first | with_reducible refine (Or.inl ?_ : VC _ _ _ _ _ ∨ _) | ((with_reducible refine fk (fun hc => ?_) fun hc => ?_) <;> first | exact absurd hc (by decide) | (exfalso; simp only [*, reduceCtorEq] at hc; done) | skip) | (refine Or.inl (Or.inr ?_); (conv => whnf); refine ⟨_, _, GCx_pre (hown) ?_, ?_⟩; focus ((repeat' first | (with_reducible first | exact ⟨⟩ | exact rfl | exact lr _) | ((conv => whnf); with_reducible first | apply And.intro | exact ⟨⟩) | exact rfl | exact id | assumption | exact lr _); done)) | (refine Or.inl (Or.inl ?_); (conv => whnf); refine ⟨_, PCx_pre (hg1) ?_, ?_⟩; focus ((repeat' first | (with_reducible first | exact ⟨⟩ | exact rfl | exact lr _) | ((conv => whnf); with_reducible first | apply And.intro | exact ⟨⟩) | exact rfl | exact id | assumption | exact lr _); done)) | (refine Or.inl (Or.inl ?_); (conv => whnf); refine ⟨_, PCx_pre (hg2) ?_, ?_⟩; focus ((repeat' first | (with_reducible first | exact ⟨⟩ | exact rfl | exact lr _) | ((conv => whnf); with_reducible first | apply And.intro | exact ⟨⟩) | exact rfl | exact id | assumption | exact lr _); done)) | (refine Or.inl (Or.inr ?_); (conv => whnf); refine ⟨_, _, GCx_pre (hren) ?_, ?_⟩; focus ((repeat' first | (with_reducible first | exact ⟨⟩ | exact rfl | exact lr _) | ((conv => whnf); with_reducible first | apply And.intro | exact ⟨⟩) | exact rfl | exact id | assumption | exact lr _); done)) | (refine Or.inl (Or.inr ?_); (conv => whnf); refine ⟨_, _, GCx_pre (hco) ?_, ?_⟩; focus ((repeat' first | (with_reducible first | exact ⟨⟩ | exact rfl | exact lr _) | ((conv => whnf); with_reducible first | apply And.intro | exact ⟨⟩) | exact rfl | exact id | assumption | exact lr _); done)) | ((with_reducible apply And.intro); focus (first | rfl | exact Nat.le_of_ble_eq_true rfl | omega | (simp only [List.length_cons, List.length_nil, List.length_map, List.length_append]; omega))))
  all_goals
    repeat' first | (with_reducible first | exact ⟨⟩ | exact rfl | exact lr _) | ((conv => whnf); with_reducible first | apply And.intro | exact ⟨⟩) | exact rfl | exact id | exact lr _
    all_goals try (conv => whnf)
theorem tickF3_c (g1 : goneR now x.born 9 = false) (eb0 : decide ((x.bad.length : Int) > 0) = true) (fr : List Fr) (hfr : frsOk fr) (hren : GCx Try.prog 20 [.ptr 1 0, .pv (slP known)] [(1, .var (x.v (.pv (slP x.heard)) (.pv (slP x.none)) (.pv (slP x.has)) (.slw 2 0) (.slw 3 0) (.pv (.sc (.slice none 0 0))))), (2, .arr 49 0 2 (x.frags.map Fr.c)), (3, .arr 38 0 2 (x.bad.map Pl.c))] (.pv (bl true)) [(1, .var (({ x with bad := [], frags := fr } : Rv).v (.pv (slP x.heard)) (.pv (slP x.none)) (.pv (slP x.has)) (.slw 1001 0) (.pv (slP [])) (.pv (.sc (.slice none 0 0))))), (1001, .arr 49 0 2 (fr.map Fr.c)), (2, .roa 1 2 []), (3, .roa 0 2 (x.bad.map Pl.c))]) (hwf : (setOf fr x.l.w x.n).length ≤ 1000) (hf : frsOk x.l.frags) (hs : ∀ n, (setOf x.l.frags x.l.w n).length ≤ 1000000) :
    PCx Try.prog 7 [.agg x.c, uu now, slP known] (.tup [.agg (enoughR ({ x with bad := [], frags := fr, phase := 3, born := now, since := now } : Rv) now).1.c, slR (copiesQ ({ x with bad := [], frags := fr, phase := 3, born := now, since := now } : Rv) (writesR ({ x with bad := [], frags := fr, phase := 3, born := now, since := now } : Rv)) ++ (enoughR ({ x with bad := [], frags := fr, phase := 3, born := now, since := now } : Rv) now).2)]) := by
  refine PC.le ?_
  have p4 : (x.phase != 4) = true := by have : x.phase = 3 := by simpa using p3
                                        rw [this]; rfl
  have hg1 := gone_c now x.born 9 hnow hbo
  have hg2 := gone_c now x.since 3 hnow hsi
  rw [g1] at hg1
  have eb : decide (((List.map Pl.c x.bad).length : Int) > 0) = true := by rw [List.length_map]; exact eb0
  try simp only at eb
  have hbody := hsm.bo
  have hco := copiesF_g ({ x with bad := [], frags := fr, phase := 3, born := now } : Rv) now rfl hfr (by show 0 ≤ x.n ∧ x.n ≤ 18446744073709551615; omega) (by show (setOf fr x.l.w x.n).length ≤ 1000000; omega) hbody
  have hql : (copiesQ ({ x with bad := [], frags := fr, phase := 3, born := now, since := now } : Rv) (writesR ({ x with bad := [], frags := fr, phase := 3, born := now, since := now } : Rv))).length ≤ 1000 := by
    unfold copiesQ
    rw [List.length_map]
    exact Nat.le_trans (List.length_filter_le _ _) hwf
  have hen := enoughO_g ({ x with bad := [], frags := fr, phase := 3, born := now, since := now } : Rv) (copiesQ ({ x with bad := [], frags := fr, phase := 3, born := now, since := now } : Rv) (writesR ({ x with bad := [], frags := fr, phase := 3, born := now, since := now } : Rv))) now hql hfr hn hf hs
  obtain ⟨u, hu⟩ : ∃ u, enoughR ({ x with bad := [], frags := fr, phase := 3, born := now, since := now } : Rv) now = u := ⟨_, rfl⟩
  have hfrs : u.1.frags = fr := by rw [← hu]; exact enoughR_frags _ _
  rw [hu] at hen ⊢
  have hco : GCx _ _ _ _ _ [(1, .var (({ x with bad := [], frags := fr, phase := 3, born := now, since := now } : Rv).v (.pv (slP x.heard)) (.pv (slP x.none)) (.pv (slP x.has)) (.slw 2 0) (.pv (slP [])) (.slw 1001 0))), (2, .roa 0 2 (fr.map Fr.c)), (1001, .arr 54 0 10 ((copiesQ ({ x with bad := [], frags := fr, phase := 3, born := now, since := now } : Rv) (writesR ({ x with bad := [], frags := fr, phase := 3, born := now, since := now } : Rv))).map Rq.c))] := hco
  obtain ⟨qq, hqq⟩ : ∃ qq, copiesQ ({ x with bad := [], frags := fr, phase := 3, born := now, since := now } : Rv) (writesR ({ x with bad := [], frags := fr, phase := 3, born := now, since := now } : Rv)) = qq := ⟨_, rfl⟩
  rw [hqq] at hco hen ⊢
  clear hu hqq hql hbody hwf hf hs hfr
  have hown := ownFB_g x hsm
  clear hsm hk hnow hsi hbo hff hn hw g1 eb0
  refine PC_of_VC tabOk (draw_ok mixed tabOk) fn_rcTick rfl ?_
  repeat' ((conv => whnf); first | with_reducible refine (Or.inl ?_ : VC _ _ _ _ _ ∨ _) | ((with_reducible refine fk (fun hc => ?_) fun hc => ?_) <;> first | exact absurd hc (by decide) | (exfalso; simp only [*, reduceCtorEq] at hc; done) | skip) | (refine Or.inl (Or.inr ?_); (conv => whnf); refine ⟨_, _, GCx_pre (hown) ?_, ?_⟩; focus ((repeat' first | (with_reducible first | exact ⟨⟩ | exact rfl | exact lr _) | ((conv => whnf); with_reducible first | apply And.intro | exact ⟨⟩) | exact rfl | exact id | assumption | exact lr _); done)) | (refine Or.inl (Or.inl ?_); (conv => whnf); refine ⟨_, PCx_pre (hg1) ?_, ?_⟩; focus ((repeat' first | (with_reducible first | exact ⟨⟩ | exact rfl | exact lr _) | ((conv => whnf); with_reducible first | apply And.intro | exact ⟨⟩) | exact rfl | exact id | assumption | exact lr _); done)) | (refine Or.inl (Or.inl ?_); (conv => whnf); refine ⟨_, PCx_pre (hg2) ?_, ?_⟩; focus ((repeat' first | (with_reducible first | exact ⟨⟩ | exact rfl | exact lr _) | ((conv => whnf); with_reducible first | apply And.intro | exact ⟨⟩) | exact rfl | exact id | assumption | exact lr _); done)) | (refine Or.inl (Or.inr ?_); (conv => whnf); refine ⟨_, _, GCx_pre (hren) ?_, ?_⟩; focus ((repeat' first | (with_reducible first | exact ⟨⟩ | exact rfl | exact lr _) | ((conv => whnf); with_reducible first | apply And.intro | exact ⟨⟩) | exact rfl | exact id | assumption | exact lr _); done)) | (refine Or.inr ?_; (conv => whnf); refine ⟨_, GI_of_VC tabOk (draw_ok mixed tabOk) fn_wBegin rfl ?_, fun _ _ h => h⟩) | (refine Or.inl (Or.inr ?_); (conv => whnf); refine ⟨_, _, GCx_pre (hco) ?_, ?_⟩; focus ((repeat' first | (with_reducible first | exact ⟨⟩ | exact rfl | exact lr _) | ((conv => whnf); with_reducible first | apply And.intro | exact ⟨⟩) | exact rfl | exact id | assumption | exact lr _); done)) | (refine Or.inl (Or.inr ?_); (conv => whnf); refine ⟨_, _, GCx_pre (hen) ?_, ?_⟩; focus ((repeat' first | (with_reducible first | exact ⟨⟩ | exact rfl | exact lr _) | ((conv => whnf); with_reducible first | apply And.intro | exact ⟨⟩) | exact rfl | exact id | assumption | exact lr _); done)) | ((with_reducible apply And.intro); focus (first | rfl | exact Nat.le_of_ble_eq_true rfl | omega | (simp only [List.length_cons, List.length_nil, List.length_map, List.length_append]; omega))))
  all_goals
    repeat' first | (with_reducible first | exact ⟨⟩ | exact rfl | exact lr _) | ((conv => whnf); with_reducible first | apply And.intro | exact ⟨⟩) | exact rfl | exact id | exact lr _
    all_goals try (conv => whnf)
  all_goals (rw [hfrs]; exact leRs_refl _)
end
end Go.Proofs.Ytpbjamihhkmgiaa.Tb

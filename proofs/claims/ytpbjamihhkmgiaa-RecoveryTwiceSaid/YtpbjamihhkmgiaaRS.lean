/-
  Contracts of functions of the program and of the document, each for every input that its premises name.
-/
import Derived.Test.YtpbjamihhkmgiaaRP
import Derived.Test.YtpbjamihhkmgiaaAe
set_option linter.unusedSectionVars false
set_option maxRecDepth 100000
set_option maxHeartbeats 4000000
set_option linter.unusedVariables false
set_option linter.unusedSimpArgs false
open Go Go.AX
namespace Go.Proofs.Ytpbjamihhkmgiaa.Tb
section
variable (x : Rv) (now : Int) (r : Rs)
theorem gotBN_g (hl : x.none.length ≤ 1000000) (hw : 0 ≤ x.l.w ∧ x.l.w ≤ 9223372036854775807) (ha : 0 ≤ x.l.a) (hf : frsOk x.l.frags) (hn : 0 ≤ x.n ∧ x.n ≤ 1000) (p2 : (x.phase == 2) = true) (k0 : (r.code == 0) = false) (k3 : (r.code == 3) = true) (h1 : (readsR x).any (· == r.from_) = true) (h2 : x.heard.any (· == r.from_) = true) (h3 : x.none.any (· == r.from_) = false) (h4 : missingP (readsR x) x.l.w x.l.a (x.none ++ [r.from_]) = false) :
    GCx Try.prog 27 [.ptr 1 0, .pv (uu now), .pv (.agg r.c)] [(1, .var (x.v (.pv (slP x.heard)) (.slw 2 0) (.pv (slP x.has)) (.pv (slF x.frags)) (.pv (slP x.bad)) (.pv (.sc (.slice none 0 0))))), (2, .arr 38 0 2 (x.none.map Pl.c))] (.pv (.tup []))
      [(1, .var (({ x with none := x.none ++ [r.from_], phase := x.phase } : Rv).v (.pv (slP x.heard)) (.slw 2 1) (.pv (slP x.has)) (.pv (slF x.frags)) (.pv (slP x.bad)) (.pv (.sc (.slice none 0 0))))), (2, .arr 38 1 2 ((x.none ++ [r.from_]).map Pl.c))] := by
  have hrd := readsN_g x [] hf (by omega)
  have hcr := containsPlace_c (readsR x) r.from_.node r.from_.serial
  have hch := containsPlace_c x.heard r.from_.node r.from_.serial
  have hcn := containsPlace_c x.none r.from_.node r.from_.serial
  rw [show ((readsR x).any fun y => y == (⟨r.from_.node, r.from_.serial⟩ : Pl)) = true from h1] at hcr
  rw [show (x.heard.any fun y => y == (⟨r.from_.node, r.from_.serial⟩ : Pl)) = true from h2] at hch
  rw [show (x.none.any fun y => y == (⟨r.from_.node, r.from_.serial⟩ : Pl)) = false from h3] at hcn
  have hmap : (x.none ++ [r.from_]).map Pl.c = x.none.map Pl.c ++ [r.from_.c] := by rw [List.map_append]; rfl
  have hr2 := readsN_g ({ x with none := x.none ++ [r.from_] } : Rv) [] hf (by simp only; omega)
  have hmi := sMissing_c (readsR x) x.l.w x.l.a (x.none ++ [r.from_]) hw ha
  rw [h4] at hmi
  simp only [slP, hmap] at hr2 hmi
  rw [slP] at hcn
  rw [show readsR ({ x with none := x.none ++ [r.from_] } : Rv) = readsR x from rfl] at hr2
  clear h1 h2 h3 h4 hw ha hf hn
  rw [hmap]
  refine GC_of_VC tabOk (draw_ok mixed tabOk) fn_wGot rfl ?_
  repeat' ((conv => whnf); first | with_reducible refine (Or.inl ?_ : VC _ _ _ _ _ ∨ _) | ((with_reducible refine fk (fun hc => ?_) fun hc => ?_) <;> first | exact absurd hc (by decide) | (exfalso; simp only [*, reduceCtorEq] at hc; done) | skip) | (refine Or.inr ?_; (conv => whnf); refine ⟨_, _, GCx_pre (hrd) ?_, ?_⟩; focus ((repeat' first | (with_reducible first | exact ⟨⟩ | exact rfl | exact lr _) | ((conv => whnf); with_reducible first | apply And.intro | exact ⟨⟩) | exact rfl | exact id | assumption | exact lr _); done)) | (refine Or.inl (Or.inl ?_); (conv => whnf); refine ⟨_, hcr, ?_⟩) | (refine Or.inl (Or.inl ?_); (conv => whnf); refine ⟨_, hch, ?_⟩) | (refine Or.inl (Or.inl ?_); (conv => whnf); refine ⟨_, PCx_pre (hcn) ?_, ?_⟩; focus ((repeat' first | (with_reducible first | exact ⟨⟩ | exact rfl | exact lr _) | ((conv => whnf); with_reducible first | apply And.intro | exact ⟨⟩) | exact rfl | exact id | assumption | exact lr _); done)) | (((with_reducible apply And.intro); focus (simp only [List.length_map, List.length_cons, List.length_nil]; omega))) | (refine Or.inr ?_; (conv => whnf); refine ⟨_, _, GCx_pre (hr2) ?_, ?_⟩; focus ((repeat' first | (with_reducible first | exact ⟨⟩ | exact rfl | exact lr _) | ((conv => whnf); with_reducible first | apply And.intro | exact ⟨⟩) | exact rfl | exact id | assumption | exact lr _); done)) | (refine Or.inl (Or.inl ?_); (conv => whnf); refine ⟨_, PCx_pre (hmi) ?_, ?_⟩; focus ((repeat' first | (with_reducible first | exact ⟨⟩ | exact rfl | exact lr _) | ((conv => whnf); with_reducible first | apply And.intro | exact ⟨⟩) | exact rfl | exact id | assumption | exact lr _); done)) | ((with_reducible apply And.intro); focus (first | rfl | exact Nat.le_of_ble_eq_true rfl | omega | (simp only [List.length_cons, List.length_nil, List.length_map, List.length_append]; omega))))
  refine ⟨_, _, ⟨rfl, rfl⟩, ?_⟩
  repeat' first | (with_reducible first | exact ⟨⟩ | exact rfl | exact lr _) | ((conv => whnf); with_reducible first | apply And.intro | exact ⟨⟩) | exact rfl | exact id | exact lr _
  all_goals try (conv => whnf)
theorem gotBE_g (hl : x.none.length ≤ 1000000) (hw : 0 ≤ x.l.w ∧ x.l.w ≤ 9223372036854775807) (ha : 0 ≤ x.l.a) (hf : frsOk x.l.frags) (hn : 0 ≤ x.n ∧ x.n ≤ 1000) (p2 : (x.phase == 2) = true) (k0 : (r.code == 0) = false) (k3 : (r.code == 3) = true) (h1 : (readsR x).any (· == r.from_) = true) (h2 : x.heard.any (· == r.from_) = true) (h3 : x.none.any (· == r.from_) = false) (h4 : missingP (readsR x) x.l.w x.l.a (x.none ++ [r.from_]) = true) :
    GCx Try.prog 27 [.ptr 1 0, .pv (uu now), .pv (.agg r.c)] [(1, .var (x.v (.pv (slP x.heard)) (.slw 2 0) (.pv (slP x.has)) (.pv (slF x.frags)) (.pv (slP x.bad)) (.pv (.sc (.slice none 0 0))))), (2, .arr 38 0 2 (x.none.map Pl.c))] (.pv (.tup []))
      [(1, .var (({ x with none := x.none ++ [r.from_], phase := 4 } : Rv).v (.pv (slP x.heard)) (.slw 2 1) (.pv (slP x.has)) (.pv (slF x.frags)) (.pv (slP x.bad)) (.pv (.sc (.slice none 0 0))))), (2, .arr 38 1 2 ((x.none ++ [r.from_]).map Pl.c))] := by
  have hrd := readsN_g x [] hf (by omega)
  have hcr := containsPlace_c (readsR x) r.from_.node r.from_.serial
  have hch := containsPlace_c x.heard r.from_.node r.from_.serial
  have hcn := containsPlace_c x.none r.from_.node r.from_.serial
  rw [show ((readsR x).any fun y => y == (⟨r.from_.node, r.from_.serial⟩ : Pl)) = true from h1] at hcr
  rw [show (x.heard.any fun y => y == (⟨r.from_.node, r.from_.serial⟩ : Pl)) = true from h2] at hch
  rw [show (x.none.any fun y => y == (⟨r.from_.node, r.from_.serial⟩ : Pl)) = false from h3] at hcn
  have hmap : (x.none ++ [r.from_]).map Pl.c = x.none.map Pl.c ++ [r.from_.c] := by rw [List.map_append]; rfl
  have hr2 := readsN_g ({ x with none := x.none ++ [r.from_] } : Rv) [] hf (by simp only; omega)
  have hmi := sMissing_c (readsR x) x.l.w x.l.a (x.none ++ [r.from_]) hw ha
  rw [h4] at hmi
  simp only [slP, hmap] at hr2 hmi
  rw [slP] at hcn
  rw [show readsR ({ x with none := x.none ++ [r.from_] } : Rv) = readsR x from rfl] at hr2
  clear h1 h2 h3 h4 hw ha hf hn
  rw [hmap]
  refine GC_of_VC tabOk (draw_ok mixed tabOk) fn_wGot rfl ?_
  repeat' ((conv => whnf); first | with_reducible refine (Or.inl ?_ : VC _ _ _ _ _ ∨ _) | ((with_reducible refine fk (fun hc => ?_) fun hc => ?_) <;> first | exact absurd hc (by decide) | (exfalso; simp only [*, reduceCtorEq] at hc; done) | skip) | (refine Or.inr ?_; (conv => whnf); refine ⟨_, _, GCx_pre (hrd) ?_, ?_⟩; focus ((repeat' first | (with_reducible first | exact ⟨⟩ | exact rfl | exact lr _) | ((conv => whnf); with_reducible first | apply And.intro | exact ⟨⟩) | exact rfl | exact id | assumption | exact lr _); done)) | (refine Or.inl (Or.inl ?_); (conv => whnf); refine ⟨_, hcr, ?_⟩) | (refine Or.inl (Or.inl ?_); (conv => whnf); refine ⟨_, hch, ?_⟩) | (refine Or.inl (Or.inl ?_); (conv => whnf); refine ⟨_, PCx_pre (hcn) ?_, ?_⟩; focus ((repeat' first | (with_reducible first | exact ⟨⟩ | exact rfl | exact lr _) | ((conv => whnf); with_reducible first | apply And.intro | exact ⟨⟩) | exact rfl | exact id | assumption | exact lr _); done)) | (((with_reducible apply And.intro); focus (simp only [List.length_map, List.length_cons, List.length_nil]; omega))) | (refine Or.inr ?_; (conv => whnf); refine ⟨_, _, GCx_pre (hr2) ?_, ?_⟩; focus ((repeat' first | (with_reducible first | exact ⟨⟩ | exact rfl | exact lr _) | ((conv => whnf); with_reducible first | apply And.intro | exact ⟨⟩) | exact rfl | exact id | assumption | exact lr _); done)) | (refine Or.inl (Or.inl ?_); (conv => whnf); refine ⟨_, PCx_pre (hmi) ?_, ?_⟩; focus ((repeat' first | (with_reducible first | exact ⟨⟩ | exact rfl | exact lr _) | ((conv => whnf); with_reducible first | apply And.intro | exact ⟨⟩) | exact rfl | exact id | assumption | exact lr _); done)) | ((with_reducible apply And.intro); focus (first | rfl | exact Nat.le_of_ble_eq_true rfl | omega | (simp only [List.length_cons, List.length_nil, List.length_map, List.length_append]; omega))))
  refine ⟨_, _, ⟨rfl, rfl⟩, ?_⟩
  repeat' first | (with_reducible first | exact ⟨⟩ | exact rfl | exact lr _) | ((conv => whnf); with_reducible first | apply And.intro | exact ⟨⟩) | exact rfl | exact id | exact lr _
  all_goals try (conv => whnf)
theorem gotC0_g (hf : frsOk x.l.frags) (hn : 0 ≤ x.n ∧ x.n ≤ 1000) (p2 : (x.phase == 2) = false) (p3 : (x.phase == 3) = true) (k0 : (r.code == 0) = true) (hb : r.body = x.body) (h : x.has.any (· == r.from_) = true) :
    GCx Try.prog 27 [.ptr 1 0, .pv (uu now), .pv (.agg r.c)] [(1, .var (x.v (.pv (slP x.heard)) (.pv (slP x.none)) (.slw 2 0) (.pv (slF x.frags)) (.pv (slP x.bad)) (.pv (.sc (.slice none 0 0))))), (2, .arr 38 0 2 (x.has.map Pl.c))] (.pv (.tup []))
      [(1, .var (x.v (.pv (slP x.heard)) (.pv (slP x.none)) (.slw 2 0) (.pv (slF x.frags)) (.pv (slP x.bad)) (.pv (.sc (.slice none 0 0))))), (2, .arr 38 0 2 (x.has.map Pl.c))] := by
  have hrd := readsS_g x [] hf (by omega)
  have hcr := containsPlace_c (readsR x) r.from_.node r.from_.serial
  have hB : ((⟨r.body.toArray⟩ : ByteArray).toList == (⟨x.body.toArray⟩ : ByteArray).toList) = true := by rw [bsl_beq]; exact decide_eq_true hb
  have hh := has0_g x now r.from_ h
  clear h hb hf hn
  refine GC_of_VC tabOk (draw_ok mixed tabOk) fn_wGot rfl ?_
  repeat' ((conv => whnf); first | with_reducible refine (Or.inl ?_ : VC _ _ _ _ _ ∨ _) | ((with_reducible refine fk (fun hc => ?_) fun hc => ?_) <;> first | exact absurd hc (by decide) | (exfalso; simp only [*, reduceCtorEq] at hc; done) | skip) | (refine Or.inr ?_; (conv => whnf); refine ⟨_, _, GCx_pre (hrd) ?_, ?_⟩; focus ((repeat' first | (with_reducible first | exact ⟨⟩ | exact rfl | exact lr _) | ((conv => whnf); with_reducible first | apply And.intro | exact ⟨⟩) | exact rfl | exact id | assumption | exact lr _); done)) | (refine Or.inl (Or.inl ?_); (conv => whnf); refine ⟨_, hcr, ?_⟩) | ((refine ⟨r.body, rfl, ?_⟩)) | ((refine ⟨x.body, rfl, ?_⟩)) | (refine Or.inl (Or.inr ?_); (conv => whnf); refine ⟨_, _, GCx_pre (hh) ?_, ?_⟩; focus ((repeat' first | (with_reducible first | exact ⟨⟩ | exact rfl | exact lr _) | ((conv => whnf); with_reducible first | apply And.intro | exact ⟨⟩) | exact rfl | exact id | assumption | exact lr _); done)) | ((with_reducible apply And.intro); focus (first | rfl | exact Nat.le_of_ble_eq_true rfl | omega | (simp only [List.length_cons, List.length_nil, List.length_map, List.length_append]; omega))))
  all_goals
    refine ⟨_, _, ⟨rfl, rfl⟩, ?_⟩
    repeat' first | (with_reducible first | exact ⟨⟩ | exact rfl | exact lr _) | ((conv => whnf); with_reducible first | apply And.intro | exact ⟨⟩) | exact rfl | exact id | exact lr _
    all_goals try (conv => whnf)
theorem gotCN_g (hf : frsOk x.l.frags) (hn : 0 ≤ x.n ∧ x.n ≤ 1000) (p2 : (x.phase == 2) = false) (p3 : (x.phase == 3) = true) (k0 : (r.code == 0) = true) (hb : r.body = x.body) (h : x.has.any (· == r.from_) = false) (hl : x.has.length ≤ 1000000) (hff : frsOk x.frags) (ha : ackedP (writesR x) x.l.a (x.has ++ [r.from_]) = false) :
    GCx Try.prog 27 [.ptr 1 0, .pv (uu now), .pv (.agg r.c)] [(1, .var (x.v (.pv (slP x.heard)) (.pv (slP x.none)) (.slw 2 0) (.pv (slF x.frags)) (.pv (slP x.bad)) (.pv (.sc (.slice none 0 0))))), (2, .arr 38 0 2 (x.has.map Pl.c))] (.pv (.tup []))
      [(1, .var (({ x with has := x.has ++ [r.from_] } : Rv).v (.pv (slP x.heard)) (.pv (slP x.none)) (.slw 2 1) (.pv (slF x.frags)) (.pv (slP x.bad)) (.pv (.sc (.slice none 0 0))))), (2, .arr 38 1 2 ((x.has ++ [r.from_]).map Pl.c))] := by
  have hrd := readsS_g x [] hf (by omega)
  have hcr := containsPlace_c (readsR x) r.from_.node r.from_.serial
  have hB : ((⟨r.body.toArray⟩ : ByteArray).toList == (⟨x.body.toArray⟩ : ByteArray).toList) = true := by rw [bsl_beq]; exact decide_eq_true hb
  have hh := hasN_g x now r.from_ h hl hff hn ha
  clear h hb hf hn ha hl hff
  refine GC_of_VC tabOk (draw_ok mixed tabOk) fn_wGot rfl ?_
  repeat' ((conv => whnf); first | with_reducible refine (Or.inl ?_ : VC _ _ _ _ _ ∨ _) | ((with_reducible refine fk (fun hc => ?_) fun hc => ?_) <;> first | exact absurd hc (by decide) | (exfalso; simp only [*, reduceCtorEq] at hc; done) | skip) | (refine Or.inr ?_; (conv => whnf); refine ⟨_, _, GCx_pre (hrd) ?_, ?_⟩; focus ((repeat' first | (with_reducible first | exact ⟨⟩ | exact rfl | exact lr _) | ((conv => whnf); with_reducible first | apply And.intro | exact ⟨⟩) | exact rfl | exact id | assumption | exact lr _); done)) | (refine Or.inl (Or.inl ?_); (conv => whnf); refine ⟨_, hcr, ?_⟩) | ((refine ⟨r.body, rfl, ?_⟩)) | ((refine ⟨x.body, rfl, ?_⟩)) | (refine Or.inl (Or.inr ?_); (conv => whnf); refine ⟨_, _, GCx_pre (hh) ?_, ?_⟩; focus ((repeat' first | (with_reducible first | exact ⟨⟩ | exact rfl | exact lr _) | ((conv => whnf); with_reducible first | apply And.intro | exact ⟨⟩) | exact rfl | exact id | assumption | exact lr _); done)) | ((with_reducible apply And.intro); focus (first | rfl | exact Nat.le_of_ble_eq_true rfl | omega | (simp only [List.length_cons, List.length_nil, List.length_map, List.length_append]; omega))))
  all_goals
    refine ⟨_, _, ⟨rfl, rfl⟩, ?_⟩
    repeat' first | (with_reducible first | exact ⟨⟩ | exact rfl | exact lr _) | ((conv => whnf); with_reducible first | apply And.intro | exact ⟨⟩) | exact rfl | exact id | exact lr _
    all_goals try (conv => whnf)
theorem gotCE_g (hf : frsOk x.l.frags) (hn : 0 ≤ x.n ∧ x.n ≤ 1000) (p2 : (x.phase == 2) = false) (p3 : (x.phase == 3) = true) (k0 : (r.code == 0) = true) (hb : r.body = x.body) (h : x.has.any (· == r.from_) = false) (hl : x.has.length ≤ 1000000) (hff : frsOk x.frags) (ha : ackedP (writesR x) x.l.a (x.has ++ [r.from_]) = true) (h8 : 8 < x.n + 1) :
    GCx Try.prog 27 [.ptr 1 0, .pv (uu now), .pv (.agg r.c)] [(1, .var (x.v (.pv (slP x.heard)) (.pv (slP x.none)) (.slw 2 0) (.pv (slF x.frags)) (.pv (slP x.bad)) (.pv (.sc (.slice none 0 0))))), (2, .arr 38 0 2 (x.has.map Pl.c))] (.pv (.tup []))
      [(1, .var ((goOnR { x with has := x.has ++ [r.from_] } (x.n + 1) now).1.v (.pv (slP x.heard)) (.pv (slP [])) (.pv (slP [])) (.pv (slF x.frags)) (.pv (slP [])) (.pv (.sc (.slice none 0 0))))), (2, .arr 38 1 2 ((x.has ++ [r.from_]).map Pl.c))] := by
  have hrd := readsS_g x [] hf (by omega)
  have hcr := containsPlace_c (readsR x) r.from_.node r.from_.serial
  have hB : ((⟨r.body.toArray⟩ : ByteArray).toList == (⟨x.body.toArray⟩ : ByteArray).toList) = true := by rw [bsl_beq]; exact decide_eq_true hb
  have hh := hasE_g x now r.from_ h hl hff hn ha h8
  clear h hb hf hn ha hl hff h8
  refine GC_of_VC tabOk (draw_ok mixed tabOk) fn_wGot rfl ?_
  repeat' ((conv => whnf); first | with_reducible refine (Or.inl ?_ : VC _ _ _ _ _ ∨ _) | ((with_reducible refine fk (fun hc => ?_) fun hc => ?_) <;> first | exact absurd hc (by decide) | (exfalso; simp only [*, reduceCtorEq] at hc; done) | skip) | (refine Or.inr ?_; (conv => whnf); refine ⟨_, _, GCx_pre (hrd) ?_, ?_⟩; focus ((repeat' first | (with_reducible first | exact ⟨⟩ | exact rfl | exact lr _) | ((conv => whnf); with_reducible first | apply And.intro | exact ⟨⟩) | exact rfl | exact id | assumption | exact lr _); done)) | (refine Or.inl (Or.inl ?_); (conv => whnf); refine ⟨_, hcr, ?_⟩) | ((refine ⟨r.body, rfl, ?_⟩)) | ((refine ⟨x.body, rfl, ?_⟩)) | (refine Or.inl (Or.inr ?_); (conv => whnf); refine ⟨_, _, GCx_pre (hh) ?_, ?_⟩; focus ((repeat' first | (with_reducible first | exact ⟨⟩ | exact rfl | exact lr _) | ((conv => whnf); with_reducible first | apply And.intro | exact ⟨⟩) | exact rfl | exact id | assumption | exact lr _); done)) | ((with_reducible apply And.intro); focus (first | rfl | exact Nat.le_of_ble_eq_true rfl | omega | (simp only [List.length_cons, List.length_nil, List.length_map, List.length_append]; omega))))
  all_goals
    refine ⟨_, _, ⟨rfl, rfl⟩, ?_⟩
    repeat' first | (with_reducible first | exact ⟨⟩ | exact rfl | exact lr _) | ((conv => whnf); with_reducible first | apply And.intro | exact ⟨⟩) | exact rfl | exact id | exact lr _
    all_goals try (conv => whnf)
theorem gotCA_g (hf : frsOk x.l.frags) (hn : 0 ≤ x.n ∧ x.n ≤ 1000) (p2 : (x.phase == 2) = false) (p3 : (x.phase == 3) = true) (k0 : (r.code == 0) = true) (hb : r.body = x.body) (h : x.has.any (· == r.from_) = false) (hl : x.has.length ≤ 1000000) (hff : frsOk x.frags) (ha : ackedP (writesR x) x.l.a (x.has ++ [r.from_]) = true) (h8 : x.n + 1 ≤ 8) (hs : ∀ n, (setOf x.l.frags x.l.w n).length ≤ 1000000) :
    GCx Try.prog 27 [.ptr 1 0, .pv (uu now), .pv (.agg r.c)] [(1, .var (x.v (.pv (slP x.heard)) (.pv (slP x.none)) (.slw 2 0) (.pv (slF x.frags)) (.pv (slP x.bad)) (.pv (.sc (.slice none 0 0))))), (2, .arr 38 0 2 (x.has.map Pl.c))] (.pv (.tup []))
      [(1, .var ((goOnR { x with has := x.has ++ [r.from_] } (x.n + 1) now).1.v (.pv (slP x.heard)) (.pv (slP [])) (.pv (slP [])) (.pv (slF x.frags)) (.pv (slP [])) (.slw 1001 0))), (2, .arr 38 1 2 ((x.has ++ [r.from_]).map Pl.c)), (1001, .arr 54 0 10 ((goOnR { x with has := x.has ++ [r.from_] } (x.n + 1) now).2.map Rq.c))] := by
  have hrd := readsS_g x [] hf (by omega)
  have hcr := containsPlace_c (readsR x) r.from_.node r.from_.serial
  have hB : ((⟨r.body.toArray⟩ : ByteArray).toList == (⟨x.body.toArray⟩ : ByteArray).toList) = true := by rw [bsl_beq]; exact decide_eq_true hb
  have hh := hasA_g x now r.from_ h hl hff hn ha h8 hf hs
  clear h hb hf hn ha hl hff h8 hs
  refine GC_of_VC tabOk (draw_ok mixed tabOk) fn_wGot rfl ?_
  repeat' ((conv => whnf); first | with_reducible refine (Or.inl ?_ : VC _ _ _ _ _ ∨ _) | ((with_reducible refine fk (fun hc => ?_) fun hc => ?_) <;> first | exact absurd hc (by decide) | (exfalso; simp only [*, reduceCtorEq] at hc; done) | skip) | (refine Or.inr ?_; (conv => whnf); refine ⟨_, _, GCx_pre (hrd) ?_, ?_⟩; focus ((repeat' first | (with_reducible first | exact ⟨⟩ | exact rfl | exact lr _) | ((conv => whnf); with_reducible first | apply And.intro | exact ⟨⟩) | exact rfl | exact id | assumption | exact lr _); done)) | (refine Or.inl (Or.inl ?_); (conv => whnf); refine ⟨_, hcr, ?_⟩) | ((refine ⟨r.body, rfl, ?_⟩)) | ((refine ⟨x.body, rfl, ?_⟩)) | (refine Or.inl (Or.inr ?_); (conv => whnf); refine ⟨_, _, GCx_pre (hh) ?_, ?_⟩; focus ((repeat' first | (with_reducible first | exact ⟨⟩ | exact rfl | exact lr _) | ((conv => whnf); with_reducible first | apply And.intro | exact ⟨⟩) | exact rfl | exact id | assumption | exact lr _); done)) | ((with_reducible apply And.intro); focus (first | rfl | exact Nat.le_of_ble_eq_true rfl | omega | (simp only [List.length_cons, List.length_nil, List.length_map, List.length_append]; omega))))
  all_goals
    refine ⟨_, _, ⟨rfl, rfl⟩, ?_⟩
    repeat' first | (with_reducible first | exact ⟨⟩ | exact rfl | exact lr _) | ((conv => whnf); with_reducible first | apply And.intro | exact ⟨⟩) | exact rfl | exact id | exact lr _
    all_goals try (conv => whnf)
end
end Go.Proofs.Ytpbjamihhkmgiaa.Tb

/-
  Contracts of functions of the program and of the document, each for every input that its premises name.
-/
import Derived.Test.YtfoiekbkkbnpkaaGreatAe
import Derived.Test.YtfoiekbkkbnpkaaGreatChecked
import Derived.KernelRfl
set_option linter.unusedSectionVars false
set_option linter.unusedVariables false
set_option linter.unusedSimpArgs false
set_option maxRecDepth 100000
set_option maxHeartbeats 4000000
set_option linter.unnecessarySimpa false
section
open Go Go.Proofs.Tryz Go.AX
namespace Go.Proofs.YtfoiekbkkbnpkaaGreat.Tb
def i3:TI:=⟨1,8,[.int .i64 0],.Bc .i64,none⟩
def i4:TI:=⟨1,1,[.bool false],.YC,none⟩
def i5:TI:=⟨1,1,[.int .u8 0],.Bc .u8,none⟩
def i9:TI:=⟨1,16,[.string ByteArray.empty],.LB,none⟩
def i22:TI:=⟨1,8,[.int .u64 0],.Bc .u64,none⟩
def i23:TI:=⟨1,24,[.slice none 0 0],.slt 48,none⟩
def i25:TI:=⟨6,64,[.int .u64 0,.int .i64 0,.int .i64 0,.slice none 0 0,.int .i64 0,.int .u64 0],.str [(0,22),(1,3),(2,3),(3,23),(4,3),(5,22)],none⟩
def i27:TI:=⟨2,16,[.int .i64 0,.int .u64 0],.str [(0,3),(1,22)],some [.int .i64,.int .u64]⟩
def i28:TI:=⟨1,24,[.slice none 0 0],.slt 27,none⟩
def i29:TI:=⟨1,24,[.slice none 0 0],.slt 5,none⟩
def i31:TI:=⟨16,176,[.int .u64 0,.int .i64 0,.int .i64 0,.slice none 0 0,.int .i64 0,.int .u64 0,.int .i64 0,.int .u64 0,.int .i64 0,.int .u64 0,.int .i64 0,.int .u64 0,.slice none 0 0,.slice none 0 0,.int .u64 0,.int .u64 0],.str [(0,25),(6,27),(8,27),(10,3),(11,22),(12,28),(13,29),(14,22),(15,22)],none⟩
def i33:TI:=⟨9,88,[.int .i64 0,.int .u64 0,.int .i64 0,.int .i64 0,.int .u64 0,.int .u64 0,.int .u64 0,.int .u64 0,.slice none 0 0],.str [(0,27),(2,3),(3,3),(4,22),(5,22),(6,22),(7,22),(8,29)],none⟩
def i38:TI:=⟨1,24,[.slice none 0 0],.slt 93,none⟩
def i44:TI:=⟨1,24,[.slice none 0 0],.slt 63,none⟩
def i46:TI:=⟨1,24,[.slice none 0 0],.slt 145,none⟩
def i48:TI:=⟨2,32,[.int .u64 0,.slice none 0 0],.str [(0,22),(1,28)],none⟩
def i50:TI:=⟨14,176,[.int .u64 0,.int .i64 0,.int .i64 0,.slice none 0 0,.int .i64 0,.int .u64 0,.int .u64 0,.int .u64 0,.int .u64 0,.slice none 0 0,.slice none 0 0,.int .u64 0,.slice none 0 0,.int .i64 0],.str [(0,25),(6,22),(7,22),(8,22),(9,46),(10,28),(11,48),(13,3)],none⟩
def i51:TI:=⟨1,8,[.int .i64 0],.Bc .i64,none⟩
def i55:TI:=⟨1,8,[.pointer none],.He 61,none⟩
def i57:TI:=⟨1,24,[.slice none 0 0],.slt 136,none⟩
def i58:TI:=⟨1,24,[.slice none 0 0],.slt 140,none⟩
def i59:TI:=⟨1,24,[.slice none 0 0],.slt 9,none⟩
def i61:TI:=⟨22,320,[.int .u64 0,.int .i64 0,.int .i64 0,.slice none 0 0,.int .i64 0,.int .u64 0,.int .u64 0,.int .u64 0,.int .u64 0,.slice none 0 0,.slice none 0 0,.int .u64 0,.slice none 0 0,.int .i64 0,.slice none 0 0,.int .u64 0,.slice none 0 0,.int .i64 0,.int .u64 0,.slice none 0 0,.slice none 0 0,.slice none 0 0],.str [(0,50),(14,23),(15,48),(17,3),(18,22),(19,57),(20,58),(21,59)],none⟩
def i63:TI:=⟨8,96,[.int .i64 0,.int .i64 0,.int .i64 0,.int .i64 0,.int .i64 0,.int .i64 0,.slice none 0 0,.slice none 0 0],.str [(0,3),(1,3),(2,3),(3,3),(4,3),(5,3),(6,29),(7,28)],none⟩
def i75:TI:=⟨1,24,[.slice none 0 0],.slt 81,none⟩
def i77:TI:=⟨1,8,[.pointer none],.He 89,none⟩
def i81:TI:=⟨7,88,[.int .i64 0,.int .i64 0,.int .i64 0,.int .i64 0,.int .i64 0,.slice none 0 0,.slice none 0 0],.str [(0,3),(1,3),(2,3),(3,3),(4,3),(5,29),(6,28)],none⟩
def i84:TI:=⟨18,256,[.int .u64 0,.int .i64 0,.int .i64 0,.slice none 0 0,.int .i64 0,.int .u64 0,.int .u64 0,.int .i64 0,.slice none 0 0,.int .u64 0,.int .u64 0,.slice none 0 0,.slice none 0 0,.slice none 0 0,.slice none 0 0,.slice none 0 0,.int .u64 0,.int .u64 0],.str [(0,25),(6,22),(7,3),(8,28),(9,22),(10,22),(11,28),(12,28),(13,29),(14,23),(15,28),(16,22),(17,22)],none⟩
def i85:TI:=⟨1,24,[.slice none 0 0],.slt 95,none⟩
def i86:TI:=⟨1,24,[.slice none 0 0],.slt 202,none⟩
def i87:TI:=⟨1,24,[.slice none 0 0],.slt 221,none⟩
def i89:TI:=⟨49,680,[.int .u64 0,.int .i64 0,.int .i64 0,.slice none 0 0,.int .i64 0,.int .u64 0,.int .u64 0,.int .i64 0,.int .i64 0,.slice none 0 0,.int .i64 0,.int .u64 0,.int .u64 0,.int .u64 0,.int .u64 0,.slice none 0 0,.slice none 0 0,.int .u64 0,.slice none 0 0,.int .i64 0,.int .u64 0,.int .i64 0,.int .i64 0,.slice none 0 0,.int .i64 0,.int .u64 0,.int .u64 0,.int .i64 0,.slice none 0 0,.int .u64 0,.int .u64 0,.slice none 0 0,.slice none 0 0,.slice none 0 0,.slice none 0 0,.slice none 0 0,.int .u64 0,.int .u64 0,.int .u64 0,.int .u64 0,.int .u64 0,.slice none 0 0,.bool false,.int .u64 0,.slice none 0 0,.slice none 0 0,.slice none 0 0,.slice none 0 0,.slice none 0 0],.str [(0,25),(6,50),(20,84),(38,22),(39,22),(40,48),(42,4),(43,22),(44,85),(45,86),(46,86),(47,87),(48,59)],none⟩
def i91:TI:=⟨1,24,[.slice none 0 0],.slt 22,none⟩
def i93:TI:=⟨10,112,[.int .i64 0,.int .u64 0,.int .i64 0,.int .u64 0,.int .u64 0,.int .u64 0,.int .u64 0,.int .i64 0,.slice none 0 0,.slice none 0 0],.str [(0,27),(2,3),(3,22),(4,22),(5,22),(6,22),(7,3),(8,29),(9,91)],none⟩
def i95:TI:=⟨21,216,[.bool false,.int .u64 0,.int .i64 0,.int .u64 0,.int .i64 0,.int .u64 0,.int .u64 0,.int .u64 0,.int .u64 0,.int .i64 0,.slice none 0 0,.slice none 0 0,.int .i64 0,.int .u64 0,.int .i64 0,.int .i64 0,.int .u64 0,.int .u64 0,.int .u64 0,.int .u64 0,.slice none 0 0],.str [(0,4),(1,22),(2,93),(12,33)],none⟩
def ami:TI:=⟨1,24,[.slice none 0 0],.slt 25,none⟩
def i105:TI:=⟨1,24,[.slice none 0 0],.slt 274,none⟩
def amj:TI:=⟨1,24,[.slice none 0 0],.slt 278,none⟩
def amk:TI:=⟨5,88,[.int .u64 0,.int .u64 0,.slice none 0 0,.slice none 0 0,.slice none 0 0],.str [(0,22),(1,22),(2,105),(3,104),(4,106)],none⟩
def aml:TI:=⟨1,8,[.nilFunc],.DV,none⟩
def amm:TI:=⟨1,8,[.pointer none],.He 31,none⟩
def i130:TI:=⟨15,200,[.int .u64 0,.int .i64 0,.int .i64 0,.slice none 0 0,.int .i64 0,.int .u64 0,.int .u64 0,.int .u64 0,.int .u64 0,.slice none 0 0,.slice none 0 0,.int .u64 0,.slice none 0 0,.int .i64 0,.slice none 0 0],.str [(0,50),(14,38)],none⟩
def i131:TI:=⟨1,8,[.pointer none],.He 130,none⟩
def amn:TI:=⟨20,208,[.bool false,.int .i64 0,.int .u64 0,.int .i64 0,.int .u64 0,.int .u64 0,.int .u64 0,.int .u64 0,.int .i64 0,.slice none 0 0,.slice none 0 0,.int .i64 0,.int .u64 0,.int .i64 0,.int .i64 0,.int .u64 0,.int .u64 0,.int .u64 0,.int .u64 0,.slice none 0 0],.str [(0,4),(1,93),(11,33)],none⟩
def amo:TI:=⟨4,40,[.int .i64 0,.int .u64 0,.int .u64 0,.string ByteArray.empty],.str [(0,27),(2,22),(3,9)],some [.int .i64,.int .u64,.int .u64,.str]⟩
def amq:TI:=⟨1,8,[.nilFunc],.DV,none⟩
def i143:TI:=⟨1,8,[.pointer none],.He 145,none⟩
def i145:TI:=⟨5,72,[.int .u64 0,.slice none 0 0,.slice none 0 0,.int .u64 0,.int .u64 0],.str [(0,22),(1,29),(2,28),(3,22),(4,22)],none⟩
def amr:TI:=⟨1,8,[.nilFunc],.DV,none⟩
def ams:TI:=⟨1,8,[.nilFunc],.DV,none⟩
def amt:TI:=⟨1,8,[.nilFunc],.DV,none⟩
def i182:TI:=⟨1,8,[.nilFunc],.DV,none⟩
def amu:TI:=⟨1,24,[.slice none 0 0],.slt 145,none⟩
def amv:TI:=⟨1,8,[.pointer none],.He 195,none⟩
def amw:TI:=⟨19,280,[.int .u64 0,.int .i64 0,.int .i64 0,.slice none 0 0,.int .i64 0,.int .u64 0,.int .u64 0,.int .i64 0,.slice none 0 0,.int .u64 0,.int .u64 0,.slice none 0 0,.slice none 0 0,.slice none 0 0,.slice none 0 0,.slice none 0 0,.int .u64 0,.int .u64 0,.slice none 0 0],.str [(0,84),(18,38)],none⟩
def amx:TI:=⟨4,40,[.int .i64 0,.int .u64 0,.int .u64 0,.string ByteArray.empty],.str [(0,27),(2,22),(3,9)],some [.int .i64,.int .u64,.int .u64,.str]⟩
def amy:TI:=⟨1,8,[.nilFunc],.DV,none⟩
def i210:TI:=⟨1,8,[.nilFunc],.DV,none⟩
def amz:TI:=⟨4,32,[.int .i64 0,.int .u64 0,.int .u64 0,.int .u64 0],.str [(0,27),(2,22),(3,22)],some [.int .i64,.int .u64,.int .u64,.int .u64]⟩
def i226:TI:=⟨1,8,[.nilFunc],.DV,none⟩
def i228:TI:=⟨1,8,[.nilFunc],.DV,none⟩
def i234:TI:=⟨1,8,[.int .u64 0],.Bc .u64,none⟩
def amA:TI:=⟨1,8,[.int .i64 0],.Bc .i64,none⟩
def amB:TI:=⟨1,4,[.int .u32 0],.Bc .u32,none⟩
def amC:TI:=⟨1,8,[.int .u64 0],.Bc .u64,none⟩
def amD:TI:=⟨1,8,[.pointer none],.He 3,none⟩
def amE:TI:=⟨1,24,[.slice none 0 0],.slt 281,none⟩
def amF:TI:=⟨1,24,[.slice none 0 0],.slt 283,none⟩
def amG:TI:=⟨9,120,[.int .u64 0,.int .i64 0,.int .u64 0,.int .u64 0,.int .u64 0,.int .u64 0,.slice none 0 0,.slice none 0 0,.slice none 0 0],.str [(0,22),(1,3),(2,22),(3,22),(4,22),(5,22),(6,91),(7,271),(8,272)],none⟩
def amH:TI:=⟨5,40,[.int .i64 0,.int .u64 0,.int .u64 0,.int .u64 0,.int .i64 0],.str [(0,51),(1,22),(2,22),(3,22),(4,3)],some [.int .i64,.int .u64,.int .u64,.int .u64,.int .i64]⟩
def amI:TI:=⟨8,64,[.int .i64 0,.int .u64 0,.int .u64 0,.int .i64 0,.int .u64 0,.int .u64 0,.int .u64 0,.int .i64 0],.str [(0,3),(1,22),(2,22),(3,276)],some [.int .i64,.int .u64,.int .u64,.int .i64,.int .u64,.int .u64,.int .u64,.int .i64]⟩
def amJ:TI:=⟨3,24,[.int .i64 0,.int .u64 0,.int .u64 0],.str [(0,3),(1,22),(2,22)],some [.int .i64,.int .u64,.int .u64]⟩
def amK:TI:=⟨2,16,[.int .i64 0,.int .u64 0],.str [(0,3),(1,22)],some [.int .i64,.int .u64]⟩
def tab:Tab:=[(3,i3),(4,i4),(5,i5),(9,i9),(22,i22),(23,i23),(25,i25),(27,i27),(28,i28),(29,i29),(31,i31),(33,i33),(38,i38),(44,i44),(46,i46),(48,i48),(50,i50),(51,i51),(55,i55),(57,i57),(58,i58),(59,i59),(61,i61),(63,i63),(75,i75),(77,i77),(81,i81),(84,i84),(85,i85),(86,i86),(87,i87),(89,i89),(91,i91),(93,i93),(95,i95),(104,ami),(105,i105),(106,amj),(108,amk),(115,aml),(121,amm),(130,i130),(131,i131),(136,amn),(140,amo),(142,amq),(143,i143),(145,i145),(153,amr),(166,ams),(177,amt),(182,i182),(187,amu),(191,amv),(195,amw),(202,amx),(207,amy),(210,i210),(221,amz),(226,i226),(228,i228),(234,i234),(237,amA),(245,amB),(247,amC),(251,amD),(271,amE),(272,amF),(274,amG),(276,amH),(278,amI),(281,amJ),(283,amK)]
theorem bV:dB prog tab:=jU <| jU <| jU <| jU <| jU <| jU <| jU <| jU <| jU <| jU <| jU <| jU <| jU <| jU <| jU <| jU <| jU <| jU <| jU <| jU <| jU <| jU <| jU <| jU <| jU <| jU <| jU <| jU <| jU <| jU <| jU <| jU <| jU <| jU <| jU <| jU <| jU <| jU <| jU <| jU <| jU <| jU <| jU <| jU <| jU <| jU <| jU <| jU <| jU <| jU <| jU <| jU <| jU <| jU <| jU <| jU <| jU <| jU <| jU <| jU <| jU <| jU <| jU <| jU <| jU <| jU <| jU <| jU <| jU <| jU <| jU <| jU <| jU <| ztn
theorem mixed:prog.follows .mixedOrders=true:=by kernel_rfl
theorem dQ {f:FuncId}{fn:Func}(G:bM prog f fn){args:List PV}{Q:PV→Prop}(h:afY args fun s=>VC prog tab (codeOf fn) s (fnK tab fn.results.toList Q))(J:Nat.ble args.length fn.ntmps=true:=by rfl):PC prog f args Q:=LX bV (bZ mixed bV) G J h
theorem fw {f:FuncId}{fn:Func}(G:bM prog f fn){args:List AV}{hp:List (Nat×aI)}{Q:AV→List (Nat×aI)→Prop}(h:XZ args hp fun s=>VC prog tab (codeOf fn) s (fnG tab fn.results.toList Q))(J:Nat.ble args.length fn.ntmps=true:=by rfl):GC prog f args hp Q:=zI bV (bZ mixed bV) G J h
theorem xR:bM prog 107 f107:=fO func107
theorem uo (l:List Pl)(a b:Int):dF prog 107 [av l,.agg [ii a,uu b]] (ii (uI (fun y=>y==⟨a,b⟩) l)):=by
 refine PC.le (pU xR fun K=>?_);have K:l.length≤9223372036854775807:=by simpa[IX,DU,av] using K
 refine dQ xR ?_;repeat' ((conv=>whnf);first|with_reducible apply aM|((with_reducible refine (⟨fun h=>?_,fun h=>?_⟩:(_=true→_)∧(_=false→_)))<;>first|exact absurd h (by decide)|(exfalso;simp only[*,reduceCtorEq] at h;done)|skip)|refine aK ?_|fail)
 refine⟨{k:Nat // k≤l.length∧∀j (S:j<l.length),j<k→(l[j]==⟨a,b⟩)=false},fun⟨k,_⟩=>⟨[(0,.pv (av l)),(3,.ptr 1003 0),(7,.pv (ii l.length)),(8,.pv (ii k))],1000000000,[(1003,.var [.pv (ii a),.pv (uu b)])]⟩,fun⟨k,_⟩=>l.length-k,⟨⟨0,by simp⟩,aD ?_⟩,?_⟩
 ·repeat' first|apply And.intro|exact aJ|fail
  all_goals try (conv=>whnf)
  simp
 rintro⟨k,V,J⟩
 repeat' ((conv=>whnf);first|with_reducible apply aM|((with_reducible refine (⟨fun h=>?_,fun h=>?_⟩:(_=true→_)∧(_=false→_)))<;>first|exact absurd h (by decide)|(exfalso;simp only[*,reduceCtorEq] at h;done)|skip)|refine aK ?_|fail)
 ·rename_i h;have G:k<l.length:=by simpa using h
  refine⟨_,dR _ _ _ G,?_⟩;repeat' ((conv=>whnf);first|with_reducible apply aM|((with_reducible refine (⟨fun h=>?_,fun h=>?_⟩:(_=true→_)∧(_=false→_)))<;>first|exact absurd h (by decide)|(exfalso;simp only[*,reduceCtorEq] at h;done)|skip)|refine aK ?_|fail)
  ·rename_i Q h;repeat' first|apply And.intro|exact aJ|fail
   all_goals try (conv=>whnf)
   exact (BG _ G J (by rw[←Pl.ajl];exact h)).symm
  rename_i Q h;repeat' ((conv=>whnf);first|with_reducible apply aM|((with_reducible refine (⟨fun h=>?_,fun h=>?_⟩:(_=true→_)∧(_=false→_)))<;>first|exact absurd h (by decide)|(exfalso;simp only[*,reduceCtorEq] at h;done)|skip)|refine aK ?_|fail)
  refine⟨⟨k+1,G,lF J fun _=>(by rw[←Pl.ajl];exact h)⟩,dec_lt G,aD ?_⟩;repeat' first|apply And.intro|exact aJ|fail
  all_goals try (conv=>whnf)
  exact bF (by omega) (by omega)
 rename_i h;repeat' first|apply And.intro|exact aJ|fail
 all_goals try (conv=>whnf)
 have:k=l.length:=by simp at h;omega
 subst this;exact (p9 _ (vQ J)).symm
theorem BZ:bM prog 52 f52:=fO func52
theorem aA (l:List Pl)(a b:Int):dF prog 52 [av l,.agg [ii a,uu b]] (bl (l.any (fun y=>y==⟨a,b⟩))):=by
 refine PC.le ?_;refine dQ BZ ?_;repeat' ((conv=>whnf);first|with_reducible apply aM|((with_reducible refine (⟨fun h=>?_,fun h=>?_⟩:(_=true→_)∧(_=false→_)))<;>first|exact absurd h (by decide)|(exfalso;simp only[*,reduceCtorEq] at h;done)|skip)|(apply bX;refine⟨_,uo _ _ _,?_⟩)|refine aK ?_|fail)
 repeat' first|apply And.intro|exact aJ|fail
 all_goals try (conv=>whnf)
 exact Qy _ _
theorem qQ:bM prog 98 f98:=fO func98
theorem nH (l:List Pl)(f:FuncId)(first J:List PV)(p:Pl→Bool)(hp:∀x∈l,dF prog f (first++([.agg x.c]++J)) (bl (p x))) :
  dF prog 98 [av l,.fn (.func f) first J] (ii (uI p l)):=by
 refine PC.le (pU qQ fun Q=>?_);have Q:l.length≤9223372036854775807:=by simpa[IX,DU,av] using Q
 refine dQ qQ ?_;repeat' ((conv=>whnf);first|with_reducible apply aM|((with_reducible refine (⟨fun h=>?_,fun h=>?_⟩:(_=true→_)∧(_=false→_)))<;>first|exact absurd h (by decide)|(exfalso;simp only[*,reduceCtorEq] at h;done)|skip)|refine aK ?_|fail)
 refine⟨{k:Nat // k≤l.length∧∀j (V:j<l.length),j<k→p l[j]=false},fun⟨k,_⟩=>⟨[(0,.pv (av l)),(1,.pv (.fn (.func f) first J)),(7,.pv (ii l.length)),(8,.pv (ii k))],1000000000,[]⟩,fun⟨k,_⟩=>l.length-k,⟨⟨0,by simp⟩,aD ?_⟩,?_⟩
 ·repeat' first|apply And.intro|exact aJ|fail
  all_goals try (conv=>whnf)
  simp
 rintro⟨k,X,K⟩
 repeat' ((conv=>whnf);first|with_reducible apply aM|((with_reducible refine (⟨fun h=>?_,fun h=>?_⟩:(_=true→_)∧(_=false→_)))<;>first|exact absurd h (by decide)|(exfalso;simp only[*,reduceCtorEq] at h;done)|skip)|refine aK ?_|fail)
 ·rename_i h;have G:k<l.length:=by simpa using h
  refine⟨_,dR _ _ _ G,?_⟩;repeat' ((conv=>whnf);first|with_reducible apply aM|((with_reducible refine (⟨fun h=>?_,fun h=>?_⟩:(_=true→_)∧(_=false→_)))<;>first|exact absurd h (by decide)|(exfalso;simp only[*,reduceCtorEq] at h;done)|skip)|(apply bX;refine⟨_,hp _ (List.getElem_mem G),?_⟩)|refine aK ?_|fail)
  ·rename_i S h;repeat' first|apply And.intro|exact aJ|fail
   all_goals try (conv=>whnf)
   exact (BG _ G K h).symm
  rename_i S h;repeat' ((conv=>whnf);first|with_reducible apply aM|((with_reducible refine (⟨fun h=>?_,fun h=>?_⟩:(_=true→_)∧(_=false→_)))<;>first|exact absurd h (by decide)|(exfalso;simp only[*,reduceCtorEq] at h;done)|skip)|refine aK ?_|fail)
  refine⟨⟨k+1,G,lF K fun _=>h⟩,dec_lt G,aD ?_⟩;repeat' first|apply And.intro|exact aJ|fail
  all_goals try (conv=>whnf)
  exact bF (by omega) (by omega)
 rename_i h;repeat' first|apply And.intro|exact aJ|fail
 all_goals try (conv=>whnf)
 have:k=l.length:=by simp at h;omega
 subst this;exact (p9 _ (vQ K)).symm
theorem vX:bM prog 102 f102:=fO func102
theorem oJ (l:List Pl)(f:FuncId)(first G:List PV)(p:Pl→Bool)(hp:∀x∈l,dF prog f (first++([.agg x.c]++G)) (bl (p x))) :
  dF prog 102 [av l,.fn (.func f) first G] (bl (l.any p)):=by
 refine PC.le ?_;refine dQ vX ?_;repeat' ((conv=>whnf);first|with_reducible apply aM|((with_reducible refine (⟨fun h=>?_,fun h=>?_⟩:(_=true→_)∧(_=false→_)))<;>first|exact absurd h (by decide)|(exfalso;simp only[*,reduceCtorEq] at h;done)|skip)|(apply bX;refine⟨_,nH _ _ _ _ _ hp,?_⟩)|refine aK ?_|fail)
 repeat' first|apply And.intro|exact aJ|fail
 all_goals try (conv=>whnf)
 exact Qy _ _
theorem sH:bM prog 177 f177:=fO func177
theorem D5 (l:List Fr)(f:FuncId)(first J:List PV)(p:Fr→Bool)(hp:∀x∈l,dF prog f (first++([.agg x.c]++J)) (bl (p x))) :
  dF prog 177 [cB l,.fn (.func f) first J] (ii (uI p l)):=by
 refine PC.le (pU sH fun Q=>?_);have Q:l.length≤9223372036854775807:=by simpa[IX,DU,cB] using Q
 refine dQ sH ?_;repeat' ((conv=>whnf);first|with_reducible apply aM|((with_reducible refine (⟨fun h=>?_,fun h=>?_⟩:(_=true→_)∧(_=false→_)))<;>first|exact absurd h (by decide)|(exfalso;simp only[*,reduceCtorEq] at h;done)|skip)|refine aK ?_|fail)
 refine⟨{k:Nat // k≤l.length∧∀j (V:j<l.length),j<k→p l[j]=false},fun⟨k,_⟩=>⟨[(0,.pv (cB l)),(1,.pv (.fn (.func f) first J)),(7,.pv (ii l.length)),(8,.pv (ii k))],1000000000,[]⟩,fun⟨k,_⟩=>l.length-k,⟨⟨0,by simp⟩,aD ?_⟩,?_⟩
 ·repeat' first|apply And.intro|exact aJ|fail
  all_goals try (conv=>whnf)
  simp
 rintro⟨k,X,K⟩
 repeat' ((conv=>whnf);first|with_reducible apply aM|((with_reducible refine (⟨fun h=>?_,fun h=>?_⟩:(_=true→_)∧(_=false→_)))<;>first|exact absurd h (by decide)|(exfalso;simp only[*,reduceCtorEq] at h;done)|skip)|refine aK ?_|fail)
 ·rename_i h;have G:k<l.length:=by simpa using h
  refine⟨_,dR _ _ _ G,?_⟩;repeat' ((conv=>whnf);first|with_reducible apply aM|((with_reducible refine (⟨fun h=>?_,fun h=>?_⟩:(_=true→_)∧(_=false→_)))<;>first|exact absurd h (by decide)|(exfalso;simp only[*,reduceCtorEq] at h;done)|skip)|(apply bX;refine⟨_,hp _ (List.getElem_mem G),?_⟩)|refine aK ?_|fail)
  ·rename_i S h;repeat' first|apply And.intro|exact aJ|fail
   all_goals try (conv=>whnf)
   exact (BG _ G K h).symm
  rename_i S h;repeat' ((conv=>whnf);first|with_reducible apply aM|((with_reducible refine (⟨fun h=>?_,fun h=>?_⟩:(_=true→_)∧(_=false→_)))<;>first|exact absurd h (by decide)|(exfalso;simp only[*,reduceCtorEq] at h;done)|skip)|refine aK ?_|fail)
  refine⟨⟨k+1,G,lF K fun _=>h⟩,dec_lt G,aD ?_⟩;repeat' first|apply And.intro|exact aJ|fail
  all_goals try (conv=>whnf)
  exact bF (by omega) (by omega)
 rename_i h;repeat' first|apply And.intro|exact aJ|fail
 all_goals try (conv=>whnf)
 have:k=l.length:=by simp at h;omega
 subst this;exact (p9 _ (vQ K)).symm
theorem xD:bM prog 153 f153:=fO func153
theorem qj (l:List Fr)(f:FuncId)(first G:List PV)(p:Fr→Bool)(hp:∀x∈l,dF prog f (first++([.agg x.c]++G)) (bl (p x))) :
  dF prog 153 [cB l,.fn (.func f) first G] (bl (l.any p)):=by
 refine PC.le ?_;refine dQ xD ?_;repeat' ((conv=>whnf);first|with_reducible apply aM|((with_reducible refine (⟨fun h=>?_,fun h=>?_⟩:(_=true→_)∧(_=false→_)))<;>first|exact absurd h (by decide)|(exfalso;simp only[*,reduceCtorEq] at h;done)|skip)|(apply bX;refine⟨_,D5 _ _ _ _ _ hp,?_⟩)|refine aK ?_|fail)
 repeat' first|apply And.intro|exact aJ|fail
 all_goals try (conv=>whnf)
 exact Qy _ _
theorem xS:bM prog 105 f105:=fO func105
theorem fU (l:List Pl)(h:l.length*16≤140737488355328):dX prog 105 [.pv (av l)] [] (.aO 1001 0) [(1001,.arr 27 0 2 (l.map Pl.c))]:=by
 refine aiK [] ?_ fun G=>?_
 all_goals
  refine fw xS ?_;repeat' ((conv=>whnf);first|with_reducible apply aM|((with_reducible refine (⟨fun h=>?_,fun h=>?_⟩:(_=true→_)∧(_=false→_)))<;>first|exact absurd h (by decide)|(exfalso;simp only[*,reduceCtorEq] at h;done)|skip)|refine aK ?_|fail)
  refine⟨_,_,⟨rfl,rfl⟩,?_⟩;repeat' first|apply And.intro|exact aJ|fail
  all_goals try (conv=>whnf)
 exact G
theorem mO (l:List Pl)(h:l.length*16≤140737488355328):dF prog 105 [av l] (av l):=by
 refine PC.le (afa [] ?_ fun G=>?_);all_goals
  refine dQ xS ?_;repeat' ((conv=>whnf);first|with_reducible apply aM|((with_reducible refine (⟨fun h=>?_,fun h=>?_⟩:(_=true→_)∧(_=false→_)))<;>first|exact absurd h (by decide)|(exfalso;simp only[*,reduceCtorEq] at h;done)|skip)|refine aK ?_|fail)
  repeat' first|apply And.intro|exact aJ|fail
  all_goals try (conv=>whnf)
 exact G
theorem KU:bM prog 54 f54:=fO func54
theorem fM (l:List UInt8)(h:l.length*1≤140737488355328):dF prog 54 [CR l] (CR l):=by
 refine PC.le (afa [] ?_ fun G=>?_);all_goals
  refine dQ KU ?_;repeat' ((conv=>whnf);first|with_reducible apply aM|((with_reducible refine (⟨fun h=>?_,fun h=>?_⟩:(_=true→_)∧(_=false→_)))<;>first|exact absurd h (by decide)|(exfalso;simp only[*,reduceCtorEq] at h;done)|skip)|refine aK ?_|fail)
  repeat' first|apply And.intro|exact aJ|fail
  all_goals try (conv=>whnf)
 exact G
theorem VS:bM prog 176 f176:=fO func176
theorem N7 (n:Int)(x:Fr):dF prog 176 ([]++([.agg x.c]++[.dU [uu n] 0])) (bl (decide (x.first≤n))):=by
 refine PC.le ?_;refine dQ VS ?_;repeat' ((conv=>whnf);first|(with_reducible first|apply aM|apply fk<;>intro hc<;>try exact aV)|refine aK ?_|fail)
 all_goals exact aJ
theorem K3:bM prog 175 f175:=fO func175
theorem ahl (l:List Fr)(f:FuncId)(first J:List PV)(p:Fr→Bool)(hp:∀x∈l,dF prog f (first++([.agg x.c]++J)) (bl (p x))) :
  dF prog 175 [cB l,.fn (.func f) first J] (.cK [.agg ((iY p l).getD kT).c,bl (iY p l).isSome]):=by
 refine PC.le (pU K3 fun K=>?_);have K:l.length≤9223372036854775807:=by simpa[IX,DU,cB] using K
 refine dQ K3 ?_;repeat' ((conv=>whnf);first|(with_reducible first|apply aM|apply fk<;>intro hc<;>try exact aV)|refine aK ?_|fail)
 refine⟨{k:Nat // k≤l.length},fun⟨k,_⟩=>⟨[(1,.pv (.fn (.func f) first J)),(4,.ptr 1004 0),(5,.pv (bl (iY p (l.take k)).isSome)),(8,.pv (cB l)),(9,.pv (ii l.length)),(10,.pv (ii k))],1000000000,[(1004,.var [.pv (uu ((iY p (l.take k)).getD kT).first),.pv (av ((iY p (l.take k)).getD kT).ah)])]⟩,fun⟨k,_⟩=>l.length-k,⟨⟨0,by simp⟩,aD ?_⟩,?_⟩
 ·repeat' first|apply And.intro|exact aJ|fail
  all_goals try (conv=>whnf)
  all_goals simp
 rintro⟨k,Q⟩
 repeat' ((conv=>whnf);first|(with_reducible first|apply aM|apply fk<;>intro hc<;>try exact aV)|refine aK ?_|fail)
 ·have G:k<l.length:=by simpa using hc
  refine⟨_,dR _ _ _ G,?_⟩;have hs:iY p (l.take (k+1))=if p l[k] then some l[k] else iY p (l.take k):=F5 _ _ _ _ G
  repeat' ((conv=>whnf);first|(with_reducible first|apply aM|apply fk<;>intro hc<;>try exact aV)|(apply bX;refine⟨_,hp _ (List.getElem_mem G),?_⟩)|refine aK ?_|fail)
  ·refine⟨⟨k+1,G⟩,dec_lt G,aD ?_⟩;repeat' first|apply And.intro|exact aJ|fail
   all_goals try (conv=>whnf)
   all_goals first|exact bF (by omega) (by omega)|(rw[hs,if_pos hc];first|rfl|exact ay _)
  refine⟨⟨k+1,G⟩,dec_lt G,aD ?_⟩;repeat' first|apply And.intro|exact aJ|fail
  all_goals try (conv=>whnf)
  all_goals first|exact bF (by omega) (by omega)|(rw[hs,if_neg (by simp[hc])];first|done|exact ay _)
 have:k=l.length:=by simp at hc;omega
 subst this;rw[List.take_length];all_goals exact aJ
theorem N8:bM prog 150 f150:=fO func150
theorem Ud (l:List Fr)(n:Int)(h:aY l):dF prog 150 [cB l,uu n] (.cK [.agg ((eH l n).getD kT).c,bl (eH l n).isSome]):=by
 refine PC.le ?_;refine dQ N8 ?_;repeat' ((conv=>whnf);first|(with_reducible first|apply aM|apply fk<;>intro hc<;>try exact aV)|(apply bX;refine⟨_,ahl _ _ _ _ _ fun x _=>N7 n x,?_⟩)|(apply bX;refine⟨_,mO _ (by have:=F6 h n;exact Nat.le_trans (Nat.mul_le_mul_right 16 this) (by decide)),?_⟩)|refine aK ?_|fail)
 all_goals exact aJ
theorem aaw:bM prog 151 f151:=fO func151
theorem aed (l:List Pl)(k w:Nat)(S:0<l.length)(hl:l.length≤8796093022208)(X:k<l.length)(hw:w≤l.length):dF prog 151 [av l,ii k,ii w] (av (eP l k w)):=by
 refine PC.le ?_;refine dQ aaw ?_;repeat' ((conv=>whnf);first|(with_reducible first|apply aM|apply fk<;>intro hc<;>try exact aV)|refine aK ?_|fail)
 refine⟨{i:Nat // i≤w},fun⟨i,_⟩=>⟨[(0,.pv (av l)),(1,.pv (ii k)),(7,.aO 1007 0),(9,.pv (ii w)),(10,.pv (ii i))],1000000000,[(1007,.arr 27 0 2 ((eP l k i).map Pl.c))]⟩,fun⟨i,_⟩=>w-i,⟨⟨0,by simp⟩,aD ?_⟩,?_⟩
 ·all_goals exact aJ
 rintro⟨i,hi⟩
 repeat' ((conv=>whnf);first|(with_reducible first|apply aM|apply fk<;>intro hc<;>try exact aV)|refine aK ?_|fail)
 ·have G:i<w:=by simpa using hc
  have J:(IntKind.i64.wrap ((k:Int)+(i:Int))).tmod ((l.map Pl.c).length:Int)=(((k+i)%l.length:Nat):Int):=by
   rw[bF (by omega) (by omega),List.length_map];rfl
  have V:eP l k (i+1)=eP l k i++[l[(k+i)%l.length]!]:=by
   simp[eP,List.range_succ]
  have K:(eP l k i).length=i:=by simp[eP]
  have Q:(k+i)%l.length<l.length:=Nat.mod_lt _ S;repeat' ((conv=>whnf);first|(with_reducible first|apply aM|apply fk<;>intro hc<;>try exact aV)|(((with_reducible apply And.intro);focus (rw[J];omega)))|((refine⟨_,Qg _ _ J Q,?_⟩))|(((with_reducible apply And.intro);focus (simp;omega)))|refine aK ?_|fail)
  refine⟨⟨i+1,G⟩,dec_lt G,aD ?_⟩;repeat' first|apply And.intro|exact aJ|fail
  all_goals try (conv=>whnf)
  all_goals first
   |exact bF (by omega) (by omega)
   |(refine gJ ?_;rw[V,List.map_append,getElem!_pos l _ Q];rfl)
 have:i=w:=by simp at hc;omega
 subst this;all_goals exact aJ
theorem K4 (l:List Pl)(k w:Int)(G:0<l.length)(K:l.length≤8796093022208)(J:0≤k∧k<l.length)(Q:0≤w∧w≤l.length):dF prog 151 [av l,ii k,ii w] (av (eP l k.toNat w.toNat)):=by
 have:=aed l k.toNat w.toNat G K (by omega) (by omega);rwa [Int.toNat_of_nonneg J.1,Int.toNat_of_nonneg Q.1] at this
theorem Au:bM prog 108 f108:=fO func108
theorem jg (l:List Fr)(w n:Int)(h:aY l)(hn:0≤n∧n≤18446744073709551615):dF prog 108 [cB l,ii w,uu n] (av (setOf l w n)):=by
 refine PC.le ?_;refine dQ Au ?_;cases J:eH l n with
 | none=>
   have Q:dF prog 150 [cB l,uu n] (.cK [.agg kT.c,bl false]):=by
    have:=Ud l n h;rwa [J] at this
   repeat' ((conv=>whnf);first|(with_reducible first|apply aM|apply fk<;>intro hc<;>try exact aV)|(apply bX;refine⟨_,Q,?_⟩)|refine aK ?_|fail)
   repeat' first|apply And.intro|exact aJ|fail
   all_goals try (conv=>whnf)
   simp[setOf,J]
 | some f=>
   obtain⟨⟨f1,f2,f3⟩,f4⟩:=wX h J;have Q:dF prog 150 [cB l,uu n] (.cK [.agg f.c,bl true]):=by
    have:=Ud l n h;rwa [J] at this
   have K (G:0<f.ah.length):IntKind.i64.wrap ((IntKind.u64.wrap (n-f.first)).tmod (IntKind.u64.wrap ((f.ah.map Pl.c).length:Int)))=(n-f.first)%(f.ah.length:Int):=by
    rw[gX (by omega) (by omega),List.length_map,gX (by omega) (by omega),Int.tmod_eq_emod_of_nonneg (by omega)];have V:=Int.emod_nonneg (n-f.first) (b:=(f.ah.length:Int)) (by omega);have X:=Int.emod_lt_of_pos (n-f.first) (b:=(f.ah.length:Int)) (by omega);exact bF (by omega) (by omega)
   repeat' ((conv=>whnf);first|(with_reducible first|apply aM|apply fk<;>intro hc<;>try exact aV)|(apply bX;refine⟨_,Q,?_⟩)|refine aK ?_|fail)
   ·repeat' first|apply And.intro|exact aJ|fail
    all_goals try (conv=>whnf)
    simp only[iG,uS,fG] at *;simp only[setOf,J];rw[if_neg (by omega)];rfl
   ·repeat' first|apply And.intro|exact aJ|fail
    all_goals try (conv=>whnf)
    simp only[iG,uS,fG] at *;simp only[setOf,J];rw[if_neg (by omega)];rfl
   simp at hc;rename_i S;simp at S;have G:0<f.ah.length:=by omega
   have K:=K G;have V:=Int.emod_nonneg (n-f.first) (b:=(f.ah.length:Int)) (by omega);have X:=Int.emod_lt_of_pos (n-f.first) (b:=(f.ah.length:Int)) (by omega);repeat' ((conv=>whnf);first|(with_reducible first|apply aM|apply fk<;>intro hc<;>try exact aV)|(((with_reducible apply And.intro);focus (rw[List.length_map,gX (by omega) (by omega)];omega)))|(apply bX;refine⟨_,K4 _ _ _ G f3 (by rw[K];exact⟨V,X⟩) ⟨by omega,hc⟩,?_⟩)|refine aK ?_|fail)
   repeat' first|apply And.intro|exact aJ|fail
   all_goals try (conv=>whnf)
   refine gJ ?_;rw[K];simp only[setOf,J];rw[if_pos (by omega)]
theorem Av:bM prog 18 f18:=fO func18
theorem Du (l:List Fr):dF prog 18 [cB l] (bl (CU l)):=by
 refine PC.le (pU Av fun J=>?_);have J:l.length≤9223372036854775807:=by simpa[IX,DU,cB] using J
 refine dQ Av ?_;repeat' ((conv=>whnf);first|(with_reducible first|apply aM|apply fk<;>intro hc<;>try exact aV)|refine aK ?_|fail)
 ·repeat' first|apply And.intro|exact aJ|fail
  all_goals try (conv=>whnf)
  simp[CU] at *;omega
 refine⟨{k:Nat // k≤l.length∧∀j (X:j<l.length),j<k→decide ((l[j].ah.length:Int)>30)=false},fun⟨k,_⟩=>⟨[(0,.pv (cB l)),(3,.pv (ii k))],1000000000,[]⟩,fun⟨k,_⟩=>l.length-k,⟨⟨0,by simp⟩,aD ?_⟩,?_⟩
 ·all_goals exact aJ
 rintro⟨k,K,Q⟩
 repeat' ((conv=>whnf);first|(with_reducible first|apply aM|apply fk<;>intro hc<;>try exact aV)|refine aK ?_|fail)
 ·have G:k<l.length:=by simpa using hc
  refine⟨_,dR _ _ _ G,?_⟩;repeat' ((conv=>whnf);first|(with_reducible first|apply aM|apply fk<;>intro hc<;>try exact aV)|refine aK ?_|fail)
  ·repeat' first|apply And.intro|exact aJ|fail
   all_goals try (conv=>whnf)
   rw[List.length_map] at hc;have:=List.any_eq_true.2 (⟨l[k],List.getElem_mem G,hc⟩:∃x∈l,(fun f:Fr=>decide ((f.ah.length:Int)>30)) x=true);simp only[CU,this,Bool.or_true]
  repeat' ((conv=>whnf);first|(with_reducible first|apply aM|apply fk<;>intro hc<;>try exact aV)|refine aK ?_|fail)
  refine⟨⟨k+1,G,lF Q fun _=>by rw[List.length_map] at hc;exact hc⟩,dec_lt G,aD ?_⟩;repeat' first|apply And.intro|exact aJ|fail
  all_goals try (conv=>whnf)
  exact bF (by omega) (by omega)
 have K:k=l.length:=by simp at hc;omega
 subst K;repeat' first|apply And.intro|exact aJ|fail
 all_goals try (conv=>whnf)
 have S:(l.any fun f=>decide ((f.ah.length:Int)>30))=false:=by
  rw[List.any_eq_false];intro x V;have:=vQ (q:=fun f:Fr=>decide ((f.ah.length:Int)>30)=false) Q x V;simpa using this
 simp only[CU,S,Bool.or_false];simp at *;omega
theorem GJ (l:List Pl)(k:Nat)(a b:Int):dF prog 52 [.sl false 2 ((List.map Pl.c l).take ((k:Nat):Int).toNat),.agg [ii a,uu b]] (bl ((l.take k).any (fun y=>y==⟨a,b⟩))):=by
 have h:=aA (l.take k) a b;rw[av,List.map_take] at h;exact h
theorem JR:bM prog 163 f163:=fO func163
theorem OA (set G:List Pl):dF prog 163 [av set,av G] (ii (yF set G:Nat)):=by
 refine PC.le (pU JR fun V=>?_);have V:set.length≤9223372036854775807:=by simp[IX,DU,av] at V;omega
 refine dQ JR ?_;repeat' ((conv=>whnf);first|(with_reducible first|apply aM|apply fk<;>intro hc<;>try exact aV)|refine aK ?_|fail)
 refine⟨{k:Nat // k≤set.length},fun⟨k,_⟩=>⟨[(0,.pv (av set)),(1,.pv (av G)),(5,.pv (ii (lJ set G k:Nat))),(8,.pv (av set)),(9,.pv (ii set.length)),(10,.pv (ii k))],1000000000,[]⟩,fun⟨k,_⟩=>set.length-k,⟨⟨0,Nat.zero_le _⟩,aD ?_⟩,?_⟩
 ·repeat' first|apply And.intro|exact aJ|fail
  all_goals try (conv=>whnf)
  all_goals simp
 rintro⟨k,hk⟩
 have aa:=Tx set G k;by_cases J:k<set.length
 ·have X:decide ((k:Int)<(set.length:Int))=true:=by simp only[iG];omega
  have eW:IntKind.i64.wrap ((k:Int)+1)=((k+1:Nat):Int):=by rw[bF (by omega) (by omega)];omega
  have eC:IntKind.i64.wrap ((lJ set G k:Int)+1)=((lJ set G k+1:Nat):Int):=by rw[bF (by omega) (by omega)];omega
  have S:lJ set G (k+1)=lJ set G k+(if (G.any fun y=>y==(⟨set[k].node,set[k].aH⟩:Pl)) && !((set.take k).any fun y=>y==(⟨set[k].node,set[k].aH⟩:Pl)) then 1 else 0):=wS set G k J;have K:=GJ set k;repeat' ((conv=>whnf);first|(with_reducible first|apply aM|apply fk<;>intro hc<;>try exact aV)|((refine⟨_,dR _ _ _ J,?_⟩))|(apply bX;refine⟨_,aA _ _ _,?_⟩)|(apply bX;refine⟨_,K _ _,?_⟩)|(((with_reducible apply And.intro);focus (show (k:Int)≤((List.map Pl.c set).length:Int);rw[List.length_map];omega)))|refine aK ?_|fail)
  all_goals
   refine⟨⟨k+1,J⟩,dec_lt J,aD ?_⟩;repeat' first|apply And.intro|exact aJ|fail
   all_goals try (conv=>whnf)
   all_goals first
    |exact eW
    |(rw[eC,S];simp only[*,Bool.and_self,Bool.true_and,Bool.false_and,Bool.false_eq_true,↓reduceIte,Nat.add_zero];done)
    |(rw[S];simp only[*,Bool.and_self,Bool.true_and,Bool.false_and,Bool.and_false,Bool.false_eq_true,↓reduceIte,Nat.add_zero];done)
 have Q:k=set.length:=by omega
 subst Q;have X:decide ((set.length:Int)<(set.length:Int))=false:=by simp
 repeat' ((conv=>whnf);first|(with_reducible first|apply aM|apply fk<;>intro hc<;>try exact aV)|refine aK ?_|fail)
 all_goals exact aJ
theorem Wq:bM prog 134 f134:=fO func134
theorem nY (set:List Pl)(a:Int)(G:List Pl):dF prog 134 [av set,ii a,av G] (bl (bE set a G)):=by
 refine PC.le ?_;refine dQ Wq ?_;repeat' ((conv=>whnf);first|(with_reducible first|apply aM|apply fk<;>intro hc<;>try exact aV)|(apply bX;refine⟨_,OA _ _,?_⟩)|refine aK ?_|fail)
 all_goals
  repeat' first|apply And.intro|exact aJ|fail
  all_goals try (conv=>whnf)
  all_goals first
   |(simp_all [bE];done)
   |(simp_all [bE];omega)
theorem OB:bM prog 169 f169:=fO func169
theorem yZ (set:List Pl)(w a:Int)(G:List Pl)(K:0≤w∧w≤9223372036854775807)(J:0≤a):dF prog 169 [av set,ii w,ii a,av G] (bl (dL set w a G)):=by
 refine PC.le ?_;refine dQ OB ?_;repeat' ((conv=>whnf);first|(with_reducible first|apply aM|apply fk<;>intro hc<;>try exact aV)|(apply bX;refine⟨_,OA _ _,?_⟩)|refine aK ?_|fail)
 ·repeat' first|apply And.intro|exact aJ|fail
  all_goals try (conv=>whnf)
  simp_all [dL]
 have e:IntKind.i64.wrap (w-a)=w-a:=by
  simp only[uS] at hc;exact bF (by omega) (by omega)
 repeat' first|apply And.intro|exact aJ|fail
 all_goals try (conv=>whnf)
 rw[e];simp only[dL,hc,Bool.false_or]
theorem abn:bM prog 186 f186:=fO func186
theorem aeu (f:Fr)(w:Int):dF prog 186 [.agg f.c,ii w] (.fn (.func 191) [] [.dU f.c 0,.dU [ii w] 0]):=by
 refine PC.le ?_;refine dQ abn ?_;repeat' ((conv=>whnf);first|(with_reducible first|apply aM|apply fk<;>intro hc<;>try exact aV)|refine aK ?_|fail)
 all_goals exact aJ
theorem Ws:bM prog 191 f191:=fO func191
theorem abo (f:Fr)(w:Int)(hw:1≤w∧w≤(f.ah.length:Int))(hl:f.ah.length≤8796093022208):acZ prog 191 [.dU f.c 0,.dU [ii w] 0] ((nU f w).map fun s=>[av s]):=by
 refine PK bV (bZ mixed bV) Ws rfl rfl (fun S=>?_);repeat' ((conv=>whnf);first|(with_reducible first|apply aM|apply fk<;>intro hc<;>try exact aV)|refine aK ?_|fail)
 refine⟨{k:Nat // k≤f.ah.length},fun⟨k,_⟩=>⟨[(0,.pv (.fn (.yield S) [] [])),(1,.pv (.dU f.c 0)),(2,.pv (.dU [ii w] 0)),(7,.pv (ii f.ah.length)),(8,.pv (ii k))],1000000000,[(999,.tr (prog,S) 0 (((nU f w).drop k).map fun s=>[av s]) (some false))]⟩,fun⟨k,_⟩=>f.ah.length-k,⟨⟨0,Nat.zero_le _⟩,aD ?_⟩,?_⟩
 ·repeat' first|apply And.intro|exact aJ|fail
  all_goals try (conv=>whnf)
  all_goals simp
 rintro⟨k,hk⟩
 by_cases G:k<f.ah.length
 ·have X:decide ((k:Int)<(f.ah.length:Int))=true:=by simp only[iG];omega
  have eW:IntKind.i64.wrap ((k:Int)+1)=((k+1:Nat):Int):=by rw[bF (by omega) (by omega)];omega
  have J:(nU f w).drop k=eP f.ah k w.toNat::(nU f w).drop (k+1):=by
   have K:k<(nU f w).length:=by simpa[nU] using G
   rw[List.drop_eq_getElem_cons K];simp[nU]
  have V:=K4 f.ah (k:Int) w (by omega) hl (by omega) (by omega);repeat' ((conv=>whnf);first|(with_reducible first|apply aM|apply fk<;>intro hc<;>try exact aV)|(apply bX;refine⟨_,V,?_⟩)|((rw[J];refine⟨_,_,rfl,rM _,?_⟩))|refine aK ?_|fail)
  refine⟨trivial,⟨k+1,G⟩,dec_lt G,aD ?_⟩;repeat' first|apply And.intro|exact aJ|fail
  all_goals try (conv=>whnf)
  exact eW
 have Q:k=f.ah.length:=by omega
 subst Q;have X:decide ((f.ah.length:Int)<(f.ah.length:Int))=false:=by simp
 have J:(nU f w).drop f.ah.length=[]:=List.drop_eq_nil_of_le (by simp[nU]);repeat' ((conv=>whnf);first|(with_reducible first|apply aM|apply fk<;>intro hc<;>try exact aV)|refine aK ?_|fail)
 rw[J];all_goals exact aJ
theorem OC:bM prog 165 f165:=fO func165
theorem y8 (f:Fr)(w a:Int)(G:List Pl)(hw:0≤w∧w≤9223372036854775807)(ha:0≤a)(hl:f.ah.length≤8796093022208):dF prog 165 [.agg f.c,ii w,ii a,av G] (bl (eu f w a G)):=by
 refine PC.le ?_;refine dQ OC ?_;by_cases Q:decide (w<1)=true
 ·have e:eu f w a G=false:=by unfold eu;rw[if_pos (by simp[Q])]
  rw[e];repeat' ((conv=>whnf);first|(with_reducible first|apply aM|apply fk<;>intro hc<;>try exact aV)|refine aK ?_|fail)
  all_goals exact aJ
 have Q:decide (w<1)=false:=by simpa using Q
 by_cases K:decide (w>(f.ah.length:Int))=true
 ·have e:eu f w a G=false:=by unfold eu;rw[if_pos (by simp[K])]
  have h3:decide (w>((List.map Pl.c f.ah).length:Int))=true:=by rw[List.length_map];exact K
  rw[e];repeat' ((conv=>whnf);first|(with_reducible first|apply aM|apply fk<;>intro hc<;>try exact aV)|refine aK ?_|fail)
  all_goals exact aJ
 have K:decide (w>(f.ah.length:Int))=false:=by simpa using K
 have h3:decide (w>((List.map Pl.c f.ah).length:Int))=false:=by rw[List.length_map];exact K
 have e:eu f w a G=(nU f w).all fun s=>dL s w a G:=by unfold eu;rw[if_neg (by simp[Q,K])]
 have aa:=abo f w (by simp at Q K;omega) hl;rw[e];repeat' ((conv=>whnf);first|(with_reducible first|apply aM|apply fk<;>intro hc<;>try exact aV)|(apply bX;refine⟨_,aeu _ _,?_⟩)|refine aK ?_|fail)
 refine⟨_,_,_,aa,Unit,fun k _=>∀j (S:j<(nU f w).length),j<k→dL (nU f w)[j] w a G=true,fun _ _=>⟨[(5,.ptr 505 0),(6,.ptr 506 0),(7,.ptr 507 0),(8,.ptr 508 0),(21,.pv (.fn (.func 191) [] [.dU f.c 0,.dU [ii w] 0]))],1000000000,[(505,.var [.pv (ii w)]),(506,.var [.pv (ii a)]),(507,.var [.pv (av G)]),(508,.var [.pv (bl false)])]⟩,⟨(),aD ?_⟩,fun _=>rfl,fun _ _=>rfl,?_,?_⟩
 ·all_goals exact aJ
 ·intro k x _ hx;have hk:k<(nU f w).length:=by simpa using (List.getElem?_eq_some_iff.1 hx).1
  have hx:x=[av (nU f w)[k]]:=by
   have:=(List.getElem?_eq_some_iff.1 hx).2;simpa using this.symm
  subst hx;have J:=yZ (nU f w)[k] w a G hw ha
  (conv=>whnf)
  intro V;cases X:dL (nU f w)[k] w a G with
  | true=>
    rw[X] at J;repeat' ((conv=>whnf);first|(with_reducible first|apply aM|apply fk<;>intro hc<;>try exact aV)|(apply bX;refine⟨_,J,?_⟩)|refine aK ?_|fail)
    refine⟨(),fun j S ae=>?_,aD ?_⟩
    ·by_cases ad:j=k
     ·subst ad;exact X
     exact V (by omega) j S (by omega)
    all_goals exact aJ
  | false=>
    rw[X] at J;repeat' ((conv=>whnf);first|(with_reducible first|apply aM|apply fk<;>intro hc<;>try exact aV)|(apply bX;refine⟨_,J,?_⟩)|refine aK ?_|fail)
    repeat' first|apply And.intro|exact aJ|fail
    all_goals try (conv=>whnf)
    symm;rw[List.all_eq_false];exact⟨_,List.getElem_mem hk,by rw[X];simp⟩
 intro _ V;rw[List.length_map] at V;repeat' ((conv=>whnf);first|(with_reducible first|apply aM|apply fk<;>intro hc<;>try exact aV)|refine aK ?_|fail)
 repeat' first|apply And.intro|exact aJ|fail
 all_goals try (conv=>whnf)
 symm;rw[List.all_eq_true];intro s hs;obtain⟨j,S,rfl⟩:=List.getElem_of_mem hs;exact V (by omega) j S S
def amL:Tab:=pin tab
theorem ab5:dB prog amL:=VJ bV
theorem amM {α:Type}(c:α→List PV)(A:List α)(x:α)(B:List α)(k:Nat)(h:k<A.length):((A++x::B).map c)[k]? = some (c A[k]):=by
 rw[List.map_append,List.getElem?_append_left (by simpa using h)];simp[h]
theorem amN {α:Type}(c:α→List PV)(A:List α)(x:α)(B:List α):((A++x::B).map c)[A.length]? = some (c x):=by
 simp
theorem amO {α:Type}(c:α→List PV)(A:List α)(x:α)(B:List α)(k:Nat)(h:k<B.length):((A++x::B).map c)[A.length+1+k]? = some (c B[k]):=by
 rw[List.map_append,List.getElem?_append_right (by simp;omega)];simp[show A.length+1+k-A.length=k+1 by omega,h]
theorem OT:bM prog 83 f83:=fO func83
theorem OU:bM prog 125 f125:=fO func125
theorem ab6:bM prog 123 f123:=fO func123
theorem OV:bM prog 124 f124:=fO func124
theorem Ul:bM prog 69 f69:=fO func69
theorem uz (f:Fr)(h:f.ah.length≤1000):dF prog 83 [.agg f.c] (.agg f.c):=by
 refine PC.le ?_;refine dQ OT ?_;repeat' ((conv=>whnf);first|(with_reducible first|apply aM|apply fk<;>intro hc<;>try exact aV)|(apply bX;refine⟨_,mO _ (by omega),?_⟩)|refine aK ?_|fail)
 all_goals exact aJ
theorem Lj (x:Wt)(h:Uc x):dF prog 125 ([]++([.agg x.c]++[])) (.agg x.c):=by
 have G:=h.body;have J:=h.from_;refine PC.le ?_;refine dQ OU ?_;repeat' ((conv=>whnf);first|(with_reducible first|apply aM|apply fk<;>intro hc<;>try exact aV)|(apply bX;refine⟨_,fM _ (by omega),?_⟩)|(apply bX;refine⟨_,mO _ (by omega),?_⟩)|refine aK ?_|fail)
 all_goals exact aJ
theorem aeJ (x:Wt)(h:Uc x):dX prog 125 ([]++([.pv (.agg x.c)]++[])) [] (.agg (wtA x (.aO 1001 0))) [(1001,.arr 27 0 2 (x.from_.map Pl.c))]:=by
 have G:=h.body;have J:=h.from_;refine fw OU ?_;repeat' ((conv=>whnf);first|(with_reducible first|apply aM|apply fk<;>intro hc<;>try exact aV)|(apply bX;refine⟨_,fM _ (by omega),?_⟩)|(apply mq;refine⟨_,_,fU _ (by omega),?_⟩)|refine aK ?_|fail)
 refine⟨_,_,⟨rfl,rfl⟩,?_⟩;all_goals exact aJ
theorem Um (l:List Fr)(h:l.length≤1000)(S:∀f∈l,f.ah.length≤1000):dX prog 123 [.pv (cB l),.pv (.fn (.func 83) [] [])] [] (.aO 1001 0) [(1001,.arr 48 0 2 (l.map Fr.c))]:=by
 refine fw ab6 ?_;repeat' ((conv=>whnf);first|(with_reducible first|apply aM|apply fk<;>intro hc<;>try exact aV)|refine aK ?_|fail)
 refine⟨{k:Nat // k≤l.length},fun⟨k,_⟩=>⟨[(1,.pv (.fn (.func 83) [] [])),(5,.aO 1001 0),(8,.pv (cB l)),(9,.pv (ii l.length)),(10,.pv (ii k))],1000000000,[(1001,.arr 48 0 2 ((l.take k).map Fr.c))]⟩,fun⟨k,_⟩=>l.length-k,⟨⟨0,by simp⟩,aD ?_⟩,?_⟩
 ·repeat' first|apply And.intro|exact aJ|fail
  all_goals try (conv=>whnf)
  all_goals simp
 rintro⟨k,V⟩
 by_cases G:k<l.length
 ·have K:decide ((k:Int)<(l.length:Int))=true:=by simp only[iG];omega
  have Q:IntKind.i64.wrap ((k:Int)+1)=((k+1:Nat):Int):=by rw[bF (by omega) (by omega)];omega
  repeat' ((conv=>whnf);first|(with_reducible first|apply aM|apply fk<;>intro hc<;>try exact aV)|((refine⟨_,dR _ _ _ G,?_⟩))|(apply bX;refine⟨_,uz _ (S _ (List.getElem_mem G)),?_⟩)|(((with_reducible apply And.intro);focus (simp only[fG,jo,jq,List.length_take,rP] at *;omega)))|refine aK ?_|fail)
  refine⟨⟨k+1,G⟩,dec_lt G,aD ?_⟩;repeat' first|apply And.intro|exact aJ|fail
  all_goals try (conv=>whnf)
  all_goals first
   |exact Q
   | (rw[List.take_succ_eq_append_getElem G,List.map_append]
      refine bW (ay _) ?_
      (repeat' first|apply And.intro|exact aJ|fail);(all_goals try (conv=>whnf)))
 have J:k=l.length:=by omega
 subst J;have K:decide ((l.length:Int)<(l.length:Int))=false:=by simp
 repeat' ((conv=>whnf);first|(with_reducible first|apply aM|apply fk<;>intro hc<;>try exact aV)|refine aK ?_|fail)
 refine⟨_,_,⟨rfl,rfl⟩,?_⟩;repeat' first|apply And.intro|exact aJ|fail
 all_goals try (conv=>whnf)
 all_goals (rw[List.take_length];exact ay _)
theorem aeK (l:List Wt)(h:l.length≤1000)(S:∀x∈l,Uc x):dX prog 124 [.pv (sj l),.pv (.fn (.func 125) [] [])] [] (.aO 1001 0) [(1001,.arr 145 0 5 (l.map Wt.c))]:=by
 refine fw OV ?_;repeat' ((conv=>whnf);first|(with_reducible first|apply aM|apply fk<;>intro hc<;>try exact aV)|refine aK ?_|fail)
 refine⟨{k:Nat // k≤l.length},fun⟨k,_⟩=>⟨[(1,.pv (.fn (.func 125) [] [])),(5,.aO 1001 0),(8,.pv (sj l)),(9,.pv (ii l.length)),(10,.pv (ii k))],1000000000,[(1001,.arr 145 0 5 ((l.take k).map Wt.c))]⟩,fun⟨k,_⟩=>l.length-k,⟨⟨0,by simp⟩,aD ?_⟩,?_⟩
 ·repeat' first|apply And.intro|exact aJ|fail
  all_goals try (conv=>whnf)
  all_goals simp
 rintro⟨k,V⟩
 by_cases G:k<l.length
 ·have K:decide ((k:Int)<(l.length:Int))=true:=by simp only[iG];omega
  have Q:IntKind.i64.wrap ((k:Int)+1)=((k+1:Nat):Int):=by rw[bF (by omega) (by omega)];omega
  repeat' ((conv=>whnf);first|(with_reducible first|apply aM|apply fk<;>intro hc<;>try exact aV)|((refine⟨_,dR _ _ _ G,?_⟩))|(apply bX;refine⟨_,Lj _ (S _ (List.getElem_mem G)),?_⟩)|(((with_reducible apply And.intro);focus (simp only[fG,jo,jq,List.length_take,rP] at *;omega)))|refine aK ?_|fail)
  refine⟨⟨k+1,G⟩,dec_lt G,aD ?_⟩;repeat' first|apply And.intro|exact aJ|fail
  all_goals try (conv=>whnf)
  all_goals first
   |exact Q
   | (rw[List.take_succ_eq_append_getElem G,List.map_append]
      refine bW (ay _) ?_
      (repeat' first|apply And.intro|exact aJ|fail);(all_goals try (conv=>whnf)))
 have J:k=l.length:=by omega
 subst J;have K:decide ((l.length:Int)<(l.length:Int))=false:=by simp
 repeat' ((conv=>whnf);first|(with_reducible first|apply aM|apply fk<;>intro hc<;>try exact aV)|refine aK ?_|fail)
 refine⟨_,_,⟨rfl,rfl⟩,?_⟩;repeat' first|apply And.intro|exact aJ|fail
 all_goals try (conv=>whnf)
 all_goals (rw[List.take_length];exact ay _)
theorem aeL (A:List Wt)(x:Wt)(B:List Wt)(h:A.length+(1+B.length)≤1000)(V:∀y∈A,Uc y)(hx:Uc x)(X:∀y∈B,Uc y):dX prog 124 [.pv (sj (A++x::B)),.pv (.fn (.func 125) [] [])] [] (.aO 1001 0)
  [(1001,.iP 145 0 5 (A.map Wt.c) (wtA x (.aO 1002 0)) (B.map Wt.c)),(1002,.arr 27 0 2 (x.from_.map Pl.c))]:=by
 have hn:(A++x::B).length=A.length+(1+B.length):=by simp[Nat.add_comm]
 have hm:(((A++x::B).map Wt.c).length:Int)=((A.length+(1+B.length):Nat):Int):=by rw[List.length_map,hn]
 refine zI ab5 (bZ mixed ab5) OV rfl ?_;repeat' ((conv=>whnf);first|(with_reducible first|apply aM|apply fk<;>intro hc<;>try exact aV)|refine aK ?_|fail)
 refine⟨{k:Nat // k≤A.length} ⊕ {k:Nat // k≤B.length},fun i=>match i with
   |.inl ⟨k,_⟩=>⟨[(1,.pv (.fn (.func 125) [] [])),(5,.aO 1001 0),(8,.pv (sj (A++x::B))),(9,.pv (ii ((A.length+(1+B.length):Nat)))),(10,.pv (ii k))],1000000000,[(1001,.arr 145 0 5 ((A.take k).map Wt.c))]⟩
   |.inr ⟨k,_⟩=>⟨[(1,.pv (.fn (.func 125) [] [])),(5,.aO 1001 0),(8,.pv (sj (A++x::B))),(9,.pv (ii ((A.length+(1+B.length):Nat)))),(10,.pv (ii ((A.length+1+k:Nat))))],1000000000,[(1001,.iP 145 0 5 (A.map Wt.c) (wtA x (.aO 1002 0)) ((B.take k).map Wt.c)),(1002,.arr 27 0 2 (x.from_.map Pl.c))]⟩,
  fun i=>match i with
   |.inl ⟨k,_⟩=>A.length+(1+B.length)-k
   |.inr ⟨k,_⟩=>B.length-k,⟨.inl ⟨0,by simp⟩,aD ?_⟩,?_⟩
 ·repeat' first|apply And.intro|exact aJ|fail
  all_goals try (conv=>whnf)
  all_goals first
   |exact hm
   |simp
 rintro (⟨k,hk⟩|⟨k,hk⟩)
 ·by_cases G:k<A.length
  ·have S:decide ((k:Int)<((A.length+(1+B.length):Nat):Int))=true:=by simp only[iG];omega
   have K:IntKind.i64.wrap ((k:Int)+1)=((k+1:Nat):Int):=by rw[bF (by omega) (by omega)];omega
   have Q:=amM Wt.c A x B k G;repeat' ((conv=>whnf);first|(with_reducible first|apply aM|apply fk<;>intro hc<;>try exact aV)|((refine⟨_,Q,?_⟩))|(apply bX;refine⟨_,Lj _ (V _ (List.getElem_mem G)),?_⟩)|(((with_reducible apply And.intro);focus (simp only[fG,jo,jq,List.length_take,rP] at *;omega)))|refine aK ?_|fail)
   refine⟨.inl ⟨k+1,G⟩,by simp only;omega,aD ?_⟩;repeat' first|apply And.intro|exact aJ|fail
   all_goals try (conv=>whnf)
   all_goals first
    |exact K
    | (rw[List.take_succ_eq_append_getElem G,List.map_append]
       refine bW (ay _) ?_
       (repeat' first|apply And.intro|exact aJ|fail);(all_goals try (conv=>whnf)))
  have J:k=A.length:=by omega
  subst J;have S:decide ((A.length:Int)<((A.length+(1+B.length):Nat):Int))=true:=by simp only[iG];omega
  have K:IntKind.i64.wrap ((A.length:Int)+1)=((A.length+1+0:Nat):Int):=by rw[bF (by omega) (by omega)];omega
  have Q:=amN Wt.c A x B;repeat' ((conv=>whnf);first|(with_reducible first|apply aM|apply fk<;>intro hc<;>try exact aV)|((refine⟨_,Q,?_⟩))|(apply mq;refine⟨_,_,aeJ _ hx,?_⟩)|(((with_reducible apply And.intro);focus (simp only[fG,jo,jq,List.length_take,rP] at *;omega)))|refine aK ?_|fail)
  refine⟨.inr ⟨0,by omega⟩,by simp only;omega,aD ?_⟩;repeat' first|apply And.intro|exact aJ|fail
  all_goals try (conv=>whnf)
  all_goals first
   |exact K
   |(rw[List.take_length];exact ay _)
   |simp
 by_cases G:k<B.length
 ·have S:decide (((A.length+1+k:Nat):Int)<((A.length+(1+B.length):Nat):Int))=true:=by simp only[iG];omega
  have K:IntKind.i64.wrap (((A.length+1+k:Nat):Int)+1)=((A.length+1+(k+1):Nat):Int):=by rw[bF (by omega) (by omega)];omega
  have Q:=amO Wt.c A x B k G;repeat' ((conv=>whnf);first|(with_reducible first|apply aM|apply fk<;>intro hc<;>try exact aV)|((refine⟨_,Q,?_⟩))|(apply bX;refine⟨_,Lj _ (X _ (List.getElem_mem G)),?_⟩)|(((with_reducible apply And.intro);focus (simp only[fG,jo,jq,List.length_take,rP] at *;omega)))|refine aK ?_|fail)
  refine⟨.inr ⟨k+1,G⟩,by simp only;omega,aD ?_⟩;repeat' first|apply And.intro|exact aJ|fail
  all_goals try (conv=>whnf)
  all_goals first
   |exact K
   | (rw[List.take_succ_eq_append_getElem G,List.map_append]
      refine bW (ay _) ?_
      (repeat' first|apply And.intro|exact aJ|fail);(all_goals try (conv=>whnf)))
 have J:k=B.length:=by omega
 subst J;have S:decide (((A.length+1+B.length:Nat):Int)<((A.length+(1+B.length):Nat):Int))=false:=by simp only[uS];omega
 repeat' ((conv=>whnf);first|(with_reducible first|apply aM|apply fk<;>intro hc<;>try exact aV)|refine aK ?_|fail)
 refine⟨_,_,⟨rfl,rfl⟩,?_⟩;repeat' first|apply And.intro|exact aJ|fail
 all_goals try (conv=>whnf)
 all_goals (rw[List.take_length];exact ay _)
section
variable (w:Wr)(h:WrB w)
include h
theorem AP:dX prog 69 [.pv (.agg w.c)] [] (.ptr 1001 0)
  [(1001,.var (qA w (.aO 1002 0) (.aO 1003 0) (.aO 1004 0) (.pv gB))),(1002,.arr 48 0 2 (w.l.af.map Fr.c)),(1003,.arr 145 0 5 (w.waits.map Wt.c)),(1004,.arr 27 0 2 (w.bad.map Pl.c))]:=by
 have Q:=h.bl;have G:=uz w.change h.cl;have J:=Um _ h.fl h.fb;have K:=aeK _ h.wl h.wx;clear h;refine fw Ul ?_;repeat' ((conv=>whnf);first|(with_reducible first|apply aM|apply fk<;>intro hc<;>try exact aV)|rewrite[nE]|rewrite[nG]|(apply mq;refine⟨_,_,J,?_⟩)|(apply mq;refine⟨_,_,K,?_⟩)|(apply mq;refine⟨_,_,fU _ (by omega),?_⟩)|refine eT G ?_|refine aK ?_|fail)
 refine⟨_,_,⟨rfl,rfl⟩,?_⟩;all_goals exact aJ
theorem uD:dX prog 69 [.pv (.agg w.c)] [] (.ptr 1001 0)
  [(1001,.var (qA w (.pv (cB w.l.af)) (.pv (sj w.waits)) (.pv (av w.bad)) (.pv gB)))]:=by
 refine gL (AP w h) [1002,1003,1004] ?_
 (conv=>whnf)
 refine⟨_,_,⟨rfl,rfl⟩,?_⟩;all_goals exact aJ
theorem aeM:dX prog 69 [.pv (.agg w.c)] [] (.ptr 1001 0)
  [(1001,.var (qA w (.pv (cB w.l.af)) (.aO 1003 0) (.pv (av w.bad)) (.pv gB))),(1003,.arr 145 0 5 (w.waits.map Wt.c))]:=by
 refine gL (AP w h) [1002,1004] ?_
 (conv=>whnf)
 refine⟨_,_,⟨rfl,rfl⟩,?_⟩;all_goals exact aJ
theorem aeN:dX prog 69 [.pv (.agg w.c)] [] (.ptr 1001 0)
  [(1001,.var (qA w (.pv (cB w.l.af)) (.pv (sj w.waits)) (.aO 1004 0) (.pv gB))),(1004,.arr 27 0 2 (w.bad.map Pl.c))]:=by
 refine gL (AP w h) [1002,1003] ?_
 (conv=>whnf)
 refine⟨_,_,⟨rfl,rfl⟩,?_⟩;all_goals exact aJ
theorem aeO:dX prog 69 [.pv (.agg w.c)] [] (.ptr 1001 0)
  [(1001,.var (qA w (.pv (cB w.l.af)) (.aO 1003 0) (.aO 1004 0) (.pv gB))),(1003,.arr 145 0 5 (w.waits.map Wt.c)),(1004,.arr 27 0 2 (w.bad.map Pl.c))]:=by
 refine gL (AP w h) [1002] ?_
 (conv=>whnf)
 refine⟨_,_,⟨rfl,rfl⟩,?_⟩;all_goals exact aJ
theorem aeP:dX prog 69 [.pv (.agg w.c)] [] (.ptr 1001 0)
  [(1001,.var (qA w (.aO 1002 0) (.aO 1003 0) (.pv (av w.bad)) (.pv gB))),(1002,.arr 48 0 2 (w.l.af.map Fr.c)),(1003,.arr 145 0 5 (w.waits.map Wt.c))]:=by
 refine gL (AP w h) [1004] ?_
 (conv=>whnf)
 refine⟨_,_,⟨rfl,rfl⟩,?_⟩;all_goals exact aJ
theorem aeQ (A:List Wt)(x:Wt)(B:List Wt)(K:w.waits=A++x::B):dX prog 69 [.pv (.agg w.c)] [] (.ptr 1001 0)
  [(1001,.var (qA w (.aO 1002 0) (.aO 1003 0) (.aO 1005 0) (.pv gB))),(1002,.arr 48 0 2 (w.l.af.map Fr.c)),(1003,.iP 145 0 5 (A.map Wt.c) (wtA x (.aO 1004 0)) (B.map Wt.c)),(1004,.arr 27 0 2 (x.from_.map Pl.c)),(1005,.arr 27 0 2 (w.bad.map Pl.c))]:=by
 have h1:=h.bl;have V:=uz w.change h.cl;have X:=Um _ h.fl h.fb;have J:=h.wl;have G:=h.wx;rw[K] at J G;have S:=aeL A x B (by simpa[Nat.add_comm] using J) (fun y Q=>G y (by simp[Q])) (G x (by simp)) (fun y Q=>G y (by simp[Q]));rw[←K] at S;clear h K J G;refine fw Ul ?_;repeat' ((conv=>whnf);first|(with_reducible first|apply aM|apply fk<;>intro hc<;>try exact aV)|rewrite[nE]|rewrite[nG]|(apply mq;refine⟨_,_,X,?_⟩)|(apply mq;refine⟨_,_,S,?_⟩)|(apply mq;refine⟨_,_,fU _ (by omega),?_⟩)|refine eT V ?_|refine aK ?_|fail)
 refine⟨_,_,⟨rfl,rfl⟩,?_⟩;all_goals exact aJ
theorem aeR (A:List Wt)(x:Wt)(B:List Wt)(G:w.waits=A++x::B):dX prog 69 [.pv (.agg w.c)] [] (.ptr 1001 0)
  [(1001,.var (qA w (.pv (cB w.l.af)) (.aO 1003 0) (.pv (av w.bad)) (.pv gB))),(1003,.iP 145 0 5 (A.map Wt.c) (wtA x (.aO 1004 0)) (B.map Wt.c)),(1004,.arr 27 0 2 (x.from_.map Pl.c))]:=by
 refine gL (aeQ w h A x B G) [1002,1005] ?_
 (conv=>whnf)
 refine⟨_,_,⟨rfl,rfl⟩,?_⟩;all_goals exact aJ
end
def wkP (w:Wr)(W B O:PV):List PV:=[uu w.l.id,ii w.l.w,ii w.l.a,cB w.l.af,ii w.l.closed,uu w.l.last,uu w.ak,uu w.next,uu w.sure,W,B,uu w.change.first,av w.change.ah,ii w.fenced,O]
theorem ab7:bM prog 114 f114:=fO func114
theorem aeS (w:Wr):dF prog 114 [.agg w.c] (bl (decide (w.next>8))):=by
 refine PC.le ?_;refine dQ ab7 ?_;repeat' ((conv=>whnf);first|(with_reducible first|apply aM|apply fk<;>intro hc<;>try exact aV)|refine aK ?_|fail)
 all_goals exact aJ
theorem ab8:bM prog 76 f76:=fO func76
theorem Un (now since t:Int)(G:gU now)(J:gU since):dF prog 76 [uu now,uu since,uu t] (bl (qd now since t)):=by
 obtain⟨G,K⟩:=G;obtain⟨J,Q⟩:=J;refine PC.le ?_;have e:IntKind.u64.wrap ((if since>now then since else now)-since)=(if since>now then since else now)-since:=gX (by split<;>omega) (by split<;>omega);refine dQ ab8 ?_;repeat' ((conv=>whnf);first|(with_reducible first|apply aM|apply fk<;>intro hc<;>try exact aV)|refine aK ?_|fail)
 repeat' first|apply And.intro|exact aJ|fail
 all_goals try (conv=>whnf)
 rw[e];rfl
theorem AQ:bM prog 77 f77:=fO func77
theorem aeT (w:Wr)(W B O:PV)(n:Int)(G:aY w.l.af)(J:gU n):dF prog 77 [.dU (wkP w W B O) 0,uu n] (av (fD w n)):=by
 have hs:=jg w.l.af w.l.w n G J;refine PC.le ?_;refine dQ AQ ?_;repeat' ((conv=>whnf);first|(with_reducible first|apply aM|apply fk<;>intro hc<;>try exact aV)|(apply bX;refine⟨_,hs,?_⟩)|refine aK ?_|fail)
 all_goals exact aJ
theorem mg:bM prog 82 f82:=fO func82
theorem GN (l:List Fr)(h:0<l.length):∃k,∃G:k<l.length,k=l.length-1∧aL l=l[k]:=by
 refine⟨l.length-1,by omega,rfl,?_⟩;unfold aL;rw[List.getLast?_eq_getElem?,List.getElem?_eq_getElem (by omega)];rfl
theorem qw:aL []=kT:=rfl
theorem Sn:bM prog 154 f154:=fO func154
theorem Xd (p:Pl)(f:Fr):dF prog 154 ([]++([.agg f.c]++[.dU p.c 0])) (bl (aW f.ah p)):=by
 refine PC.le ?_;refine dQ Sn ?_;repeat' ((conv=>whnf);first|(with_reducible first|apply aM|apply fk<;>intro hc<;>try exact aV)|(apply bX;refine⟨_,aA _ _ _,?_⟩)|refine aK ?_|fail)
 all_goals exact aJ
theorem Xe:bM prog 117 f117:=fO func117
theorem Cm (w:Wr)(W B O:PV)(p:Pl):dF prog 117 [.dU (wkP w W B O) 0,.agg p.c] (bl (yT w p)):=by
 have G:=qj w.l.af 154 [] [.dU p.c 0] (fun f=>aW f.ah p) (fun f _=>Xd p f);refine PC.le ?_;refine dQ Xe ?_;repeat' ((conv=>whnf);first|(with_reducible first|apply aM|apply fk<;>intro hc<;>try exact aV)|(apply bX;refine⟨_,G,?_⟩)|refine aK ?_|fail)
 all_goals exact aJ
theorem xU:bM prog 115 f115:=fO func115
theorem Ll (l:List Wt)(f:FuncId)(first J:List PV)(p:Wt→Bool)(hp:∀x∈l,dF prog f (first++([.agg x.c]++J)) (bl (p x))) :
  dF prog 115 [sj l,.fn (.func f) first J] (ii (uI p l)):=by
 refine PC.le (pU xU fun Q=>?_);have Q:l.length≤9223372036854775807:=by simpa[IX,DU,sj] using Q
 refine dQ xU ?_;repeat' ((conv=>whnf);first|(with_reducible first|apply aM|apply fk<;>intro hc<;>try exact aV)|refine aK ?_|fail)
 refine⟨{k:Nat // k≤l.length∧∀j (S:j<l.length),j<k→p l[j]=false},fun⟨k,_⟩=>⟨[(0,.pv (sj l)),(1,.pv (.fn (.func f) first J)),(7,.pv (ii l.length)),(8,.pv (ii k))],1000000000,[]⟩,fun⟨k,_⟩=>l.length-k,⟨⟨0,by simp⟩,aD ?_⟩,?_⟩
 ·repeat' first|apply And.intro|exact aJ|fail
  all_goals try (conv=>whnf)
  simp
 rintro⟨k,V,K⟩
 repeat' ((conv=>whnf);first|(with_reducible first|apply aM|apply fk<;>intro hc<;>try exact aV)|refine aK ?_|fail)
 ·have G:k<l.length:=by simpa using hc
  refine⟨_,dR _ _ _ G,?_⟩;repeat' ((conv=>whnf);first|(with_reducible first|apply aM|apply fk<;>intro hc<;>try exact aV)|(apply bX;refine⟨_,hp _ (List.getElem_mem G),?_⟩)|refine aK ?_|fail)
  ·repeat' first|apply And.intro|exact aJ|fail
   all_goals try (conv=>whnf)
   exact (BG _ G K hc).symm
  repeat' ((conv=>whnf);first|(with_reducible first|apply aM|apply fk<;>intro hc<;>try exact aV)|refine aK ?_|fail)
  refine⟨⟨k+1,G,lF K fun _=>hc⟩,dec_lt G,aD ?_⟩;repeat' first|apply And.intro|exact aJ|fail
  all_goals try (conv=>whnf)
  exact bF (by omega) (by omega)
 repeat' first|apply And.intro|exact aJ|fail
 all_goals try (conv=>whnf)
 have:k=l.length:=by simp at hc;omega
 subst this;exact (p9 _ (vQ K)).symm
theorem xV:bM prog 161 f161:=fO func161
theorem AR (l:List Wt)(f:FuncId)(first J:List PV)(p:Wt→Bool)(hp:∀x∈l,dF prog f (first++([.agg x.c]++J)) (bl (p x))) :
  dF prog 161 [sj l,.fn (.func f) first J] (ii (uI p l)):=by
 refine PC.le (pU xV fun Q=>?_);have Q:l.length≤9223372036854775807:=by simpa[IX,DU,sj] using Q
 refine dQ xV ?_;repeat' ((conv=>whnf);first|(with_reducible first|apply aM|apply fk<;>intro hc<;>try exact aV)|refine aK ?_|fail)
 refine⟨{k:Nat // k≤l.length∧∀j (S:j<l.length),j<k→p l[j]=false},fun⟨k,_⟩=>⟨[(0,.pv (sj l)),(1,.pv (.fn (.func f) first J)),(7,.pv (ii l.length)),(8,.pv (ii k))],1000000000,[]⟩,fun⟨k,_⟩=>l.length-k,⟨⟨0,by simp⟩,aD ?_⟩,?_⟩
 ·repeat' first|apply And.intro|exact aJ|fail
  all_goals try (conv=>whnf)
  simp
 rintro⟨k,V,K⟩
 repeat' ((conv=>whnf);first|(with_reducible first|apply aM|apply fk<;>intro hc<;>try exact aV)|refine aK ?_|fail)
 ·have G:k<l.length:=by simpa using hc
  refine⟨_,dR _ _ _ G,?_⟩;repeat' ((conv=>whnf);first|(with_reducible first|apply aM|apply fk<;>intro hc<;>try exact aV)|(apply bX;refine⟨_,hp _ (List.getElem_mem G),?_⟩)|refine aK ?_|fail)
  ·repeat' first|apply And.intro|exact aJ|fail
   all_goals try (conv=>whnf)
   exact (BG _ G K hc).symm
  repeat' ((conv=>whnf);first|(with_reducible first|apply aM|apply fk<;>intro hc<;>try exact aV)|refine aK ?_|fail)
  refine⟨⟨k+1,G,lF K fun _=>hc⟩,dec_lt G,aD ?_⟩;repeat' first|apply And.intro|exact aJ|fail
  all_goals try (conv=>whnf)
  exact bF (by omega) (by omega)
 repeat' first|apply And.intro|exact aJ|fail
 all_goals try (conv=>whnf)
 have:k=l.length:=by simp at hc;omega
 subst this;exact (p9 _ (vQ K)).symm
theorem Xf:bM prog 116 f116:=fO func116
theorem Xg:bM prog 118 f118:=fO func118
theorem Xh:bM prog 119 f119:=fO func119
theorem Xi:bM prog 79 f79:=fO func79
theorem ab9 (r:Rs)(x:Wt):dF prog 116 ([]++([.agg x.c]++[.dU r.c 0])) (bl (x.n==r.n)):=by
 refine PC.le ?_;refine dQ Xf ?_;repeat' ((conv=>whnf);first|(with_reducible first|apply aM|apply fk<;>intro hc<;>try exact aV)|refine aK ?_|fail)
 all_goals exact aJ
theorem acd (r:Rs)(x:Pl):dF prog 118 ([]++([.agg x.c]++[.dU r.c 0])) (bl (x==r.from_)):=by
 refine PC.le ?_;refine dQ Xg ?_;repeat' ((conv=>whnf);first|(with_reducible first|apply aM|apply fk<;>intro hc<;>try exact aV)|refine aK ?_|fail)
 repeat' first|apply And.intro|exact aJ|fail
 all_goals try (conv=>whnf)
 all_goals first
  |exact Pl.adA _ _ _
  |skip
theorem ace (r:Rs)(x:Pl):dF prog 119 ([]++([.agg x.c]++[.dU r.c 0])) (bl ((x.node==r.from_.node) && !(x.aH==r.from_.aH))):=by
 refine PC.le ?_;refine dQ Xh ?_;repeat' ((conv=>whnf);first|(with_reducible first|apply aM|apply fk<;>intro hc<;>try exact aV)|refine aK ?_|fail)
 all_goals (repeat' first|apply And.intro|exact aJ|fail);(all_goals try (conv=>whnf))
 all_goals first
  |rfl
  |(simp_all;done)
  |(simp_all;rfl)
theorem acf (y:Pl)(x:Pl):dF prog 79 ([]++([.agg x.c]++[.dU y.c 0])) (bl (x==y)):=by
 refine PC.le ?_;refine dQ Xi ?_;repeat' ((conv=>whnf);first|(with_reducible first|apply aM|apply fk<;>intro hc<;>try exact aV)|refine aK ?_|fail)
 repeat' first|apply And.intro|exact aJ|fail
 all_goals try (conv=>whnf)
 all_goals first
  |exact Pl.adA _ _ _
  |skip
theorem Xj:bM prog 133 f133:=fO func133
theorem acg (w:Wr)(W B O:PV)(x:Wt)(J:aY w.l.af)(K:gU x.n):dF prog 133 ([]++([.agg x.c]++[.dU [.dU (wkP w W B O) 0] 0])) (bl (fT w x)):=by
 have hs:=aeT w W B O x.n J K;have G:=nY (fD w x.n) w.l.a x.from_;refine PC.le ?_;unfold fT;generalize bE (fD w x.n) w.l.a x.from_=u at *;generalize fD w x.n=sw at *;cases u<;>cases Q:(w.change.first==0)
 all_goals
  refine dQ Xj ?_;repeat' ((conv=>whnf);first|(with_reducible first|apply aM|apply fk<;>intro hc<;>try exact aV)|refine eT hs ?_|refine eT G ?_|refine aK ?_|fail)
  all_goals exact aJ
 all_goals simp_all
theorem ach:bM prog 162 f162:=fO func162
theorem Uo (w:Wr)(W B O:PV)(x:Wt)(G:aY w.l.af)(K:gU x.n):dF prog 162 ([]++([.agg x.c]++[.dU [.fn (.func 133) [] [.dU [.dU (wkP w W B O) 0] 0]] 0])) (bl (!(fT w x))):=by
 have J:=acg w W B O x G K;refine PC.le ?_;refine dQ ach ?_;repeat' ((conv=>whnf);first|(with_reducible first|apply aM|apply fk<;>intro hc<;>try exact aV)|refine eT J ?_|refine aK ?_|fail)
 all_goals exact aJ
theorem nI (l:List Fr)(h:0<l.length)(Q:l.length≤1000000):∃k:Nat,k<l.length∧IntKind.i64.wrap (((l.map Fr.c).length:Int)-1)=((k:Nat):Int)∧(l.map Fr.c)[((k:Nat):Int).toNat]? = some (aL l).c:=by
 obtain⟨k,G,K,J⟩:=GN l h;refine⟨k,G,?_,?_⟩
 ·rw[List.length_map,bF (by omega) (by omega)];omega
 rw[J];exact dR Fr.c l k G
theorem Xk (w:Wr)(V S:List (List PV))(hl:w.l.af.length≤1000000):dX prog 82 [.ptr 1 0] ((1,.var (qA w (.pv (cB w.l.af)) (.pv (.sl false 5 V)) (.pv (.sl false 2 S)) (.pv gB)))::[]) (.pv (.agg (aL w.l.af).c)) ((1,.var (qA w (.pv (cB w.l.af)) (.pv (.sl false 5 V)) (.pv (.sl false 2 S)) (.pv gB)))::[]):=by
 by_cases h0:0<w.l.af.length
 ·obtain⟨k,hk,eI,Q⟩:=nI _ h0 hl;obtain⟨lf,J⟩:∃lf,aL w.l.af=lf:=⟨_,rfl⟩;rw[J] at Q ⊢;have X:decide (((w.l.af.map Fr.c).length:Int)>0)=true:=by simp only[fG,iG];omega
  have G:k<(w.l.af.map Fr.c).length:=by rw[List.length_map];exact hk
  clear J;refine fw mg ?_;repeat' ((conv=>whnf);first|(with_reducible first|apply aM|apply fk<;>intro hc<;>try exact aV)|rewrite[eI]|((refine⟨_,Q,?_⟩))|(((with_reducible apply And.intro);focus (rw[Int.toNat_natCast];exact G)))|refine aK ?_|fail)
  refine⟨_,_,⟨rfl,rfl⟩,?_⟩;all_goals exact aJ
 have K:w.l.af=[]:=List.eq_nil_of_length_eq_zero (by omega);rw[K];rw[qw];have X:decide ((([]:List Fr).map Fr.c).length>0)=false:=by rfl
 refine fw mg ?_;repeat' ((conv=>whnf);first|(with_reducible first|apply aM|apply fk<;>intro hc<;>try exact aV)|refine aK ?_|fail)
 refine⟨_,_,⟨rfl,rfl⟩,?_⟩;repeat' first|apply And.intro|exact aJ|fail
 all_goals try (conv=>whnf)
 all_goals (first|exact rfl|(rw[K];exact ay _)|skip)
theorem Xl (w:Wr)(V S:List (List PV))(hl:w.l.af.length≤1000000):dX prog 82 [.ptr 1 0] ((1,.var (qA w (.pv (cB w.l.af)) (.pv (.sl false 5 V)) (.aO 2 0) (.pv gB)))::[(2,.arr 27 0 2 S)]) (.pv (.agg (aL w.l.af).c)) ((1,.var (qA w (.pv (cB w.l.af)) (.pv (.sl false 5 V)) (.aO 2 0) (.pv gB)))::[(2,.arr 27 0 2 S)]):=by
 by_cases h0:0<w.l.af.length
 ·obtain⟨k,hk,eI,Q⟩:=nI _ h0 hl;obtain⟨lf,J⟩:∃lf,aL w.l.af=lf:=⟨_,rfl⟩;rw[J] at Q ⊢;have X:decide (((w.l.af.map Fr.c).length:Int)>0)=true:=by simp only[fG,iG];omega
  have G:k<(w.l.af.map Fr.c).length:=by rw[List.length_map];exact hk
  clear J;refine fw mg ?_;repeat' ((conv=>whnf);first|(with_reducible first|apply aM|apply fk<;>intro hc<;>try exact aV)|rewrite[eI]|((refine⟨_,Q,?_⟩))|(((with_reducible apply And.intro);focus (rw[Int.toNat_natCast];exact G)))|refine aK ?_|fail)
  refine⟨_,_,⟨rfl,rfl⟩,?_⟩;all_goals exact aJ
 have K:w.l.af=[]:=List.eq_nil_of_length_eq_zero (by omega);rw[K];rw[qw];have X:decide ((([]:List Fr).map Fr.c).length>0)=false:=by rfl
 refine fw mg ?_;repeat' ((conv=>whnf);first|(with_reducible first|apply aM|apply fk<;>intro hc<;>try exact aV)|refine aK ?_|fail)
 refine⟨_,_,⟨rfl,rfl⟩,?_⟩;repeat' first|apply And.intro|exact aJ|fail
 all_goals try (conv=>whnf)
 all_goals (first|exact rfl|(rw[K];exact ay _)|skip)
theorem Xm (w:Wr)(V S ro:List (List PV))(hl:w.l.af.length≤1000000):dX prog 82 [.ptr 1 0] ((1,.var (qA w (.pv (cB w.l.af)) (.aO 2 0) (.aO 3 0) (.aO 4 0)))::[(2,.arr 145 0 5 V),(3,.arr 27 0 2 S),(4,.arr 93 0 10 ro)]) (.pv (.agg (aL w.l.af).c)) ((1,.var (qA w (.pv (cB w.l.af)) (.aO 2 0) (.aO 3 0) (.aO 4 0)))::[(2,.arr 145 0 5 V),(3,.arr 27 0 2 S),(4,.arr 93 0 10 ro)]):=by
 by_cases h0:0<w.l.af.length
 ·obtain⟨k,hk,eI,Q⟩:=nI _ h0 hl;obtain⟨lf,J⟩:∃lf,aL w.l.af=lf:=⟨_,rfl⟩;rw[J] at Q ⊢;have X:decide (((w.l.af.map Fr.c).length:Int)>0)=true:=by simp only[fG,iG];omega
  have G:k<(w.l.af.map Fr.c).length:=by rw[List.length_map];exact hk
  clear J;refine fw mg ?_;repeat' ((conv=>whnf);first|(with_reducible first|apply aM|apply fk<;>intro hc<;>try exact aV)|rewrite[eI]|((refine⟨_,Q,?_⟩))|(((with_reducible apply And.intro);focus (rw[Int.toNat_natCast];exact G)))|refine aK ?_|fail)
  refine⟨_,_,⟨rfl,rfl⟩,?_⟩;all_goals exact aJ
 have K:w.l.af=[]:=List.eq_nil_of_length_eq_zero (by omega);rw[K];rw[qw];have X:decide ((([]:List Fr).map Fr.c).length>0)=false:=by rfl
 refine fw mg ?_;repeat' ((conv=>whnf);first|(with_reducible first|apply aM|apply fk<;>intro hc<;>try exact aV)|refine aK ?_|fail)
 refine⟨_,_,⟨rfl,rfl⟩,?_⟩;repeat' first|apply And.intro|exact aJ|fail
 all_goals try (conv=>whnf)
 all_goals (first|exact rfl|(rw[K];exact ay _)|skip)
theorem Xn (w:Wr)(V S:List (List PV))(hl:w.l.af.length≤1000000):dX prog 82 [.ptr 1 0] ((1,.var (qA w (.aO 2 0) (.aO 3 0) (.pv (.sl false 2 S)) (.pv gB)))::[(2,.arr 48 0 2 (w.l.af.map Fr.c)),(3,.arr 145 0 5 V)]) (.pv (.agg (aL w.l.af).c)) ((1,.var (qA w (.aO 2 0) (.aO 3 0) (.pv (.sl false 2 S)) (.pv gB)))::[(2,.arr 48 0 2 (w.l.af.map Fr.c)),(3,.arr 145 0 5 V)]):=by
 by_cases h0:0<w.l.af.length
 ·obtain⟨k,hk,eI,Q⟩:=nI _ h0 hl;obtain⟨lf,J⟩:∃lf,aL w.l.af=lf:=⟨_,rfl⟩;rw[J] at Q ⊢;have X:decide (((w.l.af.map Fr.c).length:Int)>0)=true:=by simp only[fG,iG];omega
  have G:k<(w.l.af.map Fr.c).length:=by rw[List.length_map];exact hk
  clear J;refine fw mg ?_;repeat' ((conv=>whnf);first|(with_reducible first|apply aM|apply fk<;>intro hc<;>try exact aV)|rewrite[eI]|((refine⟨_,Q,?_⟩))|(((with_reducible apply And.intro);focus (rw[Int.toNat_natCast];exact G)))|refine aK ?_|fail)
  refine⟨_,_,⟨rfl,rfl⟩,?_⟩;all_goals exact aJ
 have K:w.l.af=[]:=List.eq_nil_of_length_eq_zero (by omega);rw[K];rw[qw];have X:decide ((([]:List Fr).map Fr.c).length>0)=false:=by rfl
 refine fw mg ?_;repeat' ((conv=>whnf);first|(with_reducible first|apply aM|apply fk<;>intro hc<;>try exact aV)|refine aK ?_|fail)
 refine⟨_,_,⟨rfl,rfl⟩,?_⟩;repeat' first|apply And.intro|exact aJ|fail
 all_goals try (conv=>whnf)
 all_goals (first|exact rfl|(rw[K];exact ay _)|skip)
theorem Uq:bM prog 78 f78:=fO func78
theorem Dz (is:Pl→Bool):∀(l b:List Pl),l.foldl (fun b x=>if is x && !aW b x then b++[x] else b) b=aB is b l
 |[],b=>rfl
 | p::l,b=>by
   rw[List.foldl_cons,aB];exact Dz is l _
theorem AU (w:Wr)(is:Pl→Bool):(vU w is).bad=aB is w.bad (aL w.l.af).ah:=Dz is _ _
theorem Ur (w:Wr)(ru:List (List PV))(f:FuncId)(row:List PV)(is:Pl→Bool)(hp:∀y,dF prog f ([]++([.agg (Pl.c y)]++[.dU row 0])) (bl (is y)))(V:w.l.af.length≤1000000)(hl:w.bad.length≤1000000)(hw:(aL w.l.af).ah.length≤1000) :
  dX prog 78 [.ptr 1 0,.pv (.fn (.func f) [] [.dU row 0])] [(1,.var (qA w (.pv (cB w.l.af)) (.pv (.sl false 5 ru)) (.aO 2 0) (.pv gB))),(2,.arr 27 0 2 (w.bad.map Pl.c))] (.pv (.cK []))
   [(1,.var (qA w (.pv (cB w.l.af)) (.pv (.sl false 5 ru)) (.aO 1001 0) (.pv gB))),(2,.d9 1 2 []),(1001,.arr 27 0 2 ((vU w is).bad.map Pl.c))]:=by
 have J:=Xl w ru (w.bad.map Pl.c) V;rw[AU];obtain⟨lf,gN⟩:∃lf,aL w.l.af=lf:=⟨_,rfl⟩;rw[gN] at hw J ⊢;clear gN V;obtain⟨G,Q⟩:∃G,lf.ah=G:=⟨_,rfl⟩;have S:lf.c=[uu lf.first,av G]:=by rw[←Q];rfl
 rw[S] at J;rw[Q] at hw ⊢;clear Q S;refine nV 2 1777 rfl ?_;show GC _ _ [.ptr 1 0,.pv (.fn (.func f) [] [.dU row 0])] [(1777,.arr 27 0 2 (w.bad.map Pl.c)),(1,.var (qA w (.pv (cB w.l.af)) (.pv (.sl false 5 ru)) (.aO 1777 0) (.pv gB))),(2,.d9 1 2 [])] _
 refine fw Uq ?_;repeat' ((conv=>whnf);first|(with_reducible first|apply aM|apply fk<;>intro hc<;>try exact aV)|rewrite[nE]|rewrite[nG]|refine eF J ?_|refine aK ?_|fail)
 refine⟨{k:Nat // k≤G.length},fun⟨k,_⟩=>⟨[(0,.ptr 1 0),(1,.pv (.fn (.func f) [] [.dU row 0])),(8,.pv (av G)),(9,.pv (ii G.length)),(10,.pv (ii k))],1000000000,[(1,.var (qA w (.pv (cB w.l.af)) (.pv (.sl false 5 ru)) (.aO 1001 0) (.pv gB))),(2,.d9 1 2 []),(1001,.arr 27 0 2 ((aB is w.bad (G.take k)).map Pl.c))]⟩,fun⟨k,_⟩=>G.length-k,⟨⟨0,Nat.zero_le _⟩,aD ?_⟩,?_⟩
 ·repeat' first|apply And.intro|exact aJ|fail
  all_goals try (conv=>whnf)
  all_goals simp
 rintro⟨k,hk⟩
 clear J;by_cases K:k<G.length
 ·have d0:decide ((k:Int)<(G.length:Int))=true:=by simp only[iG];omega
  have eW:IntKind.i64.wrap ((k:Int)+1)=((k+1:Nat):Int):=by rw[bF (by omega) (by omega)];omega
  have hq:=qM is w.bad G k K;have X:(is G[k] && !(aB is w.bad (G.take k)).any (· == G[k]))=false→aB is w.bad (G.take (k+1))=aB is w.bad (G.take k):=fun e=>by rw[hq,e];rfl
  have ad:=kg is (G.take k) w.bad;have ae:(G.take k).length≤1000:=by rw[List.length_take];omega
  repeat' ((conv=>whnf);first|(with_reducible first|apply aM|apply fk<;>intro hc<;>try exact aV)|((refine⟨_,dR _ _ _ K,?_⟩))|(apply bX;refine⟨_,hp _,?_⟩)|(apply bX;refine⟨_,aA _ _ _,?_⟩)|(((with_reducible apply And.intro);focus (simp only[fG,jo,jq] at *;omega)))|refine aK ?_|fail)
  all_goals
   refine⟨⟨k+1,K⟩,dec_lt K,aD ?_⟩;repeat' first|apply And.intro|exact aJ|fail
   all_goals try (conv=>whnf)
  all_goals
   first
    |exact eW
    | (rw[hq,if_pos (by simp only[Bool.and_eq_true];exact⟨by assumption,by assumption⟩),List.map_append]
       refine bW (ay _) ?_
       (repeat' first|apply And.intro|exact aJ|fail);(all_goals try (conv=>whnf)))
    |(rw[X (by rw[show is G[k]=false from by assumption];rfl)];exact ay _)
    |(rw[X (by rw[show (!(aB is w.bad (List.take k G)).any fun y=>y==G[k])=false from by assumption];exact Bool.and_false _)];exact ay _)
 have aa:k=G.length:=by omega
 subst aa;have d0:decide ((G.length:Int)<(G.length:Int))=false:=by simp
 repeat' ((conv=>whnf);first|(with_reducible first|apply aM|apply fk<;>intro hc<;>try exact aV)|refine aK ?_|fail)
 refine⟨_,_,⟨rfl,rfl⟩,?_⟩;repeat' first|apply And.intro|exact aJ|fail
 all_goals try (conv=>whnf)
 rw[List.take_length];exact ay _
theorem aeU (w:Wr)(ru ro:List (List PV))(f:FuncId)(row:List PV)(is:Pl→Bool)(hp:∀y,dF prog f ([]++([.agg (Pl.c y)]++[.dU row 0])) (bl (is y)))(V:w.l.af.length≤1000000)(hl:w.bad.length≤1000000)(hw:(aL w.l.af).ah.length≤1000) :
  dX prog 78 [.ptr 1 0,.pv (.fn (.func f) [] [.dU row 0])] [(1,.var (qA w (.pv (cB w.l.af)) (.aO 2 0) (.aO 3 0) (.aO 4 0))),(2,.arr 145 0 5 ru),(3,.arr 27 0 2 (w.bad.map Pl.c)),(4,.arr 93 0 10 ro)] (.pv (.cK []))
   [(1,.var (qA w (.pv (cB w.l.af)) (.aO 2 0) (.aO 1001 0) (.aO 4 0))),(2,.arr 145 0 5 ru),(3,.d9 1 2 []),(4,.arr 93 0 10 ro),(1001,.arr 27 0 2 ((vU w is).bad.map Pl.c))]:=by
 have J:=Xm w ru (w.bad.map Pl.c) ro V;rw[AU];obtain⟨lf,gN⟩:∃lf,aL w.l.af=lf:=⟨_,rfl⟩;rw[gN] at hw J ⊢;clear gN V;obtain⟨G,Q⟩:∃G,lf.ah=G:=⟨_,rfl⟩;have S:lf.c=[uu lf.first,av G]:=by rw[←Q];rfl
 rw[S] at J;rw[Q] at hw ⊢;clear Q S;refine nV 3 1777 rfl ?_;show GC _ _ [.ptr 1 0,.pv (.fn (.func f) [] [.dU row 0])] [(1777,.arr 27 0 2 (w.bad.map Pl.c)),(1,.var (qA w (.pv (cB w.l.af)) (.aO 2 0) (.aO 1777 0) (.aO 4 0))),(2,.arr 145 0 5 ru),(3,.d9 1 2 []),(4,.arr 93 0 10 ro)] _
 refine fw Uq ?_;repeat' ((conv=>whnf);first|(with_reducible first|apply aM|apply fk<;>intro hc<;>try exact aV)|rewrite[nE]|rewrite[nG]|refine eF J ?_|refine aK ?_|fail)
 refine⟨{k:Nat // k≤G.length},fun⟨k,_⟩=>⟨[(0,.ptr 1 0),(1,.pv (.fn (.func f) [] [.dU row 0])),(8,.pv (av G)),(9,.pv (ii G.length)),(10,.pv (ii k))],1000000000,[(1,.var (qA w (.pv (cB w.l.af)) (.aO 2 0) (.aO 1001 0) (.aO 4 0))),(2,.arr 145 0 5 ru),(3,.d9 1 2 []),(4,.arr 93 0 10 ro),(1001,.arr 27 0 2 ((aB is w.bad (G.take k)).map Pl.c))]⟩,fun⟨k,_⟩=>G.length-k,⟨⟨0,Nat.zero_le _⟩,aD ?_⟩,?_⟩
 ·repeat' first|apply And.intro|exact aJ|fail
  all_goals try (conv=>whnf)
  all_goals simp
 rintro⟨k,hk⟩
 clear J;by_cases K:k<G.length
 ·have d0:decide ((k:Int)<(G.length:Int))=true:=by simp only[iG];omega
  have eW:IntKind.i64.wrap ((k:Int)+1)=((k+1:Nat):Int):=by rw[bF (by omega) (by omega)];omega
  have hq:=qM is w.bad G k K;have X:(is G[k] && !(aB is w.bad (G.take k)).any (· == G[k]))=false→aB is w.bad (G.take (k+1))=aB is w.bad (G.take k):=fun e=>by rw[hq,e];rfl
  have ad:=kg is (G.take k) w.bad;have ae:(G.take k).length≤1000:=by rw[List.length_take];omega
  repeat' ((conv=>whnf);first|(with_reducible first|apply aM|apply fk<;>intro hc<;>try exact aV)|((refine⟨_,dR _ _ _ K,?_⟩))|(apply bX;refine⟨_,hp _,?_⟩)|(apply bX;refine⟨_,aA _ _ _,?_⟩)|(((with_reducible apply And.intro);focus (simp only[fG,jo,jq] at *;omega)))|refine aK ?_|fail)
  all_goals
   refine⟨⟨k+1,K⟩,dec_lt K,aD ?_⟩;repeat' first|apply And.intro|exact aJ|fail
   all_goals try (conv=>whnf)
  all_goals
   first
    |exact eW
    | (rw[hq,if_pos (by simp only[Bool.and_eq_true];exact⟨by assumption,by assumption⟩),List.map_append]
       refine bW (ay _) ?_
       (repeat' first|apply And.intro|exact aJ|fail);(all_goals try (conv=>whnf)))
    |(rw[X (by rw[show is G[k]=false from by assumption];rfl)];exact ay _)
    |(rw[X (by rw[show (!(aB is w.bad (List.take k G)).any fun y=>y==G[k])=false from by assumption];exact Bool.and_false _)];exact ay _)
 have aa:k=G.length:=by omega
 subst aa;have d0:decide ((G.length:Int)<(G.length:Int))=false:=by simp
 repeat' ((conv=>whnf);first|(with_reducible first|apply aM|apply fk<;>intro hc<;>try exact aV)|refine aK ?_|fail)
 refine⟨_,_,⟨rfl,rfl⟩,?_⟩;repeat' first|apply And.intro|exact aJ|fail
 all_goals try (conv=>whnf)
 rw[List.take_length];exact ay _
def za (w:Wr)(x:Wt)(l:List Pl):List Rq:=(l.filter fun p=>!aW x.from_ p).map fun p=>⟨p,1,w.l.id,x.n,w.ak,w.sure,0,x.body,[]⟩
theorem sN (w:Wr)(x:Wt):za w x (fD w x.n)=kM w x:=rfl
theorem sO (w:Wr)(x:Wt)(l:List Pl):(za w x l).length≤l.length:=by
 unfold za;rw[List.length_map];exact List.length_filter_le _ _
theorem Cn (w:Wr)(x:Wt)(l:List Pl)(k:Nat)(h:k<l.length):za w x (l.take (k+1))=za w x (l.take k)++(if aW x.from_ l[k] then [] else [⟨l[k],1,w.l.id,x.n,w.ak,w.sure,0,x.body,[]⟩]):=by
 rw[List.take_succ_eq_append_getElem h];unfold za;rw[List.filter_append,List.map_append];congr 1
 cases G:aW x.from_ l[k]<;>simp[G]
theorem GQ:bM prog 80 f80:=fO func80
theorem acj (w:Wr)(x:Wt)(now:Int)(i:Nat)(X rb:List (List PV))(ro:List Rq)(hx:X[i]? = some x.c)(ah:ro.length≤1000000)(hf:aY w.l.af)(hb:Uc x)(hs:(fD w x.n).length≤1000) :
  dX prog 80 [.ptr 1 0,.eY 2 0 i 0,.pv (uu now)]
   [(1,.var (qA w (.pv (cB w.l.af)) (.aO 2 0) (.aO 3 0) (.aO 4 0))),(2,.arr 145 0 5 X),(3,.arr 27 0 2 rb),(4,.arr 93 0 10 (ro.map Rq.c))] (.pv (.cK []))
   [(1,.var (qA w (.pv (cB w.l.af)) (.aO 2 0) (.aO 3 0) (.aO 1001 0))),(2,.arr 145 0 5 (X.set i ({ x with since:=now }:Wt).c)),(3,.arr 27 0 2 rb),(4,.d9 1 10 []),(1001,.arr 93 0 10 ((ro ++kM w x).map Rq.c))]:=by
 have Q:=jg w.l.af w.l.w x.n hf hb.n;have uJ:=hb.body;rw[←sN];obtain⟨G,S⟩:∃G,fD w x.n=G:=⟨_,rfl⟩;rw[show setOf w.l.af w.l.w x.n=G from S] at Q;rw[S] at hs ⊢;clear S hf hb;have ad:i<X.length:=(List.getElem?_eq_some_iff.1 hx).1;have V:(X.set i ({ x with since:=now }:Wt).c)[i]? = some [uu x.n,CR x.body,av x.from_,uu x.born,uu now]:=by
  rw[List.getElem?_set_self ad];rfl
 have aa:=fM x.body (by omega);refine nV 4 1777 rfl ?_;show GC _ _ [.ptr 1 0,.eY 2 0 i 0,.pv (uu now)] [(1777,.arr 93 0 10 (ro.map Rq.c)),(1,.var (qA w (.pv (cB w.l.af)) (.aO 2 0) (.aO 3 0) (.aO 1777 0))),(2,.arr 145 0 5 X),(3,.arr 27 0 2 rb),(4,.d9 1 10 [])] _
 refine fw GQ ?_;repeat' ((conv=>whnf);first|(with_reducible first|apply aM|apply fk<;>intro hc<;>try exact aV)|(refine Or.inr ?_;(conv=>whnf);refine⟨_,bY bV (bZ mixed bV) AQ rfl ?_,fun _ _ h=>h⟩)|(apply bX;refine⟨_,Q,?_⟩)|((refine⟨_,hx,?_⟩))|((refine⟨_,V,?_⟩))|refine aK ?_|fail)
 clear Q;refine⟨{k:Nat // k≤G.length},fun⟨k,_⟩=>⟨[(0,.ptr 1 0),(1,.eY 2 0 i 0),(17,.pv (av G)),(18,.pv (ii G.length)),(19,.pv (ii k))],1000000000,[(1,.var (qA w (.pv (cB w.l.af)) (.aO 2 0) (.aO 3 0) (.aO 1001 0))),(2,.arr 145 0 5 (X.set i ({ x with since:=now }:Wt).c)),(3,.arr 27 0 2 rb),(4,.d9 1 10 []),(1001,.arr 93 0 10 ((ro ++za w x (G.take k)).map Rq.c))]⟩,fun⟨k,_⟩=>G.length-k,⟨⟨0,Nat.zero_le _⟩,aD ?_⟩,?_⟩
 ·repeat' first|apply And.intro|exact aJ|fail
  all_goals try (conv=>whnf)
  all_goals first
   |(simp only[List.take_zero,za,List.filter_nil,zmn,List.append_nil];exact ay _)
   |simp[za]
   |skip
 rintro⟨k,hk⟩
 by_cases J:k<G.length
 ·have d0:decide ((k:Int)<(G.length:Int))=true:=by simp only[iG];omega
  have eW:IntKind.i64.wrap ((k:Int)+1)=((k+1:Nat):Int):=by rw[bF (by omega) (by omega)];omega
  have hq:=Cn w x G k J;have ag:=sO w x (G.take k);have ai:(G.take k).length≤1000:=by rw[List.length_take];omega
  have K:=aA x.from_ G[k].node G[k].aH;rw[show (x.from_.any fun y=>y==(⟨G[k].node,G[k].aH⟩:Pl))=aW x.from_ G[k] from rfl] at K;generalize aW x.from_ G[k]=bb at K hq;dsimp only
  cases bb with
  | true=>
    simp only[↓reduceIte,List.append_nil] at hq;repeat' ((conv=>whnf);first|(with_reducible first|apply aM|apply fk<;>intro hc<;>try exact iA)|((refine⟨_,dR _ _ _ J,?_⟩))|((refine⟨_,V,?_⟩))|(apply bX;refine⟨_,K,?_⟩)|refine aK ?_|fail)
    refine⟨⟨k+1,J⟩,dec_lt J,aD ?_⟩;simp only[hq];repeat' first|apply And.intro|exact aJ|fail
    all_goals try (conv=>whnf)
    all_goals exact eW
  | false=>
    simp only[Bool.false_eq_true,↓reduceIte] at hq;repeat' ((conv=>whnf);first|(with_reducible first|apply aM|apply fk<;>intro hc<;>try exact iA)|((refine⟨_,dR _ _ _ J,?_⟩))|((refine⟨_,V,?_⟩))|(apply bX;refine⟨_,K,?_⟩)|(apply bX;refine⟨_,aa,?_⟩)|(((with_reducible apply And.intro);focus (simp only[fG,jo,jq,rP] at *;omega)))|refine aK ?_|fail)
    refine⟨⟨k+1,J⟩,dec_lt J,aD ?_⟩;simp only[hq];repeat' first|apply And.intro|exact aJ|fail
    all_goals try (conv=>whnf)
    all_goals first
     |exact eW
     | (rw[←List.append_assoc,List.map_append]
        refine bW (ay _) ?_
        (repeat' first|apply And.intro|exact aJ|fail);(all_goals try (conv=>whnf)))
 have ae:k=G.length:=by omega
 subst ae;have d0:decide ((G.length:Int)<(G.length:Int))=false:=by simp
 repeat' ((conv=>whnf);first|(with_reducible first|apply aM|apply fk<;>intro hc<;>try exact aV)|refine aK ?_|fail)
 refine⟨_,_,⟨rfl,rfl⟩,?_⟩;repeat' first|apply And.intro|exact aJ|fail
 all_goals try (conv=>whnf)
 all_goals (rw[List.take_length];exact ay _)
theorem ack (w:Wr)(x:Wt)(now:Int)(i lo hi:Nat)(X:List (List PV))(ro:List Rq)(hx:X[i]? = some x.c)(ah:ro.length≤1000000)(hf:aY w.l.af)(hb:Uc x)(hs:(fD w x.n).length≤1000) :
  dX prog 80 [.ptr 1 0,.eY 2 0 i 0,.pv (uu now)]
   [(1,.var (qA w (.pv (cB w.l.af)) (.sub 2 0 5 lo hi) (.pv gB) (.aO 3 0))),(2,.arr 145 0 5 X),(3,.arr 93 0 10 (ro.map Rq.c))] (.pv (.cK []))
   [(1,.var (qA w (.pv (cB w.l.af)) (.sub 2 0 5 lo hi) (.pv gB) (.aO 1001 0))),(2,.arr 145 0 5 (X.set i ({ x with since:=now }:Wt).c)),(3,.d9 1 10 []),(1001,.arr 93 0 10 ((ro ++kM w x).map Rq.c))]:=by
 have Q:=jg w.l.af w.l.w x.n hf hb.n;have uJ:=hb.body;rw[←sN];obtain⟨G,S⟩:∃G,fD w x.n=G:=⟨_,rfl⟩;rw[show setOf w.l.af w.l.w x.n=G from S] at Q;rw[S] at hs ⊢;clear S hf hb;have ad:i<X.length:=(List.getElem?_eq_some_iff.1 hx).1;have V:(X.set i ({ x with since:=now }:Wt).c)[i]? = some [uu x.n,CR x.body,av x.from_,uu x.born,uu now]:=by
  rw[List.getElem?_set_self ad];rfl
 have aa:=fM x.body (by omega);refine nV 3 1777 rfl ?_;show GC _ _ [.ptr 1 0,.eY 2 0 i 0,.pv (uu now)] [(1777,.arr 93 0 10 (ro.map Rq.c)),(1,.var (qA w (.pv (cB w.l.af)) (.sub 2 0 5 lo hi) (.pv gB) (.aO 1777 0))),(2,.arr 145 0 5 X),(3,.d9 1 10 [])] _
 refine fw GQ ?_;repeat' ((conv=>whnf);first|(with_reducible first|apply aM|apply fk<;>intro hc<;>try exact aV)|(refine Or.inr ?_;(conv=>whnf);refine⟨_,bY bV (bZ mixed bV) AQ rfl ?_,fun _ _ h=>h⟩)|(apply bX;refine⟨_,Q,?_⟩)|((refine⟨_,hx,?_⟩))|((refine⟨_,V,?_⟩))|refine aK ?_|fail)
 clear Q;refine⟨{k:Nat // k≤G.length},fun⟨k,_⟩=>⟨[(0,.ptr 1 0),(1,.eY 2 0 i 0),(17,.pv (av G)),(18,.pv (ii G.length)),(19,.pv (ii k))],1000000000,[(1,.var (qA w (.pv (cB w.l.af)) (.sub 2 0 5 lo hi) (.pv gB) (.aO 1001 0))),(2,.arr 145 0 5 (X.set i ({ x with since:=now }:Wt).c)),(3,.d9 1 10 []),(1001,.arr 93 0 10 ((ro ++za w x (G.take k)).map Rq.c))]⟩,fun⟨k,_⟩=>G.length-k,⟨⟨0,Nat.zero_le _⟩,aD ?_⟩,?_⟩
 ·repeat' first|apply And.intro|exact aJ|fail
  all_goals try (conv=>whnf)
  all_goals first
   |(simp only[List.take_zero,za,List.filter_nil,zmn,List.append_nil];exact ay _)
   |simp[za]
   |skip
 rintro⟨k,hk⟩
 by_cases J:k<G.length
 ·have d0:decide ((k:Int)<(G.length:Int))=true:=by simp only[iG];omega
  have eW:IntKind.i64.wrap ((k:Int)+1)=((k+1:Nat):Int):=by rw[bF (by omega) (by omega)];omega
  have hq:=Cn w x G k J;have ag:=sO w x (G.take k);have ai:(G.take k).length≤1000:=by rw[List.length_take];omega
  have K:=aA x.from_ G[k].node G[k].aH;rw[show (x.from_.any fun y=>y==(⟨G[k].node,G[k].aH⟩:Pl))=aW x.from_ G[k] from rfl] at K;generalize aW x.from_ G[k]=bb at K hq;dsimp only
  cases bb with
  | true=>
    simp only[↓reduceIte,List.append_nil] at hq;repeat' ((conv=>whnf);first|(with_reducible first|apply aM|apply fk<;>intro hc<;>try exact iA)|((refine⟨_,dR _ _ _ J,?_⟩))|((refine⟨_,V,?_⟩))|(apply bX;refine⟨_,K,?_⟩)|refine aK ?_|fail)
    refine⟨⟨k+1,J⟩,dec_lt J,aD ?_⟩;simp only[hq];repeat' first|apply And.intro|exact aJ|fail
    all_goals try (conv=>whnf)
    all_goals exact eW
  | false=>
    simp only[Bool.false_eq_true,↓reduceIte] at hq;repeat' ((conv=>whnf);first|(with_reducible first|apply aM|apply fk<;>intro hc<;>try exact iA)|((refine⟨_,dR _ _ _ J,?_⟩))|((refine⟨_,V,?_⟩))|(apply bX;refine⟨_,K,?_⟩)|(apply bX;refine⟨_,aa,?_⟩)|(((with_reducible apply And.intro);focus (simp only[fG,jo,jq,rP] at *;omega)))|refine aK ?_|fail)
    refine⟨⟨k+1,J⟩,dec_lt J,aD ?_⟩;simp only[hq];repeat' first|apply And.intro|exact aJ|fail
    all_goals try (conv=>whnf)
    all_goals first
     |exact eW
     | (rw[←List.append_assoc,List.map_append]
        refine bW (ay _) ?_
        (repeat' first|apply And.intro|exact aJ|fail);(all_goals try (conv=>whnf)))
 have ae:k=G.length:=by omega
 subst ae;have d0:decide ((G.length:Int)<(G.length:Int))=false:=by simp
 repeat' ((conv=>whnf);first|(with_reducible first|apply aM|apply fk<;>intro hc<;>try exact aV)|refine aK ?_|fail)
 refine⟨_,_,⟨rfl,rfl⟩,?_⟩;repeat' first|apply And.intro|exact aJ|fail
 all_goals try (conv=>whnf)
 all_goals (rw[List.take_length];exact ay _)
theorem acn (w:Wr)(x:Wt)(now:Int)(ru rb:List (List PV))(hf:aY w.l.af)(X:Uc x)(hs:(fD w x.n).length≤1000) :
  dX prog 80 [.ptr 1 0,.ptr 3 0,.pv (uu now)]
   [(1,.var (qA w (.pv (cB w.l.af)) (.aO 2 0) (.pv (.sl false 2 rb)) (.pv gB))),(2,.arr 145 0 5 ru),(3,.var (wtA x (.pv (av x.from_))))] (.pv (.cK []))
   [(1,.var (qA w (.pv (cB w.l.af)) (.aO 2 0) (.pv (.sl false 2 rb)) (.aO 1001 0))),(2,.arr 145 0 5 ru),(3,.var (wtA { x with since:=now } (.pv (av x.from_)))),(1001,.arr 93 0 10 ((kM w x).map Rq.c))]:=by
 have Q:=jg w.l.af w.l.w x.n hf X.n;have uJ:=X.body;rw[←sN];obtain⟨G,S⟩:∃G,fD w x.n=G:=⟨_,rfl⟩;rw[show setOf w.l.af w.l.w x.n=G from S] at Q;rw[S] at hs ⊢;clear S hf X;have aa:=fM x.body (by omega);refine fw GQ ?_;repeat' ((conv=>whnf);first|(with_reducible first|apply aM|apply fk<;>intro hc<;>try exact aV)|(refine Or.inr ?_;(conv=>whnf);refine⟨_,bY bV (bZ mixed bV) AQ rfl ?_,fun _ _ h=>h⟩)|(apply bX;refine⟨_,Q,?_⟩)|refine aK ?_|fail)
 clear Q;refine⟨{k:Nat // k≤G.length},fun⟨k,_⟩=>⟨[(0,.ptr 1 0),(1,.ptr 3 0),(17,.pv (av G)),(18,.pv (ii G.length)),(19,.pv (ii k))],1000000000,[(1,.var (qA w (.pv (cB w.l.af)) (.aO 2 0) (.pv (.sl false 2 rb)) (.aO 1001 0))),(2,.arr 145 0 5 ru),(3,.var (wtA { x with since:=now } (.pv (av x.from_)))),(1001,.arr 93 0 10 ((za w x (G.take k)).map Rq.c))]⟩,fun⟨k,_⟩=>G.length-k,⟨⟨0,Nat.zero_le _⟩,aD ?_⟩,?_⟩
 ·repeat' first|apply And.intro|exact aJ|fail
  all_goals try (conv=>whnf)
  all_goals first
   |(simp only[List.take_zero,za,List.filter_nil,zmn,List.append_nil];exact ay _)
   |simp[za]
   |skip
 rintro⟨k,hk⟩
 by_cases J:k<G.length
 ·have d0:decide ((k:Int)<(G.length:Int))=true:=by simp only[iG];omega
  have eW:IntKind.i64.wrap ((k:Int)+1)=((k+1:Nat):Int):=by rw[bF (by omega) (by omega)];omega
  have V:=Cn w x G k J;have ae:=sO w x (G.take k);have ag:(G.take k).length≤1000:=by rw[List.length_take];omega
  have K:=aA x.from_ G[k].node G[k].aH;rw[show (x.from_.any fun y=>y==(⟨G[k].node,G[k].aH⟩:Pl))=aW x.from_ G[k] from rfl] at K;generalize aW x.from_ G[k]=bb at K V;dsimp only
  cases bb with
  | true=>
    simp only[↓reduceIte,List.append_nil] at V;repeat' ((conv=>whnf);first|(with_reducible first|apply aM|apply fk<;>intro hc<;>try exact iA)|((refine⟨_,dR _ _ _ J,?_⟩))|(apply bX;refine⟨_,K,?_⟩)|refine aK ?_|fail)
    refine⟨⟨k+1,J⟩,dec_lt J,aD ?_⟩;simp only[V];repeat' first|apply And.intro|exact aJ|fail
    all_goals try (conv=>whnf)
    all_goals exact eW
  | false=>
    simp only[Bool.false_eq_true,↓reduceIte] at V;repeat' ((conv=>whnf);first|(with_reducible first|apply aM|apply fk<;>intro hc<;>try exact iA)|((refine⟨_,dR _ _ _ J,?_⟩))|(apply bX;refine⟨_,K,?_⟩)|(apply bX;refine⟨_,aa,?_⟩)|(((with_reducible apply And.intro);focus (simp only[fG,jo,jq,rP] at *;omega)))|refine aK ?_|fail)
    refine⟨⟨k+1,J⟩,dec_lt J,aD ?_⟩;simp only[V];repeat' first|apply And.intro|exact aJ|fail
    all_goals try (conv=>whnf)
    all_goals first
     |exact eW
     | (rw[List.map_append]
        refine bW (ay _) ?_
        (repeat' first|apply And.intro|exact aJ|fail);(all_goals try (conv=>whnf)))
 have ad:k=G.length:=by omega
 subst ad;have d0:decide ((G.length:Int)<(G.length:Int))=false:=by simp
 repeat' ((conv=>whnf);first|(with_reducible first|apply aM|apply fk<;>intro hc<;>try exact aV)|refine aK ?_|fail)
 refine⟨_,_,⟨rfl,rfl⟩,?_⟩;repeat' first|apply And.intro|exact aJ|fail
 all_goals try (conv=>whnf)
 all_goals (rw[List.take_length];exact ay _)
end Go.Proofs.YtfoiekbkkbnpkaaGreat.Tb
end

/-
  Contracts of functions of the program and of the document, each for every input that its premises name.
-/
import Derived.Test.YtiagceoepkaeoaaGreatBe
import Derived.Test.YtiagceoepkaeoaaGreatBd
import Derived.Test.YtiagceoepkaeoaaGreatAf
import Derived.Test.YtiagceoepkaeoaaGreatBb
set_option linter.unusedSectionVars false
set_option linter.unusedVariables false
set_option linter.unusedSimpArgs false
set_option maxRecDepth 100000
set_option maxHeartbeats 4000000
section
open Go Go.Proofs.Tryz Go.AX
namespace Go.Proofs.YtiagceoepkaeoaaGreat.Tb
theorem gD:Mg prog 13 f13:=bZ func13
def OW (p:Pn)(o:aV):Oc:={ bS with code:=8,aY:=(bq p o.channel).aY,owner:=(bq p o.channel).owner }
structure ZK (o:aV):Prop where
 fr:o.aA.length≤1000000
 bk:∀x∈o.aA,x.aI.length≤1000000
 sn:o.seen.length≤1000000
theorem VE (p:Pn)(o:aV)(h:tK p)(ho:ZK o)(hm:(j6 p&&xZ o)=false):bE prog 13 [.agg p.c,.agg o.c] (.dn [.agg p.c,.agg (ig 1).c]):=by
 refine PC.le ?_;have c1:=Eg p h;have c2:=nY p h;have c3:=ng o ho.fr ho.bk ho.sn;cases hp:j6 p with
 | false=>
   rw[hp] at c2;clear hm hp c3;refine bN gD ?_;repeat' ((conv=>whnf);first|with_reducible apply aK|((with_reducible apply fk)<;>intro hc<;>try exact aM)|(apply aC;(conv=>whnf);refine⟨_,c1,?_⟩)|(apply aC;(conv=>whnf);refine⟨_,c2,?_⟩)|((with_reducible apply And.intro);exact aG)|fail)
   all_goals exact aL
 | true=>
   rw[hp] at c2;have hw:xZ o=false:=by simpa[hp] using hm
   rw[hw] at c3;clear hm hp hw;refine bN gD ?_;repeat' ((conv=>whnf);first|with_reducible apply aK|((with_reducible apply fk)<;>intro hc<;>try exact aM)|(apply aC;(conv=>whnf);refine⟨_,c1,?_⟩)|(apply aC;(conv=>whnf);refine⟨_,c2,?_⟩)|(apply aC;(conv=>whnf);refine⟨_,c3,?_⟩)|((with_reducible apply And.intro);exact aG)|fail)
   all_goals exact aL
theorem JU (p:Pn)(o:aV)(h:tK p)(ho:ZK o)(hp:j6 p=true)(hw:xZ o=true)(x:Oc)(ht:tO p.past o=(x,true)):bE prog 13 [.agg p.c,.agg o.c] (.dn [.agg p.c,.agg x.c]):=by
 refine PC.le ?_;have c1:=Eg p h;have c2:=nY p h;have c3:=ng o ho.fr ho.bk ho.sn;have c4:=qY p o h.past;rw[hp] at c2;rw[hw] at c3;rw[ht] at c4;clear hp hw ht;refine bN gD ?_;repeat' ((conv=>whnf);first|with_reducible apply aK|((with_reducible apply fk)<;>intro hc<;>try exact aM)|(apply aC;(conv=>whnf);refine⟨_,c1,?_⟩)|(apply aC;(conv=>whnf);refine⟨_,c2,?_⟩)|(apply aC;(conv=>whnf);refine⟨_,c3,?_⟩)|(apply aC;(conv=>whnf);refine⟨_,c4,?_⟩)|((with_reducible apply And.intro);exact aG)|fail)
 all_goals exact aL
theorem VF (p:Pn)(o:aV)(h:tK p)(ho:ZK o)(hp:j6 p=true)(hw:xZ o=true)(ht:tO p.past o=(bS,false))(hv:p.version=4611686018427387903):bE prog 13 [.agg p.c,.agg o.c] (.dn [.agg p.c,.agg (ig 3).c]):=by
 refine PC.le ?_;have c1:=Eg p h;have c2:=nY p h;have c3:=ng o ho.fr ho.bk ho.sn;have c4:=qY p o h.past;rw[hp] at c2;rw[hw] at c3;rw[ht] at c4;have hv2:(p.version==4611686018427387903)=true:=by rw[hv];rfl
 clear hp hw ht hv;refine bN gD ?_;repeat' ((conv=>whnf);first|with_reducible apply aK|((with_reducible apply fk)<;>intro hc<;>try exact aM)|(apply aC;(conv=>whnf);refine⟨_,c1,?_⟩)|(apply aC;(conv=>whnf);refine⟨_,c2,?_⟩)|(apply aC;(conv=>whnf);refine⟨_,c3,?_⟩)|(apply aC;(conv=>whnf);refine⟨_,c4,?_⟩)|((with_reducible apply And.intro);exact aG)|fail)
 all_goals exact aL
theorem fE {o:aV}(h:xZ o=true):1≤o.kind∧o.kind≤12:=by
 unfold xZ at h;simp only[Bool.and_eq_true,decide_eq_true_eq] at h;exact h.1
theorem VG (p:Pn)(o:aV)(h:tK p)(ho:ZK o)(hp:j6 p=true)(hw:xZ o=true)(hch:dZ o.kind 1=true→1≤o.channel∧o.channel≤3)(ht:tO p.past o=(bS,false))(hv:(p.version==4611686018427387903)=false)(hs:gJ p o=true) :
  bE prog 13 [.agg p.c,.agg o.c] (.dn [.agg p.c,.agg (OW p o).c]):=by
 refine PC.le ?_;have c1:=Eg p h;have c2:=nY p h;have c3:=ng o ho.fr ho.bk ho.sn;have c4:=qY p o h.past;have c5:=oH p o h.channels (fE hw).1 (fE hw).2 hch;rw[hp] at c2;rw[hw] at c3;rw[ht] at c4;rw[hs] at c5;unfold gJ at hs;simp only[Bool.and_eq_true,decide_eq_true_eq] at hs;have aji:=hch hs.1;have hle:=hs.2.1;have hlc:=h.channels;have hi:(o.channel-1).toNat<p.channels.length:=by omega
 have hwr:IntKind.i64.wrap (o.channel-1)=((o.channel-1).toNat:Int):=by rw[aO (by omega) (by omega)];omega
 have hr:=cu Ch.c p.channels (o.channel-1).toNat hi;have hg:bq p o.channel=p.channels[(o.channel-1).toNat]:=by unfold bq;rw[getElem!_pos p.channels _ hi]
 unfold OW;rw[hg];generalize p.channels[(o.channel-1).toNat]=x at *;clear hp hw ht hs hch aji hle hlc hi hg;refine bN gD ?_;repeat' ((conv=>whnf);first|with_reducible apply aK|((with_reducible apply fk)<;>intro hc<;>try exact aM)|(apply aC;(conv=>whnf);refine⟨_,c1,?_⟩)|(apply aC;(conv=>whnf);refine⟨_,c2,?_⟩)|(apply aC;(conv=>whnf);refine⟨_,c3,?_⟩)|(apply aC;(conv=>whnf);refine⟨_,c4,?_⟩)|(apply aC;(conv=>whnf);refine⟨_,c5,?_⟩)|((rewrite[hwr]))|((refine⟨_,hr,?_⟩))|(((with_reducible apply And.intro);exact mg))|((with_reducible apply And.intro);exact aG)|fail)
 all_goals exact aL
end Go.Proofs.YtiagceoepkaeoaaGreat.Tb
end
section
open Go Go.Proofs.Tryz Go.AX Go.Sort Go.Shelf Go.RowKit Go.Lib
namespace Go.Proofs.YtiagceoepkaeoaaGreat.Tb
def Vn (x:Cu):List Value:=[.int .i64 x.sub,.int .u64 x.at_]
theorem aes (a b c d:Int)(W:World):Calls prog 210 #[.agg #[.int .i64 a,.int .u64 b],.agg #[.int .i64 c,.int .u64 d]] W fun e w'=>e=.returned (.int .i64 (Lib.compareInt a c))∧∃q os',w'=grow (W.drewN q) os':=by
 go_enter func210,Tryz.ntmps210
 go_wp2
 all_goals
  go_ret
  refine⟨?_,0,_,by rw[alloc_eq_grow,alloc_eq_grow,grow_grow];rfl⟩;simp_all [Lib.compareInt];try omega
theorem agO (x y:Cu)(W:World):Calls prog 210 #[.agg (Vn x).toArray,.agg (Vn y).toArray] W fun e w'=>e=.returned (.int .i64 (uE Cu.sub x y))∧∃q os',w'=grow (W.drewN q) os':=
 aes x.sub x.at_ y.sub y.at_ W
def Vo (x:Pa):List Value:=[.int .i64 x.who,.int .u64 x.inc,.int .u64 x.n,.int .i64 x.out.code,.int .u64 x.out.aY,.int .u64 x.out.at_,.int .u64 x.out.bA,.int .i64 x.out.owner]
theorem aeu (a b c d e f g h a2 b2 c2 d2 e2 f2 g2 h2:Int)(W:World):Calls prog 88 #[.agg #[.int .i64 a,.int .u64 b,.int .u64 c,.int .i64 d,.int .u64 e,.int .u64 f,.int .u64 g,.int .i64 h],.agg #[.int .i64 a2,.int .u64 b2,.int .u64 c2,.int .i64 d2,.int .u64 e2,.int .u64 f2,.int .u64 g2,.int .i64 h2]] W
  fun r w'=>r=.returned (.int .i64 (Lib.compareInt a a2))∧∃q os',w'=grow (W.drewN q) os':=by
 go_enter func88,Tryz.ntmps88
 go_wp2
 all_goals
  go_ret
  refine⟨?_,0,_,by rw[alloc_eq_grow,alloc_eq_grow,grow_grow];rfl⟩;simp_all [Lib.compareInt];try omega
theorem agP (x y:Pa)(W:World):Calls prog 88 #[.agg (Vo x).toArray,.agg (Vo y).toArray] W fun e w'=>e=.returned (.int .i64 (uE Pa.who x y))∧∃q os',w'=grow (W.drewN q) os':=
 aeu _ _ _ _ _ _ _ _ _ _ _ _ _ _ _ _ W
theorem Cm:Mg prog 239 f239:=bZ func239
theorem zD (f:Fn):bE prog 239 [.sc (.slice none 0 0),ii 0,ii 0,.fn f [] []] unit:=by
 refine PC.le ?_;refine bN Cm ?_;repeat' ((conv=>whnf);first|with_reducible apply aK|((with_reducible apply fk)<;>intro hc<;>try exact aM)|((with_reducible apply And.intro);exact aG)|fail)
 refine⟨Unit,fun _=>⟨[(0,.pv (.sc (.slice none 0 0))),(1,.pv (ii 0)),(2,.pv (ii 0)),(3,.pv (.fn f [] [])),(8,.pv (ii 1))],1000000000,[]⟩,fun _=>0,⟨(),ak ?_⟩,?_⟩
 ·repeat' first
   |fail
   |with_reducible exact True.intro
   |with_reducible exact rfl
   |with_reducible exact ah _
   |((conv=>whnf);with_reducible apply And.intro)
   |((conv=>whnf);with_reducible exact True.intro)
   |exact rfl
   |exact fun h=>h
   |exact ah _
  all_goals try (conv=>whnf)
 rintro⟨⟩
 repeat' ((conv=>whnf);first|with_reducible apply aK|((with_reducible apply fk)<;>intro hc<;>try exact aM)|((with_reducible apply And.intro);exact aG)|fail)
 all_goals exact aL
theorem Cn:Mg prog 226 f226:=bZ func226
theorem Gi (f:Fn):bE prog 226 [.sc (.slice none 0 0),ii 0,ii 0,ii 0,.fn f [] []] unit:=by
 refine PC.le ?_;refine bN Cn ?_;repeat' ((conv=>whnf);first|with_reducible apply aK|((with_reducible apply fk)<;>intro hc<;>try exact aM)|((with_reducible apply And.intro);exact aG)|fail)
 refine⟨Unit,fun _=>⟨[(0,.pv (.sc (.slice none 0 0))),(1,.pv (ii 0)),(2,.pv (ii 0)),(3,.pv (ii 0)),(4,.pv (.fn f [] [])),(10,.pv (bl true)),(11,.pv (bl true))],1000000000,[]⟩,fun _=>0,⟨(),ak ?_⟩,?_⟩
 ·repeat' first
   |fail
   |with_reducible exact True.intro
   |with_reducible exact rfl
   |with_reducible exact ah _
   |((conv=>whnf);with_reducible apply And.intro)
   |((conv=>whnf);with_reducible exact True.intro)
   |exact rfl
   |exact fun h=>h
   |exact ah _
  all_goals try (conv=>whnf)
 rintro⟨⟩
 repeat' ((conv=>whnf);first|with_reducible apply aK|((with_reducible apply fk)<;>intro hc<;>try exact aM)|(apply aC;(conv=>whnf);refine⟨_,zD f,?_⟩)|((with_reducible apply And.intro);exact aG)|fail)
 all_goals exact aL
theorem Gj:Mg prog 209 f209:=bZ func209
theorem D5 (f:Fn):bE prog 209 [.sc (.slice none 0 0),.fn f [] []] unit:=by
 refine PC.le ?_;refine bN Gj ?_;repeat' ((conv=>whnf);first|with_reducible apply aK|((with_reducible apply fk)<;>intro hc<;>try exact aM)|(apply aC;(conv=>whnf);refine⟨_,tZ,?_⟩)|(apply aC;(conv=>whnf);refine⟨_,Gi f,?_⟩)|((with_reducible apply And.intro);exact aG)|fail)
 all_goals exact aL
theorem Bd (l:List Cu)(h:l.length≤8796093022208):dR prog 209 [.aF 1 0,.pv (.fn (.func 210) [] [])] [(1,.arr 127 0 2 (l.map Cu.c))] (.pv unit)
  [(1,.arr 127 0 2 (((iQ Cu.sub) l.toArray).toList.map Cu.c))]:=by
 have eg:∀args w,(callFunc 210 args).run prog w=.ok (.enter 210 args) w:=enters_of func210 (by kernel_rfl) rfl;exact Ee (enc:=Vn) (st:=2) (iQ Cu.sub) (by decide) (fun _=>rfl) (fun x v hv=>by simp[Vn] at hv;(repeat' (first|rfl|(rcases hv with hv|hv)|(subst hv)))) (qx Cu.sub)
  (fun blk cap d w hH hblk hsz=>AnyQ.slices_SortFunc_eq Tryz.sortCu 2 Tryz.isAgg127 Tryz.sizeOf127 Vn (fun _=>rfl) (fun x v hv=>by simp[Vn] at hv;(repeat' (first|rfl|(rcases hv with hv|hv)|(subst hv)))) (uE Cu.sub) (Sz Cu.sub) 210 #[] blk 0 cap d w eg
   (fun _ _ _ _ x y=>agO x y _) hH hblk hsz) (D5 _) l (by omega)
theorem Gl:Mg prog 180 f180:=bZ func180
theorem Co (f:Fn):bE prog 180 [.sc (.slice none 0 0),ii 0,ii 0,.fn f [] []] unit:=by
 refine PC.le ?_;refine bN Gl ?_;repeat' ((conv=>whnf);first|with_reducible apply aK|((with_reducible apply fk)<;>intro hc<;>try exact aM)|((with_reducible apply And.intro);exact aG)|fail)
 refine⟨Unit,fun _=>⟨[(0,.pv (.sc (.slice none 0 0))),(1,.pv (ii 0)),(2,.pv (ii 0)),(3,.pv (.fn f [] [])),(8,.pv (ii 1))],1000000000,[]⟩,fun _=>0,⟨(),ak ?_⟩,?_⟩
 ·repeat' first
   |fail
   |with_reducible exact True.intro
   |with_reducible exact rfl
   |with_reducible exact ah _
   |((conv=>whnf);with_reducible apply And.intro)
   |((conv=>whnf);with_reducible exact True.intro)
   |exact rfl
   |exact fun h=>h
   |exact ah _
  all_goals try (conv=>whnf)
 rintro⟨⟩
 repeat' ((conv=>whnf);first|with_reducible apply aK|((with_reducible apply fk)<;>intro hc<;>try exact aM)|((with_reducible apply And.intro);exact aG)|fail)
 all_goals exact aL
theorem Gm:Mg prog 137 f137:=bZ func137
theorem Le (f:Fn):bE prog 137 [.sc (.slice none 0 0),ii 0,ii 0,ii 0,.fn f [] []] unit:=by
 refine PC.le ?_;refine bN Gm ?_;repeat' ((conv=>whnf);first|with_reducible apply aK|((with_reducible apply fk)<;>intro hc<;>try exact aM)|((with_reducible apply And.intro);exact aG)|fail)
 refine⟨Unit,fun _=>⟨[(0,.pv (.sc (.slice none 0 0))),(1,.pv (ii 0)),(2,.pv (ii 0)),(3,.pv (ii 0)),(4,.pv (.fn f [] [])),(10,.pv (bl true)),(11,.pv (bl true))],1000000000,[]⟩,fun _=>0,⟨(),ak ?_⟩,?_⟩
 ·repeat' first
   |fail
   |with_reducible exact True.intro
   |with_reducible exact rfl
   |with_reducible exact ah _
   |((conv=>whnf);with_reducible apply And.intro)
   |((conv=>whnf);with_reducible exact True.intro)
   |exact rfl
   |exact fun h=>h
   |exact ah _
  all_goals try (conv=>whnf)
 rintro⟨⟩
 repeat' ((conv=>whnf);first|with_reducible apply aK|((with_reducible apply fk)<;>intro hc<;>try exact aM)|(apply aC;(conv=>whnf);refine⟨_,Co f,?_⟩)|((with_reducible apply And.intro);exact aG)|fail)
 all_goals exact aL
theorem Lf:Mg prog 87 f87:=bZ func87
theorem Im (f:Fn):bE prog 87 [.sc (.slice none 0 0),.fn f [] []] unit:=by
 refine PC.le ?_;refine bN Lf ?_;repeat' ((conv=>whnf);first|with_reducible apply aK|((with_reducible apply fk)<;>intro hc<;>try exact aM)|(apply aC;(conv=>whnf);refine⟨_,tZ,?_⟩)|(apply aC;(conv=>whnf);refine⟨_,Le f,?_⟩)|((with_reducible apply And.intro);exact aG)|fail)
 all_goals exact aL
theorem Gn (l:List Pa)(h:l.length≤8796093022208):dR prog 87 [.aF 1 0,.pv (.fn (.func 88) [] [])] [(1,.arr 68 0 8 (l.map Pa.c))] (.pv unit)
  [(1,.arr 68 0 8 (((iQ Pa.who) l.toArray).toList.map Pa.c))]:=by
 have eg:∀args w,(callFunc 88 args).run prog w=.ok (.enter 88 args) w:=enters_of func88 (by kernel_rfl) rfl;exact Ee (enc:=Vo) (st:=8) (iQ Pa.who) (by decide) (fun _=>rfl) (fun x v hv=>by simp[Vo] at hv;(repeat' (first|rfl|(rcases hv with hv|hv)|(subst hv)))) (qx Pa.who)
  (fun blk cap d w hH hblk hsz=>AnyQ.slices_SortFunc_eq Tryz.sortPa 8 Tryz.isAgg68 Tryz.sizeOf68 Vo (fun _=>rfl) (fun x v hv=>by simp[Vo] at hv;(repeat' (first|rfl|(rcases hv with hv|hv)|(subst hv)))) (uE Pa.who) (Sz Pa.who) 88 #[] blk 0 cap d w eg
   (fun _ _ _ _ x y=>agP x y _) hH hblk hsz) (Im _) l (by omega)
end Go.Proofs.YtiagceoepkaeoaaGreat.Tb
end
section
open Go Go.Proofs.Tryz Go.AX
namespace Go.Proofs.YtiagceoepkaeoaaGreat.Tb
theorem OD:Mg prog 134 f134:=bZ func134
theorem Tg:Mg prog 176 f176:=bZ func176
theorem Ti {l:List Cu}{n:Int}{k:Nat}(hk:k<l.length)(h:∀j (hj:j<l.length),j<k→(l[j].sub==n)=false)(hp:(l[k].sub==n)=true):zf l n=l[k].at_:=by
 unfold zf;have:l.find? (fun x=>x.sub==n)=some l[k]:=by
  rw[List.find?_eq_some_iff_getElem];exact⟨hp,k,hk,rfl,fun j hj=>by simp[h j (by omega) hj]⟩
 rw[this]
theorem OE {l:List Cu}{n:Int}(h:∀j (hj:j<l.length),j<l.length→(l[j].sub==n)=false):zf l n=0:=by
 unfold zf;have:l.find? (fun x=>x.sub==n)=none:=by
  rw[List.find?_eq_none];intro x hx;obtain⟨j,hj,rfl⟩:=List.getElem_of_mem hx;simp[h j hj hj]
 rw[this]
def lN (c:Ch)(k:AV):List AV:=[.pv (uu c.aY),.pv (ii c.owner),.pv (uu c.inc),.pv (uu c.eB),.pv (uu c.first),.pv (uu c.trim),.pv (p9 c.af),.pv (qp c.seen),k]
def Ei (row:List AV)(A B:List Ch)(K:List Cu)(L:List Lg)(Q:List Pa):List (Nat×aD):=
 [(2,.dM 47 0 9 (A.map Ch.c) row (B.map Ch.c)),(3,.arr 127 0 2 (K.map Cu.c)),(4,.arr 50 0 6 (L.map Lg.c)),(5,.arr 68 0 8 (Q.map Pa.c))]
theorem agN (a b:Int)(A:List Ch)(c:Ch)(B:List Ch)(L:List Lg)(Q:List Pa)(o:aV)(out:Oc)(hl:c.au.length≤1000000):dR prog 176 [.ptr 1 0]
  ((1,.var (wC a b (.aF 2 0) (.aF 3 0) (.aF 4 0) o (.bn 2 0 (A.map Ch.c).length 0) out))::jv (c.c.map .pv) A B L Q) (.pv (uu (zf c.au o.sub))) ((1,.var (wC a b (.aF 2 0) (.aF 3 0) (.aF 4 0) o (.bn 2 0 (A.map Ch.c).length 0) out))::jv (c.c.map .pv) A B L Q):=by
 obtain⟨X,hX⟩:∃X,X=zf c.au o.sub:=⟨_,rfl⟩;rw[←hX];have hm:((c.au.map Cu.c).length:Int)=(c.au.length:Int):=by rw[List.length_map]
 simp only[wC,jv,Ei,lN,aV.c,Pl.c,Ch.c,Oc.c,List.map_cons,List.map_nil,List.cons_append,List.nil_append];refine jA Tg ?_;repeat' ((conv=>whnf);first|with_reducible apply aK|((with_reducible apply fk)<;>intro hc<;>try exact aM)|((with_reducible apply And.intro);exact aG)|fail)
 refine⟨{k:Nat // k≤c.au.length∧∀j (hj:j<c.au.length),j<k→(c.au[j].sub==o.sub)=false},fun⟨k,_⟩=>⟨[(0,.ptr 1 0),(11,.pv (H8 c.au)),(12,.pv (ii c.au.length)),(13,.pv (ii k))],1000000000,(1,.var (wC a b (.aF 2 0) (.aF 3 0) (.aF 4 0) o (.bn 2 0 (A.map Ch.c).length 0) out))::jv (c.c.map .pv) A B L Q⟩,fun⟨k,_⟩=>c.au.length-k,⟨⟨0,by simp⟩,ak ?_⟩,?_⟩
 ·simp only[wC,jv,Ei,lN,aV.c,Pl.c,Ch.c,Oc.c,List.map_cons,List.map_nil,List.cons_append,List.nil_append];repeat' first|((conv=>whnf);with_reducible apply And.intro)|exact aL|fail
  all_goals try (conv=>whnf)
  all_goals exact hm
 rintro⟨k,hk,hn⟩
 simp only[wC,jv,Ei,lN,aV.c,Pl.c,Ch.c,Oc.c,List.map_cons,List.map_nil,List.cons_append,List.nil_append];by_cases hlt:k<c.au.length
 ·have d0:decide ((k:Int)<(c.au.length:Int))=true:=by simp only[kC];omega
  have eW:IntKind.i64.wrap ((k:Int)+1)=((k+1:Nat):Int):=by rw[aO (by omega) (by omega)];omega
  have hr:=cu Cu.c c.au k hlt;cases hq:(c.au[k].sub==o.sub) with
  | true=>
    rw[Ti hlt hn hq] at hX;subst hX;repeat' ((conv=>whnf);first|with_reducible apply aK|((with_reducible apply fk)<;>intro hc<;>try exact aM)|((refine⟨_,hr,?_⟩))|(((with_reducible apply And.intro);exact mg))|((with_reducible apply And.intro);exact aG)|fail)
    refine⟨_,_,⟨rfl,rfl⟩,?_⟩;all_goals exact aL
  | false=>
    have hn2:=dS hn fun _=>hq
    repeat' ((conv=>whnf);first|with_reducible apply aK|((with_reducible apply fk)<;>intro hc<;>try exact aM)|((refine⟨_,hr,?_⟩))|(((with_reducible apply And.intro);exact mg))|((with_reducible apply And.intro);exact aG)|fail)
    refine⟨⟨k+1,hlt,hn2⟩,dec_lt hlt,ak ?_⟩;simp only[wC,jv,Ei,lN,aV.c,Pl.c,Ch.c,Oc.c,List.map_cons,List.map_nil,List.cons_append,List.nil_append];repeat' first|((conv=>whnf);with_reducible apply And.intro)|exact aL|fail
    all_goals try (conv=>whnf)
    all_goals exact eW
 have hke:k=c.au.length:=by omega
 subst hke;have d0:decide ((c.au.length:Int)<(c.au.length:Int))=false:=by simp
 rw[OE hn] at hX;subst hX;repeat' ((conv=>whnf);first|with_reducible apply aK|((with_reducible apply fk)<;>intro hc<;>try exact aM)|((with_reducible apply And.intro);exact aG)|fail)
 refine⟨_,_,⟨rfl,rfl⟩,?_⟩;all_goals exact aL
theorem acP (a b:Int)(A:List Ch)(c:Ch)(B:List Ch)(L:List Lg)(Q:List Pa)(o:aV)(out:Oc)(hl:c.au.length≤1000000):dR prog 176 [.ptr 1 0]
  ((1,.var (wC a b (.aF 2 0) (.aF 4 0) (.aF 5 0) o (.bn 2 0 (A.map Ch.c).length 0) out))::Ei (lN c (.aF 3 0)) A B c.au L Q) (.pv (uu (zf c.au o.sub))) ((1,.var (wC a b (.aF 2 0) (.aF 4 0) (.aF 5 0) o (.bn 2 0 (A.map Ch.c).length 0) out))::Ei (lN c (.aF 3 0)) A B c.au L Q):=by
 obtain⟨X,hX⟩:∃X,X=zf c.au o.sub:=⟨_,rfl⟩;rw[←hX];have hm:((c.au.map Cu.c).length:Int)=(c.au.length:Int):=by rw[List.length_map]
 simp only[wC,jv,Ei,lN,aV.c,Pl.c,Ch.c,Oc.c,List.map_cons,List.map_nil,List.cons_append,List.nil_append];refine jA Tg ?_;repeat' ((conv=>whnf);first|with_reducible apply aK|((with_reducible apply fk)<;>intro hc<;>try exact aM)|((with_reducible apply And.intro);exact aG)|fail)
 refine⟨{k:Nat // k≤c.au.length∧∀j (hj:j<c.au.length),j<k→(c.au[j].sub==o.sub)=false},fun⟨k,_⟩=>⟨[(0,.ptr 1 0),(11,.aF 3 0),(12,.pv (ii c.au.length)),(13,.pv (ii k))],1000000000,(1,.var (wC a b (.aF 2 0) (.aF 4 0) (.aF 5 0) o (.bn 2 0 (A.map Ch.c).length 0) out))::Ei (lN c (.aF 3 0)) A B c.au L Q⟩,fun⟨k,_⟩=>c.au.length-k,⟨⟨0,by simp⟩,ak ?_⟩,?_⟩
 ·simp only[wC,jv,Ei,lN,aV.c,Pl.c,Ch.c,Oc.c,List.map_cons,List.map_nil,List.cons_append,List.nil_append];repeat' first|((conv=>whnf);with_reducible apply And.intro)|exact aL|fail
  all_goals try (conv=>whnf)
  all_goals exact hm
 rintro⟨k,hk,hn⟩
 simp only[wC,jv,Ei,lN,aV.c,Pl.c,Ch.c,Oc.c,List.map_cons,List.map_nil,List.cons_append,List.nil_append];by_cases hlt:k<c.au.length
 ·have d0:decide ((k:Int)<(c.au.length:Int))=true:=by simp only[kC];omega
  have eW:IntKind.i64.wrap ((k:Int)+1)=((k+1:Nat):Int):=by rw[aO (by omega) (by omega)];omega
  have hr:=cu Cu.c c.au k hlt;cases hq:(c.au[k].sub==o.sub) with
  | true=>
    rw[Ti hlt hn hq] at hX;subst hX;repeat' ((conv=>whnf);first|with_reducible apply aK|((with_reducible apply fk)<;>intro hc<;>try exact aM)|((refine⟨_,hr,?_⟩))|(((with_reducible apply And.intro);exact mg))|((with_reducible apply And.intro);exact aG)|fail)
    refine⟨_,_,⟨rfl,rfl⟩,?_⟩;all_goals exact aL
  | false=>
    have hn2:=dS hn fun _=>hq
    repeat' ((conv=>whnf);first|with_reducible apply aK|((with_reducible apply fk)<;>intro hc<;>try exact aM)|((refine⟨_,hr,?_⟩))|(((with_reducible apply And.intro);exact mg))|((with_reducible apply And.intro);exact aG)|fail)
    refine⟨⟨k+1,hlt,hn2⟩,dec_lt hlt,ak ?_⟩;simp only[wC,jv,Ei,lN,aV.c,Pl.c,Ch.c,Oc.c,List.map_cons,List.map_nil,List.cons_append,List.nil_append];repeat' first|((conv=>whnf);with_reducible apply And.intro)|exact aL|fail
    all_goals try (conv=>whnf)
    all_goals exact eW
 have hke:k=c.au.length:=by omega
 subst hke;have d0:decide ((c.au.length:Int)<(c.au.length:Int))=false:=by simp
 rw[OE hn] at hX;subst hX;repeat' ((conv=>whnf);first|with_reducible apply aK|((with_reducible apply fk)<;>intro hc<;>try exact aM)|((with_reducible apply And.intro);exact aG)|fail)
 refine⟨_,_,⟨rfl,rfl⟩,?_⟩;all_goals exact aL
theorem YJ (a b:Int)(A:List Ch)(c:Ch)(B:List Ch)(L:List Lg)(Q:List Pa)(o:aV)(hl:c.au.length≤1000000):dR prog 134 [.ptr 1 0]
  ((1,.var (wC a b (.aF 2 0) (.aF 3 0) (.aF 4 0) o (.bn 2 0 (A.map Ch.c).length 0) bS))::jv (c.c.map .pv) A B L Q) (.pv (.dn []))
  ((1,.var (wC a b (.aF 2 0) (.aF 3 0) (.aF 4 0) o (.bn 2 0 (A.map Ch.c).length 0) { bS with at_:=zf c.au o.sub }))::jv (c.c.map .pv) A B L Q):=by
 have cA:=agN a b A c B L Q o bS hl;simp only[wC,jv,Ei,lN,aV.c,Pl.c,Ch.c,Oc.c,List.map_cons,List.map_nil,List.cons_append,List.nil_append] at cA ⊢;refine jA OD ?_;repeat' ((conv=>whnf);first|with_reducible apply aK|((with_reducible apply fk)<;>intro hc<;>try exact aM)|(apply fq;(conv=>whnf);refine⟨_,_,cA,?_⟩)|((with_reducible apply And.intro);exact aG)|fail)
 refine⟨_,_,⟨rfl,rfl⟩,?_⟩;all_goals exact aL
theorem Lh:Mg prog 86 f86:=bZ func86
theorem abq:Mg prog 208 f208:=bZ func208
theorem Du (a b:Int)(ch lg pa:PV)(o:aV)(c:PV)(out:Oc)(x:Pa):bE prog 86 ([]++([.agg x.c]++[.bU [.bU (wV a b ch lg pa o c out) 0] 0])) (bl (x.who==o.who)):=by
 refine PC.le ?_;refine bN Lh ?_;repeat' ((conv=>whnf);first|with_reducible apply aK|((with_reducible apply fk)<;>intro hc<;>try exact aM)|((with_reducible apply And.intro);exact aG)|fail)
 all_goals exact aL
theorem YK (a b:Int)(ch lg pa:PV)(o:aV)(c:PV)(out:Oc)(x:Cu):bE prog 208 ([]++([.agg x.c]++[.bU [.bU (wV a b ch lg pa o c out) 0] 0])) (bl (x.sub==o.sub)):=by
 refine PC.le ?_;refine bN abq ?_;repeat' ((conv=>whnf);first|with_reducible apply aK|((with_reducible apply fk)<;>intro hc<;>try exact aM)|((with_reducible apply And.intro);exact aG)|fail)
 all_goals exact aL
theorem yG:Mg prog 85 f85:=bZ func85
theorem Io (a b:Int)(ch:List Ch)(lg:List Lg)(o:aV)(out:Oc)(l:List Pa)(h0:∀x∈l,(fun (x:Pa)=>x.who==o.who) x=false)(hl:l.length≤1000000) :
  dR prog 85 [.aF 1 0,.fn (.func 86) [] [.ptr 2 0]] ((1,.arr 68 0 8 (l.map Pa.c))::[(2,.var [.ptr 3 0]),(3,.var (wC a b (.pv (jL ch)) (.pv (dN lg)) (.aF 1 0) o (.pv .junk) out))]) (.aF 1 0) ((1,.arr 68 0 8 (l.map Pa.c))::[(2,.var [.ptr 3 0]),(3,.var (wC a b (.pv (jL ch)) (.pv (dN lg)) (.aF 1 0) o (.pv .junk) out))]):=by
 have hx:qo (fun (x:Pa)=>x.who==o.who) l = -1:=iP (fun (x:Pa)=>x.who==o.who) h0;have hD:∀m:List Pa,∀x∈l,bE prog 86 ([]++([.agg x.c]++[.bU [.bU (wV a b (jL ch) (dN lg) (.sl false 8 (m.map Pa.c)) o .junk out) 0] 0])) (bl ((fun (x:Pa)=>x.who==o.who) x)):=fun m x _=>Du _ _ _ _ _ _ _ _ _
 have cI:=nX l 86 [] [.bU [.bU (wV a b (jL ch) (dN lg) (.sl false 8 (l.map Pa.c)) o .junk out) 0] 0] (fun (x:Pa)=>x.who==o.who) (hD l);rw[hx] at cI;clear hx hD h0;simp only[wC,wV,jv,Ei,lN,aV.c,Pl.c,Oc.c,List.map_cons,List.map_nil,List.cons_append,List.nil_append,List.map_append] at cI ⊢;refine jA yG ?_;repeat' ((conv=>whnf);first|with_reducible apply aK|((with_reducible apply fk)<;>intro hc<;>try exact aM)|(apply aC;(conv=>whnf);refine⟨_,cI,?_⟩)|((with_reducible apply And.intro);exact aG)|fail)
 refine⟨_,_,⟨rfl,rfl⟩,?_⟩;all_goals exact aL
theorem Gp (a b:Int)(ch:List Ch)(lg:List Lg)(o:aV)(out:Oc)(l:List Pa)(h0:¬∀x∈l,(fun (x:Pa)=>x.who==o.who) x=false)(hl:l.length≤1000000) :
  dR prog 85 [.aF 1 0,.fn (.func 86) [] [.ptr 2 0]] ((1,.arr 68 0 8 (l.map Pa.c))::[(2,.var [.ptr 3 0]),(3,.var (wC a b (.pv (jL ch)) (.pv (dN lg)) (.aF 1 0) o (.pv .junk) out))]) (.sub 1 0 8 0 (l.filter fun x=>!(fun (x:Pa)=>x.who==o.who) x).length) ((1,.arr 68 0 8 ((l.filter fun x=>!(fun (x:Pa)=>x.who==o.who) x).map Pa.c++List.replicate (l.length-(l.filter fun x=>!(fun (x:Pa)=>x.who==o.who) x).length) [ii 0,uu 0,uu 0,ii 0,uu 0,uu 0,uu 0,ii 0]))::[(2,.var [.ptr 3 0]),(3,.var (wC a b (.pv (jL ch)) (.pv (dN lg)) (.aF 1 0) o (.pv .junk) out))]):=by
 obtain⟨ix,hix,hxe,hxp,hxf⟩:∃k,∃hk:k<l.length,qo (fun (x:Pa)=>x.who==o.who) l=(k:Nat)∧(fun (x:Pa)=>x.who==o.who) l[k]=true∧∀j (hj:j<l.length),j<k→(fun (x:Pa)=>x.who==o.who) l[j]=false:=by
  rcases nK (fun (x:Pa)=>x.who==o.who) l with ⟨_,h⟩|⟨k,hk,h1,h2,h3⟩
  ·exact absurd h h0
  exact⟨k,hk,h1,h2,h3⟩
 obtain⟨hS,hK⟩:=ze (p:=(fun (x:Pa)=>x.who==o.who)) ix hix hxf hxp;have hD:∀m:List Pa,∀x∈l,bE prog 86 ([]++([.agg x.c]++[.bU [.bU (wV a b (jL ch) (dN lg) (.sl false 8 (m.map Pa.c)) o .junk out) 0] 0])) (bl ((fun (x:Pa)=>x.who==o.who) x)):=fun m x _=>Du _ _ _ _ _ _ _ _ _
 have cI:=nX l 86 [] [.bU [.bU (wV a b (jL ch) (dN lg) (.sl false 8 (l.map Pa.c)) o .junk out) 0] 0] (fun (x:Pa)=>x.who==o.who) (hD l);rw[hxe] at cI;have d9:((ix:Int) == -1)=false:=by simp
 have eX:IntKind.i64.wrap ((ix:Int)+1)=((ix+1:Nat):Int):=by rw[aO (by omega) (by omega)];omega
 simp only[wC,wV,jv,Ei,lN,aV.c,Pl.c,Oc.c,List.map_cons,List.map_nil,List.cons_append,List.nil_append,List.map_append] at cI hD ⊢;refine jA yG ?_;repeat' ((conv=>whnf);first|with_reducible apply aK|((with_reducible apply fk)<;>intro hc<;>try exact aM)|(apply aC;(conv=>whnf);refine⟨_,cI,?_⟩)|((with_reducible apply And.intro);exact aG)|fail)
 clear cI d9;refine⟨{jm:Nat×List Pa // KE (fun (x:Pa)=>x.who==o.who) l jm},fun⟨(j,m),_⟩=>⟨[(0,.aF 1 0),(1,.fn (.func 86) [] [.ptr 2 0]),(5,.pv (ii (dF (fun (x:Pa)=>x.who==o.who) l j).length)),(6,.pv (ii j))],1000000000,(1,.arr 68 0 8 (m.map Pa.c))::[(2,.var [.ptr 3 0]),(3,.var (wC a b (.pv (jL ch)) (.pv (dN lg)) (.aF 1 0) o (.pv .junk) out))]⟩,fun⟨(j,_),_⟩=>l.length-j,⟨⟨(ix+1,l),hS⟩,ak ?_⟩,?_⟩
 ·simp only[wC,wV,jv,Ei,lN,aV.c,Pl.c,Oc.c,List.map_cons,List.map_nil,List.cons_append,List.nil_append,List.map_append];repeat' first|((conv=>whnf);with_reducible apply And.intro)|exact aL|fail
  all_goals try (conv=>whnf)
  all_goals first
   |exact eX
   |rw[hK]
 rintro⟨⟨j,m⟩,hj⟩
 obtain⟨hj1,hj2,hj3,hj4⟩:=id hj;simp only at hj1 hj2 hj3 hj4;have hkl:=Ar (fun (x:Pa)=>x.who==o.who) l j hj1;simp only[wC,wV,jv,Ei,lN,aV.c,Pl.c,Oc.c,List.map_cons,List.map_nil,List.cons_append,List.nil_append,List.map_append];by_cases hlt:j<m.length
 ·have hlt2:j<l.length:=by omega
  have d0:decide ((j:Int)<((m.map Pa.c).length:Int))=true:=by simp only[List.length_map,decide_eq_true_eq];omega
  obtain⟨_,he⟩:=Fu hj hlt2;have JL:=hD m m[j] (by rw[he];exact List.getElem_mem hlt2);have hi:(dF (fun (x:Pa)=>x.who==o.who) l j).length<m.length:=by omega
  have eJ:IntKind.i64.wrap ((j:Int)+1)=((j+1:Nat):Int):=by rw[aO (by omega) (by omega)];omega
  cases hp2:(fun (x:Pa)=>x.who==o.who) m[j] with
  | false=>
    change bE _ _ _ (bl ((fun (x:Pa)=>x.who==o.who) m[j])) at JL
    rw[hp2] at JL;have Pd:(fun (x:Pa)=>x.who==o.who) l[j]=false:=by rw[←he];exact hp2
    have hks:(dF (fun (x:Pa)=>x.who==o.who) l (j+1)).length=(dF (fun (x:Pa)=>x.who==o.who) l j).length+1:=za hlt2 Pd;have eI:IntKind.i64.wrap (((dF (fun (x:Pa)=>x.who==o.who) l j).length:Int)+1)=((dF (fun (x:Pa)=>x.who==o.who) l (j+1)).length:Int):=by rw[aO (by omega) (by omega),hks];omega
    repeat' ((conv=>whnf);first|with_reducible apply aK|((with_reducible apply fk)<;>intro hc<;>try exact aM)|(((with_reducible apply And.intro);exact mg))|((refine⟨_,cu _ _ _ hlt,?_⟩))|((refine⟨_,cu _ _ _ hi,?_⟩))|(apply aC;(conv=>whnf);refine⟨_,JL,?_⟩)|((with_reducible apply And.intro);exact aG)|fail)
    refine⟨⟨(j+1,m.set (dF (fun (x:Pa)=>x.who==o.who) l j).length l[j]),BP hj hlt2 Pd⟩,dec_lt hlt2,ak ?_⟩;simp only[wC,wV,jv,Ei,lN,aV.c,Pl.c,Oc.c,List.map_cons,List.map_nil,List.cons_append,List.nil_append,List.map_append];repeat' first|((conv=>whnf);with_reducible apply And.intro)|exact aL|fail
    all_goals try (conv=>whnf)
    all_goals first
     |exact eI
     |exact eJ
     | (refine iG ?_
        rw[←he,List.map_set];rfl)
  | true=>
    change bE _ _ _ (bl ((fun (x:Pa)=>x.who==o.who) m[j])) at JL
    rw[hp2] at JL;have hpt:(fun (x:Pa)=>x.who==o.who) l[j]=true:=by rw[←he];exact hp2
    have hks:(dF (fun (x:Pa)=>x.who==o.who) l (j+1)).length=(dF (fun (x:Pa)=>x.who==o.who) l j).length:=zb hlt2 hpt;repeat' ((conv=>whnf);first|with_reducible apply aK|((with_reducible apply fk)<;>intro hc<;>try exact aM)|(((with_reducible apply And.intro);exact mg))|((refine⟨_,cu _ _ _ hlt,?_⟩))|(apply aC;(conv=>whnf);refine⟨_,JL,?_⟩)|((with_reducible apply And.intro);exact aG)|fail)
    refine⟨⟨(j+1,m),BO hj hlt2 hpt⟩,dec_lt hlt2,ak ?_⟩;simp only[wC,wV,jv,Ei,lN,aV.c,Pl.c,Oc.c,List.map_cons,List.map_nil,List.cons_append,List.nil_append,List.map_append];repeat' first|((conv=>whnf);with_reducible apply And.intro)|exact aL|fail
    all_goals try (conv=>whnf)
    all_goals first
     |exact eJ
     |rw[hks]
 have hjl:j=l.length:=by omega
 have d0:decide ((j:Int)<((m.map Pa.c).length:Int))=false:=by simp only[List.length_map,decide_eq_false_iff_not];omega
 subst hjl;have hkf:dF (fun (x:Pa)=>x.who==o.who) l l.length=l.filter fun x=>!(fun (x:Pa)=>x.who==o.who) x:=by unfold dF;rw[List.take_length]
 repeat' ((conv=>whnf);first|with_reducible apply aK|((with_reducible apply fk)<;>intro hc<;>try exact aM)|(((with_reducible apply And.intro);focus (simp only[List.length_map,List.length_append,List.length_take,List.length_drop,List.length_replicate];omega)))|((with_reducible apply And.intro);exact aG)|fail)
 refine⟨_,_,⟨rfl,rfl⟩,?_⟩;repeat' first|((conv=>whnf);with_reducible apply And.intro)|exact aL|fail
 all_goals try (conv=>whnf)
 all_goals first
  |(rw[hkf];rfl)
  | (refine iG ?_
     rw[←hkf,Int.toNat_natCast,List.length_map,←List.map_take,hj3,List.drop_eq_nil_of_le (by simp),List.append_nil,hj2])
theorem Ip (a b:Int)(ch:List Ch)(lg:List Lg)(o:aV)(out:Oc)(l:List Pa)(h0:¬∀x∈l,(fun (x:Pa)=>x.who==o.who) x=false)(hl:l.length≤1000000) :
  dR prog 85 [.aF 1 0,.fn (.func 86) [] [.ptr 2 0]] ((1,.arr 68 0 8 (l.map Pa.c))::[(2,.var [.ptr 3 0]),(3,.var (wC a b (.pv (jL ch)) (.pv (dN lg)) (.aF 1 0) o (.pv .junk) out))]) (.aF 1 1) ((1,.arr 68 1 8 ((l.filter fun x=>!(fun (x:Pa)=>x.who==o.who) x).map Pa.c))::[(2,.var [.ptr 3 0]),(3,.var (wC a b (.pv (jL ch)) (.pv (dN lg)) (.aF 1 0) o (.pv .junk) out))]):=by
 have h:=KN (Gp a b ch lg o out l h0 hl) (by simp);rw[List.take_append_of_le_length (by simp),List.take_of_length_le (by simp)] at h;exact h
theorem uF:Mg prog 207 f207:=bZ func207
theorem D6 (a b:Int)(A:List Ch)(c:Ch)(B:List Ch)(L:List Lg)(Q:List Pa)(o:aV)(out:Oc)(l:List Cu)(h0:∀x∈l,(fun (x:Cu)=>x.sub==o.sub) x=false)(hl:l.length≤1000000) :
  dR prog 207 [.aF 1 0,.fn (.func 208) [] [.ptr 2 0]] ((1,.arr 127 0 2 (l.map Cu.c))::[(2,.var [.ptr 3 0]),(3,.var (wC a b (.aF 4 0) (.aF 5 0) (.aF 6 0) o (.bn 4 0 (A.map Ch.c).length 0) out)),(4,.dM 47 0 9 (A.map Ch.c) (lN c (.aF 1 0)) (B.map Ch.c)),(5,.arr 50 0 6 (L.map Lg.c)),(6,.arr 68 0 8 (Q.map Pa.c))]) (.aF 1 0) ((1,.arr 127 0 2 (l.map Cu.c))::[(2,.var [.ptr 3 0]),(3,.var (wC a b (.aF 4 0) (.aF 5 0) (.aF 6 0) o (.bn 4 0 (A.map Ch.c).length 0) out)),(4,.dM 47 0 9 (A.map Ch.c) (lN c (.aF 1 0)) (B.map Ch.c)),(5,.arr 50 0 6 (L.map Lg.c)),(6,.arr 68 0 8 (Q.map Pa.c))]):=by
 have hx:qo (fun (x:Cu)=>x.sub==o.sub) l = -1:=iP (fun (x:Cu)=>x.sub==o.sub) h0;have hD:∀m:List Cu,∀x∈l,bE prog 208 ([]++([.agg x.c]++[.bU [.bU (wV a b (.sl false 9 (A.map Ch.c++[uu c.aY,ii c.owner,uu c.inc,uu c.eB,uu c.first,uu c.trim,p9 c.af,qp c.seen,.sl false 2 (m.map Cu.c)]::B.map Ch.c)) (.sl false 6 (L.map Lg.c)) (.sl false 8 (Q.map Pa.c)) o .junk out) 0] 0])) (bl ((fun (x:Cu)=>x.sub==o.sub) x)):=fun m x _=>YK _ _ _ _ _ _ _ _ _
 have cI:=l9 l 208 [] [.bU [.bU (wV a b (.sl false 9 (A.map Ch.c++[uu c.aY,ii c.owner,uu c.inc,uu c.eB,uu c.first,uu c.trim,p9 c.af,qp c.seen,.sl false 2 (l.map Cu.c)]::B.map Ch.c)) (.sl false 6 (L.map Lg.c)) (.sl false 8 (Q.map Pa.c)) o .junk out) 0] 0] (fun (x:Cu)=>x.sub==o.sub) (hD l);rw[hx] at cI;clear hx hD h0;simp only[wC,wV,jv,Ei,lN,aV.c,Pl.c,Oc.c,List.map_cons,List.map_nil,List.cons_append,List.nil_append,List.map_append] at cI ⊢;refine jA uF ?_;repeat' ((conv=>whnf);first|with_reducible apply aK|((with_reducible apply fk)<;>intro hc<;>try exact aM)|(apply aC;(conv=>whnf);refine⟨_,cI,?_⟩)|((with_reducible apply And.intro);exact aG)|fail)
 refine⟨_,_,⟨rfl,rfl⟩,?_⟩;all_goals exact aL
theorem Cq (a b:Int)(A:List Ch)(c:Ch)(B:List Ch)(L:List Lg)(Q:List Pa)(o:aV)(out:Oc)(l:List Cu)(h0:¬∀x∈l,(fun (x:Cu)=>x.sub==o.sub) x=false)(hl:l.length≤1000000) :
  dR prog 207 [.aF 1 0,.fn (.func 208) [] [.ptr 2 0]] ((1,.arr 127 0 2 (l.map Cu.c))::[(2,.var [.ptr 3 0]),(3,.var (wC a b (.aF 4 0) (.aF 5 0) (.aF 6 0) o (.bn 4 0 (A.map Ch.c).length 0) out)),(4,.dM 47 0 9 (A.map Ch.c) (lN c (.aF 1 0)) (B.map Ch.c)),(5,.arr 50 0 6 (L.map Lg.c)),(6,.arr 68 0 8 (Q.map Pa.c))]) (.sub 1 0 2 0 (l.filter fun x=>!(fun (x:Cu)=>x.sub==o.sub) x).length) ((1,.arr 127 0 2 ((l.filter fun x=>!(fun (x:Cu)=>x.sub==o.sub) x).map Cu.c++List.replicate (l.length-(l.filter fun x=>!(fun (x:Cu)=>x.sub==o.sub) x).length) [ii 0,uu 0]))::[(2,.var [.ptr 3 0]),(3,.var (wC a b (.aF 4 0) (.aF 5 0) (.aF 6 0) o (.bn 4 0 (A.map Ch.c).length 0) out)),(4,.dM 47 0 9 (A.map Ch.c) (lN c (.aF 1 0)) (B.map Ch.c)),(5,.arr 50 0 6 (L.map Lg.c)),(6,.arr 68 0 8 (Q.map Pa.c))]):=by
 obtain⟨ix,hix,hxe,hxp,hxf⟩:∃k,∃hk:k<l.length,qo (fun (x:Cu)=>x.sub==o.sub) l=(k:Nat)∧(fun (x:Cu)=>x.sub==o.sub) l[k]=true∧∀j (hj:j<l.length),j<k→(fun (x:Cu)=>x.sub==o.sub) l[j]=false:=by
  rcases nK (fun (x:Cu)=>x.sub==o.sub) l with ⟨_,h⟩|⟨k,hk,h1,h2,h3⟩
  ·exact absurd h h0
  exact⟨k,hk,h1,h2,h3⟩
 obtain⟨hS,hK⟩:=ze (p:=(fun (x:Cu)=>x.sub==o.sub)) ix hix hxf hxp;have hD:∀m:List Cu,∀x∈l,bE prog 208 ([]++([.agg x.c]++[.bU [.bU (wV a b (.sl false 9 (A.map Ch.c++[uu c.aY,ii c.owner,uu c.inc,uu c.eB,uu c.first,uu c.trim,p9 c.af,qp c.seen,.sl false 2 (m.map Cu.c)]::B.map Ch.c)) (.sl false 6 (L.map Lg.c)) (.sl false 8 (Q.map Pa.c)) o .junk out) 0] 0])) (bl ((fun (x:Cu)=>x.sub==o.sub) x)):=fun m x _=>YK _ _ _ _ _ _ _ _ _
 have cI:=l9 l 208 [] [.bU [.bU (wV a b (.sl false 9 (A.map Ch.c++[uu c.aY,ii c.owner,uu c.inc,uu c.eB,uu c.first,uu c.trim,p9 c.af,qp c.seen,.sl false 2 (l.map Cu.c)]::B.map Ch.c)) (.sl false 6 (L.map Lg.c)) (.sl false 8 (Q.map Pa.c)) o .junk out) 0] 0] (fun (x:Cu)=>x.sub==o.sub) (hD l);rw[hxe] at cI;have d9:((ix:Int) == -1)=false:=by simp
 have eX:IntKind.i64.wrap ((ix:Int)+1)=((ix+1:Nat):Int):=by rw[aO (by omega) (by omega)];omega
 simp only[wC,wV,jv,Ei,lN,aV.c,Pl.c,Oc.c,List.map_cons,List.map_nil,List.cons_append,List.nil_append,List.map_append] at cI hD ⊢;refine jA uF ?_;repeat' ((conv=>whnf);first|with_reducible apply aK|((with_reducible apply fk)<;>intro hc<;>try exact aM)|(apply aC;(conv=>whnf);refine⟨_,cI,?_⟩)|((with_reducible apply And.intro);exact aG)|fail)
 clear cI d9;refine⟨{jm:Nat×List Cu // KE (fun (x:Cu)=>x.sub==o.sub) l jm},fun⟨(j,m),_⟩=>⟨[(0,.aF 1 0),(1,.fn (.func 208) [] [.ptr 2 0]),(5,.pv (ii (dF (fun (x:Cu)=>x.sub==o.sub) l j).length)),(6,.pv (ii j))],1000000000,(1,.arr 127 0 2 (m.map Cu.c))::[(2,.var [.ptr 3 0]),(3,.var (wC a b (.aF 4 0) (.aF 5 0) (.aF 6 0) o (.bn 4 0 (A.map Ch.c).length 0) out)),(4,.dM 47 0 9 (A.map Ch.c) (lN c (.aF 1 0)) (B.map Ch.c)),(5,.arr 50 0 6 (L.map Lg.c)),(6,.arr 68 0 8 (Q.map Pa.c))]⟩,fun⟨(j,_),_⟩=>l.length-j,⟨⟨(ix+1,l),hS⟩,ak ?_⟩,?_⟩
 ·simp only[wC,wV,jv,Ei,lN,aV.c,Pl.c,Oc.c,List.map_cons,List.map_nil,List.cons_append,List.nil_append,List.map_append];repeat' first|((conv=>whnf);with_reducible apply And.intro)|exact aL|fail
  all_goals try (conv=>whnf)
  all_goals first
   |exact eX
   |rw[hK]
 rintro⟨⟨j,m⟩,hj⟩
 obtain⟨hj1,hj2,hj3,hj4⟩:=id hj;simp only at hj1 hj2 hj3 hj4;have hkl:=Ar (fun (x:Cu)=>x.sub==o.sub) l j hj1;simp only[wC,wV,jv,Ei,lN,aV.c,Pl.c,Oc.c,List.map_cons,List.map_nil,List.cons_append,List.nil_append,List.map_append];by_cases hlt:j<m.length
 ·have hlt2:j<l.length:=by omega
  have d0:decide ((j:Int)<((m.map Cu.c).length:Int))=true:=by simp only[List.length_map,decide_eq_true_eq];omega
  obtain⟨_,he⟩:=Fu hj hlt2;have JL:=hD m m[j] (by rw[he];exact List.getElem_mem hlt2);have hi:(dF (fun (x:Cu)=>x.sub==o.sub) l j).length<m.length:=by omega
  have eJ:IntKind.i64.wrap ((j:Int)+1)=((j+1:Nat):Int):=by rw[aO (by omega) (by omega)];omega
  cases hp2:(fun (x:Cu)=>x.sub==o.sub) m[j] with
  | false=>
    change bE _ _ _ (bl ((fun (x:Cu)=>x.sub==o.sub) m[j])) at JL
    rw[hp2] at JL;have Pd:(fun (x:Cu)=>x.sub==o.sub) l[j]=false:=by rw[←he];exact hp2
    have hks:(dF (fun (x:Cu)=>x.sub==o.sub) l (j+1)).length=(dF (fun (x:Cu)=>x.sub==o.sub) l j).length+1:=za hlt2 Pd;have eI:IntKind.i64.wrap (((dF (fun (x:Cu)=>x.sub==o.sub) l j).length:Int)+1)=((dF (fun (x:Cu)=>x.sub==o.sub) l (j+1)).length:Int):=by rw[aO (by omega) (by omega),hks];omega
    repeat' ((conv=>whnf);first|with_reducible apply aK|((with_reducible apply fk)<;>intro hc<;>try exact aM)|(((with_reducible apply And.intro);exact mg))|((refine⟨_,cu _ _ _ hlt,?_⟩))|((refine⟨_,cu _ _ _ hi,?_⟩))|(apply aC;(conv=>whnf);refine⟨_,JL,?_⟩)|((with_reducible apply And.intro);exact aG)|fail)
    refine⟨⟨(j+1,m.set (dF (fun (x:Cu)=>x.sub==o.sub) l j).length l[j]),BP hj hlt2 Pd⟩,dec_lt hlt2,ak ?_⟩;simp only[wC,wV,jv,Ei,lN,aV.c,Pl.c,Oc.c,List.map_cons,List.map_nil,List.cons_append,List.nil_append,List.map_append];repeat' first|((conv=>whnf);with_reducible apply And.intro)|exact aL|fail
    all_goals try (conv=>whnf)
    all_goals first
     |exact eI
     |exact eJ
     | (refine iG ?_
        rw[←he,List.map_set];rfl)
  | true=>
    change bE _ _ _ (bl ((fun (x:Cu)=>x.sub==o.sub) m[j])) at JL
    rw[hp2] at JL;have hpt:(fun (x:Cu)=>x.sub==o.sub) l[j]=true:=by rw[←he];exact hp2
    have hks:(dF (fun (x:Cu)=>x.sub==o.sub) l (j+1)).length=(dF (fun (x:Cu)=>x.sub==o.sub) l j).length:=zb hlt2 hpt;repeat' ((conv=>whnf);first|with_reducible apply aK|((with_reducible apply fk)<;>intro hc<;>try exact aM)|(((with_reducible apply And.intro);exact mg))|((refine⟨_,cu _ _ _ hlt,?_⟩))|(apply aC;(conv=>whnf);refine⟨_,JL,?_⟩)|((with_reducible apply And.intro);exact aG)|fail)
    refine⟨⟨(j+1,m),BO hj hlt2 hpt⟩,dec_lt hlt2,ak ?_⟩;simp only[wC,wV,jv,Ei,lN,aV.c,Pl.c,Oc.c,List.map_cons,List.map_nil,List.cons_append,List.nil_append,List.map_append];repeat' first|((conv=>whnf);with_reducible apply And.intro)|exact aL|fail
    all_goals try (conv=>whnf)
    all_goals first
     |exact eJ
     |rw[hks]
 have hjl:j=l.length:=by omega
 have d0:decide ((j:Int)<((m.map Cu.c).length:Int))=false:=by simp only[List.length_map,decide_eq_false_iff_not];omega
 subst hjl;have hkf:dF (fun (x:Cu)=>x.sub==o.sub) l l.length=l.filter fun x=>!(fun (x:Cu)=>x.sub==o.sub) x:=by unfold dF;rw[List.take_length]
 repeat' ((conv=>whnf);first|with_reducible apply aK|((with_reducible apply fk)<;>intro hc<;>try exact aM)|(((with_reducible apply And.intro);focus (simp only[List.length_map,List.length_append,List.length_take,List.length_drop,List.length_replicate];omega)))|((with_reducible apply And.intro);exact aG)|fail)
 refine⟨_,_,⟨rfl,rfl⟩,?_⟩;repeat' first|((conv=>whnf);with_reducible apply And.intro)|exact aL|fail
 all_goals try (conv=>whnf)
 all_goals first
  |(rw[hkf];rfl)
  | (refine iG ?_
     rw[←hkf,Int.toNat_natCast,List.length_map,←List.map_take,hj3,List.drop_eq_nil_of_le (by simp),List.append_nil,hj2])
theorem D7 (a b:Int)(A:List Ch)(c:Ch)(B:List Ch)(L:List Lg)(Q:List Pa)(o:aV)(out:Oc)(l:List Cu)(h0:¬∀x∈l,(fun (x:Cu)=>x.sub==o.sub) x=false)(hl:l.length≤1000000) :
  dR prog 207 [.aF 1 0,.fn (.func 208) [] [.ptr 2 0]] ((1,.arr 127 0 2 (l.map Cu.c))::[(2,.var [.ptr 3 0]),(3,.var (wC a b (.aF 4 0) (.aF 5 0) (.aF 6 0) o (.bn 4 0 (A.map Ch.c).length 0) out)),(4,.dM 47 0 9 (A.map Ch.c) (lN c (.aF 1 0)) (B.map Ch.c)),(5,.arr 50 0 6 (L.map Lg.c)),(6,.arr 68 0 8 (Q.map Pa.c))]) (.aF 1 1) ((1,.arr 127 1 2 ((l.filter fun x=>!(fun (x:Cu)=>x.sub==o.sub) x).map Cu.c))::[(2,.var [.ptr 3 0]),(3,.var (wC a b (.aF 4 0) (.aF 5 0) (.aF 6 0) o (.bn 4 0 (A.map Ch.c).length 0) out)),(4,.dM 47 0 9 (A.map Ch.c) (lN c (.aF 1 0)) (B.map Ch.c)),(5,.arr 50 0 6 (L.map Lg.c)),(6,.arr 68 0 8 (Q.map Pa.c))]):=by
 have h:=KN (Cq a b A c B L Q o out l h0 hl) (by simp);rw[List.take_append_of_le_length (by simp),List.take_of_length_le (by simp)] at h;exact h
theorem Dv:Mg prog 36 f36:=bZ func36
theorem OG (v b:Int)(ch:List Ch)(lg:List Lg)(Q:List Pa)(o:aV)(out:Oc)(h0:∀x∈Q,(fun (x:Pa)=>x.who==o.who) x=false)(hl:Q.length≤100000):dR prog 36 [.ptr 1 0]
  [(1,.var (wC v b (.pv (jL ch)) (.pv (dN lg)) (.aF 2 0) o (.pv .junk) out)),(2,.arr 68 0 8 (Q.map Pa.c))] (.pv (.dn []))
  [(1,.var (wC (IntKind.u64.wrap (v+1)) b (.pv (jL ch)) (.pv (dN lg)) (.aF 2 1) o (.pv .junk) out)),(2,.arr 68 1 8 ((bT Q o out).map Pa.c))]:=by
 have cD:=Io (IntKind.u64.wrap (v+1)) b ch lg o out Q h0 (by omega);have eF:Q.filter (fun x=>!(x.who==o.who))=Q:=by
  rw[List.filter_eq_self];intro x hx;have:=h0 x hx;simp only at this;rw[this];rfl
 have eP:bT Q o out=(iQ Pa.who (Q++[(⟨o.who,o.inc,o.n,out⟩:Pa)]).toArray).toList:=by unfold bT;rw[eF]
 have cS:=Gn (Q++[(⟨o.who,o.inc,o.n,out⟩:Pa)]) (by simp;omega);rw[←eP] at cS;clear eP eF h0;simp only[wC,aV.c,Pl.c,Oc.c,Pa.c,List.map_cons,List.map_nil,List.cons_append,List.nil_append,List.map_append] at cD cS ⊢;refine jA Dv ?_;repeat' ((conv=>whnf);first|with_reducible apply aK|((with_reducible apply fk)<;>intro hc<;>try exact aM)|(apply fq;(conv=>whnf);refine⟨_,_,cD,?_⟩)|(apply fq;(conv=>whnf);refine⟨_,_,cB (cS) ?_,?_⟩;exact qi)|(((with_reducible apply And.intro);focus (simp only[List.length_map,List.length_cons,List.length_nil] at *;omega)))|((with_reducible apply And.intro);exact aG)|fail)
 refine⟨_,_,⟨rfl,rfl⟩,?_⟩;all_goals exact aL
theorem OH (v b:Int)(ch:List Ch)(lg:List Lg)(Q:List Pa)(o:aV)(out:Oc)(h0:¬∀x∈Q,(fun (x:Pa)=>x.who==o.who) x=false)(hl:Q.length≤100000):dR prog 36 [.ptr 1 0]
  [(1,.var (wC v b (.pv (jL ch)) (.pv (dN lg)) (.aF 2 0) o (.pv .junk) out)),(2,.arr 68 0 8 (Q.map Pa.c))] (.pv (.dn []))
  [(1,.var (wC (IntKind.u64.wrap (v+1)) b (.pv (jL ch)) (.pv (dN lg)) (.aF 2 2) o (.pv .junk) out)),(2,.arr 68 2 8 ((bT Q o out).map Pa.c))]:=by
 have cD:=Ip (IntKind.u64.wrap (v+1)) b ch lg o out Q h0 (by omega);have hfl:=List.length_filter_le (fun (x:Pa)=>!(x.who==o.who)) Q;have eP:bT Q o out=(iQ Pa.who ((Q.filter fun x=>!(x.who==o.who))++[(⟨o.who,o.inc,o.n,out⟩:Pa)]).toArray).toList:=rfl;have cS:=Gn ((Q.filter fun x=>!(x.who==o.who))++[(⟨o.who,o.inc,o.n,out⟩:Pa)]) (by simp;omega);rw[←eP] at cS;clear eP h0;simp only[wC,aV.c,Pl.c,Oc.c,Pa.c,List.map_cons,List.map_nil,List.cons_append,List.nil_append,List.map_append] at cD cS ⊢;refine jA Dv ?_;repeat' ((conv=>whnf);first|with_reducible apply aK|((with_reducible apply fk)<;>intro hc<;>try exact aM)|(apply fq;(conv=>whnf);refine⟨_,_,cD,?_⟩)|(apply fq;(conv=>whnf);refine⟨_,_,cB (cS) ?_,?_⟩;exact qi)|(((with_reducible apply And.intro);focus (simp only[List.length_map,List.length_cons,List.length_nil] at *;omega)))|((with_reducible apply And.intro);exact aG)|fail)
 refine⟨_,_,⟨rfl,rfl⟩,?_⟩;all_goals exact aL
theorem kZ (v b:Int)(ch:List Ch)(lg:List Lg)(Q:List Pa)(o:aV)(out:Oc)(hl:Q.length≤100000):∃k,dR prog 36 [.ptr 1 0]
  [(1,.var (wC v b (.pv (jL ch)) (.pv (dN lg)) (.aF 2 0) o (.pv .junk) out)),(2,.arr 68 0 8 (Q.map Pa.c))] (.pv (.dn []))
  [(1,.var (wC (IntKind.u64.wrap (v+1)) b (.pv (jL ch)) (.pv (dN lg)) (.pv (uR (bT Q o out))) o (.pv .junk) out)),(2,.kG k 8 ((bT Q o out).map Pa.c))]:=by
 by_cases h0:∀x∈Q,(fun (x:Pa)=>x.who==o.who) x=false
 ·refine⟨1,iq (OG v b ch lg Q o out h0 hl) [2] ?_⟩;simp only[wC,aV.c,Pl.c,Oc.c,List.map_cons,List.map_nil,List.cons_append,List.nil_append]
  (conv=>whnf)
  refine⟨_,_,⟨rfl,rfl⟩,?_⟩;all_goals exact aL
 refine⟨2,iq (OH v b ch lg Q o out h0 hl) [2] ?_⟩;simp only[wC,aV.c,Pl.c,Oc.c,List.map_cons,List.map_nil,List.cons_append,List.nil_append]
 (conv=>whnf)
 refine⟨_,_,⟨rfl,rfl⟩,?_⟩;all_goals exact aL
theorem OX (p:Pn)(A:List Ch)(c:Ch)(B:List Ch)(hp:p.channels=A++c::B)(h:tK p):dR prog 30 [.pv (.agg p.c)] [] (.agg [.pv (uu p.version),.pv (uu p.next),.aF 1001 0,.aF 1002 0,.aF 1003 0])
  [(1001,.dM 47 0 9 (A.map Ch.c) (c.c.map .pv) (B.map Ch.c)),(1002,.arr 50 0 6 (p.af.map Lg.c)),(1003,.arr 68 0 8 (p.past.map Pa.c))]:=by
 have h1:=Lc p h;have e:p.channels.map Ch.c=A.map Ch.c++c.c::B.map Ch.c:=by rw[hp,List.map_append,List.map_cons]
 rw[e] at h1;refine NI h1 1001 rfl ?_;refine⟨_,_,⟨rfl,rfl⟩,?_⟩
 (conv=>whnf)
 all_goals exact aL
theorem VH (p:Pn)(A:List Ch)(c:Ch)(B:List Ch)(hp:p.channels=A++c::B)(LA:List Lg)(x:Lg)(LB:List Lg)(hL:p.af=LA++x::LB)(h:tK p):dR prog 30 [.pv (.agg p.c)] [] (.agg [.pv (uu p.version),.pv (uu p.next),.aF 1001 0,.aF 1002 0,.aF 1003 0])
  [(1001,.dM 47 0 9 (A.map Ch.c) (c.c.map .pv) (B.map Ch.c)),(1002,.dM 50 0 6 (LA.map Lg.c) (x.c.map .pv) (LB.map Lg.c)),(1003,.arr 68 0 8 (p.past.map Pa.c))]:=by
 have h1:=OX p A c B hp h;have e:p.af.map Lg.c=LA.map Lg.c++x.c::LB.map Lg.c:=by rw[hL,List.map_append,List.map_cons]
 rw[e] at h1;refine NI h1 1002 rfl ?_;refine⟨_,_,⟨rfl,rfl⟩,?_⟩
 (conv=>whnf)
 all_goals exact aL
def uG (k2 k3:Nat)(a b:Int)(ch:List Ch)(L:List Lg)(Q:List Pa)(o:aV)(out:Oc):List (Nat×aD):=
 [(1,.var (wC a b (.pv (jL ch)) (.pv (dN L)) (.aF 4 0) o (.pv .junk) out)),(2,.kG k2 9 (ch.map Ch.c)),(3,.kG k3 6 (L.map Lg.c)),(4,.arr 68 0 8 (Q.map Pa.c))]
theorem qZ {F:FuncId}{hp:List (Nat×aD)}{a b:Int}{A:List Ch}{c:Ch}{B:List Ch}{L:List Lg}{Q:List Pa}{o:aV}{out:Oc}{n:Nat}
  (h:dR prog F [.ptr 1 0] hp (.pv (.dn [])) ((1,.var (wC a b (.aF 2 0) (.aF 3 0) (.aF 4 0) o (.bn 2 0 n 0) out))::jv (c.c.map .pv) A B L Q)) :
  dR prog F [.ptr 1 0] hp (.pv (.dn [])) (uG 0 0 a b (A++c::B) L Q o out):=by
 have h1:dR prog F [.ptr 1 0] hp (.pv (.dn [])) ((1,.var (wC a b (.aF 2 0) (.aF 3 0) (.aF 4 0) o (.bn 2 0 n 0) out))::[(2,.arr 47 0 9 ((A++c::B).map Ch.c)),(3,.arr 50 0 6 (L.map Lg.c)),(4,.arr 68 0 8 (Q.map Pa.c))]):=by
  rw[List.map_append,List.map_cons];simp only[wC,jv,aV.c,Pl.c,Ch.c,Oc.c,List.map_cons,List.map_nil,List.cons_append,List.nil_append] at h ⊢;refine jr h 2 rfl rfl rfl rfl ?_;refine⟨_,_,⟨rfl,rfl⟩,?_⟩
  (conv=>whnf)
  all_goals exact aL
 refine iq h1 [2,3] ?_;simp only[uG,wC,aV.c,Pl.c,Oc.c,List.map_cons,List.map_nil,List.cons_append,List.nil_append]
 (conv=>whnf)
 refine⟨_,_,⟨rfl,rfl⟩,?_⟩;all_goals exact aL
theorem JO:Mg prog 167 f167:=bZ func167
theorem Rf:Mg prog 204 f204:=bZ func204
theorem Vq:Mg prog 168 f168:=bZ func168
theorem abt (l:Lg)(id w a cl la:Int):bE prog 204 ([]++([.agg l.c]++[.bU [uu id,ii w,ii a,.junk,ii cl,uu la] 0])) (bl (l.id==id)):=by
 refine PC.le ?_;refine bN Rf ?_;repeat' ((conv=>whnf);first|with_reducible apply aK|((with_reducible apply fk)<;>intro hc<;>try exact aM)|((with_reducible apply And.intro);exact aG)|fail)
 all_goals exact aL
theorem OL (w:Int)(f:Fr)(h:f.aI.length≤8796093022208):bE prog 168 [ii w,.agg f.c] (bl (vT w f)):=by
 refine PC.le ?_;have cM:=mZ w [{ f with first:=1 }] (by simpa using h);obtain⟨X,hX⟩:∃X,X=vT w f:=⟨_,rfl⟩;rw[←hX];unfold vT at hX;simp only[p8,List.map_cons,List.map_nil,Fr.c] at cM;generalize fw w [{ f with first:=1 }]=mf at *;clear h;refine bN Vq ?_;repeat' ((conv=>whnf);first|with_reducible apply aK|((with_reducible apply fk)<;>intro hc<;>try exact aM)|(apply aC;(conv=>whnf);refine⟨_,cM,?_⟩)|((with_reducible apply And.intro);exact aG)|fail)
 all_goals
  simp only[Bool.not_true, *,Bool.true_or,Bool.or_true,Bool.false_or,Bool.or_false,Bool.true_and,Bool.and_true,Bool.false_and,Bool.and_false,Bool.not_true,Bool.not_false,Bool.false_eq_true,↓reduceIte] at hX;subst hX;all_goals exact aL
theorem abu {p:Pn}{o:aV}(h:pK p o=none):(gX p o.channel).isSome=false∨(((gX p o.channel).getD UB).id==o.bA)=false:=by
 unfold pK at h;split at h
 ·rename_i x hx;split at h
  ·cases h
  rename_i e;rw[hx];exact .inr (by simpa using e)
 rename_i hx;rw[hx];exact .inl rfl
theorem Tm (a b:Int)(A:List Ch)(c:Ch)(B:List Ch)(L:List Lg)(Q:List Pa)(o:aV)(out:Oc)(h:tK (kF a b A c B L Q))(hn:pK (kF a b A c B L Q) o=none):dR prog 167 [.ptr 1 0]
  ((1,.var (wC a b (.aF 2 0) (.aF 3 0) (.aF 4 0) o (.bn 2 0 (A.map Ch.c).length 0) out))::jv (c.c.map .pv) A B L Q) (.pv (.sc (.pointer none)))
  ((1,.var (wC a b (.aF 2 0) (.aF 3 0) (.aF 4 0) o (.bn 2 0 (A.map Ch.c).length 0) out))::jv (c.c.map .pv) A B L Q):=by
 have cO:=Eh (kF a b A c B L Q) o.channel h;have e1:(kF a b A c B L Q).c=[uu a,uu b,.sl false 9 (A.map Ch.c++c.c::B.map Ch.c),.sl false 6 (L.map Lg.c),.sl false 8 (Q.map Pa.c)]:=by
  simp only[kF,Pn.c,jL,dN,uR,List.map_append,List.map_cons]
 rw[e1] at cO;have hl:=abu hn;generalize (gX (kF a b A c B L Q) o.channel).isSome=is at *;generalize (gX (kF a b A c B L Q) o.channel).getD UB=x at *;clear h e1 hn;simp only[lgJ,wC,jv,aV.c,Pl.c,Ch.c,Oc.c,List.map_cons,List.map_nil,List.cons_append,List.nil_append] at cO ⊢;refine jA JO ?_;rcases hl with rfl|hl
 ·skip
  repeat' ((conv=>whnf);first|with_reducible apply aK|((with_reducible apply fk)<;>intro hc<;>try exact aM)|(refine Or.inr ?_;(conv=>whnf);refine⟨_,_,cO,?_⟩)|(apply aC;(conv=>whnf);refine⟨_,cO,?_⟩)|((with_reducible apply And.intro);exact aG)|fail)
  refine⟨_,_,⟨rfl,rfl⟩,?_⟩;all_goals exact aL
 skip
 have hl2:(x.id != o.bA)=true:=by rw[bne,hl];rfl
 clear hl;cases is
 ·skip
  repeat' ((conv=>whnf);first|with_reducible apply aK|((with_reducible apply fk)<;>intro hc<;>try exact aM)|(refine Or.inr ?_;(conv=>whnf);refine⟨_,_,cO,?_⟩)|(apply aC;(conv=>whnf);refine⟨_,cO,?_⟩)|((with_reducible apply And.intro);exact aG)|fail)
  refine⟨_,_,⟨rfl,rfl⟩,?_⟩;all_goals exact aL
 skip
 repeat' ((conv=>whnf);first|with_reducible apply aK|((with_reducible apply fk)<;>intro hc<;>try exact aM)|(refine Or.inr ?_;(conv=>whnf);refine⟨_,_,cO,?_⟩)|(apply aC;(conv=>whnf);refine⟨_,cO,?_⟩)|((with_reducible apply And.intro);exact aG)|fail)
 refine⟨_,_,⟨rfl,rfl⟩,?_⟩;all_goals exact aL
def Cr (row:List AV)(A B:List Ch)(aje:List AV)(LA LB:List Lg)(Q:List Pa):List (Nat×aD):=
 [(2,.dM 47 0 9 (A.map Ch.c) row (B.map Ch.c)),(3,.dM 50 0 6 (LA.map Lg.c) aje (LB.map Lg.c)),(4,.arr 68 0 8 (Q.map Pa.c))]
theorem su (a b:Int)(A:List Ch)(c:Ch)(B:List Ch)(LA:List Lg)(x:Lg)(LB:List Lg)(Q:List Pa)(o:aV)(n:Int)(out:Oc):dR prog 34 [.ptr 1 0,.pv (ii n)]
  ((1,.var (wC a b (.aF 2 0) (.aF 3 0) (.aF 4 0) o (.bn 2 0 (A.map Ch.c).length 0) out))::Cr (c.c.map .pv) A B (x.c.map .pv) LA LB Q) (.pv (.dn []))
  ((1,.var (wC a b (.aF 2 0) (.aF 3 0) (.aF 4 0) o (.bn 2 0 (A.map Ch.c).length 0) (ig n)))::Cr (c.c.map .pv) A B (x.c.map .pv) LA LB Q):=by
 refine jA xO ?_;repeat' ((conv=>whnf);first|with_reducible apply aK|((with_reducible apply fk)<;>intro hc<;>try exact aM)|((with_reducible apply And.intro);exact aG)|fail)
 refine⟨_,_,⟨rfl,rfl⟩,?_⟩;all_goals exact aL
theorem Li (a b:Int)(A:List Ch)(c:Ch)(B:List Ch)(LA:List Lg)(x:Lg)(LB:List Lg)(Q:List Pa)(o:aV)(out:Oc)(h:tK (kF a b A c B (LA++x::LB) Q))(ho:gX (kF a b A c B (LA++x::LB) Q) o.channel=some x)(hid:x.id=o.bA)(hix:qo (fun y=>y.id==x.id) (LA++x::LB)=((LA.map Lg.c).length:Int)) :
  dR prog 167 [.ptr 1 0]
  ((1,.var (wC a b (.aF 2 0) (.aF 3 0) (.aF 4 0) o (.bn 2 0 (A.map Ch.c).length 0) out))::Cr (c.c.map .pv) A B (x.c.map .pv) LA LB Q) (.bn 3 0 (LA.map Lg.c).length 0)
  ((1,.var (wC a b (.aF 2 0) (.aF 3 0) (.aF 4 0) o (.bn 2 0 (A.map Ch.c).length 0) out))::Cr (c.c.map .pv) A B (x.c.map .pv) LA LB Q):=by
 have cO:=Eh (kF a b A c B (LA++x::LB) Q) o.channel h;have e1:(kF a b A c B (LA++x::LB) Q).c=[uu a,uu b,.sl false 9 (A.map Ch.c++c.c::B.map Ch.c),.sl false 6 (LA.map Lg.c++x.c::LB.map Lg.c),.sl false 8 (Q.map Pa.c)]:=by
  simp only[kF,Pn.c,jL,dN,uR,List.map_append,List.map_cons]
 rw[e1,ho] at cO;simp only[Option.getD_some,Option.isSome_some] at cO;have hne:(x.id != o.bA)=false:=by rw[hid];simp
 have hI:∀y∈LA++x::LB,bE prog 204 ([]++([.agg y.c]++[.bU [uu x.id,ii x.w,ii x.a,.junk,ii x.closed,uu x.last] 0])) (bl (y.id==x.id)):=fun y _=>abt y _ _ _ _ _
 have cI:=dW (LA++x::LB) 204 [] [.bU [uu x.id,ii x.w,ii x.a,.junk,ii x.closed,uu x.last] 0] _ hI;rw[hix] at cI;clear hI hix h e1 ho hid;simp only[lgJ,dN,List.map_append,List.map_cons,Lg.c,wC,Cr,aV.c,Pl.c,Ch.c,Oc.c,List.map_nil,List.cons_append,List.nil_append] at cO cI ⊢;refine jA JO ?_;repeat' ((conv=>whnf);first|with_reducible apply aK|((with_reducible apply fk)<;>intro hc<;>try exact aM)|(refine Or.inr ?_;(conv=>whnf);refine⟨_,_,cO,?_⟩)|(apply aC;(conv=>whnf);refine⟨_,cO,?_⟩)|(apply aC;(conv=>whnf);refine⟨_,cI,?_⟩)|(((with_reducible apply And.intro);exact mg))|((with_reducible apply And.intro);exact aG)|fail)
 refine⟨_,_,⟨rfl,rfl⟩,?_⟩;all_goals exact aL
structure Wd (p:Pn)(o:aV):Prop where
 h:tK p
 ho:ZK o
 hp:j6 p=true
 hw:xZ o=true
 hch:dZ o.kind 1=true→1≤o.channel∧o.channel≤3
 ht:tO p.past o=(bS,false)
 hv:(p.version==4611686018427387903)=false
 hs:gJ p o=false
 hpl:p.past.length≤100000
theorem kQ (p:Pn)(o:aV)(D:Wd p o)(F:FuncId)(nm:Int)(A:List Ch)(c:Ch)(B:List Ch)(hpc:p.channels=A++c::B)(hA:(A.length:Int)=o.channel-1)(nG:bE prog 35 [ii o.kind] (.agg [ii nm,.fn (.func F) [] []]))
  (k2 k3:Nat) (b2:Int) (Rp:List Ch) (L2:List Lg) (out:Oc)
  (hd:dR prog F [.ptr 1 0] ((1,.var (wC p.version p.next (.aF 2 0) (.aF 3 0) (.aF 4 0) o (.bn 2 0 (A.map Ch.c).length 0) bS))::jv (c.c.map .pv) A B p.af p.past) (.pv (.dn [])) (uG k2 k3 p.version b2 Rp L2 p.past o out)) :
  bE prog 13 [.agg p.c,.agg o.c] (.dn [.agg (⟨IntKind.u64.wrap (p.version+1),b2,Rp,L2,bT p.past o out⟩:Pn).c,.agg out.c]):=by
 refine PC.le ?_;have c1:=OX p A c B hpc D.h;have c2:=nY p D.h;have c3:=ng o D.ho.fr D.ho.bk D.ho.sn;have c4:=qY p o D.h.past;have c5:=oH p o D.h.channels (fE D.hw).1 (fE D.hw).2 D.hch;have c6:=nQ o D.ho.fr D.ho.bk D.ho.sn;obtain⟨kr,c7⟩:=kZ p.version b2 Rp L2 p.past o out D.hpl;rw[D.hp] at c2;rw[D.hw] at c3;rw[D.ht] at c4;rw[D.hs] at c5;have hv:=D.hv;have hlc:=D.h.channels;have hpl:=D.hpl;rw[hpc] at hlc;simp only[List.length_append,List.length_cons] at hlc;have e1:p.c=[uu p.version,uu p.next,.sl false 9 (A.map Ch.c++c.c::B.map Ch.c),.sl false 6 (p.af.map Lg.c),.sl false 8 (p.past.map Pa.c)]:=by
  simp only[Pn.c,jL,dN,uR,hpc,List.map_append,List.map_cons]
 have hgt:decide (o.channel>(((A.map Ch.c).length+(1+(B.map Ch.c).length):Nat):Int))=false:=by simp only[List.length_map,decide_eq_false_iff_not];omega
 have hg0:decide (o.channel>0)=true:=by simp only[kC];omega
 have hwr:IntKind.i64.wrap (o.channel-1)=((A.map Ch.c).length:Int):=by rw[List.length_map,aO (by omega) (by omega)];omega
 rw[e1] at c1 c2 c4 c5 ⊢;clear D hpc hA e1 hlc hpl;simp only[uG,wC,jv,aV.c,Pl.c,Ch.c,Oc.c,List.map_cons,List.map_nil,List.cons_append,List.nil_append] at c1 c2 c3 c4 c5 c6 c7 hd ⊢;refine bN gD ?_;repeat' ((conv=>whnf);first|with_reducible apply aK|((with_reducible apply fk)<;>intro hc<;>try exact aM)|rewrite[AP]|rewrite[AQ]|rewrite[hwr]|(apply fq;(conv=>whnf);refine⟨_,_,c1,?_⟩)|(apply aC;(conv=>whnf);refine⟨_,c2,?_⟩)|(apply aC;(conv=>whnf);refine⟨_,c3,?_⟩)|(apply aC;(conv=>whnf);refine⟨_,c4,?_⟩)|(apply aC;(conv=>whnf);refine⟨_,c5,?_⟩)|(apply aC;(conv=>whnf);refine⟨_,c6,?_⟩)|(apply aC;(conv=>whnf);refine⟨_,nG,?_⟩)|(apply fq;(conv=>whnf);refine⟨_,_,hd,?_⟩)|(apply fq;(conv=>whnf);refine⟨_,_,c7,?_⟩)|(((with_reducible apply And.intro);exact mg))|((with_reducible apply And.intro);exact aG)|fail)
 all_goals exact aL
theorem xQ (p:Pn)(o:aV)(D:Wd p o)(F:FuncId)(nm:Int)(A:List Ch)(c:Ch)(B:List Ch)(hpc:p.channels=A++c::B)(LA:List Lg)(x:Lg)(LB:List Lg)(hLc:p.af=LA++x::LB)(hA:(A.length:Int)=o.channel-1)(nG:bE prog 35 [ii o.kind] (.agg [ii nm,.fn (.func F) [] []]))
  (k2 k3:Nat) (b2:Int) (Rp:List Ch) (L2:List Lg) (out:Oc)
  (hd:dR prog F [.ptr 1 0] ((1,.var (wC p.version p.next (.aF 2 0) (.aF 3 0) (.aF 4 0) o (.bn 2 0 (A.map Ch.c).length 0) bS))::Cr (c.c.map .pv) A B (x.c.map .pv) LA LB p.past) (.pv (.dn [])) (uG k2 k3 p.version b2 Rp L2 p.past o out)) :
  bE prog 13 [.agg p.c,.agg o.c] (.dn [.agg (⟨IntKind.u64.wrap (p.version+1),b2,Rp,L2,bT p.past o out⟩:Pn).c,.agg out.c]):=by
 refine PC.le ?_;have c1:=VH p A c B hpc LA x LB hLc D.h;have c2:=nY p D.h;have c3:=ng o D.ho.fr D.ho.bk D.ho.sn;have c4:=qY p o D.h.past;have c5:=oH p o D.h.channels (fE D.hw).1 (fE D.hw).2 D.hch;have c6:=nQ o D.ho.fr D.ho.bk D.ho.sn;obtain⟨kr,c7⟩:=kZ p.version b2 Rp L2 p.past o out D.hpl;rw[D.hp] at c2;rw[D.hw] at c3;rw[D.ht] at c4;rw[D.hs] at c5;have hv:=D.hv;have hlc:=D.h.channels;have hpl:=D.hpl;rw[hpc] at hlc;simp only[List.length_append,List.length_cons] at hlc;have e1:p.c=[uu p.version,uu p.next,.sl false 9 (A.map Ch.c++c.c::B.map Ch.c),.sl false 6 (LA.map Lg.c++x.c::LB.map Lg.c),.sl false 8 (p.past.map Pa.c)]:=by
  simp only[Pn.c,jL,dN,uR,hpc,hLc,List.map_append,List.map_cons]
 have hgt:decide (o.channel>(((A.map Ch.c).length+(1+(B.map Ch.c).length):Nat):Int))=false:=by simp only[List.length_map,decide_eq_false_iff_not];omega
 have hg0:decide (o.channel>0)=true:=by simp only[kC];omega
 have hwr:IntKind.i64.wrap (o.channel-1)=((A.map Ch.c).length:Int):=by rw[List.length_map,aO (by omega) (by omega)];omega
 rw[e1] at c1 c2 c4 c5 ⊢;clear D hpc hLc hA e1 hlc hpl;simp only[uG,wC,jv,Cr,Lg.c,aV.c,Pl.c,Ch.c,Oc.c,List.map_cons,List.map_nil,List.cons_append,List.nil_append] at c1 c2 c3 c4 c5 c6 c7 hd ⊢;refine bN gD ?_;repeat' ((conv=>whnf);first|with_reducible apply aK|((with_reducible apply fk)<;>intro hc<;>try exact aM)|rewrite[AP]|rewrite[AQ]|rewrite[hwr]|(apply fq;(conv=>whnf);refine⟨_,_,c1,?_⟩)|(apply aC;(conv=>whnf);refine⟨_,c2,?_⟩)|(apply aC;(conv=>whnf);refine⟨_,c3,?_⟩)|(apply aC;(conv=>whnf);refine⟨_,c4,?_⟩)|(apply aC;(conv=>whnf);refine⟨_,c5,?_⟩)|(apply aC;(conv=>whnf);refine⟨_,c6,?_⟩)|(apply aC;(conv=>whnf);refine⟨_,nG,?_⟩)|(apply fq;(conv=>whnf);refine⟨_,_,hd,?_⟩)|(apply fq;(conv=>whnf);refine⟨_,_,c7,?_⟩)|(((with_reducible apply And.intro);exact mg))|((with_reducible apply And.intro);exact aG)|fail)
 all_goals exact aL
theorem OM:Mg prog 175 f175:=bZ func175
theorem OP:Mg prog 132 f132:=bZ func132
theorem JP:Mg prog 133 f133:=bZ func133
def Bn (v:Nat)(row:List AV)(A B:List Ch)(K:List Cu)(L:List Lg)(Q:List Pa):List (Nat×aD):=
 [(2,.dM 47 0 9 (A.map Ch.c) row (B.map Ch.c)),(3,.arr 127 v 2 (K.map Cu.c)),(4,.arr 50 0 6 (L.map Lg.c)),(5,.arr 68 0 8 (Q.map Pa.c))]
theorem YR (a b:Int)(A:List Ch)(c:Ch)(B:List Ch)(L:List Lg)(Q:List Pa)(o:aV)(out:Oc)(at_:Int)(h0:∀x∈c.au,(fun (x:Cu)=>x.sub==o.sub) x=false)(hl:c.au.length≤100000):dR prog 175 [.ptr 1 0,.pv (uu at_)]
  ((1,.var (wC a b (.aF 2 0) (.aF 4 0) (.aF 5 0) o (.bn 2 0 (A.map Ch.c).length 0) out))::Bn 0 (lN c (.aF 3 0)) A B c.au L Q) (.pv (.dn []))
  ((1,.var (wC a b (.aF 2 0) (.aF 4 0) (.aF 5 0) o (.bn 2 0 (A.map Ch.c).length 0) { out with at_:=at_ }))::Bn 1 (lN c (.aF 3 1)) A B (Fv c.au o at_) L Q):=by
 have cD:=D6 a b A c B L Q o out c.au h0 (by omega);have eF:c.au.filter (fun x=>!(x.sub==o.sub))=c.au:=by
  rw[List.filter_eq_self];intro x hx;have:=h0 x hx;simp only at this;rw[this];rfl
 have eP:Fv c.au o at_=(iQ Cu.sub (c.au++[(⟨o.sub,at_⟩:Cu)]).toArray).toList:=by unfold Fv;rw[eF]
 have cS:=Bd (c.au++[(⟨o.sub,at_⟩:Cu)]) (by simp;omega);rw[←eP] at cS;clear eP eF h0;simp only[wC,Bn,lN,aV.c,Pl.c,Oc.c,Cu.c,List.map_cons,List.map_nil,List.cons_append,List.nil_append,List.map_append] at cD cS ⊢;refine jA OM ?_;repeat' ((conv=>whnf);first|with_reducible apply aK|((with_reducible apply fk)<;>intro hc<;>try exact aM)|rewrite[AP]|rewrite[AQ]|(apply fq;(conv=>whnf);refine⟨_,_,cD,?_⟩)|(apply fq;(conv=>whnf);refine⟨_,_,cB (cS) ?_,?_⟩;exact qi)|(((with_reducible apply And.intro);focus (simp only[List.length_map,List.length_cons,List.length_nil] at *;omega)))|((with_reducible apply And.intro);exact aG)|fail)
 refine⟨_,_,⟨rfl,rfl⟩,?_⟩;all_goals exact aL
theorem YT (a b:Int)(A:List Ch)(c:Ch)(B:List Ch)(L:List Lg)(Q:List Pa)(o:aV)(out:Oc)(at_:Int)(h0:¬∀x∈c.au,(fun (x:Cu)=>x.sub==o.sub) x=false)(hl:c.au.length≤100000):dR prog 175 [.ptr 1 0,.pv (uu at_)]
  ((1,.var (wC a b (.aF 2 0) (.aF 4 0) (.aF 5 0) o (.bn 2 0 (A.map Ch.c).length 0) out))::Bn 0 (lN c (.aF 3 0)) A B c.au L Q) (.pv (.dn []))
  ((1,.var (wC a b (.aF 2 0) (.aF 4 0) (.aF 5 0) o (.bn 2 0 (A.map Ch.c).length 0) { out with at_:=at_ }))::Bn 2 (lN c (.aF 3 2)) A B (Fv c.au o at_) L Q):=by
 have cD:=D7 a b A c B L Q o out c.au h0 (by omega);have hfl:=List.length_filter_le (fun (x:Cu)=>!(x.sub==o.sub)) c.au;have eP:Fv c.au o at_=(iQ Cu.sub ((c.au.filter fun x=>!(x.sub==o.sub))++[(⟨o.sub,at_⟩:Cu)]).toArray).toList:=rfl;have cS:=Bd ((c.au.filter fun x=>!(x.sub==o.sub))++[(⟨o.sub,at_⟩:Cu)]) (by simp;omega);rw[←eP] at cS;clear eP h0;simp only[wC,Bn,lN,aV.c,Pl.c,Oc.c,Cu.c,List.map_cons,List.map_nil,List.cons_append,List.nil_append,List.map_append] at cD cS ⊢;refine jA OM ?_;repeat' ((conv=>whnf);first|with_reducible apply aK|((with_reducible apply fk)<;>intro hc<;>try exact aM)|rewrite[AP]|rewrite[AQ]|(apply fq;(conv=>whnf);refine⟨_,_,cD,?_⟩)|(apply fq;(conv=>whnf);refine⟨_,_,cB (cS) ?_,?_⟩;exact qi)|(((with_reducible apply And.intro);focus (simp only[List.length_map,List.length_cons,List.length_nil] at *;omega)))|((with_reducible apply And.intro);exact aG)|fail)
 refine⟨_,_,⟨rfl,rfl⟩,?_⟩;all_goals exact aL
theorem abv (a b:Int)(A:List Ch)(c:Ch)(B:List Ch)(L:List Lg)(Q:List Pa)(o:aV)(h0:∀x∈c.au,(fun (x:Cu)=>x.sub==o.sub) x=false)(hl:c.au.length≤100000):dR prog 133 [.ptr 1 0]
  ((1,.var (wC a b (.aF 2 0) (.aF 4 0) (.aF 5 0) o (.bn 2 0 (A.map Ch.c).length 0) bS))::Bn 0 (lN c (.aF 3 0)) A B c.au L Q) (.pv (.dn []))
  ((1,.var (wC a b (.aF 2 0) (.aF 4 0) (.aF 5 0) o (.bn 2 0 (A.map Ch.c).length 0) { bS with at_:=o.at_ }))::Bn 1 (lN c (.aF 3 1)) A B (Fv c.au o o.at_) L Q):=by
 have cP:=YR a b A c B L Q o bS o.at_ h0 hl;clear h0;simp only[wC,Bn,lN,aV.c,Pl.c,Oc.c,List.map_cons,List.map_nil,List.cons_append,List.nil_append,List.map_append] at cP ⊢;refine jA JP ?_;repeat' ((conv=>whnf);first|with_reducible apply aK|((with_reducible apply fk)<;>intro hc<;>try exact aM)|(apply fq;(conv=>whnf);refine⟨_,_,cP,?_⟩)|((with_reducible apply And.intro);exact aG)|fail)
 refine⟨_,_,⟨rfl,rfl⟩,?_⟩;all_goals exact aL
theorem aew (a b:Int)(A:List Ch)(c:Ch)(B:List Ch)(L:List Lg)(Q:List Pa)(o:aV)(h0:∀x∈c.au,(fun (x:Cu)=>x.sub==o.sub) x=false)(hl:c.au.length≤100000):dR prog 132 [.ptr 1 0]
  ((1,.var (wC a b (.aF 2 0) (.aF 4 0) (.aF 5 0) o (.bn 2 0 (A.map Ch.c).length 0) bS))::Bn 0 (lN c (.aF 3 0)) A B c.au L Q) (.pv (.dn []))
  ((1,.var (wC a b (.aF 2 0) (.aF 4 0) (.aF 5 0) o (.bn 2 0 (A.map Ch.c).length 0) { bS with at_:=nM (zf c.au o.sub) o.at_ }))::Bn 1 (lN c (.aF 3 1)) A B (Fv c.au o (nM (zf c.au o.sub) o.at_)) L Q):=by
 have cP:=YR a b A c B L Q o bS (nM (zf c.au o.sub) o.at_) h0 hl;have cA:=acP a b A c B L Q o bS (by omega);clear h0;have cA:dR prog 176 [.ptr 1 0] ((1,.var (wC a b (.aF 2 0) (.aF 4 0) (.aF 5 0) o (.bn 2 0 (A.map Ch.c).length 0) bS))::Bn 0 (lN c (.aF 3 0)) A B c.au L Q) (.pv (uu (zf c.au o.sub)))
  ((1,.var (wC a b (.aF 2 0) (.aF 4 0) (.aF 5 0) o (.bn 2 0 (A.map Ch.c).length 0) bS))::Bn 0 (lN c (.aF 3 0)) A B c.au L Q):=cA
 obtain⟨m,hm⟩:∃m,m=nM (zf c.au o.sub) o.at_:=⟨_,rfl⟩;rw[←hm] at cP ⊢;unfold nM at hm;generalize zf c.au o.sub=t at *;simp only[wC,Bn,lN,aV.c,Pl.c,Oc.c,List.map_cons,List.map_nil,List.cons_append,List.nil_append,List.map_append] at cP cA ⊢;refine jA OP ?_;repeat' ((conv=>whnf);first|with_reducible apply aK|((with_reducible apply fk)<;>intro hc<;>try exact aM)|rewrite[AP]|rewrite[AQ]|((rewrite[←hm]))|(refine Or.inr ?_;(conv=>whnf);refine⟨_,_,cA,?_⟩)|(apply fq;(conv=>whnf);refine⟨_,_,cP,?_⟩)|((with_reducible apply And.intro);exact aG)|fail)
 refine⟨_,_,⟨rfl,rfl⟩,?_⟩;all_goals exact aL
theorem abw (a b:Int)(A:List Ch)(c:Ch)(B:List Ch)(L:List Lg)(Q:List Pa)(o:aV)(h0:¬∀x∈c.au,(fun (x:Cu)=>x.sub==o.sub) x=false)(hl:c.au.length≤100000):dR prog 133 [.ptr 1 0]
  ((1,.var (wC a b (.aF 2 0) (.aF 4 0) (.aF 5 0) o (.bn 2 0 (A.map Ch.c).length 0) bS))::Bn 0 (lN c (.aF 3 0)) A B c.au L Q) (.pv (.dn []))
  ((1,.var (wC a b (.aF 2 0) (.aF 4 0) (.aF 5 0) o (.bn 2 0 (A.map Ch.c).length 0) { bS with at_:=o.at_ }))::Bn 2 (lN c (.aF 3 2)) A B (Fv c.au o o.at_) L Q):=by
 have cP:=YT a b A c B L Q o bS o.at_ h0 hl;clear h0;simp only[wC,Bn,lN,aV.c,Pl.c,Oc.c,List.map_cons,List.map_nil,List.cons_append,List.nil_append,List.map_append] at cP ⊢;refine jA JP ?_;repeat' ((conv=>whnf);first|with_reducible apply aK|((with_reducible apply fk)<;>intro hc<;>try exact aM)|(apply fq;(conv=>whnf);refine⟨_,_,cP,?_⟩)|((with_reducible apply And.intro);exact aG)|fail)
 refine⟨_,_,⟨rfl,rfl⟩,?_⟩;all_goals exact aL
theorem aex (a b:Int)(A:List Ch)(c:Ch)(B:List Ch)(L:List Lg)(Q:List Pa)(o:aV)(h0:¬∀x∈c.au,(fun (x:Cu)=>x.sub==o.sub) x=false)(hl:c.au.length≤100000):dR prog 132 [.ptr 1 0]
  ((1,.var (wC a b (.aF 2 0) (.aF 4 0) (.aF 5 0) o (.bn 2 0 (A.map Ch.c).length 0) bS))::Bn 0 (lN c (.aF 3 0)) A B c.au L Q) (.pv (.dn []))
  ((1,.var (wC a b (.aF 2 0) (.aF 4 0) (.aF 5 0) o (.bn 2 0 (A.map Ch.c).length 0) { bS with at_:=nM (zf c.au o.sub) o.at_ }))::Bn 2 (lN c (.aF 3 2)) A B (Fv c.au o (nM (zf c.au o.sub) o.at_)) L Q):=by
 have cP:=YT a b A c B L Q o bS (nM (zf c.au o.sub) o.at_) h0 hl;have cA:=acP a b A c B L Q o bS (by omega);clear h0;have cA:dR prog 176 [.ptr 1 0] ((1,.var (wC a b (.aF 2 0) (.aF 4 0) (.aF 5 0) o (.bn 2 0 (A.map Ch.c).length 0) bS))::Bn 0 (lN c (.aF 3 0)) A B c.au L Q) (.pv (uu (zf c.au o.sub)))
  ((1,.var (wC a b (.aF 2 0) (.aF 4 0) (.aF 5 0) o (.bn 2 0 (A.map Ch.c).length 0) bS))::Bn 0 (lN c (.aF 3 0)) A B c.au L Q):=cA
 obtain⟨m,hm⟩:∃m,m=nM (zf c.au o.sub) o.at_:=⟨_,rfl⟩;rw[←hm] at cP ⊢;unfold nM at hm;generalize zf c.au o.sub=t at *;simp only[wC,Bn,lN,aV.c,Pl.c,Oc.c,List.map_cons,List.map_nil,List.cons_append,List.nil_append,List.map_append] at cP cA ⊢;refine jA OP ?_;repeat' ((conv=>whnf);first|with_reducible apply aK|((with_reducible apply fk)<;>intro hc<;>try exact aM)|rewrite[AP]|rewrite[AQ]|((rewrite[←hm]))|(refine Or.inr ?_;(conv=>whnf);refine⟨_,_,cA,?_⟩)|(apply fq;(conv=>whnf);refine⟨_,_,cP,?_⟩)|((with_reducible apply And.intro);exact aG)|fail)
 refine⟨_,_,⟨rfl,rfl⟩,?_⟩;all_goals exact aL
theorem OQ:Mg prog 127 f127:=bZ func127
def Tn (c:Ch)(l:AV):List AV:=[.pv (uu c.aY),.pv (ii c.owner),.pv (uu c.inc),.pv (uu c.eB),.pv (uu c.first),.pv (uu c.trim),l,.pv (qp c.seen),.pv (H8 c.au)]
def V9 (v u:Nat)(row:List AV)(A B:List Ch)(I:List Int)(L:List Lg)(Q:List Pa):List (Nat×aD):=
 [(2,.dM 47 0 9 (A.map Ch.c) row (B.map Ch.c)),(3,.arr 23 v 1 (I.map dh)),(4,.arr 50 u 6 (L.map Lg.c)),(5,.arr 68 0 8 (Q.map Pa.c))]
theorem JQ (a b:Int)(A:List Ch)(c:Ch)(B:List Ch)(L:List Lg)(Q:List Pa)(o:aV)(n:Int)(out:Oc):dR prog 34 [.ptr 1 0,.pv (ii n)]
  ((1,.var (wC a b (.aF 2 0) (.aF 4 0) (.aF 5 0) o (.bn 2 0 (A.map Ch.c).length 0) out))::V9 0 0 (Tn c (.aF 3 0)) A B c.af L Q) (.pv (.dn []))
  ((1,.var (wC a b (.aF 2 0) (.aF 4 0) (.aF 5 0) o (.bn 2 0 (A.map Ch.c).length 0) (ig n)))::V9 0 0 (Tn c (.aF 3 0)) A B c.af L Q):=by
 refine jA xO ?_;repeat' ((conv=>whnf);first|with_reducible apply aK|((with_reducible apply fk)<;>intro hc<;>try exact aM)|((with_reducible apply And.intro);exact aG)|fail)
 refine⟨_,_,⟨rfl,rfl⟩,?_⟩;all_goals exact aL
theorem Gt (a b:Int)(A:List Ch)(c:Ch)(B:List Ch)(L:List Lg)(Q:List Pa)(o:aV)(h:tK (kF a b A c B L Q))(hl:c.af.length≤1000000)(hL:L.length≤1000000)
  (is:Bool) (e:Int) (his:is=(gX (kF a b A c B L Q) o.channel).isSome) (he:e=kV (kF a b A c B L Q) o.channel)
  (X:Bool×Oc) (hX:X=if (is||(c.aY==0)) then (false,ig 5) else if ((((c.af.map dh).length:Int)==8)||decide (b>4611686018427387903))||decide (IntKind.u64.wrap (e+16)>4611686018427387903) then (false,ig 3) else (true,{ bS with bA:=b })) :
  dR prog 127 [.ptr 1 0]
  ((1,.var (wC a b (.aF 2 0) (.aF 4 0) (.aF 5 0) o (.bn 2 0 (A.map Ch.c).length 0) bS))::V9 0 0 (Tn c (.aF 3 0)) A B c.af L Q) (.pv (.dn []))
  (match X.1 with
   |true=>((1,.var (wC a (IntKind.u64.wrap (b+1)) (.aF 2 0) (.aF 4 1) (.aF 5 0) o (.bn 2 0 (A.map Ch.c).length 0) X.2))::V9 1 1 (Tn c (.aF 3 1)) A B (c.af++[b]) (L++[(⟨b,o.w,o.a,o.aA,0,0⟩:Lg)]) Q)
   |false=>((1,.var (wC a b (.aF 2 0) (.aF 4 0) (.aF 5 0) o (.bn 2 0 (A.map Ch.c).length 0) X.2))::V9 0 0 (Tn c (.aF 3 0)) A B c.af L Q)):=by
 have YP:=JQ a b A c B L Q o 3 bS;have YQ:=JQ a b A c B L Q o 5 bS;have cE:=zC (kF a b A c B L Q) o.channel h;have cO:=Eh (kF a b A c B L Q) o.channel h;have e1:(kF a b A c B L Q).c=[uu a,uu b,.sl false 9 (A.map Ch.c++[uu c.aY,ii c.owner,uu c.inc,uu c.eB,uu c.first,uu c.trim,.sl false 1 (c.af.map dh),qp c.seen,H8 c.au]::B.map Ch.c),.sl false 6 (L.map Lg.c),.sl false 8 (Q.map Pa.c)]:=by
  simp only[kF,Pn.c,jL,dN,uR,List.map_append,List.map_cons,Ch.c];rfl
 rw[e1] at cE cO;rw[←his] at cO;rw[←he] at cE;clear his he;generalize (gX (kF a b A c B L Q) o.channel).getD UB=x at *;clear h e1;simp only[lgJ,wC,V9,Tn,aV.c,Pl.c,Oc.c,List.map_cons,List.map_nil,List.cons_append,List.nil_append,List.map_append,Lg.c,dh,p8] at cE cO YP YQ ⊢;refine jA OQ ?_;repeat' ((conv=>whnf);first|with_reducible apply aK|((with_reducible apply fk)<;>intro hc<;>try exact iK)|rewrite[AP]|rewrite[AQ]|(apply aC;(conv=>whnf);refine⟨_,cE,?_⟩)|(apply aC;(conv=>whnf);refine⟨_,cO,?_⟩)|(apply fq;(conv=>whnf);refine⟨_,_,YP,?_⟩)|(apply fq;(conv=>whnf);refine⟨_,_,YQ,?_⟩)|(((with_reducible apply And.intro);focus (simp only[List.length_map,List.length_cons,List.length_nil] at *;omega)))|((with_reducible apply And.intro);exact aG)|fail)
 all_goals clear cE cO YP YQ hl hL
 all_goals
  simp only[Bool.not_true, *,Bool.true_or,Bool.or_true,Bool.false_or,Bool.or_false,Bool.true_and,Bool.and_true,Bool.false_and,Bool.and_false,Bool.not_true,Bool.not_false,Bool.false_eq_true,↓reduceIte] at hX;subst hX;refine⟨_,_,⟨rfl,rfl⟩,?_⟩;all_goals exact aL
def uH (k2 k3 k4:Nat)(w3:Nat)(r3:List (List PV))(a b:Int)(ch:List Ch)(L:List Lg)(Q:List Pa)(o:aV)(out:Oc):List (Nat×aD):=
 [(1,.var (wC a b (.pv (jL ch)) (.pv (dN L)) (.aF 5 0) o (.pv .junk) out)),(2,.kG k2 9 (ch.map Ch.c)),(3,.kG k3 w3 r3),(4,.kG k4 6 (L.map Lg.c)),(5,.arr 68 0 8 (Q.map Pa.c))]
theorem Y6 (p:Pn)(A:List Ch)(c:Ch)(B:List Ch)(hp:p.channels=A++c::B)(h:tK p):dR prog 30 [.pv (.agg p.c)] [] (.agg [.pv (uu p.version),.pv (uu p.next),.aF 1001 0,.aF 1004 0,.aF 1005 0])
  [(1001,.dM 47 0 9 (A.map Ch.c) (lN c (.aF 1003 0)) (B.map Ch.c)),(1003,.arr 127 0 2 (c.au.map Cu.c)),(1004,.arr 50 0 6 (p.af.map Lg.c)),(1005,.arr 68 0 8 (p.past.map Pa.c))]:=by
 have h1:=OB p A c B hp h;simp only[OA] at h1;refine iq h1 [1002] ?_;simp only[lN]
 (conv=>whnf)
 refine⟨_,_,⟨rfl,rfl⟩,?_⟩;all_goals exact aL
theorem Y7 (p:Pn)(A:List Ch)(c:Ch)(B:List Ch)(hp:p.channels=A++c::B)(h:tK p):dR prog 30 [.pv (.agg p.c)] [] (.agg [.pv (uu p.version),.pv (uu p.next),.aF 1001 0,.aF 1004 0,.aF 1005 0])
  [(1001,.dM 47 0 9 (A.map Ch.c) (Tn c (.aF 1002 0)) (B.map Ch.c)),(1002,.arr 23 0 1 (c.af.map dh)),(1004,.arr 50 0 6 (p.af.map Lg.c)),(1005,.arr 68 0 8 (p.past.map Pa.c))]:=by
 have h1:=OB p A c B hp h;simp only[OA] at h1;refine iq h1 [1003] ?_;simp only[Tn]
 (conv=>whnf)
 refine⟨_,_,⟨rfl,rfl⟩,?_⟩;all_goals exact aL
theorem xP (p:Pn)(o:aV)(D:Wd p o)(F:FuncId)(nm:Int)(A:List Ch)(c:Ch)(B:List Ch)(hpc:p.channels=A++c::B)(hA:(A.length:Int)=o.channel-1)(nG:bE prog 35 [ii o.kind] (.agg [ii nm,.fn (.func F) [] []]))
  (k2 k3 k4 w3:Nat) (r3:List (List PV)) (b2:Int) (Rp:List Ch) (L2:List Lg) (out:Oc)
  (hd:dR prog F [.ptr 1 0] ((1,.var (wC p.version p.next (.aF 2 0) (.aF 4 0) (.aF 5 0) o (.bn 2 0 (A.map Ch.c).length 0) bS))::Bn 0 (lN c (.aF 3 0)) A B c.au p.af p.past) (.pv (.dn [])) (uH k2 k3 k4 w3 r3 p.version b2 Rp L2 p.past o out)) :
  bE prog 13 [.agg p.c,.agg o.c] (.dn [.agg (⟨IntKind.u64.wrap (p.version+1),b2,Rp,L2,bT p.past o out⟩:Pn).c,.agg out.c]):=by
 refine PC.le ?_;have c1:=Y6 p A c B hpc D.h;have c2:=nY p D.h;have c3:=ng o D.ho.fr D.ho.bk D.ho.sn;have c4:=qY p o D.h.past;have c5:=oH p o D.h.channels (fE D.hw).1 (fE D.hw).2 D.hch;have c6:=nQ o D.ho.fr D.ho.bk D.ho.sn;obtain⟨kr,c7⟩:=kZ p.version b2 Rp L2 p.past o out D.hpl;rw[D.hp] at c2;rw[D.hw] at c3;rw[D.ht] at c4;rw[D.hs] at c5;have hv:=D.hv;have hlc:=D.h.channels;have hpl:=D.hpl;rw[hpc] at hlc;simp only[List.length_append,List.length_cons] at hlc;have e1:p.c=[uu p.version,uu p.next,.sl false 9 (A.map Ch.c++[uu c.aY,ii c.owner,uu c.inc,uu c.eB,uu c.first,uu c.trim,p9 c.af,qp c.seen,.sl false 2 (c.au.map Cu.c)]::B.map Ch.c),.sl false 6 (p.af.map Lg.c),.sl false 8 (p.past.map Pa.c)]:=by
  simp only[Pn.c,jL,dN,uR,hpc,List.map_append,List.map_cons,Ch.c,H8]
 have hgt:decide (o.channel>(((A.map Ch.c).length+(1+(B.map Ch.c).length):Nat):Int))=false:=by simp only[List.length_map,decide_eq_false_iff_not];omega
 have hg0:decide (o.channel>0)=true:=by simp only[kC];omega
 have hwr:IntKind.i64.wrap (o.channel-1)=((A.map Ch.c).length:Int):=by rw[List.length_map,aO (by omega) (by omega)];omega
 rw[e1] at c1 c2 c4 c5 ⊢;clear D hpc hA e1 hlc hpl;simp only[uH,wC,Bn,lN,H8,aV.c,Pl.c,Ch.c,Oc.c,List.map_cons,List.map_nil,List.cons_append,List.nil_append] at c1 c2 c3 c4 c5 c6 c7 hd ⊢;refine bN gD ?_;repeat' ((conv=>whnf);first|with_reducible apply aK|((with_reducible apply fk)<;>intro hc<;>try exact aM)|rewrite[AP]|rewrite[AQ]|rewrite[hwr]|(apply fq;(conv=>whnf);refine⟨_,_,c1,?_⟩)|(apply aC;(conv=>whnf);refine⟨_,c2,?_⟩)|(apply aC;(conv=>whnf);refine⟨_,c3,?_⟩)|(apply aC;(conv=>whnf);refine⟨_,c4,?_⟩)|(apply aC;(conv=>whnf);refine⟨_,c5,?_⟩)|(apply aC;(conv=>whnf);refine⟨_,c6,?_⟩)|(apply aC;(conv=>whnf);refine⟨_,nG,?_⟩)|(apply fq;(conv=>whnf);refine⟨_,_,hd,?_⟩)|(apply fq;(conv=>whnf);refine⟨_,_,c7,?_⟩)|(((with_reducible apply And.intro);exact mg))|((with_reducible apply And.intro);exact aG)|fail)
 all_goals exact aL
theorem Cw (p:Pn)(o:aV)(D:Wd p o)(F:FuncId)(nm:Int)(A:List Ch)(c:Ch)(B:List Ch)(hpc:p.channels=A++c::B)(hA:(A.length:Int)=o.channel-1)(nG:bE prog 35 [ii o.kind] (.agg [ii nm,.fn (.func F) [] []]))
  (k2 k3 k4 w3:Nat) (r3:List (List PV)) (b2:Int) (Rp:List Ch) (L2:List Lg) (out:Oc)
  (hd:dR prog F [.ptr 1 0] ((1,.var (wC p.version p.next (.aF 2 0) (.aF 4 0) (.aF 5 0) o (.bn 2 0 (A.map Ch.c).length 0) bS))::V9 0 0 (Tn c (.aF 3 0)) A B c.af p.af p.past) (.pv (.dn [])) (uH k2 k3 k4 w3 r3 p.version b2 Rp L2 p.past o out)) :
  bE prog 13 [.agg p.c,.agg o.c] (.dn [.agg (⟨IntKind.u64.wrap (p.version+1),b2,Rp,L2,bT p.past o out⟩:Pn).c,.agg out.c]):=by
 refine PC.le ?_;have c1:=Y7 p A c B hpc D.h;have c2:=nY p D.h;have c3:=ng o D.ho.fr D.ho.bk D.ho.sn;have c4:=qY p o D.h.past;have c5:=oH p o D.h.channels (fE D.hw).1 (fE D.hw).2 D.hch;have c6:=nQ o D.ho.fr D.ho.bk D.ho.sn;obtain⟨kr,c7⟩:=kZ p.version b2 Rp L2 p.past o out D.hpl;rw[D.hp] at c2;rw[D.hw] at c3;rw[D.ht] at c4;rw[D.hs] at c5;have hv:=D.hv;have hlc:=D.h.channels;have hpl:=D.hpl;rw[hpc] at hlc;simp only[List.length_append,List.length_cons] at hlc;have e1:p.c=[uu p.version,uu p.next,.sl false 9 (A.map Ch.c++[uu c.aY,ii c.owner,uu c.inc,uu c.eB,uu c.first,uu c.trim,.sl false 1 (c.af.map dh),qp c.seen,H8 c.au]::B.map Ch.c),.sl false 6 (p.af.map Lg.c),.sl false 8 (p.past.map Pa.c)]:=by
  simp only[Pn.c,jL,dN,uR,hpc,List.map_append,List.map_cons,Ch.c];rfl
 have hgt:decide (o.channel>(((A.map Ch.c).length+(1+(B.map Ch.c).length):Nat):Int))=false:=by simp only[List.length_map,decide_eq_false_iff_not];omega
 have hg0:decide (o.channel>0)=true:=by simp only[kC];omega
 have hwr:IntKind.i64.wrap (o.channel-1)=((A.map Ch.c).length:Int):=by rw[List.length_map,aO (by omega) (by omega)];omega
 rw[e1] at c1 c2 c4 c5 ⊢;clear D hpc hA e1 hlc hpl;simp only[uH,wC,V9,Tn,aV.c,Pl.c,Ch.c,Oc.c,List.map_cons,List.map_nil,List.cons_append,List.nil_append] at c1 c2 c3 c4 c5 c6 c7 hd ⊢;refine bN gD ?_;repeat' ((conv=>whnf);first|with_reducible apply aK|((with_reducible apply fk)<;>intro hc<;>try exact aM)|rewrite[AP]|rewrite[AQ]|rewrite[hwr]|(apply fq;(conv=>whnf);refine⟨_,_,c1,?_⟩)|(apply aC;(conv=>whnf);refine⟨_,c2,?_⟩)|(apply aC;(conv=>whnf);refine⟨_,c3,?_⟩)|(apply aC;(conv=>whnf);refine⟨_,c4,?_⟩)|(apply aC;(conv=>whnf);refine⟨_,c5,?_⟩)|(apply aC;(conv=>whnf);refine⟨_,c6,?_⟩)|(apply aC;(conv=>whnf);refine⟨_,nG,?_⟩)|(apply fq;(conv=>whnf);refine⟨_,_,hd,?_⟩)|(apply fq;(conv=>whnf);refine⟨_,_,c7,?_⟩)|(((with_reducible apply And.intro);exact mg))|((with_reducible apply And.intro);exact aG)|fail)
 all_goals exact aL
end Go.Proofs.YtiagceoepkaeoaaGreat.Tb
end

/-
  Contracts of functions of the program and of the document, each for every input that its premises name.
-/
import Derived.Test.YtiagceoepkaeoaaGreatBh
set_option linter.unusedSectionVars false
set_option linter.unusedVariables false
set_option linter.unusedSimpArgs false
set_option maxRecDepth 100000
set_option maxHeartbeats 4000000
section
open Go Go.Proofs.Tryz Go.AX
namespace Go.Proofs.YtiagceoepkaeoaaGreat.Tb
theorem uo:Mg prog 7 f7:=bZ func7
def GI (c:Ch):Pn:=⟨0,0,[c],[],[]⟩
theorem aeF {p:Pn}(h:tK p){c:Ch}(hc:c∈p.channels):tK (GI c):=by
 refine⟨by simp[GI],by simp[GI],by simp[GI],fun x hx=>?_,fun x hx=>by simp[GI] at hx,?_⟩
 ·simp only[GI,List.mem_singleton] at hx;subst hx;exact h.ch x hc
 have:=(h.ch c hc).af;simpa[GI,gY] using this
theorem VY {p q:Pn}{o:aV}(h:gF p)(hw:Az p q o){i:Nat}(hi:i<p.channels.length)(hne:(i:Int)+1≠o.channel){id:Int}(hid:id∈p.channels[i].af) :
  ∃l l':Lg,dm p id=l∧dm q id=l'∧(bg q id).isSome=true∧l∈p.af∧(l.last != l'.last)=false∧(l.closed != l'.closed)=false∧(o.kind≠12→l'=l):=by
 obtain⟨l,hl,e,hf⟩:=h.named (List.getElem_mem hi) hid;obtain⟨h1,h2⟩:=hw.lg i hi hne id hid;rw[hf] at h1;cases hq:bg q id with
 |none=>rw[hq] at h1;cases h1
 | some l'=>
   rw[hq] at h1;simp only[Option.map_some,Option.some.injEq,BR,Prod.mk.injEq] at h1;refine⟨l,l',by unfold dm;rw[hf];rfl,by unfold dm;rw[hq];rfl,rfl,hl,by rw[h1.2];simp,by rw[h1.1];simp,fun hk=>?_⟩;have:=h2 hk;rw[hf,hq] at this;exact Option.some.inj this
theorem O6 (n:Int)(l:List aV)(o:aV)(h0:∀z∈l,0≤z.at_)(ho0:0≤o.at_):bE prog 7 [ii n,Tx l,.agg o.c] (bl true):=by
 refine PC.le ?_;have cP:=wW n l h0;have cL:=lK o;cases hp:yK n l with
 | none=>
   rw[hp] at cP;simp only[Option.getD_none,Option.isSome_none] at cP;clear hp;refine bN uo ?_;repeat' ((conv=>whnf);first|with_reducible apply aK|((with_reducible apply fk)<;>intro hc<;>try exact aM)|(apply aC;(conv=>whnf);refine⟨_,cP,?_⟩)|(apply aC;(conv=>whnf);refine⟨_,bF,?_⟩)|((with_reducible apply And.intro);exact aG)|fail)
   all_goals exact aL
 |some p=>
 rw[hp] at cP;simp only[Option.getD_some,Option.isSome_some] at cP;have hok:=wX hp h0;clear hp;cases hlo:ja o with
 | true=>
   rw[hlo] at cL;clear hlo hok;refine bN uo ?_;repeat' ((conv=>whnf);first|with_reducible apply aK|((with_reducible apply fk)<;>intro hc<;>try exact aM)|(apply aC;(conv=>whnf);refine⟨_,cP,?_⟩)|(apply aC;(conv=>whnf);refine⟨_,cL,?_⟩)|(apply aC;(conv=>whnf);refine⟨_,bF,?_⟩)|((with_reducible apply And.intro);exact aG)|fail)
   all_goals exact aL
 |false=>
 have hB:=um hlo;rw[hlo] at cL;clear hlo;have cT:=GA p o hok.Dc hB;have cA:=iM hok hB;have cE:=oV p (aS p o).1 hok.Dc;have hw:=zl hok o;have hq:=gQ hok ho0;have hsb:((j6 p&&(jW o&&gJ p o))=true∧decide (p=(aS p o).1)=true)∨(j6 p&&(jW o&&gJ p o))=false:=by
  cases hs:(j6 p&&(jW o&&gJ p o)) with
  |false=>exact .inr rfl
  | true=>
    refine .inl ⟨rfl,?_⟩;simp only[Bool.and_eq_true] at hs;rw[decide_eq_true_eq];exact (QH hs.2.2).symm
 generalize (j6 p&&(jW o&&gJ p o))=sb at *;generalize decide (p=(aS p o).1)=eb at *;generalize (aS p o).1=q at *;generalize (aS p o).2=out at *;have O4:=hok.Dc;have ZL:=hq.Dc;have hc2:=hok.c2;have hlen:=hw.len;replace hw:=Hd.mk hw;replace hok:=Hd.mk hok;clear hB hq;rcases hsb with ⟨rfl,rfl⟩|rfl
 all_goals
  refine bN uo ?_;repeat' ((conv=>whnf);first|with_reducible apply aK|((with_reducible apply fk)<;>intro hc<;>try exact aM)|(apply aC;(conv=>whnf);refine⟨_,cP,?_⟩)|(apply aC;(conv=>whnf);refine⟨_,cL,?_⟩)|(apply aC;(conv=>whnf);refine⟨_,cA,?_⟩)|(apply aC;(conv=>whnf);refine⟨_,cT,?_⟩)|(apply aC;(conv=>whnf);refine⟨_,cE,?_⟩)|(apply aC;(conv=>whnf);refine⟨_,bF,?_⟩)|((with_reducible apply And.intro);exact aG)|fail)
  refine⟨{k:Nat // k≤p.channels.length},fun⟨k,_⟩=>⟨[(5,.ptr 1005 0),(7,.ptr 1007 0),(9,.ptr 1009 0),(11,.pv (ii k))],1000000000,[(1005,.var (o.c.map .pv)),(1007,.var (p.c.map .pv)),(1009,.var (q.c.map .pv))]⟩,fun⟨k,_⟩=>p.channels.length-k,⟨⟨0,Nat.zero_le _⟩,ak ?_⟩,?_⟩
  ·repeat' first
    |fail
    |with_reducible exact True.intro
    |with_reducible exact rfl
    |with_reducible exact ah _
    |((conv=>whnf);with_reducible apply And.intro)
    |((conv=>whnf);with_reducible exact True.intro)
    |exact rfl
    |exact fun h=>h
    |exact ah _
   all_goals try (conv=>whnf)
  rintro⟨k,hk⟩
  clear cP cL cA cT cE;dsimp only
  by_cases hlt:k<p.channels.length
  ·have d0:decide ((k:Int)<((p.channels.map Ch.c).length:Int))=true:=by simp only[List.length_map,decide_eq_true_eq];omega
   have eW:IntKind.i64.wrap ((k:Int)+1)=((k+1:Nat):Int):=by rw[aO (by omega) (by omega)];omega
   cases he:(o.channel==((k+1:Nat):Int)) with
   | true=>
     clear O4 ZL;repeat' ((conv=>whnf);first|with_reducible apply aK|((with_reducible apply fk)<;>intro hc<;>try exact aM)|((rewrite[eW]))|((with_reducible apply And.intro);exact aG)|fail)
     refine⟨⟨k+1,hlt⟩,dec_lt hlt,ak ?_⟩;repeat' first|((conv=>whnf);with_reducible apply And.intro)|exact aL|fail
     all_goals try (conv=>whnf)
     all_goals exact eW
   | false=>
     have hne:(k:Int)+1≠o.channel:=by
      intro e;rw[beq_eq_false_iff_ne] at he;omega
     have hqk:=hw.out.ch k hlt hne;have RA:k<q.channels.length:=by omega
     rw[List.getElem?_eq_getElem hlt,List.getElem?_eq_getElem RA] at hqk;have hqk:=Option.some.inj hqk;have hr:=cu Ch.c p.channels k hlt;have hmem:=List.getElem_mem hlt;have cS:=oV (GI p.channels[k]) (GI p.channels[k]) (aeF O4 hmem);rw[show decide (GI p.channels[k]=GI p.channels[k])=true from by simp] at cS;have ht1:(k+1:Nat)≤(p.channels.map Ch.c).length:=by simp only[List.length_map];omega
     have eC:∀{L:List Ch} (h:k<L.length),mo (L.map Ch.c) (some (k:Int)) (some ((k+1:Nat):Int))=[(L[k]).c]:=fun {L} h=>by
      simp only[mo,Int.toNat_natCast];rw[←List.map_take,←List.map_drop,List.take_succ_eq_append_getElem h,List.drop_append_of_le_length (by rw[List.length_take];omega),List.drop_eq_nil_of_le (by rw[List.length_take];omega)];rfl
     have eC1:=eC hlt;have eC2:=eC RA;rw[hqk] at eC2;have YF:=@VY p q o hok.out hw.out k hlt hne;have hll:p.channels[k].af.length≤8:=(hok.out.ch _ hmem).1.len;have ajs:=Hd.mk ZL;clear ZL eC hqk hmem;generalize p.channels[k]=ch at *;replace O4:=Hd.mk O4;repeat' ((conv=>whnf);first|with_reducible apply aK|((with_reducible apply fk)<;>intro hc<;>try exact aM)|((rewrite[eW]))|rewrite[eC1]|rewrite[eC2]|(((with_reducible apply And.intro);focus (show _≤((p.channels.map Ch.c).length:Int);simp only[List.length_map];omega)))|(((with_reducible apply And.intro);focus (show _≤((q.channels.map Ch.c).length:Int);simp only[List.length_map];omega)))|(((with_reducible apply And.intro);focus (show (k:Int)≤((k+1:Nat):Int);omega)))|(apply aC;(conv=>whnf);refine⟨_,nA (cS) ?_,?_⟩;exact qi)|((with_reducible apply And.intro);exact aG)|fail)
     refine⟨{j:Nat // j≤ch.af.length},fun⟨j,_⟩=>⟨[(5,.ptr 1005 0),(7,.ptr 1007 0),(9,.ptr 1009 0),(11,.pv (ii k)),(14,.pv (ii j))],1000000000,[(1005,.var (o.c.map .pv)),(1007,.var (p.c.map .pv)),(1009,.var (q.c.map .pv))]⟩,fun⟨j,_⟩=>ch.af.length-j,⟨⟨0,Nat.zero_le _⟩,ak ?_⟩,?_⟩
     ·repeat' first
       |fail
       |with_reducible exact True.intro
       |with_reducible exact rfl
       |with_reducible exact ah _
       |((conv=>whnf);with_reducible apply And.intro)
       |((conv=>whnf);with_reducible exact True.intro)
       |exact rfl
       |exact fun h=>h
       |exact ah _
      all_goals try (conv=>whnf)
     rintro⟨j,hj⟩
     dsimp only
     by_cases hjt:j<ch.af.length
     ·have d1:decide ((j:Int)<((ch.af.map dh).length:Int))=true:=by simp only[List.length_map,decide_eq_true_eq];omega
      have eV:IntKind.i64.wrap ((j:Int)+1)=((j+1:Nat):Int):=by rw[aO (by omega) (by omega)];omega
      have hr2:=cu dh ch.af j hjt;obtain⟨x,x',g1,g2,g3,g4,g5,g6,g7⟩:=YF (List.getElem_mem hjt);have c1:=qJ p ch.af[j] O4.out;have c2:=qJ q ch.af[j] ajs.out;rw[g1] at c1;rw[g2,g3] at c2;generalize ch.af[j]=id at *;generalize (bg p id).isSome=tb at *;have cF:=og x x true (pX _ _ (O4.out.lg x g4).aA (O4.out.lg x g4).aI);rw[show decide (x=x)=true from by simp] at cF;clear cS eC1 eC2 YF g1 g2 g3 g4;by_cases Zp:o.kind=12
      ·have b1:(o.kind != 12)=false:=by simp[Zp]
       clear g7 Zp cF;repeat' ((conv=>whnf);first|with_reducible apply aK|((with_reducible apply fk)<;>intro hc<;>try exact iK)|((refine⟨_,hr,?_⟩))|((refine⟨_,hr2,?_⟩))|(apply aC;(conv=>whnf);refine⟨_,c1,?_⟩)|(apply aC;(conv=>whnf);refine⟨_,c2,?_⟩)|(((with_reducible apply And.intro);exact mg))|((with_reducible apply And.intro);exact aG)|fail)
       refine⟨⟨j+1,hjt⟩,dec_lt hjt,ak ?_⟩;repeat' first|((conv=>whnf);with_reducible apply And.intro)|exact aL|fail
       all_goals try (conv=>whnf)
       all_goals exact eV
      have b1:(o.kind != 12)=true:=by simpa using Zp
      have e7:=g7 Zp;subst e7;clear g7 Zp;repeat' ((conv=>whnf);first|with_reducible apply aK|((with_reducible apply fk)<;>intro hc<;>try exact iK)|((refine⟨_,hr,?_⟩))|((refine⟨_,hr2,?_⟩))|(apply aC;(conv=>whnf);refine⟨_,c1,?_⟩)|(apply aC;(conv=>whnf);refine⟨_,c2,?_⟩)|(apply aC;(conv=>whnf);refine⟨_,cF,?_⟩)|(((with_reducible apply And.intro);exact mg))|((with_reducible apply And.intro);exact aG)|fail)
      refine⟨⟨j+1,hjt⟩,dec_lt hjt,ak ?_⟩;repeat' first|((conv=>whnf);with_reducible apply And.intro)|exact aL|fail
      all_goals try (conv=>whnf)
      all_goals exact eV
     have hje:j=ch.af.length:=by omega
     subst hje;have d1:decide ((ch.af.length:Int)<((ch.af.map dh).length:Int))=false:=by simp
     clear cS eC1 eC2 YF;repeat' ((conv=>whnf);first|with_reducible apply aK|((with_reducible apply fk)<;>intro hc<;>try exact aM)|((refine⟨_,hr,?_⟩))|(((with_reducible apply And.intro);exact mg))|((with_reducible apply And.intro);exact aG)|fail)
     refine⟨⟨k+1,hlt⟩,dec_lt hlt,ak ?_⟩;repeat' first|((conv=>whnf);with_reducible apply And.intro)|exact aL|fail
     all_goals try (conv=>whnf)
     all_goals exact eW
  have hke:k=p.channels.length:=by omega
  subst hke;have d0:decide ((p.channels.length:Int)<((p.channels.map Ch.c).length:Int))=false:=by simp
  clear hlt hk O4 ZL hlen hc2;repeat' ((conv=>whnf);first|with_reducible apply aK|((with_reducible apply fk)<;>intro hc<;>try exact aM)|(apply aC;(conv=>whnf);refine⟨_,bF,?_⟩)|((with_reducible apply And.intro);exact aG)|fail)
  all_goals exact aL
end Go.Proofs.YtiagceoepkaeoaaGreat.Tb
end

/-
  Contracts of functions of the program and of the document, each for every input that its premises name.
-/
import Derived.Test.YtiagceoepkaeoaaGreatBh
set_option linter.unusedSectionVars false
set_option linter.unusedVariables false
set_option linter.unusedSimpArgs false
set_option maxRecDepth 100000
set_option maxHeartbeats 4000000
section
open Go Go.Proofs.Tryz Go.AX
namespace Go.Proofs.YtiagceoepkaeoaaGreat.Tb
theorem GJ:Mg prog 3 f3:=bZ func3
theorem ltZ {a b:Int}(h:a≤b):decide (b<a)=false:=by rw[decide_eq_false_iff_not];omega
theorem RB (p:Pn)(l:List aV)(k:Nat)(h:k<l.length):gT p (l.take (k+1))=(aS (gT p (l.take k)) l[k]).1:=by
 rw[List.take_succ_eq_append_getElem h];unfold gT;rw[List.foldl_append];rfl
theorem abS {p q:Pn}(h:xJ p q){k:Nat}(h1:k<p.channels.length)(h2:k<q.channels.length):kV p ((k+1:Nat):Int)≤kV q ((k+1:Nat):Int):=by
 have e:=(h.ch k h1 h2).en;have hp:∀{r:Pn} (hr:k<r.channels.length),kV r ((k+1:Nat):Int)=dL r r.channels[k]:=fun {r} hr=>by
  unfold kV fU bq;rw[if_pos (by simp only[Bool.and_eq_true,decide_eq_true_eq];omega)];have:(((k+1:Nat):Int)-1).toNat=k:=by omega
  rw[this,getElem!_pos r.channels k hr]
 rw[hp h1,hp h2];exact e
theorem abT (n:Int)(l more:List aV)(h0:∀z∈l,0≤z.at_)(hm0:∀z∈more,0≤z.at_):bE prog 3 [ii n,Tx l,Tx more] (bl true):=by
 refine PC.le ?_;have cP:=wW n l h0;cases hp:yK n l with
 | none=>
   rw[hp] at cP;simp only[Option.getD_none,Option.isSome_none] at cP;clear hp;refine bN GJ ?_;repeat' ((conv=>whnf);first|with_reducible apply aK|((with_reducible apply fk)<;>intro hc<;>try exact aM)|(apply aC;(conv=>whnf);refine⟨_,cP,?_⟩)|(apply aC;(conv=>whnf);refine⟨_,bF,?_⟩)|((with_reducible apply And.intro);exact aG)|fail)
   all_goals exact aL
 |some p=>
 rw[hp] at cP;simp only[Option.getD_some,Option.isSome_some] at cP;have hok:=wX hp h0;clear hp;cases hlm:decide (((more.map aV.c).length:Int)>80) with
 | true=>
   clear hok;refine bN GJ ?_;repeat' ((conv=>whnf);first|with_reducible apply aK|((with_reducible apply fk)<;>intro hc<;>try exact aM)|(apply aC;(conv=>whnf);refine⟨_,cP,?_⟩)|(apply aC;(conv=>whnf);refine⟨_,bF,?_⟩)|((with_reducible apply And.intro);exact aG)|fail)
   all_goals exact aL
 |false=>
 have Fh:more.length≤80:=by simp only[List.length_map,decide_eq_false_iff_not] at hlm;omega
 replace hm0:=Hd.mk hm0;replace hok:=Hd.mk hok;refine bN GJ ?_;repeat' ((conv=>whnf);first|with_reducible apply aK|((with_reducible apply fk)<;>intro hc<;>try exact aM)|(apply aC;(conv=>whnf);refine⟨_,cP,?_⟩)|(apply aC;(conv=>whnf);refine⟨_,bF,?_⟩)|((with_reducible apply And.intro);exact aG)|fail)
 refine⟨{k:Nat // k≤more.length},fun⟨k,_⟩=>⟨[(2,.pv (Tx more)),(7,.ptr 1007 0),(9,.ptr 1009 0),(10,.pv (ii k))],1000000000,[(1007,.var (p.c.map .pv)),(1009,.var ((gT p (more.take k)).c.map .pv))]⟩,fun⟨k,_⟩=>more.length-k,⟨⟨0,Nat.zero_le _⟩,ak ?_⟩,?_⟩
 ·repeat' first
   |fail
   |with_reducible exact True.intro
   |with_reducible exact rfl
   |with_reducible exact ah _
   |((conv=>whnf);with_reducible apply And.intro)
   |((conv=>whnf);with_reducible exact True.intro)
   |exact rfl
   |exact fun h=>h
   |exact ah _
  all_goals try (conv=>whnf)
 rintro⟨k,hk⟩
 dsimp only
 clear cP hlm;by_cases hlt:k<more.length
 ·have d0:decide ((k:Int)<((more.map aV.c).length:Int))=true:=by simp only[List.length_map,decide_eq_true_eq];omega
  have eW:IntKind.i64.wrap ((k:Int)+1)=((k+1:Nat):Int):=by rw[aO (by omega) (by omega)];omega
  have hr:=cu aV.c more k hlt;have hq:gF (gT p (more.take k)):=AA hok.out fun o ho=>hm0.out o (List.mem_of_mem_take ho)
  have hst:=RB p more k hlt;have cL:=lK more[k];cases hlo:ja more[k] with
  | true=>
    rw[hlo] at cL;clear hst hq hlo;generalize more[k]=m at *;generalize gT p (more.take k)=q at *;clear Fh;repeat' ((conv=>whnf);first|with_reducible apply aK|((with_reducible apply fk)<;>intro hc<;>try exact aM)|((refine⟨_,hr,?_⟩))|(apply aC;(conv=>whnf);refine⟨_,cL,?_⟩)|(apply aC;(conv=>whnf);refine⟨_,bF,?_⟩)|(((with_reducible apply And.intro);exact mg))|((with_reducible apply And.intro);exact aG)|fail)
    all_goals exact aL
  | false=>
    rw[hlo] at cL;have cA:=iM hq (um hlo);rw[←hst] at cA;clear hst hq hlo;generalize (aS (gT p (more.take k)) more[k]).2=out at *;generalize more[k]=m at *;have hq2:Hd (gT p (more.take (k+1))=gT p (more.take (k+1))):=Hd.mk rfl;generalize aeG:gT p (more.take (k+1))=q2 at *;replace aeG:=Hd.mk aeG;generalize gT p (more.take k)=q at *;clear Fh hq2;repeat' ((conv=>whnf);first|with_reducible apply aK|((with_reducible apply fk)<;>intro hc<;>try exact aM)|((refine⟨_,hr,?_⟩))|(apply aC;(conv=>whnf);refine⟨_,cL,?_⟩)|(apply aC;(conv=>whnf);refine⟨_,cA,?_⟩)|(((with_reducible apply And.intro);exact mg))|((with_reducible apply And.intro);exact aG)|fail)
    refine⟨⟨k+1,hlt⟩,dec_lt hlt,ak ?_⟩;dsimp only
    rw[aeG.out];repeat' first|((conv=>whnf);with_reducible apply And.intro)|exact aL|fail
    all_goals try (conv=>whnf)
    all_goals exact eW
 have hke:k=more.length:=by omega
 subst hke;have d0:decide ((more.length:Int)<((more.map aV.c).length:Int))=false:=by simp
 rw[List.take_length];have hq:gF (gT p more):=AA hok.out hm0.out;have V5:xJ p (gT p more):=SL hok.out hm0.out;generalize gT p more=q at *;have b1:=ltZ V5.v;have b2:=ltZ V5.n;have hlen:=V5.len;have b3:(((q.channels.map Ch.c).length:Int) != ((p.channels.map Ch.c).length:Int))=false:=by simp[hlen]
 have hc2:=hok.out.c2;have O4:=hok.out.Dc;have ZL:=hq.Dc;have hl1:=O4.af;have hl2:=ZL.af;replace O4:=Hd.mk O4;replace ZL:=Hd.mk ZL;replace V5:=Hd.mk V5;replace hq:=Hd.mk hq;clear hlt hk Fh hm0;repeat' ((conv=>whnf);first|with_reducible apply aK|((with_reducible apply fk)<;>intro hc<;>try exact aM)|((with_reducible apply And.intro);exact aG)|fail)
 refine⟨{k:Nat // k≤p.channels.length},fun⟨k,_⟩=>⟨[(7,.ptr 1007 0),(9,.ptr 1009 0),(11,.pv (ii k))],1000000000,[(1007,.var (p.c.map .pv)),(1009,.var (q.c.map .pv))]⟩,fun⟨k,_⟩=>p.channels.length-k,⟨⟨0,Nat.zero_le _⟩,ak ?_⟩,?_⟩
 ·repeat' first
   |fail
   |with_reducible exact True.intro
   |with_reducible exact rfl
   |with_reducible exact ah _
   |((conv=>whnf);with_reducible apply And.intro)
   |((conv=>whnf);with_reducible exact True.intro)
   |exact rfl
   |exact fun h=>h
   |exact ah _
  all_goals try (conv=>whnf)
 rintro⟨k,hk⟩
 dsimp only
 clear d0 b1 b2 b3;by_cases hlt:k<p.channels.length
 ·have d0:decide ((k:Int)<((p.channels.map Ch.c).length:Int))=true:=by simp only[List.length_map,decide_eq_true_eq];omega
  have eW:IntKind.i64.wrap ((k:Int)+1)=((k+1:Nat):Int):=by rw[aO (by omega) (by omega)];omega
  have RA:k<q.channels.length:=by omega
  have hr:=cu Ch.c p.channels k hlt;have hr2:=cu Ch.c q.channels k RA;have hC:=V5.out.ch k hlt RA;have b4:=ltZ hC.e;have b5:=ltZ hC.t;have b6:=ltZ hC.f;have b7:=ltZ (abS V5.out hlt RA);have c1:=zC p ((k+1:Nat):Int) O4.out;have c2:=zC q ((k+1:Nat):Int) ZL.out;have how:=hC.ow;generalize kV p ((k+1:Nat):Int)=e1 at *;generalize kV q ((k+1:Nat):Int)=e2 at *;clear hC;generalize p.channels[k]=a at *;generalize q.channels[k]=b at *;simp only[Ch.c] at hr hr2;cases b8:(b.aY==a.aY) with
  | false=>
    clear how RA hlen;repeat' ((conv=>whnf);first|with_reducible apply aK|((with_reducible apply fk)<;>intro hc<;>try exact aM)|((rewrite[eW]))|((refine⟨_,hr,?_⟩))|((refine⟨_,hr2,?_⟩))|(apply aC;(conv=>whnf);refine⟨_,c1,?_⟩)|(apply aC;(conv=>whnf);refine⟨_,c2,?_⟩)|(((with_reducible apply And.intro);exact mg))|((with_reducible apply And.intro);exact aG)|fail)
    refine⟨⟨k+1,hlt⟩,dec_lt hlt,ak ?_⟩;repeat' first|((conv=>whnf);with_reducible apply And.intro)|exact aL|fail
    all_goals try (conv=>whnf)
    all_goals exact eW
  | true=>
    obtain⟨w1,w2,w3⟩:=how (by simpa using b8);have g1:(b.owner != a.owner)=false:=by simp[w1]
    have g2:(b.inc != a.inc)=false:=by simp[w2]
    have g3:=ltZ w3;clear how w1 w2 w3;repeat' ((conv=>whnf);first|with_reducible apply aK|((with_reducible apply fk)<;>intro hc<;>try exact aM)|((rewrite[eW]))|((refine⟨_,hr,?_⟩))|((refine⟨_,hr2,?_⟩))|(apply aC;(conv=>whnf);refine⟨_,c1,?_⟩)|(apply aC;(conv=>whnf);refine⟨_,c2,?_⟩)|(((with_reducible apply And.intro);exact mg))|((with_reducible apply And.intro);exact aG)|fail)
    refine⟨⟨k+1,hlt⟩,dec_lt hlt,ak ?_⟩;repeat' first|((conv=>whnf);with_reducible apply And.intro)|exact aL|fail
    all_goals try (conv=>whnf)
    all_goals exact eW
 have hke:k=p.channels.length:=by omega
 subst hke;have d0:decide ((p.channels.length:Int)<((p.channels.map Ch.c).length:Int))=false:=by simp
 clear hlt hk hc2;repeat' ((conv=>whnf);first|with_reducible apply aK|((with_reducible apply fk)<;>intro hc<;>try exact aM)|((with_reducible apply And.intro);exact aG)|fail)
 refine⟨{k:Nat // k≤p.af.length},fun⟨k,_⟩=>⟨[(7,.ptr 1007 0),(9,.ptr 1009 0),(14,.pv (ii k))],1000000000,[(1007,.var (p.c.map .pv)),(1009,.var (q.c.map .pv))]⟩,fun⟨k,_⟩=>p.af.length-k,⟨⟨0,Nat.zero_le _⟩,ak ?_⟩,?_⟩
 ·repeat' first
   |fail
   |with_reducible exact True.intro
   |with_reducible exact rfl
   |with_reducible exact ah _
   |((conv=>whnf);with_reducible apply And.intro)
   |((conv=>whnf);with_reducible exact True.intro)
   |exact rfl
   |exact fun h=>h
   |exact ah _
  all_goals try (conv=>whnf)
 rintro⟨k,hk⟩
 dsimp only
 clear d0 hlen;by_cases hlt:k<p.af.length
 ·have d0:decide ((k:Int)<((p.af.map Lg.c).length:Int))=true:=by simp only[List.length_map,decide_eq_true_eq];omega
  have eW:IntKind.i64.wrap ((k:Int)+1)=((k+1:Nat):Int):=by rw[aO (by omega) (by omega)];omega
  have hr:=cu Lg.c p.af k hlt;have c1:=qJ q p.af[k].id ZL.out;have hf:=hok.out.find (List.getElem_mem hlt);have hL:=fun b (h:bg q p.af[k].id=some b)=>V5.out.lg _ _ b hf h
  cases VZ:bg q p.af[k].id with
  | none=>
    have eF:dm q p.af[k].id=UB:=by unfold dm;rw[VZ];rfl
    rw[eF,VZ] at c1;simp only[Option.isSome_none] at c1;clear hL hf VZ eF;generalize p.af[k]=a at *;simp only[Lg.c] at hr;repeat' ((conv=>whnf);first|with_reducible apply aK|((with_reducible apply fk)<;>intro hc<;>try exact iK)|((refine⟨_,hr,?_⟩))|(apply aC;(conv=>whnf);refine⟨_,c1,?_⟩)|(((with_reducible apply And.intro);exact mg))|((with_reducible apply And.intro);exact aG)|fail)
    refine⟨⟨k+1,hlt⟩,dec_lt hlt,ak ?_⟩;repeat' first|((conv=>whnf);with_reducible apply And.intro)|exact aL|fail
    all_goals try (conv=>whnf)
    all_goals exact eW
  | some b=>
    have eF:dm q p.af[k].id=b:=by unfold dm;rw[VZ];rfl
    rw[eF,VZ] at c1;simp only[Option.isSome_some] at c1;have hb:=hL b VZ;clear hL hf VZ eF;generalize p.af[k]=a at *;have g1:(b.w != a.w)=false:=by simp[hb.ew]
    have g2:(b.a != a.a)=false:=by simp[hb.ea]
    have hec:=hb.ec;clear hb;simp only[Lg.c] at hr;cases g3:(a.closed==1) with
    | false=>
      clear hec;repeat' ((conv=>whnf);first|with_reducible apply aK|((with_reducible apply fk)<;>intro hc<;>try exact iK)|((refine⟨_,hr,?_⟩))|(apply aC;(conv=>whnf);refine⟨_,c1,?_⟩)|(((with_reducible apply And.intro);exact mg))|((with_reducible apply And.intro);exact aG)|fail)
      refine⟨⟨k+1,hlt⟩,dec_lt hlt,ak ?_⟩;repeat' first|((conv=>whnf);with_reducible apply And.intro)|exact aL|fail
      all_goals try (conv=>whnf)
      all_goals exact eW
    | true=>
      obtain⟨w1,w2,w3⟩:=hec (by simpa using g3);have g4:(b.closed != 1)=false:=by simp[w1]
      have g5:(b.last != a.last)=false:=by simp[w2]
      have g6:(((b.aA.map Fr.c).length:Int) != ((a.aA.map Fr.c).length:Int))=false:=by simp[w3]
      clear hec w1 w2 w3;repeat' ((conv=>whnf);first|with_reducible apply aK|((with_reducible apply fk)<;>intro hc<;>try exact iK)|((refine⟨_,hr,?_⟩))|(apply aC;(conv=>whnf);refine⟨_,c1,?_⟩)|(((with_reducible apply And.intro);exact mg))|((with_reducible apply And.intro);exact aG)|fail)
      refine⟨⟨k+1,hlt⟩,dec_lt hlt,ak ?_⟩;repeat' first|((conv=>whnf);with_reducible apply And.intro)|exact aL|fail
      all_goals try (conv=>whnf)
      all_goals exact eW
 have hke:k=p.af.length:=by omega
 subst hke;have d0:decide ((p.af.length:Int)<((p.af.map Lg.c).length:Int))=false:=by simp
 clear hlt hk;repeat' ((conv=>whnf);first|with_reducible apply aK|((with_reducible apply fk)<;>intro hc<;>try exact aM)|((with_reducible apply And.intro);exact aG)|fail)
 refine⟨{k:Nat // k≤q.af.length},fun⟨k,_⟩=>⟨[(7,.ptr 1007 0),(9,.ptr 1009 0),(18,.pv (ii k))],1000000000,[(1007,.var (p.c.map .pv)),(1009,.var (q.c.map .pv))]⟩,fun⟨k,_⟩=>q.af.length-k,⟨⟨0,Nat.zero_le _⟩,ak ?_⟩,?_⟩
 ·repeat' first
   |fail
   |with_reducible exact True.intro
   |with_reducible exact rfl
   |with_reducible exact ah _
   |((conv=>whnf);with_reducible apply And.intro)
   |((conv=>whnf);with_reducible exact True.intro)
   |exact rfl
   |exact fun h=>h
   |exact ah _
  all_goals try (conv=>whnf)
 rintro⟨k,hk⟩
 dsimp only
 clear d0;by_cases hlt:k<q.af.length
 ·have d0:decide ((k:Int)<((q.af.map Lg.c).length:Int))=true:=by simp only[List.length_map,decide_eq_true_eq];omega
  have eW:IntKind.i64.wrap ((k:Int)+1)=((k+1:Nat):Int):=by rw[aO (by omega) (by omega)];omega
  have hr:=cu Lg.c q.af k hlt;have c1:=qJ p q.af[k].id O4.out;have hold:=V5.out.old _ (List.getElem_mem hlt);cases VZ:bg p q.af[k].id with
  | none=>
    rw[VZ] at c1;simp only[Option.isSome_none] at c1;have g1:=ltZ (hold VZ);clear VZ hold;generalize dm p q.af[k].id=x at *;generalize q.af[k]=a at *;simp only[Lg.c] at hr;repeat' ((conv=>whnf);first|with_reducible apply aK|((with_reducible apply fk)<;>intro hc<;>try exact iK)|((refine⟨_,hr,?_⟩))|(apply aC;(conv=>whnf);refine⟨_,c1,?_⟩)|(((with_reducible apply And.intro);exact mg))|((with_reducible apply And.intro);exact aG)|fail)
    refine⟨⟨k+1,hlt⟩,dec_lt hlt,ak ?_⟩;repeat' first|((conv=>whnf);with_reducible apply And.intro)|exact aL|fail
    all_goals try (conv=>whnf)
    all_goals exact eW
  | some b=>
    rw[VZ] at c1;simp only[Option.isSome_some] at c1;clear VZ hold;generalize dm p q.af[k].id=x at *;generalize q.af[k]=a at *;simp only[Lg.c] at hr;repeat' ((conv=>whnf);first|with_reducible apply aK|((with_reducible apply fk)<;>intro hc<;>try exact iK)|((refine⟨_,hr,?_⟩))|(apply aC;(conv=>whnf);refine⟨_,c1,?_⟩)|(((with_reducible apply And.intro);exact mg))|((with_reducible apply And.intro);exact aG)|fail)
    refine⟨⟨k+1,hlt⟩,dec_lt hlt,ak ?_⟩;repeat' first|((conv=>whnf);with_reducible apply And.intro)|exact aL|fail
    all_goals try (conv=>whnf)
    all_goals exact eW
 have hke:k=q.af.length:=by omega
 subst hke;have d0:decide ((q.af.length:Int)<((q.af.map Lg.c).length:Int))=false:=by simp
 clear hlt hk;repeat' ((conv=>whnf);first|with_reducible apply aK|((with_reducible apply fk)<;>intro hc<;>try exact aM)|(apply aC;(conv=>whnf);refine⟨_,bF,?_⟩)|((with_reducible apply And.intro);exact aG)|fail)
 all_goals exact aL
end Go.Proofs.YtiagceoepkaeoaaGreat.Tb
end

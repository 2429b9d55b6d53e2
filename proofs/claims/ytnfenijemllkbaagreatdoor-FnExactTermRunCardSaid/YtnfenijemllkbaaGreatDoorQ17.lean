/- Walks. -/
import Derived.Laws.MakeOwn
import Derived.Laws.DeepNot64
import Derived.Deep.RegionLaw
import Derived.Test.YtnfenijemllkbaaGreatDoorQ16
set_option linter.unusedVariables false
set_option linter.unusedSimpArgs false
set_option maxHeartbeats 4000000
set_option maxRecDepth 100000
open Option renaming none->U
open Option renaming some->OK
open Bool renaming false->RC
open Go.IntKind renaming i64->RD
open Go.Proofs.Tryz renaming func4->XB,func47->Xq,ntmps4->Xr,ntmps47->WT,prog->RG
open Go.Value renaming oneCell'->R4,ownBlock->RM,slice->RI
open Go.World renaming cell?->RE,frozen?->RO,setCell->Ts
open List renaming getElem?_eq_some_iff->RR,length_append->RL,length_cons->RU,length_nil->Sq,length_take->Sy,mem_of_getElem?->RX,take_add_one->Sd,take_left->Vo,take_length->R8
open List.cons renaming injEq->RY
open Nat renaming le_of_eq->SH,lt_irrefl->VN,lt_of_le_of_lt->SJ,zero_add->SU,zero_le->R6
open Option renaming bind_some->RF,isSome_none->Sx,isSome_some->Sj,map_eq_some_iff->RP
open Option.some renaming injEq->RK
namespace Go.Proofs.YtnfenijemllkbaaGreatDoor
open Go.RowKit
def GoPost (keep:Bool)(R:Option (UInt8×List (Bs×Int)))(most ra:Nat)(mv pt:Value)(w:World)(en:Ending)(w':World):Prop:=
 ∃mv' pt' log' o,en=.returned (str o)/\But (MBk ra mv pt) w w'/\RS keep most ra log' mv' pt' w'/\(∀i,MBk ra mv' pt' i->MBk ra mv pt i\/(w:Nat)<=i)/\(R=U->most<log'.length)/\(∀c l,R=OK (c,l)->o=[c]/\l=log'/\log'.length<=most)
def GoRel (keep:Bool)(R:Option (UInt8×List (Bs×Int)))(most ra:Nat)(Eg Ee:Value)(w:World)(B:Nat)(ev ov sv:Value)(wr:World):Prop:=
 ∃b env opens st log mv pt v a2 n2 c2 a3 n3 c3 cells,ov=.int RD (opens:Nat)/\GoPl keep R most b env opens st log/\GoAt keep most ra Eg Ee w B b env opens st log mv pt v (.slice a2 n2 c2) (.slice a3 n3 c3) ev sv cells wr
def leftG (most ra:Nat)(wr:World):Nat:=match wr.heap[ra]? with
 |some (.cells c _ _)=>most+2-(intOf (c.getD 2 (.int RD 0))).toNat
 |_=>0
theorem du {keep:Bool}{most ra:Nat}{log:List (Bs×Int)}{mv pt:Value}{w:World}(h:RS keep most ra log mv pt w):leftG most ra w=most+2-log.length:=by
 unfold leftG;rw[h.blk];simp[intOf]
theorem go_start {keep:Bool}{most ra:Nat}{log:List (Bs×Int)}{mv pt:Value}{w:World}{b:Bd}{env:List SC}{opens:Nat}{v:Int}{x2 x3 ev:Value}(h:RS keep most ra log mv pt w)(rb:zY (fun i=>¬MBk ra mv pt i) w (kU b) [str (z_ b),.int RD v,x2,x3])(re:Rep (fun i=>¬MBk ra mv pt i) w (.sl 147 9 env.length (qR env)) ev) :
 GoAt keep most ra mv pt w w b env opens [] log mv pt v x2 x3 ev (.slice (w+1:Nat) 0 0) [] ((w.alloc (.cells #[str (z_ b),.int RD v,x2,x3] 53)).alloc (.cells #[] 155)):=by
 have hb:No w ((w.alloc (.cells #[str (z_ b),.int RD v,x2,x3] 53)).alloc (.cells #[] 155)):=((sQ _ _).alloc (sZ _) _).alloc (by rw[zK];omega) _;have sC:∀i,MBk ra mv pt i->i<(w:Nat):=fun i hi=>h.lt hi;have hk:∀(i:Nat) (o:Obj),¬MBk ra mv pt i->w.heap[i]?=OK o->¬Chg ra mv pt w (.slice (w+1:Nat) 0 0) i/\((w.alloc (.cells #[str (z_ b),.int RD v,x2,x3] 53)).alloc (.cells #[] 155)).heap[i]?=OK o:=by
  intro i o hi ho;have:=zZ ho;refine⟨?_,zJ (zJ ho)⟩;rintro(h' | h' | h')
  ·exact hi h'
  ·omega
  ·simp[RM]at h';omega
 refine⟨h.below hb,⟨zJ (zW _ _),(Rep.keep hk).2 _ _ rb⟩,(Rep.keep hk).1 _ _ re,Own.litAt #[] 0 _ (by simp) (by decide) rfl,zE.2 rfl,But.ofBelow hb,fun i hi=>.inl hi,⟨sZ _,fun hi=>by have:=sC _ hi;omega⟩,fun g hg=>?_⟩;simp[RM]at hg;subst hg;exact⟨by omega,by omega,fun hi=>by have:=sC _ hi;omega⟩
theorem askbox {F:Nat->Prop}{w:World}{v:Nat}{ss:List Bd}{y n:Bd}{x0 x1 x2 x3:Value}(h:zY F w (kU (.ask v ss y n)) [x0,x1,x2,x3]) :
 x1=.int RD (v:Nat)/\(∃a c,x2=.slice a ss.length c)/\(∃a c,x3=.slice a 2 c)/\Rep F w (.sl 53 4 ss.length (zp ss)) x2/\Rep F w (.sl 53 4 2 (zp [y,n])) x3:=by
 rw[yG]at h;obtain⟨u0,r0,e0,h0,h⟩:=zQ.1 h;simp only[RY]at e0;obtain⟨rfl,rfl⟩:=e0;obtain⟨u1,r1,e1,h1,h⟩:=zQ.1 h;simp only[RY]at e1;obtain⟨rfl,rfl⟩:=e1;obtain⟨u2,r2,e2,h2,h⟩:=zQ.1 h;simp only[RY]at e2;obtain⟨rfl,rfl⟩:=e2;obtain⟨u3,r3,e3,h3,h⟩:=zQ.1 h;simp only[RY]at e3;obtain⟨rfl,rfl⟩:=e3;refine⟨zC.1 h1,?_,?_,h2,h3⟩
 ·rw[zv]at h2;obtain⟨_,a,c,e,_⟩:=h2;exact⟨a,c,e⟩
 ·rw[zv]at h3;obtain⟨_,a,c,e,_⟩:=h3;exact⟨a,c,e⟩
theorem Tryz.infoFS:(RG.info? 155).map (fun i=>(i.zero,i.size,i.bytes))=OK (OK (.agg #[str [],.int RD 0,(),(),(),.int RD 0]),6,104):=by kernel_rfl
theorem runS_u (keep:Bool)(f:Nat)(log:List (Bs×Int))(env:List SC)(opens:Nat)(st:List SF):wV keep f log (.leaf 117) env opens st=OK (117,log):=by cases f <;> simp[wV]
theorem runS_end {keep:Bool}{c:UInt8}(hc:c≠117)(f:Nat)(log:List (Bs×Int))(env:List SC)(opens:Nat):wV keep f log (.leaf c) env opens []=if f=0 then U else OK (c,log++[(c::v_ keep log opens,(opens:Int))]):=by cases f <;> simp[wV,hc]
theorem qe {m:Nat->Prop}{w w':World}{a:Addr}{u:Value}(hb:But m w w')(ha:w.cell? a=u)(na:¬m a.block):w'.cell? a=u:=(hb.cell (sK w _ ha) na).trans ha
theorem vy {m:Nat->Prop}{w w':World}{a:Addr}{u:Value}(hb:But m w w')(ha:w.cell? a=u)(na:¬m a.block):w'.cell? a=u:=(hb.cell (sK w _ ha) na).trans ha
theorem l4Go_any (keep:Bool)(HM:rh keep)(HP:rj keep)(R:Option (UInt8×List (Bs×Int)))(most ra:Nat)(b:Bd)(env:List SC)(opens:Nat)(log:List (Bs×Int))(mv pt:Value)(v:Int)(a2:Option Addr)(n2 c2:Nat)(a3:Option Addr)(n3 c3:Nat)(ev:Value)(w:World)(h:RS keep most ra log mv pt w)(pl:GoPl keep R most b env opens [] log)(rb:zY (fun i=>¬MBk ra mv pt i) w (kU b) [str (z_ b),.int RD v,.slice a2 n2 c2,.slice a3 n3 c3])(re:Rep (fun i=>¬MBk ra mv pt i) w (.sl 147 9 env.length (qR env)) ev)(ly:most<=100000) :
 Calls RG 49 #[ra,.agg #[str (z_ b),.int RD v,.slice a2 n2 c2,.slice a3 n3 c3],ev,(opens:Int)] w (GoPost keep R most ra mv pt w):=by
 have HMM:=r9 HM;have HPP:=r9 HP;have lC:=go_start (opens:=opens) h rb re;have BJ:=r9 (r_ pl lC);clear HM HP h pl rb re lC;generalize hat0:z_ b=s0 at *;go_enter Tryz.func49,Tryz.ntmps49;go_wp2_with fail
 generalize hB:w.heap.size=B at *
 go_loopw [2,3,9] (fun e o s wr=>GoRel keep R most ra mv pt w B e o s wr) (fun _ _ _ wr=>leftG most ra wr)
 case atStart=>exact⟨b,env,opens,[],log,mv,pt,v,a2,n2,c2,a3,n3,c3,[],rfl,BJ.out.1,BJ.out.2⟩
 case round=>
  clear BJ hat0;obtain⟨b,env,opens,st,log,tR,tN,v,a2,n2,c2,a3,n3,c3,cells,rfl,Aa,sG⟩:=hrel;have ip:=r9 Aa;have s_:=r9 sG;have Ja:=du sG.rs;have sC:=zZ sG.box.blk;have b0:wr B=OK (str (z_ b)):=by simp[RE,sG.box.blk]
  have b1:wr (B,1)=OK (.int RD v):=by simp[RE,sG.box.blk]
  have Cg:=sG.rs.bad;have HX:=r9 Ja;clear Ja Aa sG;by_cases BE:most<log.length
  ·rw[decide_eq_true BE]at Cg;have Nt:=r9 BE;clear BE;go_wp2_with fail
   go_ret;have hR:R=U:=by
    rcases ip.out.goes with ⟨h1,_⟩|⟨_,_,h2⟩
    ·have:=Nt.out;omega
    ·exact h2
   exact⟨tR,tN,log,[117],rfl,s_.out.but,s_.out.rs,s_.out.new,fun _=>Nt.out,fun c l h=>by rw[hR]at h;simp at h⟩
  ·rw[decide_eq_false BE]at Cg;have tw:log.length<=most:=by omega
   have Nt:=r9 BE;clear BE;cases b with
   | leaf c =>
     by_cases oU:c=117
     ·subst oU;have hR:R=OK (117,log):=by
       rcases ip.out.goes with ⟨_,h1⟩|⟨h1,_,_⟩
       ·rw[h1,runS_u]
       ·omega
      have HR:=r9 hR;clear hR;have b0':wr B=OK (.string ⟨#[117]⟩):=b0;clear b0;go_wp2_with fail
      go_ret;refine⟨tR,tN,log,[117],rfl,s_.out.but,s_.out.rs,s_.out.new,fun h=>by rw[HR.out]at h;simp at h,fun c l h=>?_⟩;rw[HR.out]at h;simp only[RK,Prod.mk.injEq]at h;obtain⟨rfl,rfl⟩:=h;exact⟨rfl,rfl,tw⟩
     ·have AI:=s_.out.box.blk;obtain⟨S,hS⟩:=zzM (z_ (.leaf c));have Fp:S=[c]:=hS;rw[<- hS]at b0;have e117:(S == [117])=RC:=by rw[beq_eq_false_iff_ne,Fp];simpa using oU
      have ene:(S != [])=true:=by rw[bne_iff_ne,Fp];simp
      have ene2:(!S.isEmpty)=true:=by rw[Fp];rfl
      obtain⟨P,hP⟩:=zzM (v_ keep log opens);have Aa:=wG keep ip.out.lok opens;rw[<- hP]at Aa;have AO:=fun w0=>qz (P:=RG) S P (by rw[Fp];simp;omega) w0;have tt:(S++P).length<=1000000:=by rw[Fp];simp;omega
      have Mp:∃q p,log[opens]?=OK (q,p)/\1<=q.length/\q.length<=1000000:=by
       have h:=ip.out.opn;obtain⟨x,hx⟩:∃x,log[opens]?=OK x:=⟨log[opens],by simp[h]⟩;obtain⟨q,p⟩:=x;have:=ip.out.lok opens q p hx;exact⟨q,p,hx,this.1,by omega⟩
      have CP:=r9 (HPP.out most ra log tR tN opens wr.drew s_.out.rs.drew tw ly Mp);rw[<- hP]at CP;have CM:=r9 (HMM.out most ra log tR tN (S++P) (opens:Int) wr.drew s_.out.rs.drew tw ly tt);have Ef:¬MBk ra tR tN B:=s_.out.bB.2;have HS:=r9 (r_ Fp (r_ hP oU));clear hS Fp hP oU tt Mp AI;go_wp2_with fail
      go_region_held3 (fun w'=>w' B=str S)
       (first
        |exact b0
        |exact vy sX b0 Ef
        | go_keep)
       (first
        |(go_at_call 48;refine CM.out.mono ?_;rintro en w1 ⟨ai,ae,rfl,DL,aV,tK⟩;have sX:=but_ud DL;clear DL)
        | (go_at_call 75;refine CP.out.mono ?_;rintro en w5 ⟨rfl,e5⟩;subst e5))
      have d0:=vy sX b0 Ef;have oy:=r9 (r_ sX (r_ aV tK));clear sX aV tK b0 b1 Cg CP CM AO;obtain⟨sa,sc,es⟩:=s_.out.own.slice;subst es;have KO:(log++[(S++P,(opens:Int))]).length=log.length+1:=by simp
      cases st with
      | nil =>
        have hR:R=if most-log.length=0 then U else OK (c,log++[(c::v_ keep log opens,(opens:Int))]):=by
         rcases ip.out.goes with ⟨_,h1⟩|⟨h1,_,_⟩
         ·rw[h1,runS_end HS.out.2.2]
         ·omega
        have HR:=r9 hR;have HL1:=r9 KO;clear hR KO;rw[Sq];go_wp2_with fail
        go_ret;have B4:S++P=c::v_ keep log opens:=by rw[HS.out.1,HS.out.2.1];rfl
        refine⟨ai,ae,_,S,rfl,s_.out.but.trans' oy.out.1 fun i hi hh=>?_,oy.out.2.1,fun i hi=>?_,fun h=>?_,fun c' l h=>?_⟩
        ·rcases s_.out.new i hh with h|h
         ·exact h
         ·omega
        ·rcases oy.out.2.2 i hi with h|h
         ·exact s_.out.new i h
         ·exact .inr (by rw[hB];exact sU (Nat.le_of_lt sC) h)
        ·rw[HR.out]at h;split at h
         ·rw[HL1.out];omega
         ·simp at h
        ·rw[HR.out]at h;split at h
         ·simp at h
         ·simp only[RK,Prod.mk.injEq]at h;obtain⟨rfl,rfl⟩:=h;refine⟨HS.out.1,by rw[B4],by rw[HL1.out];omega⟩
      | cons x st =>
        obtain⟨g,gc,bv,ta2,tc2,yv,ea,ec,vy,tl,es,aj,k0,k1,k2,k3,k4,k5,lD,Gy,aV,ry,re⟩:=top_at s_.out.own s_.out.rf;simp only[RU,Value.slice.injEq,true_and]at es;obtain⟨rfl,rfl⟩:=es;have hk:∃k:Nat,k<2/\(k=1↔c=102):=by
         by_cases h:c=102
         ·exact⟨1,by omega,by simp[h]⟩
         ·exact⟨0,by omega,by simp[h]⟩
        obtain⟨k,EB,D6⟩:=hk;obtain⟨pb,po,pc,nv,tI,tL,GY,GX,e,hpF,hpl2,m0,m1,m2,m3,FL⟩:=pair_at ry k EB;subst e;have oG:=s_.out.sB g rfl;have q0:=qe oy.out.1 k0 oG.2.2;have q1:=qe oy.out.1 k1 oG.2.2;have q2:=qe oy.out.1 k2 oG.2.2;have q3:=qe oy.out.1 k3 oG.2.2;have q4:=qe oy.out.1 k4 oG.2.2;have q5:=qe oy.out.1 k5 oG.2.2;have hpM:¬MBk ra tR tN pb:=fun h=>hpF (.inl h);have p0:=qe oy.out.1 m0 hpM;have p1:=qe oy.out.1 m1 hpM;have p2:=qe oy.out.1 m2 hpM;have p3:=qe oy.out.1 m3 hpM;generalize Eo:(if k=1 then x.no else x.yes)=nx at *;have HF:=r9 (r_ lD (r_ Gy (r_ aV (r_ re (r_ FL (r_ Eo (r_ D6 aj)))))));have lN:=ip.out.stl;rw[RU]at lN ⊢;clear lD Gy aV ry re FL Eo D6 aj k0 k1 k2 k3 k4 k5 m0 m1 m2 m3;have Cu:(st.length:Int)<=(sc:Int):=by have:=HF.out.2.2.2.2.2.2.2;omega
        have hzB1:B<w1:=sK w1 _ d0;have hzpb:pb<w1:=sK w1 _ p0;rcases(by omega:k=0\/k=1) with rfl|rfl
        focus
         have hd:(S == [102])=RC:=by
          rw[beq_eq_false_iff_ne,HS.out.1];have:=HF.out.2.2.2.2.2.2.1;simpa using this
         simp only[Nat.zero_mul,Nat.add_zero]at p0 p1 p2 p3;go_upto_region 15 with (fail)
         obtain⟨W2,se⟩:=zzN (w1.alloc (.cells #[str [],.int RD bv,.slice ta2 x.ss.length tc2,.slice (pb,po) 2 pc,.slice ea x.env.length ec,.int RD (x.opens:Nat)] 155));have t3:W2 (w1,3)=OK (.slice (pb,po) 2 pc):=by rw[<- se];simp
         have t4:W2 (w1,4)=OK (.slice ea x.env.length ec):=by rw[<- se];simp
         have t5:W2 (w1,5)=OK (.int RD (x.opens:Nat)):=by rw[<- se];simp
         have r0:W2 (pb,po)=OK (str (z_ nx)):=by rw[<- se];exact zV p0
         have r1:W2 (pb,po+1)=OK (.int RD nv):=by rw[<- se];exact zV p1
         have r2:W2 (pb,po+2)=OK (.slice tI (kh nx).length tL):=by rw[<- se];exact zV p2
         have r3:W2 (pb,po+3)=OK (.slice GY (qS nx).length GX):=by rw[<- se];exact zV p3
        rotate_left
        focus
         have hd:(S == [102])=true:=by
          rw[beq_iff_eq,HS.out.1];have:=HF.out.2.2.2.2.2.2.1;simpa using this
         simp only[Nat.one_mul,Nat.add_assoc,Nat.reduceAdd]at p0 p1 p2 p3;go_upto_region 15 with (fail)
         obtain⟨W2,se⟩:=zzN (w1.alloc (.cells #[str [],.int RD bv,.slice ta2 x.ss.length tc2,.slice (pb,po) 2 pc,.slice ea x.env.length ec,.int RD (x.opens:Nat)] 155));have t3:W2 (w1,3)=OK (.slice (pb,po) 2 pc):=by rw[<- se];simp
         have t4:W2 (w1,4)=OK (.slice ea x.env.length ec):=by rw[<- se];simp
         have t5:W2 (w1,5)=OK (.int RD (x.opens:Nat)):=by rw[<- se];simp
         have r0:W2 (pb,po+4)=OK (str (z_ nx)):=by rw[<- se];exact zV p0
         have r1:W2 (pb,po+5)=OK (.int RD nv):=by rw[<- se];exact zV p1
         have r2:W2 (pb,po+6)=OK (.slice tI (kh nx).length tL):=by rw[<- se];exact zV p2
         have r3:W2 (pb,po+7)=OK (.slice GY (qS nx).length GX):=by rw[<- se];exact zV p3
        all_goals
         have oV:W2.heap[B]?=OK (.cells #[str (z_ (.leaf c)),.int RD v,.slice a2 n2 c2,.slice a3 n3 c3] 53 (0,0)):=by
          rw[<- se];exact zJ (by rw[oy.out.1.block B sC Ef];exact s_.out.box.blk)
         have OB:(W2:Nat)=w1+1:=by rw[<- se];exact zK _ _
         have Qy:No w1 W2:=by rw[<- se];exact(sQ _ _).alloc (sZ _) _
         have u0:W2 B=OK (str (z_ (.leaf c))):=by simp[RE,oV]
         have u1:W2 (B,1)=OK (.int RD v):=by simp[RE,oV]
         have u2:W2 (B,2)=OK (.slice a2 n2 c2):=by simp[RE,oV]
         have u3:W2 (B,3)=OK (.slice a3 n3 c3):=by simp[RE,oV]
         have f0:W2.frozen? B=RC:=by simp[RO,oV]
         have f1:W2.frozen? (B,1)=RC:=by simp[RO,oV]
         have f2:W2.frozen? (B,2)=RC:=by simp[RO,oV]
         have f3:W2.frozen? (B,3)=RC:=by simp[RO,oV]
         rw[se];have aU:=r9 (r_ se (r_ oV (r_ OB Qy)));clear se oV OB Qy d0 q0 q1 q2 q3 q4 q5 p0 p1 p2 p3;go_upto_region 16 with (fail)
         obtain⟨W,hW⟩:=zzN (yd B (str (z_ nx)) (.int RD nv) (.slice tI (kh nx).length tL) (.slice GY (qS nx).length GX) W2);have QY:w1≠B:=by omega
         have sF:But (fun i=>i=B) W2 W:=by rw[<- hW];exact wZ (m:=fun i=>i=B) (But.refl _ _) rfl _ _ _ _
         have t4':=qe sF t4 QY;have t5':=qe sF t5 QY;have oJ:=hW;unfold yd at oJ;rw[oJ];have B4:S++P=c::v_ keep log opens:=by rw[HS.out.1,HS.out.2.1];rfl
         have Dw:RS keep most ra (log++[(c::v_ keep log opens,(opens:Int))]) ai ae w1:=by have:=oy.out.2.1;rw[B4]at this;exact this
         have iv:=gopl_back ip.out HS.out.2.2 tw;have GA:(if c=102 then x.no else x.yes)=nx:=by
          rw[<- HF.out.2.2.2.2.2.1];by_cases h:c=102
          ·rw[if_pos h,if_pos (HF.out.2.2.2.2.2.2.1.2 h)]
          ·rw[if_neg h,if_neg (fun e=>h (HF.out.2.2.2.2.2.2.1.1 e))]
         rw[GA]at iv;have lU:=oy.out.1.size;have Al:(wr:Nat)<=w1:=lU;have keepF:∀(i:Nat) (o:Obj),¬Chg ra tR tN B (.slice g (st.length+1) sc) i->wr.heap[i]?=OK o->(¬Chg ra tR tN B (.slice g (st.length+1) sc) i/\i<wr)/\W2.heap[i]?=OK o:=by
          intro i o hi ho;have h1:=zZ ho;have h2:w1.heap[i]?=OK o:=by rw[oy.out.1.block i h1 (fun h=>hi (.inl h))];exact ho
          exact⟨⟨hi,h1⟩,by rw[aU.out.2.2.2.block i (zZ h2)];exact h2⟩
         have si:Own W2 155 6 (.slice g st.length sc) st.length vy:=by
          have hs:=s_.out.own.short (m:=st.length) (by simp) (by simp);rw[HF.out.1,<- HF.out.2.1,Vo]at hs;refine hs.keep fun g' o tS ho=>?_;have e:g'=g:=by simpa[RM] using tS.symm
          subst e;have h2:w1.heap[g']?=OK o:=by rw[oy.out.1.block g' (zZ ho) oG.2.2];exact ho
          rw[aU.out.2.2.2.block g' (zZ h2)];exact h2
         have D8:But (Chg ra tR tN B (.slice g (st.length+1) sc)) wr W2:=(oy.out.1.weak fun i _ hi=>.inl hi).trans' (But.ofBelow (m:=fun _=>False) aU.out.2.2.2) (fun _ _ h=>h.elim);have Jn:∀i,(¬Chg ra tR tN B (.slice g (st.length+1) sc) i/\i<(wr:Nat))->i<(W2:Nat)->¬Chg ra ai ae B (.slice g st.length sc) i:=by
          rintro i ⟨h1,h2⟩ _ (h | h | h)
          ·rcases oy.out.2.2 i h with h'|h'
           ·exact h1 (.inl h')
           ·have h3:wr<=i:=h';omega
          ·exact h1 (.inr (.inl h))
          ·exact h1 (.inr (.inr h))
         have tg:=fX (opens':=x.opens) (b':=nx) s_.out D8 (But.ofBelow aU.out.2.2.2) Dw Al oy.out.2.2 aU.out.2.1 si (fun g' h'=>.inl h') Jn ((Rep.keep keepF).2 _ _ HF.out.2.2.2.2.1) ((Rep.keep keepF).1 _ _ HF.out.2.2.2.1) ((Rep.keep keepF).2 _ _ HF.out.2.2.1);rw[hW]at tg;have iF:=r9 (r_ iv tg);clear iv tg Dw keepF si D8 Jn GA B4 oJ hW sF t3 t4 t5 r0 r1 r2 r3 u0 u1 u2 u3 f0 f1 f2 f3;go_wp2_with fail
         go_roundw
         case rel=>exact⟨_,_,_,_,_,_,_,_,_,_,_,_,_,_,_,rfl,iF.out.1,iF.out.2⟩
         case measure=>
          rw[HX.out];have h:=du iF.out.2.rs;have hl:(log++[(c::v_ keep log opens,(opens:Int))]).length=log.length+1:=by simp
          refine SJ (SH h) ?_;rw[hl];omega
   | ask v' ss y n =>
     obtain⟨e,aC,Bo,tt,hfs⟩:=eU ip.out.oks ip.out.fit;obtain⟨e1,⟨_,_,e2⟩,⟨_,_,e3⟩,sy,G0⟩:=askbox s_.out.box.rep;simp only[Value.int.injEq,true_and]at e1;subst e1;simp only[Value.slice.injEq]at e2 e3;obtain⟨rfl,rfl,rfl⟩:=e2;obtain⟨rfl,rfl,rfl⟩:=e3;obtain⟨eb,eo,ecap,bv,i6,iZ,Rb,Ra,ta,tc,ea,ec,eev,hFe,hle2,k0,k1,k2,k3,k4,k5,k6,k7,k8,aJ,tQ,D2⟩:=boundR_at s_.out.re aC;subst eev;have D1:=(RR.1 aC).1;have hvl':(v':Int)<(env.length:Int):=by omega
     have Hv:=okNs_at _ ip.out.oke _ _ aC;have Af:e.begun<log.length/\e.arg<=15/\e.env.length<=16*log.length:=by obtain⟨_,_,_,_,_⟩:=e;rw[okN]at Hv;exact⟨Hv.2.2.2.1,Hv.2.2.2.2,Hv.2.2.1⟩
     have Cd:ss.length<=15:=by have:=ip.out.nb;rw[nB]at this;exact this.1
     have b2:wr (B,2)=OK (.slice a2 ss.length c2):=by simp[RE,s_.out.box.blk]
     have b3:wr (B,3)=OK (.slice a3 2 c3):=by simp[RE,s_.out.box.blk]
     have iw:=s_.out.box.blk;have Ef:¬MBk ra tR tN B:=s_.out.bB.2;have B3:∀i,MBk ra tR tN i->i<(wr:Nat):=fun i hi=>s_.out.rs.lt hi;have hZ:=r9 (r_ aC (r_ tt (r_ sy (r_ aJ (r_ tQ (r_ D2 (r_ iw B3)))))));clear aC tt sy aJ tQ D2 iw B3 G0 Bo hfs Hv;have b0':wr B=OK (str []):=b0;clear b0;go_upto_region 19 with (fail)
     obtain⟨W,hW⟩:=zzN (wr.alloc (.cells #[.int RD (-1),str (z_ e.body),.int RD bv,.slice i6 (kh e.body).length iZ,.slice Rb (qS e.body).length Ra,.slice ta e.kind.args.length tc,.slice ea e.env.length ec,.int RD (e.begun:Nat),.int RD (e.arg:Nat)] 147));rw[hW];have sF:No wr W:=by rw[<- hW];exact(sQ _ _).alloc (sZ _) _
     have iV:(W:Nat)=wr+1:=by rw[<- hW];exact zK _ _
     have hQ:W.heap[(wr:Nat)]?=OK (.cells #[.int RD (-1),str (z_ e.body),.int RD bv,.slice i6 (kh e.body).length iZ,.slice Rb (qS e.body).length Ra,.slice ta e.kind.args.length tc,.slice ea e.env.length ec,.int RD (e.begun:Nat),.int RD (e.arg:Nat)] 147 (0,0)):=by rw[<- hW];exact zW _ _
     have q7:W (wr,7)=OK (.int RD (e.begun:Nat)):=by simp[RE,hQ]
     have q8:W (wr,8)=OK (.int RD (e.arg:Nat)):=by simp[RE,hQ]
     have NC:=s_.out.rs.below sF;obtain⟨P,hP⟩:=zzM (v_ keep log e.begun);obtain⟨D,hD⟩:=zzM (dec e.arg);have Aa:=wG keep ip.out.lok e.begun;rw[<- hP]at Aa;have Ql:D.length<=2:=by rw[hD];exact vP 1 _ (by omega)
     obtain⟨O,hO⟩:=zzM ([113]++P);have lg:O.length=P.length+1:=by rw[hO];simp
     have ou:=fun w0=>qz (P:=RG) [113] P (by simp;omega) w0;rw[<- hO]at ou;have At:=fun w0=>qz (P:=RG) O D (by omega) w0;have FH:(O++D).length<=1000000:=by simp;omega
     have Mp:∃q p,log[e.begun]?=OK (q,p)/\1<=q.length/\q.length<=1000000:=by
      obtain⟨x,hx⟩:∃x,log[e.begun]?=OK x:=⟨log[e.begun],by simp[Af.1]⟩;obtain⟨q,p⟩:=x;have:=ip.out.lok e.begun q p hx;exact⟨q,p,hx,this.1,by omega⟩
     have CP:=r9 (fun (wz:World) (hz:RS keep most ra log tR tN wz)=>HPP.out most ra log tR tN e.begun wz hz tw ly Mp);rw[<- hP]at CP;have CD:=r9 (fun wz=>l6Dec_any e.arg (by omega) wz);rw[<- hD]at CD;have CM:=r9 (fun (wz:World) (hz:RS keep most ra log tR tN wz)=>HMM.out most ra log tR tN (O++D) (e.begun:Int) wz hz tw ly FH);have Pn:=NC.drew;have nQ:¬MBk ra tR tN wr:=fun h=>VN _ (hZ.out.2.2.2.2.2.2.2 _ h);have HS:=r9 (r_ hP (r_ hD (r_ hO (r_ sF (r_ iV (r_ hQ NC))))));have Pm:=r9 Pn;clear hP hD hO sF iV hQ NC hW Pn Mp FH k0 k1 k2 k3 k4 k5 k6 k7 k8
     go_region_held3 (fun w'=>w' (wr,7)=OK (.int RD (e.begun:Nat))/\w' (wr,8)=OK (.int RD (e.arg:Nat)))
      (first
       |exact⟨q7,q8⟩
       |exact⟨qe sX q7 nQ,qe sX q8 nQ⟩
       |exact⟨qe sX r7 nQ,qe sX r8 nQ⟩
       |exact⟨r7,r8⟩
       | go_keep)
      (first
       |(go_at_call 48;refine(CM.out _ Gu.out).mono ?_;rintro en w1 ⟨ai,ae,rfl,sX,aV,tK⟩)
       |(go_at_call 75;refine(CP.out _ Gu.out).mono ?_;rintro en w6 ⟨rfl,e5⟩;subst e5)
       |(go_at_call 75;refine(CP.out _ Pm.out).mono ?_;rintro en w6 ⟨rfl,e5⟩;subst e5)
       | (go_at_call 72;refine (CD.out _).mono ?_;rintro en w5 ⟨rfl,IG⟩;have sx:=eQ IG;clear IG;have Gu:=r9 (HS.out.2.2.2.2.2.2.below sx);have r7:=qe (But.ofBelow (m:=fun _=>False) sx) q7 (fun h=>h);have r8:=qe (But.ofBelow (m:=fun _=>False) sx) q8 (fun h=>h)))
     obtain⟨sta,stc,es⟩:=s_.out.own.slice;subst es;have lN:=ip.out.stl;have FE:=sx.size;have lU:=sX.size;have iV:=HS.out.2.2.2.2.1;have Qz:But (Chg ra tR tN B (.slice sta st.length stc)) wr w1:=((But.ofBelow HS.out.2.2.2.1).trans (But.ofBelow sx)).trans' sX fun i _ hi=>.inl hi;have J0:But (MBk ra tR tN) wr w1:=((But.ofBelow HS.out.2.2.2.1).trans (But.ofBelow sx)).trans sX;have hQ1:w1.heap[(wr:Nat)]?=OK (.cells #[.int RD (-1),str (z_ e.body),.int RD bv,.slice i6 (kh e.body).length iZ,.slice Rb (qS e.body).length Ra,.slice ta e.kind.args.length tc,.slice ea e.env.length ec,.int RD (e.begun:Nat),.int RD (e.arg:Nat)] 147 (0,0)):=by
      rw[sX.block _ (by omega) nQ,sx.block _ (by omega)];exact HS.out.2.2.2.2.2.1
     have Gi:w1.heap[B]?=OK (.cells #[str [],(v':Int),.slice a2 ss.length c2,.slice a3 2 c3] 53 (0,0)):=by
      rw[J0.block B sC Ef];exact hZ.out.2.2.2.2.2.2.1
     have J7:Own w1 155 6 (.slice sta st.length stc) st.length cells:=
      s_.out.own.keep fun g o hg ho=>by rw[J0.block g (zZ ho) (s_.out.sB g hg).2.2];exact ho
     have d0:w1 B=OK (str []):=by simp[RE,Gi]
     have d1:w1 (B,1)=OK (.int RD (v':Nat)):=by simp[RE,Gi]
     have d2:w1 (B,2)=OK (.slice a2 ss.length c2):=by simp[RE,Gi]
     have d3:w1 (B,3)=OK (.slice a3 2 c3):=by simp[RE,Gi]
     have PI:∀i,MBk ra ai ae i->MBk ra tR tN i\/(wr:Nat)<=i:=fun i hi=>by
      rcases tK i hi with h|h
      ·exact .inl h
      ·exact .inr (by omega)
     have H1:=r9 (r_ Qz (r_ J0 (r_ hQ1 (r_ Gi (r_ J7 (r_ aV PI))))));have hzw1:(wr:Nat)<w1:=by omega
     clear Qz J0 hQ1 Gi J7 aV tK PI sX sx Gu Pm q7 q8 r7 r8 FE lU iV ou At b0' b1 b2 b3 Cg CP CD CM;go_wp2_with (at_builtin;refine zF rfl _ _ 149 rfl 155 (.agg #[str [],.int RD 0,(),(),(),.int RD 0]) 6 104 Tryz.underlying149 Tryz.infoFS rfl (by decide) (.slice sta st.length stc) st.length cells rfl ?c1 _ 1 [str [],(v':Int),.slice a2 ss.length c2,.slice a3 2 c3,.slice (eb,eo) env.length ecap,(opens:Int)] rfl ?c2 ?c3 ?c4 ?_)
     case c1=>exact H1.out.2.2.2.2.1.alloc _
     case c2=>exact zz.litk #[str [],.int RD (v':Nat),.slice a2 ss.length c2,.slice a3 2 c3,.slice (OK ⟨eb,eo,U⟩) env.length ecap,.int RD (opens:Nat)] rfl (by simp[str,R4]) _ (by simp)
     case c3=>unfold maxLen;omega
     case c4=>omega
     intro a' c' w2 KK sY By;have iP:=sY.size;rw[zK]at iP;have Il:∀g,(RI a' (st.length+1) c').ownBlock=OK g->(RI sta st.length stc).ownBlock=OK g\/(w1:Nat)<=g:=by
      intro g hg;rcases By g hg with h|h
      ·exact .inl h
      ·have:g=w1+1:=by simpa using h
       exact .inr (by omega)
     have EH:But (Chg ra tR tN B (.slice sta st.length stc)) wr w2:=(H1.out.1.alloc _).trans' sY fun i _ hi=>.inr (.inr hi);have Ct:But (fun b=>(RI sta st.length stc).ownBlock=OK b) w1 w2:=((But.refl _ w1).alloc _).trans sY;have nSB:¬(RI sta st.length stc).ownBlock=B:=fun h=>(s_.out.sB _ h).2.1 rfl;have nSQ:¬(RI sta st.length stc).ownBlock=wr:=fun h=>VN _ (s_.out.own.lt h);have hQ2:=(Ct.block wr hzw1 nSQ).trans H1.out.2.2.1;have Nb:=(Ct.block B (by omega) nSB).trans H1.out.2.2.2.1;have q5:w2 (wr,5)=OK (.slice ta e.kind.args.length tc):=by simp[RE,hQ2]
     have q6:w2 (wr,6)=OK (.slice ea e.env.length ec):=by simp[RE,hQ2]
     have b2:w2 (B,2)=OK (.slice a2 ss.length c2):=by simp[RE,Nb]
     have keepF:∀(i:Nat) (o:Obj),¬Chg ra tR tN B (.slice sta st.length stc) i->wr.heap[i]?=OK o->(¬Chg ra tR tN B (.slice sta st.length stc) i/\i<wr)/\w2.heap[i]?=OK o:=fun i o hi ho=>
      ⟨⟨hi,zZ ho⟩,by rw[EH.block i (zZ ho) hi];exact ho⟩
     have C:=f_ (fun i=>¬Chg ra tR tN B (.slice sta st.length stc) i/\i<wr) e.env env ss e.kind log.length (.slice ea e.env.length ec) (.slice a2 ss.length c2) (.slice ta e.kind.args.length tc) (.slice (eb,eo) env.length ecap) w2
      ((Rep.keep keepF).1 _ _ hZ.out.2.2.2.2.2.1) ((Rep.keep keepF).1 _ _ hZ.out.2.2.1) ((Rep.keep keepF).1 _ _ hZ.out.2.2.2.2.1) ((Rep.keep keepF).1 _ _ s_.out.re) (by omega) hZ.out.2.1 (by omega)
     have CH:=r9 C;have H2:=r9 (r_ EH (r_ Ct (r_ hQ2 (r_ Nb (r_ keepF (r_ KK Il))))));clear C EH Ct hQ2 Nb keepF KK Il sY By nSB nSQ d0 d1 d2 d3;go_wp2_with fail
     refine CH.out.mono ?_;rintro en w3 ⟨ha,hc,rfl,sE,lO⟩;have lP:=sE.size;have QR:=(sE.block wr (by omega)).trans H2.out.2.2.1;have B9:=(sE.block B (by omega)).trans H2.out.2.2.2.1;have p1:w3 (wr,1)=OK (str (z_ e.body)):=by simp[RE,QR]
     have p2:w3 (wr,2)=OK (.int RD bv):=by simp[RE,QR]
     have p3:w3 (wr,3)=OK (.slice i6 (kh e.body).length iZ):=by simp[RE,QR]
     have p4:w3 (wr,4)=OK (.slice Rb (qS e.body).length Ra):=by simp[RE,QR]
     have u0:w3 B=OK (str []):=by simp[RE,B9]
     have u1:w3 (B,1)=OK (.int RD (v':Nat)):=by simp[RE,B9]
     have u2:w3 (B,2)=OK (.slice a2 ss.length c2):=by simp[RE,B9]
     have u3:w3 (B,3)=OK (.slice a3 2 c3):=by simp[RE,B9]
     have f0:w3.frozen? B=RC:=by simp[RO,B9]
     have f1:w3.frozen? (B,1)=RC:=by simp[RO,B9]
     have f2:w3.frozen? (B,2)=RC:=by simp[RO,B9]
     have f3:w3.frozen? (B,3)=RC:=by simp[RO,B9]
     have H3:=r9 (r_ sE (r_ lO B9));clear sE lO QR B9 q5 q6 b2;go_upto_region 23 with (fail)
     obtain⟨W4,lX⟩:=zzN (yd B (str (z_ e.body)) (.int RD bv) (.slice i6 (kh e.body).length iZ) (.slice Rb (qS e.body).length Ra) w3);have oJ:=lX;unfold yd at oJ;rw[oJ];have B4:O++D=113::(v_ keep log e.begun++dec e.arg):=by rw[HS.out.2.2.1,HS.out.1,HS.out.2.1];rfl
     have Dw:RS keep most ra (log++[(113::(v_ keep log e.begun++dec e.arg),(e.begun:Int))]) ai ae w1:=by have:=H1.out.2.2.2.2.2.1;rw[B4]at this;exact this
     have iv:=gopl_ask ip.out tw hZ.out.1;have oq:No w2 w3:=H3.out.1;have k1:But (Chg ra tR tN B (.slice sta st.length stc)) wr w3:=H2.out.1.trans (But.ofBelow oq);have k2:But (fun b=>(RI sta st.length stc).ownBlock=OK b) w1 w3:=H2.out.2.1.trans (But.ofBelow oq);have k5:=H2.out.2.2.2.2.2.1.keep (w':=w3) fun g o hg ho=>by rw[oq.block g (zZ ho)];exact ho
     have Jn:∀i,((¬Chg ra tR tN B (.slice sta st.length stc) i/\i<(wr:Nat))\/(w2:Nat)<=i)->i<(w3:Nat)->¬Chg ra ai ae B (.slice a' (st.length+1) c') i:=by
      intro i hi _ h;have hm:=fun hm:MBk ra ai ae i=>H1.out.2.2.2.2.2.1.lt hm;rcases hi with ⟨h1,h2⟩|h1
      ·rcases h with h|h|h
       ·rcases H1.out.2.2.2.2.2.2 i h with h'|h'
        ·exact h1 (.inl h')
        ·omega
       ·exact h1 (.inr (.inl h))
       ·rcases H2.out.2.2.2.2.2.2 i h with h'|h'
        ·exact h1 (.inr (.inr h'))
        ·omega
      ·rcases h with h|h|h
       ·have:=hm h;omega
       ·omega
       ·have:=H2.out.2.2.2.2.2.1.lt h;omega
     have Ds:∀(i:Nat) (o:Obj),¬Chg ra tR tN B (.slice sta st.length stc) i->wr.heap[i]?=OK o->((¬Chg ra tR tN B (.slice sta st.length stc) i/\i<wr)\/w2<=i)/\w3.heap[i]?=OK o:=fun i o hi ho=>by
      obtain⟨h1,h2⟩:=H2.out.2.2.2.2.1 i o hi ho;exact⟨.inl h1,by rw[oq.block i (zZ h2)];exact h2⟩
     have hrf:zY (fun i=>(¬Chg ra tR tN B (.slice sta st.length stc) i/\i<wr)\/w2<=i) w3 (uN (⟨v',ss,y,n,env,opens⟩::st:List SF).reverse) (cells++[str [],.int RD (v':Nat),.slice a2 ss.length c2,.slice a3 2 c3,.slice (OK ⟨eb,eo,U⟩) env.length ecap,.int RD (opens:Nat)]):=by
      rw[List.reverse_cons,wL];refine zY.append ((Rep.keep Ds).2 _ _ s_.out.rf) ?_;simp only[uN,List.append_nil];rw[encSF];exact zY.append ((Rep.keep Ds).2 _ _ s_.out.box.rep) (zQ.2 ⟨_,_,rfl,(Rep.keep Ds).1 _ _ s_.out.re,zQ.2 ⟨_,_,rfl,zC.2 rfl,zE.2 rfl⟩⟩)
     have Pj:Rep (fun i=>(¬Chg ra tR tN B (.slice sta st.length stc) i/\i<wr)\/w2<=i) w3 (.sl 147 9 (e.env++vT env log.length 0 e.kind.args ss).length (qR (e.env++vT env log.length 0 e.kind.args ss))) (.slice ha (e.env.length+(vT env log.length 0 e.kind.args ss).length) hc):=by
      rw[RL];exact H3.out.2.1
     have tg:=fX (opens':=log.length) (b':=e.body) (st':=⟨v',ss,y,n,env,opens⟩::st) s_.out k1 k2 Dw (by omega) H1.out.2.2.2.2.2.2 H3.out.2.2 k5 H2.out.2.2.2.2.2.2 Jn ((Rep.keep Ds).2 _ _ hZ.out.2.2.2.1) Pj hrf;rw[lX]at tg;have iF:=r9 (r_ iv tg);clear iv tg Dw oq k1 k2 k5 Jn Ds hrf Pj B4 oJ lX u0 u1 u2 u3 f0 f1 f2 f3 p1 p2 p3 p4;go_wp2_with fail
     go_roundw
     case rel=>exact⟨_,_,_,_,_,_,_,_,_,_,_,_,_,_,_,rfl,iF.out.1,iF.out.2⟩
     case measure=>
      rw[HX.out];have h:=du iF.out.2.rs;have hl:(log++[(113::(v_ keep log e.begun++dec e.arg),(e.begun:Int))]).length=log.length+1:=by simp
      refine SJ (SH h) ?_;rw[hl];omega
def eC (t:Ty)(xs:List Bs)(w:World)(en:Ending)(w':World):Prop:=
 ∃ a n c,en=.returned (.tuple #[.slice a n c,.bool (decide (xs.length=t.args.length) && (kO t.args xs).isSome)])/\Below w w w' /\
   (∀bs,xs.length=t.args.length->kO t.args xs=OK bs->n=bs.length/\Rep (w<=·) w' (.sl 53 4 bs.length (zp bs)) (.slice a bs.length c))
theorem Rep.alloc {F:Nat->Prop}{w:World}{d:DV}{v:Value}(h:Rep F w d v)(o:Obj):Rep F (w.alloc o) d v:=(Rep.keep fun _ _ hf ho=>⟨hf,zJ ho⟩).1 _ _ h
theorem below_ad2 {w wc:World}{o o':Obj}(h:Below ((w.alloc o).alloc o').drew.heap.size ((w.alloc o).alloc o').drew wc):No w wc:=by
 have h1:=eJ (w:=w.alloc o) h;exact((sQ w w).alloc (sZ _) o).trans (h1.mono (by rw[zK];omega))
theorem early1 {w wc:World}{o:Obj}(h:Below (w.alloc o).drew.heap.size (w.alloc o).drew wc):wc.heap[(w:Nat)]?=OK o:=by
 rw[h.block _ (by show _<(w.alloc o).heap.size;rw[zK];omega)];exact zW w o
theorem mO {w wc:World}{o:Obj}(h:Below (w.alloc o).heap.size (w.alloc o) wc):wc.heap[(w:Nat)]?=OK o:=by
 rw[h.block _ (by rw[zK];omega)];exact zW w o
theorem early2 {w wc:World}{o o':Obj}(h:Below ((w.alloc o).alloc o').drew.heap.size ((w.alloc o).alloc o').drew wc):wc.heap[(w:Nat)]?=OK o/\wc.heap[(w:Nat)+1]?=OK o':=by
 have hz:((w.alloc o).alloc o').drew.heap.size=w+2:=by show ((w.alloc o).alloc o').heap.size=_;rw[zK,zK]
 refine⟨by rw[h.block _ (by omega)];exact zJ (zW w o),?_⟩;rw[h.block _ (by omega)];have:=zW (w.alloc o) o';rw[zK]at this;exact this
theorem mI {w wc:World}{o o':Obj}(h:Below ((w.alloc o).alloc o').heap.size ((w.alloc o).alloc o') wc):wc.heap[(w:Nat)]?=OK o/\wc.heap[(w:Nat)+1]?=OK o':=by
 have hz:((w.alloc o).alloc o').heap.size=w+2:=by rw[zK,zK]
 refine⟨by rw[h.block _ (by omega)];exact zJ (zW w o),?_⟩;rw[h.block _ (by omega)];have:=zW (w.alloc o) o';rw[zK]at this;exact this
theorem x7 {X wc:World}{b:Nat}{x:Obj}(hb:No X wc)(hX:X.heap[b]?=OK x):wc.heap[b]?=OK x:=by
 rw[hb.block b (zZ hX)];exact hX
theorem xC {w:World}{b:Nat}{u:Value}{T:TypeId}(h:w.heap[b]?=OK (.cells #[u] T (0,0))):w b=u/\w.frozen? b=RC/\b<w:=⟨by simp[RE,h],by simp[RO,h],zZ h⟩
theorem xB {w:World}{b:Nat}{u0 u1 u2 u3:Value}{T:TypeId}(h:w.heap[b]?=OK (.cells #[u0,u1,u2,u3] T (0,0))):w b=u0/\w (b,1)=u1/\w (b,2)=u2/\w (b,3)=u3/\w.frozen? b=RC/\w.frozen? (b,1)=RC/\w.frozen? (b,2)=RC/\w.frozen? (b,3)=RC/\b<w:=
 ⟨by simp[RE,h],by simp[RE,h],by simp[RE,h],by simp[RE,h],by simp[RO,h],by simp[RO,h],by simp[RO,h],by simp[RO,h],zZ h⟩
theorem fV {w:World}{o:Obj}{g:Nat}(h:g=w):(w.alloc o).heap[g]?=OK o:=by subst h;exact zW w o
theorem sizeS (w:World)(p:Addr)(u:Value):w=(w.setCell p u).heap.size:=by simp[Ts]
theorem sizeA (w:World)(o:Obj):w+1=(w.alloc o).heap.size:=(zK w o).symm
theorem heap_new2 (w:World)(o o':Obj):((w.alloc o).alloc o').heap[(w:Nat)+1]?=OK o':=by
 have:=zW (w.alloc o) o';rw[zK]at this;exact this
theorem mj {B:Nat}{y0 y1 y2 y3:Value}{T:TypeId}{w:World}(h:w.heap[B]?=OK (.cells #[y0,y1,y2,y3] T (0,0)))(x0 x1 x2 x3:Value):((((w.setCell B x0).setCell (B,1) x1).setCell (B,2) x2).setCell (B,3) x3).heap[B]?=OK (.cells #[x0,x1,x2,x3] T (0,0)):=boxPut_at h x0 x1 x2 x3
theorem heap_ne {w:World}{b i:Nat}{o:Nat}{u:Value}{x:Obj}(h:w.heap[i]?=OK x)(hi:¬i=b):(w.setCell (b,o) u).heap[i]?=OK x:=by
 rw[sJ _ _ _ _ hi];exact h
def ArgCut (wr:World)(X x:Bs)(s9 s10:Value)(wx:World):Prop:=
 ∃ g s' v' a2 n2 c2 a3 n3 c3,s9=.pointer (some ⟨g,0,none⟩)/\s10=.bool (kP X x).isSome/\(wr:Nat)<=g/\wx.heap[g]? = some (.cells #[str s',.int .i64 v',.slice a2 n2 c2,.slice a3 n3 c3] 53 (0,0))/\Below wr wr wx /\
   (∀b,kP X x=OK b->zY (fun i=>wr<=i/\i≠g) wx (kU b) [s',.int RD v',.slice a2 n2 c2,.slice a3 n3 c3])
theorem encNs_snoc (bs:List Bd)(b:Bd):zp (bs++[b])=zp bs++kU b:=by rw[qG];simp[zp]
theorem l4Args_any (F:Nat->Prop)(t:Ty)(tv:Value)(xs:List Bs)(a:Option Addr)(c:Nat)(w:World)(ht:Rep F w (ki t) tv)(sT:zU t<=15)(hx:vw w a xs)(iG:∀x∈xs,Lim x.length)(oY:Lim xs.length) :
 Calls RG 47 #[.agg #[tv],.slice a xs.length c] w (eC t xs w):=by
 have hxl':=oY.le;have AD:t.args.length<=15:=by have:=kI t;have:=kW t.args;omega
 have al:=ht;rw[jJ]at al;obtain⟨ka,kc,e,_,_,Ez⟩:=zH al;subst e;have H:=r9 (r_ Ez (r_ hx (r_ iG sT)));clear Ez hx iG oY ht al;by_cases hlen:xs.length=t.args.length;rotate_left
 ·have hd:((xs.length:Int) != (t.args.length:Int))=true:=by rw[bne_iff_ne];omega
  have HL:=r9 hlen;clear hlen;go_enter Xq,WT;go_wp2_with fail
  go_ret2
  unfold eC;rw[decide_eq_false HL.out];exact⟨_,_,_,rfl,((sQ _ _).alloc (sZ _) _).alloc (by simp) _,fun bs h=>absurd h HL.out⟩
 have hd:((xs.length:Int) != (t.args.length:Int))=RC:=by rw[hlen];simp
 have HL:=r9 hlen;clear hlen;have Iv:((w.alloc (.cells #[.slice ka t.args.length kc] 47)).alloc (.cells #[] 53)) w=OK (.slice ka t.args.length kc):=by simp
 have iJ:No w ((w.alloc (.cells #[.slice ka t.args.length kc] 47)).alloc (.cells #[] 53)):=((sQ _ _).alloc (sZ _) _).alloc (by simp) _;have hO0:Own ((w.alloc (.cells #[.slice ka t.args.length kc] 47)).alloc (.cells #[] 53)) 53 4 (.slice (w+1:Nat) 0 0) 0 []:=Own.litAt #[] 0 _ (by simp) (by decide) rfl;have HA:=r9 (r_ Iv (r_ iJ hO0));clear Iv iJ hO0;go_enter Xq,WT;go_wp2_with fail
 go_loopw [6,7] (fun l i wr=>∃ (k:Nat) (a':Option Addr) (c':Nat) (us:List Value) (bs:List Bd),k<=xs.length/\i=.int .i64 k/\l=.slice a' k c'/\Own wr 53 4 (.slice a' k c') k us/\zY (fun i=>w<=i/\(RI a' k c').ownBlock≠some i) wr (zp bs) us/\bs.length=k/\kO (t.args.take k) (xs.take k)=bs/\Below w w wr /\
  (∀ g,(RI a' k c').ownBlock=some g->(w:Nat)+1<=g)/\wr w=some (.slice ka t.args.length kc)) (fun _ i _=>xs.length-(intOf i).toNat)
 case atStart=>exact⟨0,_,_,[],[],R6 _,rfl,rfl,HA.out.2.2,by rw[zp];exact zE.2 rfl,rfl,by simp[kO],HA.out.2.1,fun g h=>by simp[RM]at h;omega,HA.out.1⟩
 case round=>
  obtain⟨k,a',c',us,bs,hk,rfl,rfl,ho,hr,Dk,i8,hb,hf,ir⟩:=hrel;have HO:=r9 (r_ ho (r_ hr (r_ i8 (r_ hf (r_ hb Dk)))));clear ho hr i8 hf hb Dk;by_cases sC:k<xs.length
  ·obtain⟨x,JL⟩:∃x,xs[k]?=OK x:=⟨xs[k],by simp[sC]⟩;obtain⟨bs1,os1,es1,F4⟩:=H.out.2.1.below HO.out.2.2.2.2.1 k x JL;subst es1;have Id:=H.out.2.2.1 x (RX JL);have Fa:k<t.args.length:=by have:=HL.out;omega
   obtain⟨bk,ok,uk,dk,eka,_,AI,Ip,Is,tq⟩:=H.out.1 k Fa;subst eka;rw[vU,RP]at Ip;obtain⟨tk,lM,rfl⟩:=Ip;obtain⟨ua,uc,e⟩:=za tq;subst e;have F7:wr (bk,ok+k)=OK (.slice ua tk.args.length uc):=by rw[HO.out.2.2.2.2.1.cell AI];exact Is
   have FM:=Rep.below (F':=fun _=>True) HO.out.2.2.2.2.1 (fun _ _=>trivial) tq;have Gj:zU tk<=15:=by have:=H.out.2.2.2;have hm:=kI t;have:=vI (RX lM);omega
   have MC:(k:Int)<(t.args.length:Int):=by omega
   have tB:(k:Int)<(xs.length:Int):=by omega
   obtain⟨X,hX⟩:=zzM (zS tk);have QO:Lim X.length:=by rw[hX];have:=jY 15 tk Gj;show _<=_;omega
   have C1:=r9 (fun wz (hz:Rep (fun _=>True) wz (ki tk) (.slice ua tk.args.length uc))=>uK 15 tk Gj (by omega) _ wz _ hz);rw[<- hX]at C1;have R0:=r9 FM.drew;have R1:=r9 (fun o=>(FM.alloc o).drew);have R2:=r9 (fun o o'=>((FM.alloc o).alloc o').drew);have C2:=r9 (fun wz=>xo X x QO Id wz);have HS:=r9 (r_ JL (r_ lM (r_ hX Gj)));clear JL lM hX Gj Is tq FM QO Id;have ic:bk<wr:=sK wr _ F7;have hsb:bs1<(wr:Nat):=sK wr _ F4;have h0b:(w:Nat)<wr:=sK wr _ ir;go_upto_region 7 with (fail)
   go_cut [9,10] (fun s9 s10 wx=>ArgCut wr X x s9 s10 wx)
   case first=>
    have nk0:¬(wr:Nat)<=w:=by omega
    have nk1:¬wr<=bk:=by omega
    have nk2:¬wr<=bs1:=by omega
    go_region_held3 (fun w'=>w' w=OK (.slice (bk,ok) t.args.length kc)/\w' (bk,ok+k)=OK (.slice ua tk.args.length uc)/\w' (bs1,os1+k)=str x)
     (first
      |(refine fC (m:=fun i=>wr.heap.size<=i) ?_ ir F7 F4 nk0 nk1 nk2;(repeat' (first | with_reducible exact But.ofBelow aU.out | with_reducible refine But.alloc ?_ _ | with_reducible refine But.drew ?_ | with_reducible refine But.setCell ?_ (.inr ?_) _));all_goals ((try dsimp only);omega))
      |(refine fC (m:=fun i=>wr.heap.size<=i) ?_ ir F7 F4 nk0 nk1 nk2;(repeat' (first | with_reducible exact But.ofBelow tX.out | with_reducible refine But.alloc ?_ _ | with_reducible refine But.drew ?_ | with_reducible refine But.setCell ?_ (.inr ?_) _));all_goals ((try dsimp only);omega))
      |(refine fC (m:=fun i=>wr.heap.size<=i) ?_ ir F7 F4 nk0 nk1 nk2;(repeat' (first | with_reducible exact(But.refl (fun i=>wr<=i) wr) | with_reducible refine But.alloc ?_ _ | with_reducible refine But.drew ?_ | with_reducible refine But.setCell ?_ (.inr ?_) _));all_goals ((try dsimp only);omega))
      | go_keep)
     (first
      |(go_at_call 44;have Rj:=Fz;have _t1:=Rz;(with_reducible refine(C2.out w1).mono ?_);rintro en w2 ⟨sa,sc,s',v',a2,n2,c2,a3,n3,c3,rfl,sY,tQ,tG⟩;have F8:w2.heap[(wr:Nat)]?=some (.cells #[()] 47 (0,0)):=x7 sY Fz.out;have F9:w2.heap[((wr:Nat)+1)]?=some (.cells #[str [],.int .i64 0,(),()] 53 (0,0)):=x7 sY Rz.out;have aU:=r9 ((tX.out).trans (sY.mono (tX.out).size));have z2:=sY.size;(try rw[zK]at z2);(try rw[zK]at z2);have q0:=zZ Fz.out;have q1:=zZ Rz.out;have BO:¬wr=((wr:Nat)+1):=(by omega);have Dr:¬((wr:Nat)+1)=wr:=(by omega);obtain⟨Ly,Lt,l8⟩:=xC F8;have F8:=r9 F8;obtain⟨Lx,Lw,Lv,Lu,Ls,Lr,Lq,Lp,l9⟩:=xB F9;have F9:=r9 F9;have sw:=r9 (r_ sY tG);clear sY tG tQ)
      |(go_at_call 44;have Rj:=Fy;have _t1:=RA;(with_reducible refine(C2.out w1).mono ?_);rintro en w2 ⟨sa,sc,s',v',a2,n2,c2,a3,n3,c3,rfl,sY,tQ,tG⟩;have F9:w2.heap[(wr:Nat)]?=some (.cells #[str [],.int .i64 0,(),()] 53 (0,0)):=x7 sY Fy.out;have F8:w2.heap[((wr:Nat)+1)]?=some (.cells #[()] 47 (0,0)):=x7 sY RA.out;have aU:=r9 ((tX.out).trans (sY.mono (tX.out).size));have z2:=sY.size;(try rw[zK]at z2);(try rw[zK]at z2);have q0:=zZ Fy.out;have q1:=zZ RA.out;have BO:¬((wr:Nat)+1)=wr:=(by omega);have Dr:¬wr=((wr:Nat)+1):=(by omega);obtain⟨Ly,Lt,l8⟩:=xC F8;have F8:=r9 F8;obtain⟨Lx,Lw,Lv,Lu,Ls,Lr,Lq,Lp,l9⟩:=xB F9;have F9:=r9 F9;have sw:=r9 (r_ sY tG);clear sY tG tQ)
      |(go_at_call 44;have Rj:=Fz;(with_reducible refine(C2.out w1).mono ?_);rintro en w2 ⟨sa,sc,s',v',a2,n2,c2,a3,n3,c3,rfl,sY,tQ,tG⟩;have F8:w2.heap[(wr:Nat)]?=some (.cells #[()] 47 (0,0)):=x7 sY Fz.out;have aU:=r9 ((tX.out).trans (sY.mono (tX.out).size));have z2:=sY.size;(try rw[zK]at z2);(try rw[zK]at z2);have q0:=zZ Fz.out;obtain⟨Ly,Lt,l8⟩:=xC F8;have F8:=r9 F8;have sw:=r9 (r_ sY tG);clear sY tG tQ)
      |(go_at_call 44;have Rj:=Fz;(with_reducible refine(C2.out (w1.alloc (.cells #[str [],.int .i64 0,(),()] 53))).mono ?_);rintro en w2 ⟨sa,sc,s',v',a2,n2,c2,a3,n3,c3,rfl,sY,tQ,tG⟩;have F8:w2.heap[(wr:Nat)]?=some (.cells #[()] 47 (0,0)):=x7 sY (zJ Fz.out);have F9:w2.heap[(w1:Nat)]?=some (.cells #[str [],.int .i64 0,(),()] 53 (0,0)):=mO sY;have aU:=r9 ((tX.out.alloc tX.out.size _).trans (sY.mono (tX.out.alloc tX.out.size _).size));have z2:=sY.size;(try rw[zK]at z2);(try rw[zK]at z2);have q0:=zZ Fz.out;have BO:¬(wr:Nat)=w1:=(by omega);have Dr:¬(w1:Nat)=wr:=(by omega);obtain⟨Ly,Lt,l8⟩:=xC F8;have F8:=r9 F8;obtain⟨Lx,Lw,Lv,Lu,Ls,Lr,Lq,Lp,l9⟩:=xB F9;have F9:=r9 F9;have sw:=r9 (r_ sY tG);clear sY tG tQ)
      |(go_at_call 44;have Rj:=Fy;(with_reducible refine(C2.out w1).mono ?_);rintro en w2 ⟨sa,sc,s',v',a2,n2,c2,a3,n3,c3,rfl,sY,tQ,tG⟩;have F9:w2.heap[(wr:Nat)]?=some (.cells #[str [],.int .i64 0,(),()] 53 (0,0)):=x7 sY Fy.out;have aU:=r9 ((tX.out).trans (sY.mono (tX.out).size));have z2:=sY.size;(try rw[zK]at z2);(try rw[zK]at z2);have q0:=zZ Fy.out;obtain⟨Lx,Lw,Lv,Lu,Ls,Lr,Lq,Lp,l9⟩:=xB F9;have F9:=r9 F9;have sw:=r9 (r_ sY tG);clear sY tG tQ)
      |(go_at_call 44;have Rj:=Fy;(with_reducible refine(C2.out (w1.alloc (.cells #[()] 47))).mono ?_);rintro en w2 ⟨sa,sc,s',v',a2,n2,c2,a3,n3,c3,rfl,sY,tQ,tG⟩;have F9:w2.heap[(wr:Nat)]?=some (.cells #[str [],.int .i64 0,(),()] 53 (0,0)):=x7 sY (zJ Fy.out);have F8:w2.heap[(w1:Nat)]?=some (.cells #[()] 47 (0,0)):=mO sY;have aU:=r9 ((tX.out.alloc tX.out.size _).trans (sY.mono (tX.out.alloc tX.out.size _).size));have z2:=sY.size;(try rw[zK]at z2);(try rw[zK]at z2);have q0:=zZ Fy.out;have BO:¬(w1:Nat)=wr:=(by omega);have Dr:¬(wr:Nat)=w1:=(by omega);obtain⟨Ly,Lt,l8⟩:=xC F8;have F8:=r9 F8;obtain⟨Lx,Lw,Lv,Lu,Ls,Lr,Lq,Lp,l9⟩:=xB F9;have F9:=r9 F9;have sw:=r9 (r_ sY tG);clear sY tG tQ)
      |(go_at_call 44;(with_reducible refine(C2.out w1).mono ?_);rintro en w2 ⟨sa,sc,s',v',a2,n2,c2,a3,n3,c3,rfl,sY,tQ,tG⟩;have aU:=r9 ((tX.out).trans (sY.mono (tX.out).size));have z2:=sY.size;(try rw[zK]at z2);(try rw[zK]at z2);have sw:=r9 (r_ sY tG);clear sY tG tQ)
      |(go_at_call 44;(with_reducible refine(C2.out (w1.alloc (.cells #[()] 47))).mono ?_);rintro en w2 ⟨sa,sc,s',v',a2,n2,c2,a3,n3,c3,rfl,sY,tQ,tG⟩;have F8:w2.heap[(w1:Nat)]?=some (.cells #[()] 47 (0,0)):=mO sY;have aU:=r9 ((tX.out.alloc tX.out.size _).trans (sY.mono (tX.out.alloc tX.out.size _).size));have z2:=sY.size;(try rw[zK]at z2);(try rw[zK]at z2);obtain⟨Ly,Lt,l8⟩:=xC F8;have F8:=r9 F8;have sw:=r9 (r_ sY tG);clear sY tG tQ)
      |(go_at_call 44;(with_reducible refine(C2.out (w1.alloc (.cells #[str [],.int .i64 0,(),()] 53))).mono ?_);rintro en w2 ⟨sa,sc,s',v',a2,n2,c2,a3,n3,c3,rfl,sY,tQ,tG⟩;have F9:w2.heap[(w1:Nat)]?=some (.cells #[str [],.int .i64 0,(),()] 53 (0,0)):=mO sY;have aU:=r9 ((tX.out.alloc tX.out.size _).trans (sY.mono (tX.out.alloc tX.out.size _).size));have z2:=sY.size;(try rw[zK]at z2);(try rw[zK]at z2);obtain⟨Lx,Lw,Lv,Lu,Ls,Lr,Lq,Lp,l9⟩:=xB F9;have F9:=r9 F9;have sw:=r9 (r_ sY tG);clear sY tG tQ)
      |(go_at_call 44;(with_reducible refine(C2.out ((w1.alloc (.cells #[()] 47)).alloc (.cells #[str [],.int .i64 0,(),()] 53))).mono ?_);rintro en w2 ⟨sa,sc,s',v',a2,n2,c2,a3,n3,c3,rfl,sY,tQ,tG⟩;have F8:w2.heap[(w1:Nat)]?=some (.cells #[()] 47 (0,0)):=(mI sY).1;have F9:w2.heap[((w1:Nat)+1)]?=some (.cells #[str [],.int .i64 0,(),()] 53 (0,0)):=(mI sY).2;have aU:=r9 (((tX.out.alloc tX.out.size _).alloc (tX.out.alloc tX.out.size _).size _).trans (sY.mono ((tX.out.alloc tX.out.size _).alloc (tX.out.alloc tX.out.size _).size _).size));have z2:=sY.size;(try rw[zK]at z2);(try rw[zK]at z2);have BO:¬w1=((w1:Nat)+1):=(by omega);have Dr:¬((w1:Nat)+1)=w1:=(by omega);obtain⟨Ly,Lt,l8⟩:=xC F8;have F8:=r9 F8;obtain⟨Lx,Lw,Lv,Lu,Ls,Lr,Lq,Lp,l9⟩:=xB F9;have F9:=r9 F9;have sw:=r9 (r_ sY tG);clear sY tG tQ)
      |(go_at_call 44;(with_reducible refine(C2.out ((w1.alloc (.cells #[str [],.int .i64 0,(),()] 53)).alloc (.cells #[()] 47))).mono ?_);rintro en w2 ⟨sa,sc,s',v',a2,n2,c2,a3,n3,c3,rfl,sY,tQ,tG⟩;have F9:w2.heap[(w1:Nat)]?=some (.cells #[str [],.int .i64 0,(),()] 53 (0,0)):=(mI sY).1;have F8:w2.heap[((w1:Nat)+1)]?=some (.cells #[()] 47 (0,0)):=(mI sY).2;have aU:=r9 (((tX.out.alloc tX.out.size _).alloc (tX.out.alloc tX.out.size _).size _).trans (sY.mono ((tX.out.alloc tX.out.size _).alloc (tX.out.alloc tX.out.size _).size _).size));have z2:=sY.size;(try rw[zK]at z2);(try rw[zK]at z2);have BO:¬((w1:Nat)+1)=w1:=(by omega);have Dr:¬w1=((w1:Nat)+1):=(by omega);obtain⟨Ly,Lt,l8⟩:=xC F8;have F8:=r9 F8;obtain⟨Lx,Lw,Lv,Lu,Ls,Lr,Lq,Lp,l9⟩:=xB F9;have F9:=r9 F9;have sw:=r9 (r_ sY tG);clear sY tG tQ)
      |(go_at_call 19;(with_reducible refine(C1.out wr.drew (R0.out)).mono ?_);rintro en w1 ⟨rfl,sX⟩;have tX:=r9 (eQ sX);have z1:=tX.out.size;have sn:=r9 sX;clear sX)
      |(go_at_call 19;(with_reducible refine(C1.out (wr.alloc (.cells #[()] 47)).drew (R1.out _)).mono ?_);rintro en w1 ⟨rfl,sX⟩;have Fz:w1.heap[(wr:Nat)]?=some (.cells #[()] 47 (0,0)):=early1 sX;have Fz:=r9 Fz;have tX:=r9 (eJ sX);have z1:=tX.out.size;have sn:=r9 sX;clear sX)
      |(go_at_call 19;(with_reducible refine(C1.out (wr.alloc (.cells #[str [],.int .i64 0,(),()] 53)).drew (R1.out _)).mono ?_);rintro en w1 ⟨rfl,sX⟩;have Fy:w1.heap[(wr:Nat)]?=some (.cells #[str [],.int .i64 0,(),()] 53 (0,0)):=early1 sX;have Fy:=r9 Fy;have tX:=r9 (eJ sX);have z1:=tX.out.size;have sn:=r9 sX;clear sX)
      |(go_at_call 19;(with_reducible refine(C1.out ((wr.alloc (.cells #[()] 47)).alloc (.cells #[str [],.int .i64 0,(),()] 53)).drew (R2.out _ _)).mono ?_);rintro en w1 ⟨rfl,sX⟩;have Fz:w1.heap[(wr:Nat)]?=some (.cells #[()] 47 (0,0)):=(early2 sX).1;have Rz:w1.heap[((wr:Nat)+1)]?=some (.cells #[str [],.int .i64 0,(),()] 53 (0,0)):=(early2 sX).2;have Fz:=r9 Fz;have Rz:=r9 Rz;have tX:=r9 (below_ad2 sX);have z1:=tX.out.size;have sn:=r9 sX;clear sX)
      | (go_at_call 19;(with_reducible refine (C1.out ((wr.alloc (.cells #[str [],.int .i64 0,(),()] 53)).alloc (.cells #[()] 47)).drew (R2.out _ _)).mono ?_);rintro en w1 ⟨rfl,sX⟩;have Fy:w1.heap[(wr:Nat)]? = some (.cells #[str [],.int .i64 0,(),()] 53 (0,0)):=(early2 sX).1;have RA:w1.heap[((wr:Nat)+1)]? = some (.cells #[()] 47 (0,0)):=(early2 sX).2;have Fy:=r9 Fy;have RA:=r9 RA;have tX:=r9 (below_ad2 sX);have z1:=tX.out.size;have sn:=r9 sX;clear sX))
    all_goals (go_wp2_with fail;go_meet)
    all_goals
     have hHB2:=sw.out.2;refine⟨_,s',v',a2,n2,c2,a3,n3,c3,rfl,rfl,?_,?_,?_,fun b hb=>?_⟩
     ·omega
     ·first
       |with_reducible exact mj F9.out _ _ _ _
       |with_reducible exact zJ (mj F9.out _ _ _ _)
       |with_reducible exact mj (heap_ne F9.out BO) _ _ _ _
       |with_reducible exact mj (heap_ne F9.out Dr) _ _ _ _
       |((with_reducible refine fV ?_);first | with_reducible exact Eq.refl w2 | with_reducible exact sizeS _ _ _ | with_reducible exact sizeA _ _)
       |((with_reducible refine zJ (fV ?_));with_reducible exact Eq.refl (w2:Nat))
     ·refine But.toBelow (m:=fun i=>wr<=i) ?_ (sZ _) (fun i hi h=>by omega);(repeat' (first | with_reducible exact But.ofBelow aU.out | with_reducible refine But.alloc ?_ _ | with_reducible refine But.drew ?_ | with_reducible refine But.setCell ?_ (.inr ?_) _));all_goals ((try dsimp only);omega)
     ·have aJ:=hHB2 b hb;refine(Rep.keep fun i o hi ho=>?_).2 _ _ aJ;have sC:=zZ ho;replace hi:_<=i:=hi;(try rw[zK]at hi);(try rw[zK]at hi);refine⟨⟨by omega,by omega⟩,?_⟩;(repeat' (first | with_reducible exact ho | with_reducible refine zJ ?_ | with_reducible refine heap_ne ?_ ?_))
      all_goals omega
   case rest=>
    rename World=>wx
    obtain⟨g,s',v',a2,n2,c2,a3,n3,c3,rfl,rfl,FY,NM,iw,KD⟩:=hcut;have hSQ:kP X x=qd tk x:=by rw[dD HS.out.2.2.2,HS.out.2.2.1]
    have sf:kO (t.args.take (k+1)) (xs.take (k+1))=(qd tk x).map fun b=>bs++[b]:=by
     have h1:t.args.take (k+1)=t.args.take k++[tk]:=by rw[Sd,HS.out.2.1];rfl
     have h2:xs.take (k+1)=xs.take k++[x]:=by rw[Sd,HS.out.1];rfl
     rw[h1,h2,pA _ _ _ _ (by rw[Sy,Sy];omega),HO.out.2.2.1];rfl
    rw[<- hSQ]at sf;have BJ:=r9 sf;clear sf hSQ;have hzx:=iw.size;have g0:wx g=str s':=by simp[RE,NM]
    have g1:wx (g,1)=OK (.int RD v'):=by simp[RE,NM]
    have g2:wx (g,2)=OK (.slice a2 n2 c2):=by simp[RE,NM]
    have g3:wx (g,3)=OK (.slice a3 n3 c3):=by simp[RE,NM]
    have Dj:wx w=OK (.slice (bk,ok) t.args.length kc):=(iw.cell (p:=w) h0b).trans ir;have Lo:=r9 (r_ iw (r_ NM KD));clear iw NM KD C1 C2 R0 R1 R2 ir F7 F4;cases hq:kP X x with
    | none =>
      have hR:kO t.args xs=U:=pL _ _ (k+1) (by rw[BJ.out,hq];rfl);have HR:=r9 hR;clear hR hq;simp only[Sx];go_wp2_with fail
      go_ret2
      unfold eC;rw[HR.out,Sx,Bool.and_false];exact⟨_,_,_,rfl,zzT HO.out.2.2.2.2.1 Lo.out.1,fun bs' _ h=>by simp at h⟩
    | some b =>
      have HB:=r9 (r_ hq (Lo.out.2.2 b hq));clear hq;simp only[Sj];go_wp2_with (at_builtin;refine zF rfl _ _ 51 rfl 53 (.agg #[str [],.int RD 0,(),()]) 4 72 Tryz.underlying51 Tryz.infoN rfl (by decide) (.slice a' k c') k us rfl ?c1 _ 1 [s',.int RD v',.slice a2 n2 c2,.slice a3 n3 c3] rfl ?c2 ?c3 ?c4 ?_)
      case c1=>exact(HO.out.1.keep fun g o _ ho=>by rw[Lo.out.1.block g (zZ ho)];exact ho).alloc _
      case c2=>exact zz.lit4 #[str s',.int RD v',.slice a2 n2 c2,.slice a3 n3 c3] rfl (by simp[str,R4]) _ (by simp)
      case c3=>unfold maxLen;omega
      case c4=>omega
      intro a7 c7 w7 sj sH sS;have L4:=HO.out.2.2.2.2.1.size;have Hj:∀i,(RI a' k c').ownBlock=OK i->i<(wr:Nat):=fun i hi=>HO.out.1.lt hi;have tJ:No w w7:=by
       have h1:No w wx:=HO.out.2.2.2.2.1.trans (Lo.out.1.mono L4);refine(h1.alloc h1.size _).trans (sH.toBelow (by rw[zK];have:=h1.size;omega) fun i hi e=>?_);have:=HO.out.2.2.2.1 i e;omega
      have tD:∀i,(RI a7 (k+1) c7).ownBlock=OK i->(RI a' k c').ownBlock=OK i\/i=(wx:Nat)+1:=by
       intro i hi;rcases sS i hi with h|h
       ·exact .inl h
       ·exact .inr (by simpa using h)
      have i_:∀(i:Nat) (o:Obj),(RI a' k c').ownBlock≠OK i->wx.heap[i]?=OK o->w7.heap[i]?=OK o:=by
       intro i o hf ho;rw[sH.block i (by rw[zK];have:=zZ ho;omega) hf];exact zJ ho
      have lS:zY (fun i=>w<=i/\(RI a7 (k+1) c7).ownBlock≠OK i) w7 (zp (bs++[b])) (us++[str s',.int RD v',.slice a2 n2 c2,.slice a3 n3 c3]):=by
       rw[encNs_snoc];refine zY.append ?_ ?_
       ·exact (Rep.keep fun i o hf ho=>⟨⟨hf.1,fun e=>by
         have:=zZ ho;rcases tD i e with h|h
         ·exact hf.2 h
         ·omega⟩,i_ i o hf.2 (by rw [Lo.out.1.block i (zZ ho)];exact ho)⟩).2 _ _ HO.out.2.1
       ·exact (Rep.keep fun i o hf ho=>⟨⟨by have:=hf.1;omega,fun e=>by
         have:=zZ ho;rcases tD i e with h|h
         ·have:=Hj i h;have:=hf.1;omega
         ·omega⟩,i_ i o (fun e=>by have:=Hj i e;have:=hf.1;omega) ho⟩).2 _ _ HB.out.2
      have iA:∀i,(RI a7 (k+1) c7).ownBlock=OK i->(w:Nat)+1<=i:=by
       intro i hi;rcases tD i hi with h|h
       ·exact HO.out.2.2.2.1 i h
       ·omega
      have Hp:kO (t.args.take (k+1)) (xs.take (k+1))=OK (bs++[b]):=by rw[BJ.out,HB.out.1];rfl
      have Qu:(bs++[b]).length=k+1:=by rw[RL,HO.out.2.2.2.2.2];rfl
      have aB:w7 w=OK (.slice (bk,ok) t.args.length kc):=by
       rw[sH.cell (p:=w) (by rw[zK];show (w:Nat)<_;omega) (fun e=>by have h5:(w:Nat)+1<=(w:Nat):=HO.out.2.2.2.1 _ e;omega)];exact zV Dj
      have H7:=r9 (r_ sj (r_ lS (r_ Qu (r_ Hp (r_ tJ (r_ iA aB))))));clear sj lS Qu Hp tJ iA aB sH sS tD i_ Dj g0 g1 g2 g3;go_wp2_with fail
      go_roundw
      case rel=>exact⟨k+1,a7,c7,_,_,by omega,by go_num,rfl,H7.out.1,H7.out.2.1,H7.out.2.2.1,H7.out.2.2.2.1,H7.out.2.2.2.2.1,H7.out.2.2.2.2.2.1,H7.out.2.2.2.2.2.2⟩
      case measure=>simp[intOf];omega
  ·obtain rfl:k=xs.length:=by omega
   have PC:¬(xs.length:Int)<(xs.length:Int):=by omega
   have i8:=HO.out.2.2.1;rw[List.take_of_length_le (by rw[HL.out];exact sZ _),R8]at i8;have HRD:=r9 i8;clear i8 ir;go_wp2_with fail
   go_ret2
   unfold eC;rw[decide_eq_true HL.out,HRD.out];refine⟨_,_,_,rfl,HO.out.2.2.2.2.1,fun bs' _ h=>?_⟩;simp only[RK]at h;subst h;refine⟨HO.out.2.2.2.2.2.symm,?_⟩;rw[HO.out.2.2.2.2.2];exact HO.out.1.rep (fun i hi=>by have:=HO.out.2.2.2.1 i hi;omega) ((Rep.keep fun _ _ hf ho=>⟨hf.1,ho⟩).2 _ _ HO.out.2.1)
def jv (keep:Bool)(most:Nat)(s text:Bs)(xs:List Bs):Option (UInt8×List (Bs×Int)):=(kP s text).bind fun b=>
 if xs.length=(zD s).1.args.length then (kO (zD s).1.args xs).bind fun bs=>wV keep (most-1) [([113],-1)] b (vT [] 0 0 (zD s).1.args bs) 0 [] else U
def StartPost (keep:Bool)(most:Nat)(s text:Bs)(xs:List Bs)(w:World)(en:Ending)(w':World):Prop:=
 ∃ ra o ok,en=.returned (.tuple #[.pointer (some ⟨ra,0,none⟩),str o,.bool ok])/\Below w.heap.size w w'/\(jv keep most s text xs=none->ok=false) /\
   (∀c log,jv keep most s text xs=OK (c,log)->ok=true/\o=[c]/\∃mv pt,RS keep most ra log mv pt w'/\(∀i,MBk ra mv pt i->w.heap.size<=i))
theorem rep_empty {F:Nat->Prop}{w:World}{T:TypeId}{sz:Nat}(g c:Nat):Rep F w (.sl T sz 0 []) (.slice g 0 c):=by
 rw[zv];exact⟨by simp,_,c,rfl,R6 _,fun h=>by simp at h,.inl rfl⟩
theorem cA:∀(ts:List Ty) (xs:List Bs) (bs:List Bd),ts.length=xs.length->(∀t∈ts,zU t<=15)->kO ts xs=bs->uo bs
 |[],[],bs,_,_,h=>by simp[kO]at h;subst h;simp[uo]
 |[],x::xs,bs,hl,_,h=>by simp at hl
 |t::ts,[],bs,hl,_,h=>by simp at hl
 | t::ts,x::xs,bs,hl,ht,h=>by
   simp only[kO,Option.bind_eq_some_iff,RP]at h;obtain⟨b,h1,bs',h2,rfl⟩:=h;rw[uo];exact⟨(dE (ht t (by simp)) h1).1.wf,cA ts xs bs' (by simpa using hl) (fun a ha=>ht a (by simp[ha])) h2⟩
theorem hand_own {M:Nat->Prop}{B:Nat}{n0:Nat}{own:List SC}{w w':World}{a:Option Addr}{c:Nat}(hM:∀i,B<=i->¬M i)(_:B<=B)(hw:B<=w)(h:Rep (fun i=>(¬M i/\i<n0)\/(w:Nat)<=i) w' (.sl 147 9 (([]:List SC).length+own.length) (qR ([]++own))) (.slice a (([]:List SC).length+own.length) c)):Rep (fun i=>¬M i) w' (.sl 147 9 own.length (qR own)) (.slice a own.length c):=by
 rw[List.nil_append,Sq,SU]at h;exact(Rep.keep fun i o hi ho=>⟨by rcases hi with h|h;exact h.1;exact hM i (by omega),ho⟩).1 _ _ h
theorem but_drewN {m:Nat->Prop}{a b:World}(h:But m a b)(n:Nat):But m a (b.drewN n):=⟨h.os,h.tape,h.output,h.size,h.block⟩
theorem gopl_start {keep:Bool}{most:Nat}{s text:Bs}{xs:List Bs}{b:Bd}{bs:List Bd}(hg:Good (zD s).1 b)(hl:xs.length=(zD s).1.args.length)(hr:kO (zD s).1.args xs=bs)(h1:1<=most)(hR:jv keep most s text xs=wV keep (most-1) [([113],-1)] b (vT [] 0 0 (zD s).1.args bs) 0 []) :
 GoPl keep (jv keep most s text xs) most b (vT [] 0 0 (zD s).1.args bs) 0 [] [([113],-1)]/\bs.length=(zD s).1.args.length/\bs.length<=15:=by
 have Dk:=yJ _ _ _ hl.symm hr;have B_:∀x∈(zD s).1.args,zU x<=15:=fun x hx=>by have:=hg.atoms;have hm:=kI (zD s).1;have:=vI hx;omega
 obtain⟨NN,hna⟩:=xS _ _ _ hl.symm B_ hr;have az:=xv b _ hg.fit B_;have An:=cA _ _ _ hl.symm B_ hr;have As:=kW (zD s).1.args;have hm:=kI (zD s).1;have ha:=hg.atoms;have hl15:bs.length<=15:=by omega
 have hfh:qZ (kx (([]:List SC).map SC.kind) (zD s).1.args) bs:=by simpa[kx] using NN
 obtain⟨k1,k2⟩:=mT (env:=[]) (by rw[pY];trivial) 0 (zD s).1.args bs 0 hfh An;have lg:=xW [] 0 (zD s).1.args bs 0 (by omega);refine⟨⟨.inl ⟨by simp;omega,hR⟩,hg.wf,k1,by rw[k2];exact hg.fit,az,?_,by rw[lg];simp;omega,by simp,by simp,by simp,?_⟩,by omega,hl15⟩
 ·exact nA (n:=1) (m:=0) (env:=[]) (by rw[wT];trivial) (by simp) (by omega) _ _ 0 (by omega) hna
 ·intro i q p hi;rcases i with _|i
  ·simp at hi;obtain⟨rfl,rfl⟩:=hi;simp
  ·simp at hi
theorem l4Start_any (keep:Bool)(HM:rh keep)(HP:rj keep)(most:Nat)(s text:Bs)(xs:List Bs)(a:Option Addr)(c:Nat)(w:World)(hx:vw w a xs)(hs:Lim s.length)(ht:Lim text.length)(iG:∀x∈xs,Lim x.length)(oY:Lim xs.length)(h1:1<=most)(ly:most<=100000) :
 Calls RG 23 #[s,text,.slice a xs.length c,(most:Int),.bool keep] w (StartPost keep most s text xs w):=by
 have HX:=r9 (r_ hx (r_ iG (r_ oY (r_ HM HP))));clear hx iG oY HM HP;go_enter Tryz.func23,Tryz.ntmps23;go_wp2_with fail
 refine(xo s text hs ht w).mono ?_;rintro en w1 ⟨ta,tc,s',v',a2,n2,c2,a3,n3,c3,rfl,sX,tQ,tG⟩;have H1:=r9 (r_ sX (r_ tQ tG));clear sX tQ tG;cases hq:kP s text with
 | none =>
   have hR:jv keep most s text xs=U:=by unfold jv;rw[hq];rfl
   have HR:=r9 hR;clear hR hq;simp only[Sx];go_wp2_with fail
   go_ret3
   refine⟨_,[],RC,rfl,?_,fun _=>rfl,fun c log h=>by rw[HR.out]at h;simp at h⟩;(repeat' (first | with_reducible exact H1.out.1 | refine Below.alloc ?_ ?_ _))
   all_goals ((try simp only[zK]);have:=H1.out.1.size;omega)
 | some b =>
   have hg:=xt hq;have HQ:=r9 (r_ hq hg.1);clear hq hg;simp only[Sj];go_upto_region 5 with (fail)
   obtain⟨W,hW⟩:=zzN (((((w1.alloc (.cells #[.slice ta (zD s).1.args.length tc] 47)).alloc (.cells #[s',.int RD v',.slice a2 n2 c2,.slice a3 n3 c3] 53)).alloc (.cells #[] 9)).alloc (.cells #[] 3)).alloc (.cells #[.slice (w1+2:Nat) 0 0,.slice (w1+3:Nat) 0 0,.int RD 0,(most:Int),.bool keep,.bool RC] 100));have sF:No w1 W:=by
    rw[<- hW];exact(((((sQ _ _).alloc (sZ _) _).alloc (by simp) _).alloc (by simp;omega) _).alloc (by simp;omega) _).alloc (by simp;omega) _
   have iV:(W:Nat)=w1+5:=by rw[<- hW];simp
   have hWT:W.heap[(w1:Nat)]?=OK (.cells #[.slice ta (zD s).1.args.length tc] 47 (0,0)):=by
    rw[<- hW];exact zJ (zJ (zJ (zJ (zW _ _))))
   have hWN:W.heap[(w1:Nat)+1]?=OK (.cells #[s',.int RD v',.slice a2 n2 c2,.slice a3 n3 c3] 53 (0,0)):=by
    rw[<- hW];exact zJ (zJ (zJ (heap_new2 _ _ _)))
   have hWR:W.heap[(w1:Nat)+4]?=OK (.cells #[.slice (w1+2:Nat) 0 0,.slice (w1+3:Nat) 0 0,.int RD 0,(most:Int),.bool keep,.bool RC] 100 (0,0)):=by
    rw[<- hW];exact fV (by simp)
   have Pb:RS keep most ((w1:Nat)+4) [] (.slice (w1+2:Nat) 0 0) (.slice (w1+3:Nat) 0 0) W:=by
    refine⟨?_,⟨_,_,_,_,_,_,rfl,rfl⟩,fun _ _=>⟨?_,?_⟩,fun g hg=>?_⟩
    ·rw[hWR,decide_eq_false (by simp)];rfl
    ·rw[<- hW];exact(((Own.litAt #[] 0 ((w1:Nat)+2) (by simp) (by decide) rfl).alloc _).alloc _)
    ·rw[<- hW];exact((Own.litAt #[] 0 ((w1:Nat)+3) (by simp) (by decide) rfl).alloc _)
    ·simp[RM]at hg;omega
   have hxW:vw W a xs:=HX.out.1.below (zzT H1.out.1 sF)
   have tQ:Rep (fun i=>i<w1/\w<=i) W (ki (zD s).1) (.slice ta (zD s).1.args.length tc):=
    (Rep.keep fun i o hi ho=>⟨⟨zZ ho,hi⟩,by rw[sF.block i (zZ ho)];exact ho⟩).1 _ _ H1.out.2.1
   have t0:W w1=OK (.slice ta (zD s).1.args.length tc):=by simp[RE,hWT]
   rw[hW];have HW:=r9 (r_ sF (r_ iV (r_ hWT (r_ hWN (r_ Pb (r_ hxW tQ))))));clear sF iV hWT hWN hWR Pb hxW tQ hW;have CA:=r9 (l4Args_any _ (zD s).1 _ xs a c W HW.out.2.2.2.2.2.2 HQ.out.2.atoms HW.out.2.2.2.2.2.1 HX.out.2.1 HX.out.2.2.1);go_wp2_with fail
   refine CA.out.mono ?_;rintro en w2 ⟨la,ln,lc,rfl,sY,lE⟩;have HY:=r9 (r_ sY lE);clear sY lE;cases hv:(decide (xs.length=(zD s).1.args.length) && (kO (zD s).1.args xs).isSome) with
   | false =>
     have hR:jv keep most s text xs=U:=by
      unfold jv;rw[HQ.out.1];simp only[RF];by_cases hl:xs.length=(zD s).1.args.length
      ·rw[if_pos hl];rw[decide_eq_true hl,Bool.true_and]at hv;cases hr:kO (zD s).1.args xs with
       |none=>rfl
       |some y=>rw[hr]at hv;simp at hv
      ·rw[if_neg hl]
     have HR:=r9 hR;clear hR hv;go_wp2_with fail
     go_ret3
     refine⟨_,[],RC,rfl,?_,fun _=>rfl,fun c log h=>by rw[HR.out]at h;simp at h⟩;have h1:=zzT H1.out.1 HW.out.1;exact zzT h1 HY.out.1
   | true =>
     rw[Bool.and_eq_true,decide_eq_true_eq]at hv;obtain⟨hl,Dv⟩:=hv;obtain⟨bs,K7⟩:=Option.isSome_iff_exists.1 Dv;obtain⟨Mz,I8⟩:=HY.out.2 bs hl K7;subst Mz;have hR:jv keep most s text xs=wV keep (most-1) [([113],-1)] b (vT [] 0 0 (zD s).1.args bs) 0 []:=by
      unfold jv;rw[HQ.out.1];simp only[RF];rw[if_pos hl,K7];rfl
     have HR:=r9 (r_ hR (r_ hl (r_ K7 I8)));clear hR hl K7 I8 Dv;have FK:=HW.out.2.2.2.2.1.below HY.out.1;have CM:=r9 (HX.out.2.2.2.1 most ((w1:Nat)+4) [] _ _ [113] (-1) w2 FK (R6 _) ly (by simp));clear FK;go_wp2_with fail
     refine CM.out.mono ?_;rintro en w3 ⟨ai,ae,rfl,sE,lO,lu⟩;obtain⟨Aa,JU,K6⟩:=gopl_start (keep:=keep) (most:=most) HQ.out.2 HR.out.2.1 HR.out.2.2.1 h1 HR.out.1;have h1z:=HW.out.2.1;have iP:=HY.out.1.size;have lP:=sE.size;have hne:∀i,i<(w1:Nat)+2->¬MBk ((w1:Nat)+4) (.slice (w1+2:Nat) 0 0) (.slice (w1+3:Nat) 0 0) i:=by
      rintro i hi (h | h | h)
      ·omega
      all_goals
       simp[RM]at h;omega
     have key:∀(i:Nat) (o:Obj),i<w1+2->W.heap[i]?=OK o->w3.heap[i]?=OK o:=by
      intro i o hi ho;have h2:w2.heap[i]?=OK o:=by rw[HY.out.1.block i (zZ ho)];exact ho
      rw[sE.block i (zZ h2) (hne i hi)];exact h2
     have hT3:=key _ _ (by omega) HW.out.2.2.1;have QS:=key _ _ (by omega) HW.out.2.2.2.1;have lO:RS keep most ((w1:Nat)+1+1+1+1) [([113],-1)] ai ae w3:=lO;have PH:∀i,(w1:Nat)<=i\/i<(w1:Nat)->i<(w2:Nat)->¬((w1:Nat)+2<=i/\i<=(w1:Nat)+4)->¬MBk ((w1:Nat)+1+1+1+1) ai ae i:=by
      intro i _ hi hn h;rcases lu i h with h|h
      ·rcases h with h|h|h
       ·omega
       all_goals
        simp[RM]at h;omega
      ·omega
     have t0:w3 w1=OK (.slice ta (zD s).1.args.length tc):=by simp[RE,hT3]
     have n0:w3 (w1+1:Nat)=str s':=by simp[RE,QS]
     have n1:w3 ((w1:Nat)+1,1)=OK (.int RD v'):=by simp[RE,QS]
     have BP:w3 ((w1:Nat)+1,2)=OK (.slice a2 n2 c2):=by simp[RE,QS]
     have De:w3 ((w1:Nat)+1,3)=OK (.slice a3 n3 c3):=by simp[RE,QS]
     have KN:Rep (fun i=>¬MBk ((w1:Nat)+1+1+1+1) ai ae i/\i<w3) w3 (.sl 53 4 bs.length (zp bs)) (.slice la bs.length lc):=
      (Rep.keep fun i o hi ho=>by
       have hi:W<=i:=hi;have sC:=zZ ho
       exact ⟨⟨PH i (.inl (by omega)) sC (by omega),by omega⟩,by
        rw [sE.block i sC (by
         rintro(h | h | h)
         ·omega
         ·simp[RM]at h;omega
         ·simp [RM] at h;omega)]
        exact ho⟩).1 _ _ HR.out.2.2.2
     have old:∀(i:Nat) (o:Obj),i<w1->w1.heap[i]?=OK o->(¬MBk ((w1:Nat)+1+1+1+1) ai ae i/\i<w3)/\w3.heap[i]?=OK o:=by
      intro i o hi ho;have se:W.heap[i]?=OK o:=by rw[HW.out.1.block i hi];exact ho
      exact⟨⟨PH i (.inr hi) (by omega) (by omega),by omega⟩,key i o (by omega) se⟩
     have Kt:Rep (fun i=>¬MBk ((w1:Nat)+1+1+1+1) ai ae i/\i<w3) w3 (ki (zD s).1) (.slice ta (zD s).1.args.length tc):=
      (Rep.keep fun i o hi ho=>old i o (zZ ho) ho).1 _ _ H1.out.2.1
     have Ia:zY (fun i=>¬MBk ((w1:Nat)+1+1+1+1) ai ae i/\i<w3) w3 (kU b) [s',.int RD v',.slice a2 n2 c2,.slice a3 n3 c3]:=
      (Rep.keep fun i o hi ho=>old i o (zZ ho) ho).2 _ _ (H1.out.2.2 b HQ.out.1)
     obtain⟨_,_,_,_,_,he0,_⟩:=jA Ia;simp only[RY]at he0;obtain rfl:s'=z_ b:=str_inj he0.1
     have CH:Hid (∀ wz:World,Below w3 w3 wz->∀ g1 k1 g2 k2:Nat,Calls RG 50 #[.slice g1 0 k1,.slice la bs.length lc,.agg #[.slice ta (zD s).1.args.length tc],.slice g2 0 k2,.int .i64 0] wz (fL (fun i=>¬ MBk ((w1:Nat)+1+1+1+1) ai ae i/\i<w3) [] (vT [] 0 0 (zD s).1.args bs) wz)):=r9 (fun (wz:World) (hz:Below w3 w3 wz) (g1 k1 g2 k2:Nat)=>f_ (fun i=>¬ MBk ((w1:Nat)+1+1+1+1) ai ae i/\i<w3) [] [] bs (zD s).1 0 (.slice g1 0 k1) (.slice la bs.length lc) (.slice ta (zD s).1.args.length tc) (.slice g2 0 k2) wz
      (rep_empty g1 k1) (Rep.below hz (fun _ h=>h) KN) (Rep.below hz (fun _ h=>h) Kt) (rep_empty g2 k2) (by simp) JU (by omega))
     have CG:Hid (∀ wz:World,Below w3 w3 wz->∀ ev:Value,Rep (fun i=>¬ MBk ((w1:Nat)+1+1+1+1) ai ae i) wz (.sl 147 9 (vT [] 0 0 (zD s).1.args bs).length (qR (vT [] 0 0 (zD s).1.args bs))) ev->Calls RG 49 #[(w1+1+1+1+1:Nat),.agg #[str (z_ b),.int .i64 v',.slice a2 n2 c2,.slice a3 n3 c3],ev,.int .i64 0] wz (GoPost keep (jv keep most s text xs) most ((w1:Nat)+1+1+1+1) ai ae wz)):=r9 (fun (wz:World) (hz:Below w3 w3 wz) (ev:Value) (he:Rep (fun i=>¬ MBk ((w1:Nat)+1+1+1+1) ai ae i) wz (.sl 147 9 (vT [] 0 0 (zD s).1.args bs).length (qR (vT [] 0 0 (zD s).1.args bs))) ev) =>
      l4Go_any keep HX.out.2.2.2.1 HX.out.2.2.2.2 (jv keep most s text xs) most ((w1:Nat)+1+1+1+1) b (vT [] 0 0 (zD s).1.args bs) 0 [([113],-1)] ai ae v' a2 n2 c2 a3 n3 c3 ev wz (lO.below hz) Aa (zY.below hz (fun _ h=>h.1) Ia) he ly)
     have aX:∀wz:World,No w3 wz->wz w1=OK (.slice ta (zD s).1.args.length tc)/\wz (w1+1:Nat)=OK (str (z_ b))/\wz ((w1:Nat)+1,1)=OK (.int RD v')/\wz ((w1:Nat)+1,2)=OK (.slice a2 n2 c2)/\wz ((w1:Nat)+1,3)=OK (.slice a3 n3 c3):=
      fun wz hz=>⟨(hz.cell (p:=w1) (by simp only;omega)).trans t0,(hz.cell (p:=(w1+1:Nat)) (by simp only;omega)).trans n0,(hz.cell (p:=⟨w1+1,1,U⟩) (by simp only;omega)).trans n1,(hz.cell (p:=⟨w1+1,2,U⟩) (by simp only;omega)).trans BP,(hz.cell (p:=⟨w1+1,3,U⟩) (by simp only;omega)).trans De⟩
     have Ih:∀w5 w6:World,No w3 w5->But (MBk ((w1:Nat)+1+1+1+1) ai ae) w5 w6->w6 w1=OK (.slice ta (zD s).1.args.length tc)/\w6 (w1+1:Nat)=OK (str (z_ b))/\w6 ((w1:Nat)+1,1)=OK (.int RD v')/\w6 ((w1:Nat)+1,2)=OK (.slice a2 n2 c2)/\w6 ((w1:Nat)+1,3)=OK (.slice a3 n3 c3):=by
      intro w5 w6 h5 h6;obtain⟨k0,k1,k2,k3,k4⟩:=aX w5 h5;have m0:¬MBk ((w1:Nat)+1+1+1+1) ai ae w1:=PH _ (.inl (sZ _)) (by omega) (by omega);have m1:¬MBk ((w1:Nat)+1+1+1+1) ai ae ((w1:Nat)+1):=PH _ (.inl (by omega)) (by omega) (by omega);exact⟨qe h6 k0 m0,qe h6 k1 m1,qe h6 k2 m1,qe h6 k3 m1,qe h6 k4 m1⟩
     have tg:∀i,(w3:Nat)<=i->¬MBk ((w1:Nat)+1+1+1+1) ai ae i:=fun i hi h=>by have:=lO.lt h;omega
     have K1:=r9 aX;have K2:=r9 Ih;have HN:=r9 (r_ tg (r_ JU K6));have lg:=xW [] 0 (zD s).1.args bs 0 JU.symm;have Ob:=r9 lg;have B0:No w3 ((w3.alloc (.cells #[] 147)).alloc (.cells #[] 147)).drew:=(((sQ _ _).alloc (sZ _) _).alloc (by rw[zK];omega) _).drew;have I9:∀i,MBk ((w1:Nat)+1+1+1+1) ai ae i->(w:Nat)<=i:=by
      intro i h;have lU:=H1.out.1.size;rcases lu i h with h|h
      ·rcases h with h|h|h
       ·omega
       all_goals
        simp[RM]at h;omega
      ·omega
     have A3:No w w3:=by
      have lU:=H1.out.1.size;have h1:=H1.out.1.trans (HW.out.1.mono lU);refine(zzT h1 HY.out.1).trans (sE.toBelow (by omega) fun i hi h=>hne i (by omega) h)
     have HE:=r9 (r_ I9 A3);clear I9 A3;have H3:=r9 (r_ sE (r_ lO (r_ lu (r_ Aa B0))));clear aX Ih tg JU K6 lg Aa sE lO lu KN Kt Ia old key hT3 QS PH hne B0 he0;go_wp2_with fail
     go_region_held3 (fun wz=>wz w1=OK (.slice ta (zD s).1.args.length tc)/\wz (w1+1:Nat)=OK (str (z_ b))/\wz ((w1:Nat)+1,1)=OK (.int RD v')/\wz ((w1:Nat)+1,2)=OK (.slice a2 n2 c2)/\wz ((w1:Nat)+1,3)=OK (.slice a3 n3 c3))
      (first
       |with_reducible exact k6
       |with_reducible exact k4
       |with_reducible exact⟨t0,n0,n1,BP,De⟩
       | go_keep)
      (first
       |(go_at_call 49;(with_reducible refine(CG.out w4 b4 _ he4).mono ?_);rintro en w6 ⟨mv6,pt6,log6,o6,rfl,sM,iU,oL,h6n,h6s⟩;have k6:=K2.out w4 w6 b4 sM;have HF:=r9 (r_ b4 (r_ sM (r_ iU (r_ oL (r_ h6n h6s)))));clear sM iU oL h6n h6s)
       | (go_at_call 50;(with_reducible refine (CH.out _ H3.out.2.2.2.2 _ _ _ _).mono ?_);rintro en w4 ⟨a4,c4,rfl,sO,FQ⟩;have b4:=zzT H3.out.2.2.2.2 sO;have k4:=K1.out w4 b4;have he4:=hand_own HN.out.1 (sZ _) H3.out.2.2.2.2.size FQ;clear sO FQ))
     all_goals
      have Cg:=HF.out.2.2.1.bad;go_wp2_with fail
      go_quiet (fail);go_wp2_with fail
      go_ret3
      refine⟨_,o6,_,rfl,?_,fun h=>?_,fun c log h=>?_⟩
      ·have h4:=zzT HE.out.2 HF.out.1;exact h4.trans ((but_drewN HF.out.2.1 _).toBelow h4.size fun i hi h=>by have:=HE.out.1 i h;omega)
      ·have:=HF.out.2.2.2.2.1 h;simpa using this
      ·obtain⟨e1,rfl,e3⟩:=HF.out.2.2.2.2.2 c log h;refine⟨by simpa using e3,e1,mv6,pt6,HF.out.2.2.1.but (m:=fun _=>False) (but_drewN (But.refl _ _) _) (fun _ _ h=>h),fun i hi=>?_⟩;rcases HF.out.2.2.2.1 i hi with h|h
       ·exact HE.out.1 i h
       ·have:=HF.out.1.size;have:=HE.out.2.size;omega
def Sized (left:Nat)(xs:List Bs)(w:World)(en:Ending)(w':World):Prop:=
 w'=w/\(en=.returned (.int RD (-1))\/∃r:Nat,en=.returned (.int RD (r:Nat))/\xs.length<=left/\∀s∈xs,s.length<=left)
theorem szStringS_any (left:Nat)(a:Option Addr)(c:Nat)(xs:List Bs)(w:World)(h:vw w a xs)(hl:left<=16777216)(hx:xs.length<=9223372036854775807)(hs:∀s∈xs,s.length<=9223372036854775807) :
 Calls RG 4 #[.slice a xs.length c,(left:Int)] w (Sized left xs w):=by
 have H:=r9 h;have HS:=r9 hs;clear h hs;by_cases h0:left<xs.length
 ·have h1:(left:Int)-(xs.length:Int)<0:=by omega
  go_enter XB,Xr;go_wp2_with fail
  go_ret;exact⟨rfl,.inl rfl⟩
 have h1:¬(left:Int)-(xs.length:Int)<0:=by omega
 have oY:xs.length<=16777216:=by omega
 go_enter XB,Xr;go_wp2_with fail
 go_loopw [1,5] (fun l i wr=>∃k r:Nat,k<=xs.length/\i=.int RD k/\l=.int RD (r:Nat)/\r<=left/\(∀s∈xs.take k,s.length<=left)/\wr=w) (fun _ i _=>xs.length-(intOf i).toNat)
 case atStart=>exact⟨0,left-xs.length,R6 _,rfl,by go_num,by omega,by simp,rfl⟩
 case round=>
  obtain⟨k,r,hk,rfl,rfl,hr,ah,rfl⟩:=hrel;have HA:=r9 ah;clear ah;by_cases sC:k<xs.length
  ·obtain⟨s,Bv⟩:∃s,xs[k]?=OK s:=⟨xs[k],by simp[sC]⟩;obtain⟨b,o,e,hc⟩:=H.out k s Bv;subst e;have O7:=HS.out s (RX Bv);have HK:=r9 Bv;clear Bv;have tB:(k:Int)<(xs.length:Int):=by omega
   by_cases PE:r<s.length
   ·have PD:(r:Int)-(s.length:Int)<0:=by omega
    go_wp2_with fail
    go_ret;exact⟨rfl,.inl rfl⟩
   ·have PD:¬(r:Int)-(s.length:Int)<0:=by omega
    have tt:s.length<=16777216:=by omega
    have HA2:Hid (∀x∈xs.take (k+1),x.length<=left):=by
     show ∀x∈xs.take (k+1),x.length<=left;intro x hx;rw[Sd,HK.out]at hx;rcases List.mem_append.1 hx with hx|hx
     ·exact HA.out x hx
     ·simp at hx;subst hx;omega
    go_wp2_with fail
    go_roundw
    case rel=>exact⟨k+1,r-s.length,by omega,by go_num,by go_num,by omega,HA2.out,trivial⟩
    case measure=>simp[intOf];omega
  ·obtain rfl:k=xs.length:=by omega
   go_wp2_with fail
   go_ret;exact⟨rfl,.inr ⟨r,rfl,by omega,by have:=HA.out;rwa [R8]at this⟩⟩
theorem eqStringS_any (a a':Option Addr)(c c':Nat)(xs:List Bs)(w:World)(h:vw w a xs)(h':vw w a' xs)(hx:xs.length<=16777216) :
 Calls RG 8 #[.slice a xs.length c,.slice a' xs.length c'] w fun en w'=>en=.returned (.bool true)/\No w w':=by
 have H:=r9 h;have H':=r9 h';clear h h';go_enter Tryz.func8,Tryz.ntmps8;go_wp2_with fail
 go_loopw [5] (fun i wr=>∃k:Nat,k<=xs.length/\i=.int RD k/\No w wr) (fun i _=>xs.length-(intOf i).toNat)
 case atStart=>exact⟨0,R6 _,rfl,sQ _ _⟩
 case round=>
  obtain⟨k,hk,rfl,hb⟩:=hrel;by_cases sC:k<xs.length
  ·obtain⟨s,Bv⟩:∃s,xs[k]?=OK s:=⟨xs[k],by simp[sC]⟩;obtain⟨b,o,e,hc⟩:=H.out.below hb k s Bv;obtain⟨b2,o2,e2,oI⟩:=H'.out.below hb k s Bv;subst e;subst e2;clear Bv;have tB:(k:Int)<(xs.length:Int):=by omega
   have hne:(s == s)=true:=by simp
   have HB:=r9 hb;clear hb;go_wp2_with fail
   go_quiet (fail);go_wp2_with fail
   go_roundw
   case rel=>exact⟨k+1,by omega,by go_num,jK HB.out _⟩
   case measure=>simp[intOf];omega
  ·obtain rfl:k=xs.length:=by omega
   go_wp2_with fail
   go_ret;exact⟨rfl,hb⟩
def Made (g:Nat)(xs:List Bs)(k:Nat)(w:World):Prop:=
 ∃Y:Array Value,w.heap[g]?=OK (.cells Y 9 (0,0))/\Y.size=xs.length/\∀(j:Nat) (s:Bs),j<k->xs[j]?=OK s->Y[j]?=str s
theorem Made.cell {g:Nat}{xs:List Bs}{k:Nat}{w:World}(h:Made g xs k w)(hk:k<xs.length):(∃u,w (g,k)=OK u)/\w.frozen? (g,k)=RC:=by
 obtain⟨Y,hY,hs,_⟩:=h;exact⟨⟨Y[k]'(by omega),by simp[RE,hY,show k<Y.size by omega]⟩,by simp[RO,hY]⟩
theorem Made.put {g:Nat}{xs:List Bs}{k:Nat}{w:World}(h:Made g xs k w){s:Bs}(hk:xs[k]?=OK s):Made g xs (k+1) (w.setCell (g,k) (str s)):=by
 obtain⟨Y,hY,hs,hj⟩:=h;refine⟨Y.setIfInBounds k (str s),zT hY,by simp[hs],fun j s' hj' lw=>?_⟩;have sC:=(RR.1 hk).1;rcases Nat.lt_or_ge j k with h|h
 ·rw[Array.getElem?_setIfInBounds_ne (by omega)];exact hj j s' h lw
 ·obtain rfl:j=k:=by omega
  rw[hk]at lw;simp at lw;subst lw;rw[Array.getElem?_setIfInBounds_self_of_lt (by omega)]
theorem wR (a:Option Addr)(c:Nat)(xs:List Bs)(w:World)(h:vw w a xs)(hx:xs.length<=16777216) :
 Calls RG 6 #[.slice a xs.length c] w fun en w'=>∃a' c',en=.returned (.slice a' xs.length c')/\vw w' a' xs/\No w w':=by
 have H:=r9 h;clear h;obtain⟨X,hX,hmk⟩:∃X:Array Value,X.size=xs.length/\(Instr.makeSlice 22 (.int RD (xs.length:Int)) (.int RD (xs.length:Int))).run RG w=.ok (.slice w xs.length xs.length) (w.alloc (.cells X 9)):=by
  obtain⟨i,hi,hz,iO,aI⟩:=info_parts Tryz.infoStr;have hr:=run_makeSlice (P:=RG) w 22 9 i _ Tryz.underlying22 hi hz .i64 .i64 (xs.length:Int) (xs.length:Int) (by omega) (by omega) (by rw[iO];simp;omega) (by rw[aI];omega) (by omega);simp only[Int.toNat_natCast]at hr;exact⟨_,by rw[size_madeCells,iO,Nat.mul_one],hr⟩
 have HX:=r9 hX;clear hX;go_enter Tryz.func6,Tryz.ntmps6;go_wp2_with fail
 go_loopw [4] (fun i wr=>∃k:Nat,k<=xs.length/\i=.int RD k/\No w wr/\Made w xs k wr) (fun i _=>xs.length-(intOf i).toNat)
 case atStart=>exact⟨0,R6 _,rfl,(sQ _ _).alloc (sZ _) _,X,zW _ _,HX.out,fun j s h=>by omega⟩
 case round=>
  clear hmk;obtain⟨k,hk,rfl,hb,hm⟩:=hrel;by_cases sC:k<xs.length
  ·obtain⟨s,Bv⟩:∃s,xs[k]?=OK s:=⟨xs[k],by simp[sC]⟩;obtain⟨b,o,e,hc⟩:=H.out.below hb k s Bv;subst e;obtain⟨⟨u,hu⟩,hf⟩:=hm.cell sC;have HP:=r9 (hm.put Bv);have HB:=r9 hb;clear Bv hm hb;have tB:(k:Int)<(xs.length:Int):=by omega
   go_wp2_with fail
   go_roundw
   case rel=>exact⟨k+1,by omega,by go_num,HB.out.setCell (p:=(w,k)) (sZ _) _,HP.out⟩
   case measure=>simp[intOf];omega
  ·obtain rfl:k=xs.length:=by omega
   go_wp2_with fail
   go_ret;refine⟨_,_,rfl,fun j s hs=>?_,hb⟩;obtain⟨Y,hY,tV,hj⟩:=hm;refine⟨_,0,rfl,?_⟩;rw[SU];simp only[RE,hY];simpa using hj j s (RR.1 hs).1 hs
def dC {α:Type}:Option (UInt8×α)->Bs×Bool
 |none=>([],RC)
 |some x=>([x.1],true)
theorem run_eq (keep:Bool)(most:Nat)(s text:Bs)(xs:List Bs):(jM most s text xs=U->jv keep most s text xs=U)/\∀c log,jM most s text xs=OK (c,log)->∃log',jv keep most s text xs=OK (c,log')/\(keep=true->log'=log):=by
 unfold jM jv;rw[rdTS_eq];cases hq:kP s text with
 |none=>exact⟨fun _=>rfl,fun c log h=>by simp at h⟩
 | some b =>
   have hg:=(xt hq).1;simp only[Option.map_some,RF];by_cases hl:xs.length=(zD s).1.args.length
   ·rw[if_pos hl,if_pos hl.symm];cases hr:kO (zD s).1.args xs with
    |none=>exact⟨fun _=>rfl,fun c log h=>by simp at h⟩
    | some bs =>
      simp only[RF];have B_:∀x∈(zD s).1.args,zU x<=15:=fun x hx=>by have:=hg.atoms;have hm:=kI (zD s).1;have:=vI hx;omega
      have Dk:=yJ _ _ _ hl.symm hr;obtain⟨NN,_⟩:=xS _ _ _ hl.symm B_ hr;have An:=cA _ _ _ hl.symm B_ hr;have hfh:qZ (kx (([]:List SC).map SC.kind) (zD s).1.args) bs:=by simpa[kx] using NN
      obtain⟨k1,k2⟩:=mT (env:=[]) (by rw[pY];trivial) 0 (zD s).1.args bs 0 hfh An;have iS:uD keep [([113],(-1:Int))] [] []:=by rw[uD]
      have FI:=ez (keep:=keep) (log:=[([113],(-1:Int))]) iS (m:=0) (path:=[]) (q:=[113]) (p:=-1) (fun _=>⟨rfl,rfl⟩) (zD s).1.args bs 0 (by omega);have hh:=run_same keep (most-1) [([113],-1)] b (vT [] 0 0 (zD s).1.args bs) 0 [] (qW [] 0 [] 0 bs) [] [] hg.wf k1 (by rw[k2];exact hg.fit) (by simp) FI rfl (fun _=>⟨[113],-1,rfl,rfl⟩);unfold ex;constructor
      ·intro h;rw[Option.map_eq_none_iff]at h;exact hh.1 h
      ·intro c log h;rw[RP]at h;obtain⟨⟨c',ms⟩,h1,h2⟩:=h;simp only[Prod.mk.injEq]at h2;obtain⟨rfl,rfl⟩:=h2;exact hh.2 _ _ h1
   ·rw[if_neg hl,if_neg (fun h=>hl h.symm)];exact⟨fun _=>rfl,fun c log h=>by simp at h⟩
theorem res_same (keep:Bool)(most:Nat)(s text:Bs)(xs:List Bs):dC (jv keep most s text xs)=dC (jM most s text xs):=by
 obtain⟨h1,h2⟩:=run_eq keep most s text xs;cases h:jM most s text xs with
 |none=>rw[h1 h]
 | some x =>
   obtain⟨log',h3,_⟩:=h2 x.1 x.2 h;rw[h3];rfl
theorem dW (s text:Bs)(xs:List Bs)(a:Option Addr)(c:Nat)(w:World)(hx:vw w a xs)(hs:Lim s.length)(ht:Lim text.length)(iG:∀x∈xs,Lim x.length)(oY:Lim xs.length) :
 Calls RG 12 #[s,text,.slice a xs.length c] w fun en w'=>en=.returned (.tuple #[str (dC (jv RC 5000 s text xs)).1,.bool (dC (jv RC 5000 s text xs)).2])/\No w w':=by
 have C:=r9 (l4Start_any RC make_none path_none 5000 s text xs a c w hx hs ht iG oY (by omega) (by omega));clear hx iG oY;generalize hR:jv RC 5000 s text xs=R at *;go_enter Tryz.func12,Tryz.ntmps12;go_wp2_with fail
 refine C.out.mono ?_;rintro en w1 ⟨ra,o,ok,rfl,hb,hn,hy⟩;rw[hR]at hn hy;clear C hR;cases R with
 | none =>
   obtain rfl:=hn rfl;have HB:=r9 hb;clear hn hy hb;go_wp2_with fail
   go_ret2
   exact⟨rfl,HB.out⟩
 | some x =>
   obtain⟨rfl,rfl,_⟩:=hy x.1 x.2 rfl;have HB:=r9 hb;clear hn hy hb;go_wp2_with fail
   go_ret2
   exact⟨rfl,HB.out⟩
theorem dg (s text:Bs)(xs:List Bs)(a:Option Addr)(c:Nat)(w:World)(hg:uC w)(MH:yE w)(hx:vw w a xs)(hs:Lim s.length)(ht:Lim text.length)(iG:∀x∈xs,Lim x.length)(oY:Lim xs.length) :
 Calls RG 16 #[s,text,.slice a xs.length c] w fun en w'=>en=.returned (.tuple #[str (dC (jM 5000 s text xs)).1,.bool (dC (jM 5000 s text xs)).2])/\No w w':=by
 have C:=r9 (runOf_any RC 5000 s text xs a c w hg MH hx hs ht iG oY (by omega) (by omega));clear hx iG oY;generalize hR:jM 5000 s text xs=R at *;go_enter Tryz.func16,Tryz.ntmps16;go_wp2_with fail
 refine C.out.mono ?_;rintro en w1 ⟨hb,hn,hy⟩;rw[hR]at hn hy;clear C hR;cases R with
 | none =>
   obtain rfl:=hn rfl;have HB:=r9 hb;clear hn hy hb;go_wp2_with fail
   go_ret2
   refine⟨rfl,?_⟩;have h:=HB.out.size;exact Below.alloc HB.out h _
 | some x =>
   obtain⟨ma,ka,n,k,ka',n',k',rfl,_⟩:=hy x.1 x.2 rfl;have HB:=r9 hb;clear hn hy hb;go_wp2_with fail
   go_ret2
   refine⟨rfl,?_⟩;have h:=HB.out.size;exact Below.alloc HB.out h _
def StrSl (w:World)(rd:Nat)(l:Value)(xs:List Bs):Prop:=
 ∃b o c,l=.slice (OK ⟨b,o,U⟩) xs.length c/\b≠rd/\∀(k:Nat) (s:Bs),xs[k]?=OK s->w.cell? (b,o+k)=str s
theorem StrSl.new {w:World}{rd:Nat}(i8:rd<w)(xs:List Bs)(n:Nat)(hn:n=xs.length)(e:TypeId):StrSl (w.alloc (.cells (xs.map str).toArray e)) rd (.slice w n n) xs:=by
 subst hn;refine⟨w,0,_,rfl,by omega,fun k s hs=>?_⟩;rw[SU];simp only[RE,zW];simp[hs]
structure NodeD (w:World)(rd ob Z:Nat)(v:Int)(wr:World)(pk py:List Bd)(kv yv:List Value)(ks:Value)(nk:Nat)(ys:Value)(ny:Nat):Prop where
 hnk:nk=pk.length
 hny:ny=py.length
 ksl:∃a c,ks=.slice a nk c
 ysl:∃a c,ys=.slice a ny c
 but:But (· = rd) w wr
 res:z9 w 0 () () wr
 out:z9 ob v ks ys wr
 ownK:Own wr 53 4 ks nk kv
 ownY:Own wr 53 4 ys ny yv
 blkK:∀g,ks.ownBlock=OK g->Z<=g/\ys.ownBlock≠OK g
 blkY:∀g,ys.ownBlock=OK g->Z<=g
 repK:zY (fun b=>Z<=b/\ks.ownBlock≠OK b/\ys.ownBlock≠OK b) wr (zp pk) kv
 repY:zY (fun b=>Z<=b/\ks.ownBlock≠OK b/\ys.ownBlock≠OK b) wr (zp py) yv
 z:Z<=wr
theorem NodeD.kid {w:World}{rd ob Z:Nat}{v:Int}{wr:World}{pk py:List Bd}{kv yv:List Value}{ks ys:Value}{nk ny:Nat}(h:NodeD w rd ob Z v wr pk py kv yv ks nk ys ny)(i8:rd<w)(Hw:ob<Z)(hwo:w<ob){W w7:World}{b:Bd}{cs:List Value}{a':Option Addr}{c':Nat}(sM:But (· = rd) wr W)(aP:zY (wr<=·) W (kU b) cs)(si:Own w7 53 4 (.slice a' (nk+1) c') (nk+1) (kv++cs))(sH:But (fun i=>ks.ownBlock=OK i) W w7)(sS:∀g,(RI a' (nk+1) c').ownBlock=OK g->ks.ownBlock=OK g\/g=(W:Nat)) :
 NodeD w rd ob Z v (w7.setCell (ob,2) (.slice a' (nk+1) c')) (pk++[b]) py (kv++cs) yv (.slice a' (nk+1) c') (nk+1) ys ny:=by
 have z6:=sM.size;have z7:=sH.size;have zr:=h.z;have zb:=h.but.size;have keep:∀i x,wr.heap[i]?=OK x->ks.ownBlock≠OK i->i≠ob->i≠rd->(w7.setCell (ob,2) (.slice a' (nk+1) c')).heap[i]?=OK x:=by
  intro i x hx h1 h2 h3;have:=zZ hx;rw[sJ _ _ _ _ (by simpa using h2),sH.block i (by omega) h1,sM.block i this h3];exact hx
 have iW:∀i x,W.heap[i]?=OK x->ks.ownBlock≠OK i->i≠ob->(w7.setCell (ob,2) (.slice a' (nk+1) c')).heap[i]?=OK x:=by
  intro i x hx h1 h2;have:=zZ hx;rw[sJ _ _ _ _ (by simpa using h2),sH.block i (by omega) h1];exact hx
 have ltK:∀g,ks.ownBlock=OK g->g<(wr:Nat):=fun g hg=>h.ownK.lt hg;have ltY:∀g,ys.ownBlock=OK g->g<(wr:Nat):=fun g hg=>h.ownY.lt hg;have nK:∀i,i<Z->ks.ownBlock≠OK i:=fun i hi e=>by have:=(h.blkK i e).1;omega
 have newg:∀g,(RI a' (nk+1) c').ownBlock=OK g->Z<=g:=fun g hg=>by
  rcases sS g hg with e|e
  ·exact(h.blkK g e).1
  ·omega
 refine⟨by simp[h.hnk],h.hny,⟨_,_,rfl⟩,h.ysl,?_,?_,?_,?_,?_,?_,h.blkY,?_,?_,by simp[Ts];omega⟩
 ·refine But.setCell ?_ (.inr (show w<=ob by omega)) _;exact(h.but.trans sM).trans' sH (fun i hi e=>absurd e (nK i (by omega)))
 ·exact keep _ _ h.res (nK _ (by omega)) (by omega) (by omega)
 ·have h1:z9 ob v ks ys w7:=by
   unfold z9;rw[sH.block ob (by omega) (nK _ Hw),sM.block ob (by omega) (show ¬ob=rd by omega)];exact h.out
  exact h1.put2
 ·exact si.keep fun g o hg ho=>by rw[sJ _ _ _ _ (by have:=newg g hg;simp;omega)];exact ho
 ·exact h.ownY.keep fun g o hg ho=>keep g o ho (fun e=>(h.blkK g e).2 hg) (by have:=h.blkY g hg;omega) (by have:=h.blkY g hg;omega)
 ·intro g hg;refine⟨newg g hg,fun e=>?_⟩;rcases sS g hg with e'|e'
  ·exact(h.blkK g e').2 e
  ·have:=ltY g e;omega
 ·rw[qG];have h1:=h.repK;refine zY.append ((Rep.keep fun i x hi hx=>⟨⟨hi.1,fun e=>(sS i e).elim (fun e'=>hi.2.1 e') (fun e'=>by have:=zZ hx;omega),hi.2.2⟩,keep i x hx hi.2.1 (by have:=hi.1;omega) (by have:=hi.1;omega)⟩).2 _ _ h1) ?_
  ·have e1:zp [b]=kU b:=by simp[zp]
   rw[e1];refine(Rep.keep fun i x hi hx=>?_).2 _ _ aP;have h2:=zZ hx;have h3:wr<=i:=hi;refine⟨⟨by omega,fun e=>?_,fun e=>by have:=ltY i e;omega⟩,iW i x hx (fun e=>by have:=ltK i e;omega) (by omega)⟩;rcases sS i e with e'|e'
   ·have:=ltK i e';omega
   ·omega
 ·exact(Rep.keep fun i x hi hx=>⟨⟨hi.1,fun e=>(sS i e).elim (fun e'=>hi.2.1 e') (fun e'=>by have:=zZ hx;omega),hi.2.2⟩,keep i x hx hi.2.1 (by have:=hi.1;omega) (by have:=hi.1;omega)⟩).2 _ _ h.repY
theorem NodeD.yes {w:World}{rd ob Z:Nat}{v:Int}{wr:World}{pk py:List Bd}{kv yv:List Value}{ks ys:Value}{nk ny:Nat}(h:NodeD w rd ob Z v wr pk py kv yv ks nk ys ny)(i8:rd<w)(Hw:ob<Z)(hwo:w<ob){W w7:World}{b:Bd}{cs:List Value}{a':Option Addr}{c':Nat}(sM:But (· = rd) wr W)(aP:zY (wr<=·) W (kU b) cs)(si:Own w7 53 4 (.slice a' (ny+1) c') (ny+1) (yv++cs))(sH:But (fun i=>ys.ownBlock=OK i) W w7)(sS:∀g,(RI a' (ny+1) c').ownBlock=OK g->ys.ownBlock=OK g\/g=(W:Nat)) :
 NodeD w rd ob Z v (w7.setCell (ob,3) (.slice a' (ny+1) c')) pk (py++[b]) kv (yv++cs) ks nk (.slice a' (ny+1) c') (ny+1):=by
 have z6:=sM.size;have z7:=sH.size;have zr:=h.z;have zb:=h.but.size;have keep:∀i x,wr.heap[i]?=OK x->ys.ownBlock≠OK i->i≠ob->i≠rd->(w7.setCell (ob,3) (.slice a' (ny+1) c')).heap[i]?=OK x:=by
  intro i x hx h1 h2 h3;have:=zZ hx;rw[sJ _ _ _ _ (by simpa using h2),sH.block i (by omega) h1,sM.block i this h3];exact hx
 have iW:∀i x,W.heap[i]?=OK x->ys.ownBlock≠OK i->i≠ob->(w7.setCell (ob,3) (.slice a' (ny+1) c')).heap[i]?=OK x:=by
  intro i x hx h1 h2;have:=zZ hx;rw[sJ _ _ _ _ (by simpa using h2),sH.block i (by omega) h1];exact hx
 have ltK:∀g,ks.ownBlock=OK g->g<(wr:Nat):=fun g hg=>h.ownK.lt hg;have ltY:∀g,ys.ownBlock=OK g->g<(wr:Nat):=fun g hg=>h.ownY.lt hg;have nY:∀i,i<Z->ys.ownBlock≠OK i:=fun i hi e=>by have:=h.blkY i e;omega
 have newg:∀g,(RI a' (ny+1) c').ownBlock=OK g->Z<=g:=fun g hg=>by
  rcases sS g hg with e|e
  ·exact h.blkY g e
  ·omega
 refine⟨h.hnk,by simp[h.hny],h.ksl,⟨_,_,rfl⟩,?_,?_,?_,?_,?_,?_,newg,?_,?_,by simp[Ts];omega⟩
 ·refine But.setCell ?_ (.inr (show w<=ob by omega)) _;exact(h.but.trans sM).trans' sH (fun i hi e=>absurd e (nY i (by omega)))
 ·exact keep _ _ h.res (nY _ (by omega)) (by omega) (by omega)
 ·have h1:z9 ob v ks ys w7:=by
   unfold z9;rw[sH.block ob (by omega) (nY _ Hw),sM.block ob (by omega) (show ¬ob=rd by omega)];exact h.out
  exact h1.put3
 ·exact h.ownK.keep fun g o hg ho=>keep g o ho (h.blkK g hg).2 (by have:=(h.blkK g hg).1;omega) (by have:=(h.blkK g hg).1;omega)
 ·exact si.keep fun g o hg ho=>by rw[sJ _ _ _ _ (by have:=newg g hg;simp;omega)];exact ho
 ·intro g hg;refine⟨(h.blkK g hg).1,fun e=>?_⟩;rcases sS g e with e'|e'
  ·exact(h.blkK g hg).2 e'
  ·have:=ltK g hg;omega
 ·exact(Rep.keep fun i x hi hx=>⟨⟨hi.1,hi.2.1,fun e=>(sS i e).elim (fun e'=>hi.2.2 e') (fun e'=>by have:=zZ hx;omega)⟩,keep i x hx hi.2.2 (by have:=hi.1;omega) (by have:=hi.1;omega)⟩).2 _ _ h.repK
 ·rw[qG];refine zY.append ((Rep.keep fun i x hi hx=>⟨⟨hi.1,hi.2.1,fun e=>(sS i e).elim (fun e'=>hi.2.2 e') (fun e'=>by have:=zZ hx;omega)⟩,keep i x hx hi.2.2 (by have:=hi.1;omega) (by have:=hi.1;omega)⟩).2 _ _ h.repY) ?_
  ·have e1:zp [b]=kU b:=by simp[zp]
   rw[e1];refine(Rep.keep fun i x hi hx=>?_).2 _ _ aP;have h2:=zZ hx;have h3:wr<=i:=hi;refine⟨⟨by omega,fun e=>by have:=ltK i e;omega,fun e=>?_⟩,iW i x hx (fun e=>by have:=ltY i e;omega) (by omega)⟩;rcases sS i e with e'|e'
   ·have:=ltY i e';omega
   ·omega
def bnd:Nat->Nat
 |0=>1
 |d+1=>1+17*bnd d
theorem sub_le {z:Int}{p d:Nat}(h2:z<=((d+1:Nat):Int)):z-1-(p:Int)<=d:=by omega
def Row8 (w:World)(a:Option Addr)(len cap:Nat)(zs:List Int):Prop:=
 (a=U/\len=0/\cap=0/\zs=[]) \/
 ∃x,a=OK x/\len<=cap/\cap<=maxLen/\zs.length=cap/\(∀i,i<zs.length->w.cell? (x.add i)=OK (.int .u8 (zs.getD i 0)))/\∀n∈zs,(Lit.int .u8 n).wf=true
theorem Row8.le {w:World}{a:Option Addr}{len cap:Nat}{zs:List Int}(h:Row8 w a len cap zs):len<=cap:=by
 rcases h with ⟨_,rfl,rfl,_⟩|⟨x,_,h,_⟩
 ·exact sZ _
 ·exact h
theorem Row8.bytes {w:World}{a:Option Addr}{len cap:Nat}{zs:List Int}(h:Row8 w a len cap zs)(n:Nat)(hn:n<=len) :
 n=0\/∃b o,a=OK ⟨b,o,U⟩/\b<(w:Nat)/\∀k,k<n->∃x:Nat,x<256/\w.cell? ⟨b,o+k,U⟩=OK (.int .u8 x):=by
 rcases Nat.eq_zero_or_pos n with h0|h0
 ·exact .inl h0
 right;rcases h with ⟨_,rfl,_,_⟩|⟨x,rfl,hl,_,hz,hc,hw⟩
 ·omega
 obtain⟨b,o,sp⟩:=x;have h1:=hc 0 (by omega);have NA:sp=U:=by
  cases sp with
  |none=>rfl
  |some q=>simp[RE,Addr.add]at h1;split at h1 <;> simp_all
 subst NA;have AO:∀i,(⟨b,o,U⟩:Addr).add i=⟨b,o+i,U⟩:=fun i=>by
  unfold Addr.add;split <;> simp_all
 have h2:=sK w _ h1;refine⟨b,o,rfl,by rw[AO]at h2;exact h2,fun k hk=>?_⟩;have hkz:k<zs.length:=by omega
 have h3:=hc k hkz;rw[AO]at h3;have hm:zs.getD k 0∈zs:=by
  rw[List.getD_eq_getElem?_getD,List.getElem?_eq_getElem hkz];exact List.getElem_mem hkz
 have An:=hw _ hm;clear hm;generalize zs.getD k 0=z at *;have hb:0<=z/\z<256:=by
  simp[Lit.wf,IntKind.min,IntKind.max,IntKind.bits,IntKind.signed]at An;omega
 refine⟨z.toNat,by omega,?_⟩;rw[h3,Int.toNat_of_nonneg hb.1]
end Go.Proofs.YtnfenijemllkbaaGreatDoor

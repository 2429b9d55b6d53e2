/- Walks. -/
import Derived.Test.YtnfenijemllkbaaGreatDoorQ15
set_option linter.unusedVariables false
set_option linter.unusedSimpArgs false
set_option maxHeartbeats 4000000
set_option maxRecDepth 100000
open Option renaming none->U
open Option renaming some->OK
open Bool renaming false->RC
open Go.IntKind renaming i64->RD
open Go.Proofs.Tryz renaming func48->Xp,ntmps48->WS,prog->RG,results31->TY,underlying105->Sp,underlying173->VY
open Go.Value renaming oneCell'->R4,ownBlock->RM,slice->RI
open Go.Value.slice renaming injEq->RT
open Go.World renaming cell?->RE,frozen?->RO,ownsRow_nil->Sf
open List renaming append_nil->R9,cons_append->R5,getElem?_append_left->Sv,getElem?_append_right->Sr,getElem?_drop->SA,getElem?_eq_some_iff->RR,getElem?_take->Su,length_append->RL,length_cons->RU,length_nil->Sq,length_singleton->TN,length_take->Sy,map_cons->Sa,mem_append->Si,mem_cons->Sc,mem_of_getElem?->RX,nil_append->Ss,take_add_one->Sd,take_append_drop->R7,take_of_length_le->S6
open Nat renaming le_of_eq->SH,lt_irrefl->VN,lt_of_le_of_lt->SJ,lt_or_ge->TR,sub_self->Uz,zero_add->SU,zero_le->R6
open Option renaming bind_eq_some_iff->RH,bind_some->RF,map_eq_some_iff->RP,map_some->SR
open Option.some renaming injEq->RK
open Prod.mk renaming injEq->SQ
namespace Go.Proofs.YtnfenijemllkbaaGreatDoor
open Go.RowKit
theorem run_any (keeps:Bool)(most ma:Nat)(mv pt:Value)(b:Bd)(ar:List Bd)(ts:List Ty)(bv:Value)(aa:Option Addr)(ac:Nat)(w:World)(h:MS keeps most ma [] mv pt w)(hg:uC w)(MH:yE w)(KM:∀i,MBk ma mv pt i->ru i/\i≠0)(rb:Rep (fun i=>¬MBk ma mv pt i) w (kM b) bv)(ra:Rep (fun i=>¬MBk ma mv pt i) w (.sl 34 1 ar.length (qH ar)) (.slice aa ar.length ac))(fa:qZ (ts.map Ty.args) ar)(fb:qB ts b)(nb:nB b)(na:nBs ar)(hl:ar.length<=15)(h1:1<=most)(ly:most<=100000) :
 Calls RG 65 #[ma,bv,.slice aa ar.length ac] w (RunPost (ex most b ar) keeps most ma mv pt w):=by
 have hm:most<=16777216:=by omega
 have H:=r9 h;have HR:=r9 (r_ rb ra);have HG:=r9 (r_ hg MH);have HN:=r9 KM;have HP:=r9 (r_ fa (r_ fb (r_ nb na)));clear h rb ra hg MH KM fa fb nb na;generalize Gg:ex most b ar=R;have Np:=r9 Gg;clear Gg;go_enter Tryz.func65,Tryz.ntmps65;go_wp2_with fail
 refine(pW keeps most ma [] mv pt [113] (-1) w H.out HG.out.2 hm (R6 _)).mono ?_;intro en w1 lF;unfold wJ at lF;rw[if_neg (by simp;omega),Sq]at lF;obtain⟨Kn,Km,rfl,sX,B2,tK⟩:=lF;obtain⟨aa',ac',us,e,Ek,ON⟩:=subs_open HR.out.2;simp only[RT,true_and]at e;obtain⟨rfl,rfl⟩:=e;have Jk:But (MBk ma mv pt) w (w1.alloc (.cells #[.int RD ((0:Nat):Int),str []] 172)):=sX.alloc _;have By:=rY HG.out HN.out Jk;have H1:=r9 (r_ sX (r_ B2 tK));clear sX B2 tK;have HU:=r9 (r_ Ek ON);clear Ek ON;have sw:=r9 Jk;have HG2:=r9 By;clear Jk By;go_wp2_with fail
 refine(nN ar.length 0 [] _ HG2.out.1 (by omega) (by simp)).mono ?_;rintro en w3 ⟨pa,pc,rfl,KJ,sE,MN⟩;have Oc:=r9 (r_ KJ (r_ sE MN));clear KJ sE MN;go_wp2_with fail
 have OM:∀k,k<ar.length->∃b o u,aa=OK ⟨b,o,U⟩/\us[k]?=OK (.pointer (OK ⟨u,0,U⟩))/\w3.cell? ⟨b,o+k,U⟩=OK (.pointer (OK ⟨u,0,U⟩)):=by
  intro k hk;obtain⟨b,o,u,e,hu,hF,hc⟩:=HU.out.2 k hk;have sC:=sK w _ hc;refine⟨b,o,u,e,hu,?_⟩;rw[Oc.out.2.1.cell (p:=(b,o+k)) (sV sC sw.out.size),sw.out.cell (p:=(b,o+k)) sC hF];exact hc
 refine(mX ar.length 0 [] us aa ac U 0 0 pa pc w3 (by omega) OM Oc.out.1).mono ?_;rintro en w4 ⟨ea,ec,rfl,E8,sO,Jh⟩;have My:∀i,MBk ma Kn Km i->i<(w1:Nat):=fun i hi=>MBk.lt H1.out.2.1 hi;have sG:=run_start (b:=b) (bv:=bv) rfl H1.out.1 H1.out.2.1 H1.out.2.2 Oc.out.2.1 sO E8 Jh HR.out.1 HU.out.1 My;have Aa:RunPl R most b (qW [] 0 [] 0 ar) 0 [] [] [([113],-1)]:=by
  refine⟨h1,?_,⟨ts,env0_fit ar ts 0 HP.out.1,HP.out.2.1⟩,HP.out.2.2.1,?_,?_,by simp,by simp,by simp⟩
  ·rw[<- Np.out];rfl
  ·exact cI (by rw[pj];trivial) (by simp) (by simp) ar 0 (by omega) HP.out.2.2.2
  ·rw[jr];simp;omega
 have s_:=r9 (r_ Aa sG);clear Aa sG sO E8 Jh My OM H1 HU sw HG2 Oc HP HR;generalize w1.heap.size=B at *;go_wp2_with fail
 go_loopw [1,11,12] (fun x e s wr=>RunRel R keeps most ma mv pt w B x e s wr) (fun _ _ _ wr=>leftM most ma wr)
 case atStart=>exact⟨_,_,_,_,_,_,_,_,_,s_.out.1,s_.out.2⟩
 case round=>
  clear s_;obtain⟨b,env,begun,path,st,log,tR,tN,cells,Aa,lp⟩:=hrel;have ip:=r9 Aa;have ii:=r9 lp;have NL:=r9 (rY HG.out HN.out lp.but);have Ja:=dj lp.ms;clear Aa lp;cases b with
  | leaf c =>
    obtain⟨bb,sl,e,GD,hc,_⟩:=xu ii.out.rb;subst e;have c1:wr bb=OK (str [c]):=by simp[RE,hc]
    have HIL:=r9 ii.out.rb;clear hc;by_cases oU:c=117
    ·subst oU;have hR:R=OK (117,log):=by rw[ip.out.goes,runM_u];simp[hG]
     have HR:=r9 hR;clear hR;go_wp2_with fail
     go_ret2
     refine⟨ii.out.but,fun h=>(by rw[HR.out]at h;simp at h),fun c' log' h=>?_⟩;rw[HR.out]at h;simp only[RK,SQ]at h;obtain⟨rfl,rfl⟩:=h;exact⟨rfl,_,_,ii.out.ms,ii.out.new⟩
    ·generalize hS:[c]=S at *;have hne:(S == [117])=RC:=by rw[beq_eq_false_iff_ne,<- hS];simpa using oU
     have Af:wr B=OK (.int RD (begun:Nat)):=by simp[RE,ii.out.beg]
     have Jk:wr (B,1)=str path:=by simp[RE,ii.out.beg]
     have AO:=fun w0=>qz (P:=RG) S path (by rw[<- hS];have:=ip.out.lpath;have:=ip.out.le;simp;omega) w0;have HS:=r9 hS;clear hS;have Ke:=r9 oU;clear oU;go_wp2_with fail
     refine(ur _ _ c _ HIL.out).mono ?_;rintro en w' ⟨rfl,e⟩;obtain rfl:wr=w':=e.symm;go_wp2_with fail
     have nB1:¬MBk ma tR tN bb:=fun h=>GD (.inl h);have Ef:¬MBk ma tR tN B:=ii.out.bB.2;by_cases Ab:log.length=most
     ·have HO:=r9 Ab;clear Ab
      go_region_held3 (fun w'=>w' bb=str S/\w' (B,1)=str path/\w' B=OK (.int RD (begun:Nat)))
       (first
        |exact⟨c1,Jk,Af⟩
        |exact fC (But.ofBelow (m:=fun _=>False) sX) c1 Jk Af (fun h=>h) (fun h=>h) (fun h=>h)
        | go_keep)
       (first
        | (go_at_call 92;refine (pW keeps most ma log tR tN (S++path) (begun:Int) _ ii.out.ms.drew NL.out.2.drew hm ip.out.le).mono ?_;intro en w1 lF;unfold wJ at lF;rw [if_pos HO.out] at lF;obtain ⟨te,pe,rfl,DL⟩:=lF;have sX:=eQ DL;clear DL))
      go_wp2_with fail
      go_ret2
      have hR:R=U:=by rw[ip.out.goes,HO.out,Uz,runM_out Ke.out];rfl
      exact⟨ii.out.but.trans (But.ofBelow sX),fun _=>⟨te,pe,rfl⟩,fun c' log' h=>by rw[hR]at h;simp at h⟩
     ·have HO:=r9 Ab;clear Ab
      go_region_held3 (fun w'=>w' bb=str S/\w' (B,1)=str path/\w' B=OK (.int RD (begun:Nat)))
       (first
        |exact⟨c1,Jk,Af⟩
        |exact fC sX c1 Jk Af nB1 Ef Ef
        | go_keep)
       (first
        | (go_at_call 92;refine (pW keeps most ma log tR tN (S++path) (begun:Int) _ ii.out.ms.drew NL.out.2.drew hm ip.out.le).mono ?_;intro en w1 lF;unfold wJ at lF;rw [if_neg HO.out] at lF;obtain ⟨ai,ae,rfl,DL,B2,tK⟩:=lF;have sX:=but_ud DL;clear DL))
      obtain⟨d1,d2,d3⟩:=fC sX c1 Jk Af nB1 Ef Ef;have HM:=r9 (r_ sX (r_ B2 tK));clear sX B2 tK c1 Jk Af;obtain⟨sa,sc,es⟩:=ii.out.own.slice;subst es;have HX:=r9 Ja;clear Ja;cases st with
      | nil =>
        have hR:R=OK (c,log++[(c::path,(begun:Int))]):=by
         obtain⟨d,hd⟩:∃d,most-log.length=d+1:=⟨most-log.length-1,by have:=ip.out.le;have:=HO.out;omega⟩;rw[ip.out.goes,hd,runM_end Ke.out];rfl
        have HR:=r9 hR;clear hR;rw[Sq];go_wp2_with fail
        go_ret2
        refine⟨ii.out.but.trans' HM.out.1 fun i hi hh=>?_,fun h=>(by rw[HR.out]at h;simp at h),fun c' log' h=>?_⟩
        ·rcases ii.out.new i hh with h|h
         ·exact h
         ·omega
        ·rw[HR.out]at h;simp only[RK,SQ]at h;obtain⟨rfl,rfl⟩:=h;refine⟨by rw[HS.out];rfl,ai,ae,?_,fun i hi=>?_⟩
         ·have:=HM.out.2.1;rw[<- HS.out]at this;exact this
         ·rcases HM.out.2.2 i hi with h|h
          ·exact ii.out.new i h
          ·exact .inr (sU ii.out.but.size h)
      | cons f st =>
        obtain⟨g,gc,yv,nv,fe,vy,es,aj,k0,k1,k2,k3,k4,lD,Gy,aV,ry,rn,re⟩:=frame_top ii.out.own ii.out.rs;simp only[RU,RT,true_and]at es;obtain⟨rfl,rfl⟩:=es;obtain⟨ya,e⟩:=zg ry;subst e;obtain⟨na,e⟩:=zg rn;subst e;obtain⟨fa,fc,e⟩:∃a c,fe=.slice a f.env.length c:=by
         have h:=re;rw[zv]at h;obtain⟨_,a,c,e,_⟩:=h;exact⟨a,c,e⟩
        subst e;have oG:=ii.out.sB g rfl;have q0:=(HM.out.1.cell (sK wr _ k0) oG.2.2).trans k0;have q1:=(HM.out.1.cell (sK wr _ k1) oG.2.2).trans k1;have q2:=(HM.out.1.cell (sK wr _ k2) oG.2.2).trans k2;have q3:=(HM.out.1.cell (sK wr _ k3) oG.2.2).trans k3;have q4:=(HM.out.1.cell (sK wr _ k4) oG.2.2).trans k4;have HF:=r9 (r_ lD (r_ Gy (r_ aV (r_ ry (r_ rn re)))));have lN:=ip.out.stl;rw[RU]at lN ⊢;have HC:=r9 aj;have tw:=ip.out.le;clear lD Gy aV ry rn re k0 k1 k2 k3 k4 aj;have Cu:(st.length:Int)<=(sc:Int):=by have:=HC.out;omega
        have L2:=zZ ii.out.beg;have lU:=HM.out.1.size;have hzbb:bb<w1:=sK w1 _ d1;have hzB1:B<w1:=sK w1 _ d2;by_cases DS:c=116
        focus
         have hd:(S == [116])=true:=by rw[beq_iff_eq,<- HS.out,DS]
         have Nv:=r9 DS;clear DS;go_upto_region 29 with (fail)
         obtain⟨W2,se⟩:=zzN (w1.alloc (.cells #[ya,na,.slice fa f.env.length fc,.int RD (f.begun:Nat),f.path] 179));have r2:W2 (w1,2)=OK (.slice fa f.env.length fc):=by rw[<- se];simp
         have r3:W2 (w1,3)=OK (.int RD (f.begun:Nat)):=by rw[<- se];simp
         have r4:W2 (w1,4)=str f.path:=by rw[<- se];simp
         have t0:W2 B=OK (.int RD (begun:Nat)):=by rw[<- se];exact zV d3
         have t1:W2 (B,1)=str path:=by rw[<- se];exact zV d2
         have oV:W2.heap[B]?=OK (.cells #[(begun:Int),path] 172 (0,0)):=by rw[<- se];exact zJ (by rw[HM.out.1.block B L2 Ef];exact ii.out.beg)
         have u0:W2.frozen? B=RC:=by simp[RO,oV]
         have u1:W2.frozen? (B,1)=RC:=by simp[RO,oV]
         rw[se];have aU:=r9 se;clear se oV d1 d2 d3 q0 q1 q2 q3 q4;have hBP:B≠w1:=by omega
         clear AO hne
         go_region
         have DC:MS keeps most ma (log++[(c::path,(begun:Int))]) ai ae w1:=by have:=HM.out.2.1;rw[<- HS.out]at this;exact this
         have tg:=nG (W:=(W2.setCell B (.int RD (f.begun:Nat))).setCell (B,1) (str f.path)) (nb:=f.yes) ii.out HF.out.1 HF.out.2.1 HF.out.2.2.1 HF.out.2.2.2.1 HF.out.2.2.2.2.2 HM.out.1 DC HM.out.2.2 (by rw[<- aU.out]);have iv:=nW ip.out Ke.out HO.out;rw[if_pos Nv.out]at iv
        rotate_left
        focus
         have hd:(S == [116])=RC:=by rw[beq_eq_false_iff_ne,<- HS.out];simpa using DS
         have Nv:=r9 DS;clear DS;go_upto_region 29 with (fail)
         obtain⟨W2,se⟩:=zzN (w1.alloc (.cells #[ya,na,.slice fa f.env.length fc,.int RD (f.begun:Nat),f.path] 179));have r2:W2 (w1,2)=OK (.slice fa f.env.length fc):=by rw[<- se];simp
         have r3:W2 (w1,3)=OK (.int RD (f.begun:Nat)):=by rw[<- se];simp
         have r4:W2 (w1,4)=str f.path:=by rw[<- se];simp
         have t0:W2 B=OK (.int RD (begun:Nat)):=by rw[<- se];exact zV d3
         have t1:W2 (B,1)=str path:=by rw[<- se];exact zV d2
         have oV:W2.heap[B]?=OK (.cells #[(begun:Int),path] 172 (0,0)):=by rw[<- se];exact zJ (by rw[HM.out.1.block B L2 Ef];exact ii.out.beg)
         have u0:W2.frozen? B=RC:=by simp[RO,oV]
         have u1:W2.frozen? (B,1)=RC:=by simp[RO,oV]
         rw[se];have aU:=r9 se;clear se oV d1 d2 d3 q0 q1 q2 q3 q4;have hBP:B≠w1:=by omega
         clear AO hne
         go_region
         have DC:MS keeps most ma (log++[(c::path,(begun:Int))]) ai ae w1:=by have:=HM.out.2.1;rw[<- HS.out]at this;exact this
         have tg:=nG (W:=(W2.setCell B (.int RD (f.begun:Nat))).setCell (B,1) (str f.path)) (nb:=f.no) ii.out HF.out.1 HF.out.2.1 HF.out.2.2.1 HF.out.2.2.2.2.1 HF.out.2.2.2.2.2 HM.out.1 DC HM.out.2.2 (by rw[<- aU.out]);have iv:=nW ip.out Ke.out HO.out;rw[if_neg Nv.out]at iv
        all_goals
         have iF:=r9 (r_ iv tg);clear iv tg DC;go_roundw
         case rel=>(repeat apply Exists.intro);exact⟨⟨_,_,_,_,_,_,_,_,_,iF.out.1,iF.out.2⟩,rfl⟩
         case measure=>
          rw[HX.out];have h:=dj iF.out.2.ms;have hl:(log++[(c::path,(begun:Int))]).length=log.length+1:=by simp
          have:=ip.out.le;have:=HO.out;refine SJ (SH h) ?_;rw[hl];omega
  | ask v ss y n =>
    obtain⟨bb,sl,yv,nv,e,GD,hc,tt,hy,I_⟩:=uL ii.out.rb;subst e;obtain⟨sa,sc,us,e,Ek,ON⟩:=subs_open tt;subst e;obtain⟨ya,e⟩:=zg hy;subst e;obtain⟨na,e⟩:=zg I_;subst e;obtain⟨hand,ef,bf⟩:=ip.out.fit;obtain⟨e,aC,_⟩:=ask_next bf ef log.length;obtain⟨gb,go,gc,ub,ea',ec',eg,hFg,KU,k0,k1,k2,k3,ic,D5⟩:=env_at ii.out.re aC;subst eg;have c0:wr bb=OK (str []):=by simp[RE,hc]
    have c1:wr (bb,1)=OK (.int RD v):=by simp[RE,hc]
    have D1:v<env.length:=(RR.1 aC).1;have hvl':(v:Int)<(env.length:Int):=by omega
    have Bo:=okCs_at _ ip.out.oke _ _ aC;have Aa:e.path.length<=2*log.length/\e.env.length<=16*log.length:=by obtain⟨_,_,_,_⟩:=e;rw[okC]at Bo;exact⟨Bo.2.2.2,Bo.2.2.1⟩
    have Cd:ss.length<=15:=by have:=ip.out.nb;rw[nB]at this;exact this.1
    have tw:=ip.out.le;have AO:=fun w0=>qz (P:=RG) [113] e.path (by simp;omega) w0;obtain⟨S,hS⟩:=zzM ([113]++e.path);rw[<- hS]at AO;have HS:=r9 hS;clear hS;have HIL:=r9 ii.out.rb;have HZ:=r9 (r_ hc (r_ Ek (r_ ON (r_ hy (r_ I_ (r_ aC (r_ ic D5)))))));have L2:=zZ ii.out.beg;have OA:=zZ hc;clear hc Ek ON hy I_ aC ic D5 tt bf ef Bo;have nB1:¬MBk ma tR tN bb:=fun h=>GD (.inl h);have Ef:¬MBk ma tR tN B:=ii.out.bB.2;have B3:∀i,MBk ma tR tN i->i<(wr:Nat):=fun i hi=>MBk.lt ii.out.ms hi;have HLT:=r9 B3;clear B3;have HX:=r9 Ja;clear Ja;go_wp2_with fail
    refine(yx _ _ v ss y n _ HIL.out).mono ?_;rintro en w' ⟨rfl,e0⟩;obtain rfl:wr=w':=e0.symm;go_upto_region 8 with (fail)
    obtain⟨W,hW⟩:=zzN (wr.alloc (.cells #[ub,.slice ea' e.env.length ec',.int RD (e.begun:Nat),e.path] 183));have L9:Tri bb B wr v (.slice sa ss.length sc) (.pointer (OK ⟨ya,0,U⟩)) (.pointer (OK ⟨na,0,U⟩)) begun path (.pointer (OK ⟨ub,0,U⟩)) (.slice ea' e.env.length ec') (.int RD (e.begun:Nat)) (str e.path) W:=by
     rw[<- hW];exact⟨zJ HZ.out.1,zJ ii.out.beg,zW _ _⟩
    have sF:No wr W:=by rw[<- hW];exact(sQ _ _).alloc (sZ _) _
    have iV:(W:Nat)=wr+1:=by rw[<- hW];exact zK _ _
    have hmW:=ii.out.ms.below sF;have hgW:uC W/\yE W:=⟨NL.out.1.below sF,NL.out.2.but (m:=fun _=>False) (But.ofBelow sF) (fun h=>h)⟩;rw[hW];obtain⟨t2,t3,t4,g0,g1,p0,p1,p2,p3,_,_,zP,zB,zb⟩:=L9.cells;have HT:=r9 L9;have HW:=r9 (r_ sF (r_ hmW (r_ hgW (r_ iV hW))));clear L9 sF hmW hgW iV hW c0 c1 k0 k1 k2 k3;have nP:¬MBk ma tR tN wr:=fun h=>VN _ (HLT.out _ h);by_cases Ab:log.length=most
    ·have HO:=r9 Ab;clear Ab;go_wp2_with fail
     refine(pW keeps most ma log tR tN S (e.begun:Int) W HW.out.2.1 HW.out.2.2.1.2 hm ip.out.le).mono ?_;intro en w1 lF;unfold wJ at lF;rw[if_pos HO.out]at lF;obtain⟨te,pe,rfl,sX⟩:=lF;go_wp2_with fail
     go_ret2
     have hR:R=U:=by rw[ip.out.goes,HO.out,Uz,runM_out2];rfl
     exact⟨(ii.out.but.trans (But.ofBelow HW.out.1)).trans (But.ofBelow sX),fun _=>⟨te,pe,rfl⟩,fun c' log' h=>by rw[hR]at h;simp at h⟩
    ·have HO:=r9 Ab;clear Ab;go_wp2_with fail
     refine(pW keeps most ma log tR tN S (e.begun:Int) W HW.out.2.1 HW.out.2.2.1.2 hm ip.out.le).mono ?_;intro en w1 lF;unfold wJ at lF;rw[if_neg HO.out]at lF;obtain⟨ai,ae,rfl,sX,B2,tK⟩:=lF;have G_:=HT.out.but sX nB1 Ef nP;clear t2 t3 t4 g0 g1 p0 p1 p2 p3 zP zB zb;obtain⟨t2,t3,t4,g0,g1,p0,p1,p2,p3,_,_,zP,zB,zb⟩:=G_.cells;obtain⟨sta,stc,es⟩:=ii.out.own.slice;subst es;have lN:=ip.out.stl;have J7:Own w1 179 5 (.slice sta st.length stc) st.length cells:=by
      refine ii.out.own.keep fun g o hg ho=>?_;rw[sX.block g (by have:=HW.out.2.2.2.1;have:=zZ ho;omega) (ii.out.sB g hg).2.2,HW.out.1.block g (zZ ho)];exact ho
     have HM:=r9 (r_ sX (r_ B2 tK));have HT1:=r9 G_;have HO1:=r9 J7;clear sX B2 tK G_ J7
     have B5:zz 5 (.slice w1 1 1) 1 [.pointer (OK ⟨ya,0,U⟩),na,.slice (gb,go) env.length gc,(begun:Int),path] (w1.alloc (.cells #[ya,na,.slice (gb,go) env.length gc,(begun:Int),path] 179)).drew:=
      (zz.litk #[.pointer (OK ⟨ya,0,U⟩),.pointer (OK ⟨na,0,U⟩),.slice (OK ⟨gb,go,U⟩) env.length gc,.int RD (begun:Nat),str path] rfl (by simp[str,R4]) _ rfl).drew
     have G9:=Tri.drew (HT1.out.below ((sQ _ w1).alloc (sZ _) (.cells #[ya,na,.slice (gb,go) env.length gc,(begun:Int),path] 179)));have HT1d:=r9 G9;clear G9;have nS1:¬(RI sta st.length stc).ownBlock=bb:=fun h=>GD (.inr (.inr h));have nS2:¬(RI sta st.length stc).ownBlock=B:=fun h=>(ii.out.sB _ h).2.1 rfl;have nS3:¬(RI sta st.length stc).ownBlock=wr:=fun h=>VN _ (ii.out.own.lt h);have hmax:st.length+1<=maxLen:=by unfold maxLen;omega
     have aI:(st.length+1)*64<=140737488355328:=by omega
     have h05:0<5:=by omega
     have HL:=r9 B5;clear B5;go_wp2_with fail
     go_region_held3 (fun w'=>w' (bb,3)=OK (.pointer (OK ⟨ya,0,U⟩))/\w' (bb,4)=OK (.pointer (OK ⟨na,0,U⟩))/\w' B=OK (.int RD (begun:Nat))/\w' (B,1)=str path)
      (first
       |exact⟨t3,t4,g0,g1⟩
       |exact⟨t3',t4',g0',g1'⟩
       | go_keep)
      (first
       | (refine zL (by rfl) _ _ _ (by rfl) 179 (.agg #[.pointer none,.pointer none,.slice none 0 0,.int .i64 0,str []]) 5 64 Tryz.underlying177 Tryz.infoFr rfl h05 (.slice sta st.length stc) st.length cells (by rfl) (HO1.out.alloc _).drew _ 1 [.pointer (some ⟨ya,0,none⟩),.pointer (some ⟨na,0,none⟩),.slice (some ⟨gb,go,none⟩) env.length gc,.int .i64 (begun:Nat),str path] (by rfl) HL.out hmax aI ?_;intro a' c' w2 KK sY By;have G8:=HT1d.out.but sY nS1 nS2 nS3;obtain ⟨t2',t3',t4',g0',g1',p0',p1',p2',p3',_,_,zP',zB',zb'⟩:=G8.cells))
     have EH:But (Chg ma tR tN B (.slice sta st.length stc)) wr w2:=
      (((((But.ofBelow (m:=Chg ma tR tN B (.slice sta st.length stc)) HW.out.1).trans' HM.out.1 (fun i _ hi=>.inl hi)).alloc _).drew).trans' sY fun i _ hi=>.inr (.inr hi))
     have Ct:But (fun b=>(RI sta st.length stc).ownBlock=OK b) w1 w2:=(((But.refl _ w1).alloc _).drew).trans sY;have Il:∀g,(RI a' (st.length+1) c').ownBlock=OK g->(RI sta st.length stc).ownBlock=OK g\/(w1:Nat)<=g:=by
      intro g hg;rcases By g hg with h|h
      ·exact .inl h
      ·have:g=w1+1:=by rw[h];exact zK _ _
       exact .inr (by omega)
     have Al:(w1:Nat)<=w2:=Ct.size
     have P9:uC w2:=
      (rY (w':=w1) HW.out.2.2.1 (fun i hi=>nO HG.out HN.out (ii.out.new i hi)) HM.out.1).1.but Ct fun i hi=>(nO HG.out HN.out (.inr (ii.out.sB i hi).1)).1
     have OL:SubsAt w2.drew ss.length us sa:=fun k hk=>by
      obtain⟨b,o,u,e,hu,hF,hc⟩:=HZ.out.2.2.1 k hk;exact⟨b,o,u,e,hu,(EH.cell (p:=(b,o+k)) (sK wr _ hc) hF).trans hc⟩
     have GG:=r9 (r_ EH (r_ Ct (r_ KK Il)));have HT2:=r9 (Tri.drew G8);have HU2:=r9 OL;have HGL:=r9 (show uC w2.drew from P9.but (m:=fun _=>False) (But.refl _ _).drew (fun _ h=>h.elim));clear EH Ct KK Il G8 OL P9 sY By t2 t3 t4 g0 g1 p0 p1 p2 p3 zP zB zb;have Jz:ss.length<=16:=by omega
     have hp1m:e.path.length<=1000000:=by omega
     go_wp2_with fail
     go_region_held3 (fun w'=>w' (bb,2)=OK (.slice sa ss.length sc)/\w' (wr,3)=str e.path)
      (first
       |exact⟨t2',p3'⟩
       |exact⟨x2,x3⟩
       |exact⟨y2,y3⟩
       | go_keep)
      (first
       |(go_at_call 94;refine(nN ss.length log.length e.path _ HGL.out Jz hp1m).mono ?_;rintro en w3 ⟨pa3,FC,rfl,KJ,sE,MN⟩;have G7:=HT2.out.below sE;obtain⟨x2,_,_,_,_,_,_,_,x3,_⟩:=G7.cells)
       | (go_at_call 93;refine (mX ss.length log.length e.path us sa sc (some ⟨gb,go,none⟩) env.length gc pa3 FC _ Jz (HU2.out.below sE) KJ).mono ?_;rintro en w4 ⟨ea4,ec4,rfl,E8,sO,Jh⟩;have G6:=G7.below sO;obtain ⟨y2,_,_,_,_,_,_,_,y3,_⟩:=G6.cells))
     have PR:Rep (fun i=>¬Chg ma tR tN B (.slice sta st.length stc) i/\i<wr) w4 (.sl 183 4 e.env.length (j_ e.env)) (.slice ea' e.env.length ec'):=
      (Rep.keep fun b o hf ho=>⟨⟨hf,zZ ho⟩,by
       have h2:w2.heap[b]?=OK o:=by rw[GG.out.1.block b (zZ ho) hf];exact ho
       have h3:w3.heap[b]?=OK o:=by rw[sE.block b (zZ h2)];exact h2
       rw [sO.block b (zZ h3)];exact h3⟩).1 _ _ HZ.out.2.2.2.2.2.2.2
     obtain⟨news,aZ,Kx⟩:=zz.ofRep PR (cY _);have Ky:=zz.ofOwn E8 (ents_one (cX _ _ HZ.out.2.1) rfl _ _ _);have lP:=sE.size;have L3:=sO.size;have HN4:=r9 (r_ aZ (r_ Kx Ky));have H4:=r9 (r_ E8 (r_ sO (r_ Jh (r_ sE G6))));clear aZ Kx Ky E8 sO Jh G6 G7 KJ MN sE PR t2' t3' t4' g0' g1' p0' p1' p2' p3' x2 x3 y2 y3;obtain⟨t2,t3,t4,g0,g1,p0,p1,p2,p3,_,_,zP,zB,zb⟩:=H4.out.2.2.2.2.cells;have BU:=Aa.2;go_wp2_with (at_builtin;refine zF rfl _ _ 173 rfl 183 (.agg #[.pointer U,(),.int RD 0,str []]) 4 56 VY Tryz.infoEn rfl (by decide) () 0 [] rfl ?c1 _ e.env.length news rfl ?c2 ?c3 ?c4 ?_)
     case c1=>exact Sf _ _ _ _
     case c2=>exact HN4.out.2.1
     case c3=>unfold maxLen;omega
     case c4=>omega
     intro a5 c5 w5 lh sx li;have IG:No w4 w5:=sx.toBelow (sZ _) fun i _ h=>by simp[RM]at h
     have Qc:∀g,(RI a5 e.env.length c5).ownBlock=OK g->g=(w4:Nat):=by
      intro g hg;rcases li g hg with h|h
      ·simp[RM]at h
      ·exact h
     have H5:=r9 (r_ lh (r_ IG Qc));clear lh sx li IG Qc;go_wp2_with (at_builtin;refine zF rfl _ _ 173 rfl 183 (.agg #[.pointer U,(),.int RD 0,str []]) 4 56 VY Tryz.infoEn rfl (by decide) (.slice a5 e.env.length c5) e.env.length news rfl ?d1 _ ss.length (co us (.slice (gb,go) env.length gc) log.length e.path ss.length) rfl ?d2 ?d3 ?d4 ?_)
     case d1=>exact H5.out.1
     case d2=>exact zz.below H5.out.2.1 HN4.out.2.2
     case d3=>unfold maxLen;omega
     case d4=>omega
     intro a6 c6 w6 FS sM F1;have FE:=H5.out.2.1.size;have hz6:=sM.size;have QB:Below w4 w5 w6:=sM.toBelow H5.out.2.1.size fun i hi h=>by have:=H5.out.2.2 i h;omega
     have Gd:No w4 w6:=H5.out.2.1.trans QB;have Ku:=H4.out.2.2.2.2.below Gd;have QD:No w2 w6:=by
      have h23:No w2 w3:=eQ H4.out.2.2.2.1;exact(zzT h23 H4.out.2.1).trans (Gd.mono (by have:=h23.size;have:=H4.out.2.1.size;omega))
     have L1:(w2:Nat)<=w4:=sU (show w2.drew.heap.size<=w3 from lP) L3;have Bx:∀g,(RI a6 (e.env.length+ss.length) c6).ownBlock=OK g->(w4:Nat)<=g:=by
      intro g hg;rcases F1 g hg with h|h
      ·have:=H5.out.2.2 g h;omega
      ·omega
     have H6:=r9 (r_ FS (r_ Gd (r_ QD (r_ Ku (r_ Bx (r_ L1 Al))))));clear FS sM F1 QB Gd QD Bx Ku t2 t3 t4 g0 g1 p0 p1 p2 p3 zP zB zb;obtain⟨t2,t3,t4,g0,g1,p0,p1,p2,p3,fB0,fB1,zP,zB,zb⟩:=H6.out.2.2.2.1.cells;have hBP:B≠wr:=by omega
     clear t2 t3 t4 p1 p2 AO lP L3 FE hz6 L1 Al;go_upto_region 14 with (fail)
     go_region
     have DC:MS keeps most ma (log++[(113::e.path,(e.begun:Int))]) ai ae w1:=by have:=HM.out.2.1;rw[HS.out]at this;exact this
     have k1:But (Chg ma tR tN B (.slice sta st.length stc)) wr w6:=GG.out.1.trans (But.ofBelow H6.out.2.2.1);have k2:But (fun b=>(RI sta st.length stc).ownBlock=OK b) w1 w6:=GG.out.2.1.trans (But.ofBelow H6.out.2.2.1);have k3:∀i,MBk ma ai ae i->MBk ma tR tN i\/(wr:Nat)<=i:=fun i hi=>by
      rcases HM.out.2.2 i hi with h|h
      ·exact .inl h
      ·have:=HW.out.2.2.2.1;exact .inr (by omega)
     have k4:(wr:Nat)<=w1:=by have:=HM.out.1.size;have:=HW.out.2.2.2.1;omega
     have k5:=GG.out.2.2.1.keep (w':=w6) fun g o hg ho=>by rw[H6.out.2.2.1.block g (zZ ho)];exact ho
     have k6:∀g,(RI a6 (e.env.length+ss.length) c6).ownBlock=OK g->(w1:Nat)<=g/\(RI a' (st.length+1) c').ownBlock≠OK g:=fun g hg=>by
      have h1:=H6.out.2.2.2.2.1 g hg;have h2:=H6.out.2.2.2.2.2.1;have h3:=H6.out.2.2.2.2.2.2;refine⟨by omega,fun hs=>?_⟩;have:=GG.out.2.2.1.lt hs;omega
     have tg:=runat_ask (W:=(w6.setCell B (.int RD (log.length:Nat))).setCell (B,1) (str e.path)) (w1:=w1) (w6:=w6) (w4:=w4) ii.out HZ.out.2.2.2.1 HZ.out.2.2.2.2.1 HZ.out.2.2.2.2.2.2.1 HN4.out.1 H6.out.2.1 HZ.out.2.1
      k1 k2 DC k3 k4 H6.out.2.2.2.1.g k5 GG.out.2.2.2 H6.out.1 k6 rfl
     have iv:=runpl_ask ip.out HO.out HZ.out.2.2.2.2.2.1;have iF:=r9 (r_ iv tg);clear iv tg DC;go_roundw
     case rel=>(repeat apply Exists.intro);exact⟨⟨_,_,_,_,_,_,_,_,_,iF.out.1,iF.out.2⟩,rfl⟩
     case measure=>
      rw[HX.out];have h:=dj iF.out.2.ms;have hl:(log++[(113::e.path,(e.begun:Int))]).length=log.length+1:=by simp
      have:=ip.out.le;have:=HO.out;refine SJ (SH h) ?_;rw[hl];omega
theorem vI {ts:List Ty}{t:Ty}(h:t∈ts):1+zU t<=zc ts:=by
 induction ts with
 |nil=>simp at h
 | cons x xs ih =>
   rcases Sc.1 h with rfl|h
   ·simp[zc]
   ·have:=ih h;simp[zc];omega
mutual
theorem xv:∀(b:Bd) (hand:List Ty),qB hand b->(∀t∈hand,zU t<=15)->nB b
 |.leaf c,hand,_,_=>by rw[nB];trivial
 | .ask v ss y n,hand,h,hh=>by
   rw[qB]at h;obtain⟨t,ht,h1,h2,h3⟩:=h;have Bc:=hh t (RX ht);have hl:=ju _ _ h1;rw[vJ]at hl;have hm:=kI t;have PQ:=kW t.args;rw[nB];exact⟨by omega,nz ss t.args hand h1 hh (fun a ha=>by have:=vI ha;omega),xv y hand h2 hh,xv n hand h3 hh⟩
theorem nz:∀(bs:List Bd) (ts hand:List Ty),qZ (kx hand ts) bs->(∀t∈hand,zU t<=15)->(∀a∈ts,zU a<=15)->nBs bs
 |[],ts,hand,_,_,_=>by rw[nBs];trivial
 | b::bs,ts,hand,h,hh,ht=>by
   rw[qZ]at h;obtain⟨h',lw,e,h1,h2⟩:=h;cases ts with
   |nil=>simp[kx]at e
   | cons t ts =>
     simp only[kx,Sa,List.cons.injEq]at e;obtain⟨rfl,rfl⟩:=e;rw[nBs];refine⟨xv b _ h1 fun x hx=>?_,nz bs ts hand h2 hh fun a ha=>ht a (by simp[ha])⟩;rcases Si.1 hx with hx|hx
     ·exact hh x hx
     ·have sT:=ht t (by simp);have hm:=kI t;have:=vI hx;omega
end
def kO:List Ty->List Bs->Option (List Bd)
 |t::ts,x::xs=>(qd t x).bind fun b=>(kO ts xs).map fun bs=>b::bs
 |_,_=>OK []
theorem yJ:∀(ts:List Ty) (xs:List Bs) (bs:List Bd),ts.length=xs.length->kO ts xs=bs->bs.length=xs.length
 |[],[],bs,_,h=>by simp[kO]at h;subst h;rfl
 |[],x::xs,bs,hl,h=>by simp at hl
 |t::ts,[],bs,hl,h=>by simp at hl
 | t::ts,x::xs,bs,hl,h=>by
   simp only[kO,RH,RP]at h;obtain⟨b,_,bs',h2,rfl⟩:=h;simp[yJ ts xs bs' (by simpa using hl) h2]
theorem xS:∀(ts:List Ty) (xs:List Bs) (bs:List Bd),ts.length=xs.length->(∀t∈ts,zU t<=15)->kO ts xs=bs->qZ (ts.map Ty.args) bs/\nBs bs
 |[],[],bs,_,_,h=>by simp[kO]at h;subst h;simp[qZ,nBs]
 |[],x::xs,bs,hl,_,h=>by simp at hl
 |t::ts,[],bs,hl,_,h=>by simp at hl
 | t::ts,x::xs,bs,hl,ht,h=>by
   simp only[kO,RH,RP]at h;obtain⟨b,h1,bs',h2,rfl⟩:=h;have hg:=(dE (ht t (by simp)) h1).1;obtain⟨k1,k2⟩:=xS ts xs bs' (by simpa using hl) (fun a ha=>ht a (by simp[ha])) h2;refine⟨⟨_,_,rfl,hg.fit,k1⟩,?_⟩;rw[nBs];exact⟨xv b _ hg.fit fun a ha=>by have sT:=ht t (by simp);have hm:=kI t;have:=vI ha;omega,k2⟩
theorem pA:∀(ts:List Ty) (xs:List Bs) (t:Ty) (x:Bs),ts.length=xs.length->kO (ts++[t]) (xs++[x])=(kO ts xs).bind fun bs=>(qd t x).map fun b=>bs++[b]
 |[],[],t,x,_=>by simp only[Ss,kO,RF];cases qd t x <;> rfl
 |[],_::xs,t,x,hl=>by simp at hl
 |_::ts,[],t,x,hl=>by simp at hl
 | t'::ts,x'::xs,t,x,hl=>by
   simp only[R5,kO];cases qd t' x' with
   |none=>rfl
   | some b =>
     simp only[RF,pA ts xs t x (by simpa using hl)];cases kO ts xs with
     |none=>rfl
     | some bs =>
       simp only[RF,SR];cases qd t x <;> rfl
theorem pL:∀(ts:List Ty) (xs:List Bs) (k:Nat),kO (ts.take k) (xs.take k)=U->kO ts xs=U
 |[],xs,k,h=>by cases xs <;> simp[kO]at h
 |t::ts,[],k,h=>by cases k <;> simp[kO]at h
 |t::ts,x::xs,0,h=>by simp[kO]at h
 | t::ts,x::xs,k+1,h=>by
   simp only[List.take_succ_cons,kO]at h ⊢;cases hq:qd t x with
   |none=>rfl
   | some b =>
     rw[hq]at h;simp only[RF]at h ⊢;cases hr:kO (ts.take k) (xs.take k) with
     |none=>rw[pL ts xs k hr];rfl
     |some bs=>rw[hr]at h;simp at h
theorem wt {w:World}{P:Nat}{u v:Value}{T:TypeId}(h:w.heap[P]?=OK (.cells #[u,v] T (0,0)))(u0 u1:Value) :
 ∃W,W=(w.setCell P u0).setCell (P,1) u1/\W P=u0/\W (P,1)=u1/\(∀B w0,Below B w0 w->B<=P->Below B w0 W)/\(∀i x,i≠P->w.heap[i]?=OK x->W.heap[i]?=OK x):=by
 have hc:((w.setCell P u0).setCell (P,1) u1).heap[P]?=OK (.cells #[u0,u1] T (0,0)):=by rw[zT (zT h)];rfl
 refine⟨_,rfl,by simp only[RE,hc];rfl,by simp only[RE,hc];rfl,fun B w0 hb hB=>?_,fun i x hi hx=>?_⟩
 ·exact((hb.setCell (p:=P) hB _).setCell (p:=⟨P,1,U⟩) hB _)
 ·rw[sJ _ _ _ _ (by simpa using hi),sJ _ _ _ _ (by simpa using hi)];exact hx
theorem we {w:World}{P:Nat}{u v:Value}{T:TypeId}(h:w.heap[P]?=OK (.cells #[u,v] T (0,0))):w P=u/\w (P,1)=v/\w.frozen? P=RC/\w.frozen? (P,1)=RC/\P<w:=
 ⟨by simp[RE,h],by simp[RE,h],by simp[RO,h],by simp[RO,h],zZ h⟩
theorem MS.slices {keeps:Bool}{most ma:Nat}{log:List (Bs×Int)}{mv pt:Value}{w:World}(h:MS keeps most ma log mv pt w):∃a n k a' n' k',mv=.slice a n k/\pt=.slice a' n' k':=by
 cases keeps with
 | true =>
   obtain⟨a,c,e⟩:=(h.rows rfl).1.slice;obtain⟨a',c',e'⟩:=(h.rows rfl).2.slice;exact⟨_,_,_,_,_,_,e,e'⟩
 |false=>exact⟨_,_,_,_,_,_,(h.nil rfl).1,(h.nil rfl).2⟩
def jM (most:Nat)(s text:Bs)(xs:List Bs):Option (UInt8×List (Bs×Int)):=(mF s text).bind fun x=>if x.1.args.length=xs.length then (kO x.1.args xs).bind fun bs=>ex most x.2 bs else U
def OfPost (keeps:Bool)(most:Nat)(s text:Bs)(xs:List Bs)(w:World)(en:Ending)(w':World):Prop:=
 No w w'/\(jM most s text xs=U->en=.returned (.tuple #[.agg #[(),()],str [],.bool RC])) /\
  (∀c log,jM most s text xs=OK (c,log)->∃ma a n k a' n' k',en=.returned (.tuple #[.agg #[.slice a n k,.slice a' n' k'],str [c],.bool true])/\MS keeps most ma log (.slice a n k) (.slice a' n' k') w'/\(∀i,MBk ma (.slice a n k) (.slice a' n' k') i->(w:Nat)<=i))
theorem runOf_any (keeps:Bool)(most:Nat)(s text:Bs)(xs:List Bs)(a:Option Addr)(c:Nat)(w:World)(hg:uC w)(MH:yE w)(hx:vw w a xs)(hs:Lim s.length)(ht:Lim text.length)(iG:∀x∈xs,Lim x.length)(oY:Lim xs.length)(h1:1<=most)(ly:most<=100000) :
 Calls RG 31 #[s,text,.slice a xs.length c,(most:Int),.bool keeps] w (OfPost keeps most s text xs w):=by
 have hxl':=oY.le;have HX:=r9 (r_ hx (r_ iG MH));clear hx iG MH oY;go_enter Tryz.func31,Tryz.ntmps31;go_wp2_with fail
 have iJ:No w (w.alloc (.cells #[(),()] 77)):=(sQ _ _).alloc (sZ _) _;refine(strategy_any s text _ (hg.below iJ) hs ht).mono ?_;rintro en w1 ⟨kv,bv,rfl,sX,tK,tH⟩;have lU:=sX.size;rw[zK]at lU;have GE:w1.heap[(w:Nat)]?=OK (.cells #[(),()] 77 (0,0)):=by
  rw[sX.block _ (by rw[zK];omega)];exact zW _ _
 have EM:No w w1:=zzT iJ sX;cases hq:mF s text with
 | none =>
   obtain rfl:=tK hq;have hR:jM most s text xs=U:=by unfold jM;rw[hq];rfl
   have HR:=r9 hR;clear hq tK tH hR;obtain⟨d0,d1,f0,f1,_⟩:=we GE;have Kf:=r9 (r_ GE EM);clear GE EM;go_wp2_with fail
   obtain⟨W,hW,s0,s1,sF,_⟩:=wt Kf.out.1 () ();rw[<- hW];refine bodyPost_ret (v:=.tuple #[.agg #[(),()],str [],.bool RC]) (by simp[results,TY,go_sem,s0,s1]) rfl ?_;exact⟨sF _ _ Kf.out.2 (sZ _),fun _=>rfl,fun c' log' h=>by rw[HR.out]at h;simp at h⟩
 | some x =>
   obtain⟨t,b⟩:=x;obtain⟨hk,lH⟩:=tH _ _ hq;obtain⟨ba,e⟩:=zg lH;subst e;obtain⟨ak,sk,e,hFk,Jj,Dh⟩:=zh hk;subst e;obtain⟨ka,kc,e,_,AG,Ez⟩:=zH Dh;subst e;have ck:w1 ak=OK (.slice ka t.args.length kc):=by simp[RE,Jj]
   have Qd:zU t<=15:=by
    have:=hq;unfold mF at this;simp only[Option.bind_eq_bind,RH]at this;obtain⟨t',h1,b',_,h3⟩:=this;simp at h3;rw[<- h3.1];exact rdKind_le h1
   have AD:t.args.length<=15:=by have:=kI t;have:=kW t.args;omega
   have hfb:qB t.args b:=by
    have:=hq;rw[rdTS_eq,RP]at this;obtain⟨b',h1,h2⟩:=this;simp at h2;rw[<- h2.1,<- h2.2];exact specStrat_fit h1
   have HQ:=r9 (r_ hq (r_ Qd hfb));have HK:=r9 (r_ Jj Ez);have Ec:=r9 lH;clear hq tK tH hk lH Jj Dh AG Ez Qd hfb hFk;obtain⟨d0,d1,f0,f1,_⟩:=we GE;have Kf:=r9 (r_ GE EM);clear GE EM iJ sX;by_cases hlen:xs.length=t.args.length;rotate_left
   ·have hd:((xs.length:Int) != (t.args.length:Int))=true:=by rw[bne_iff_ne];omega
    have hR:jM most s text xs=U:=by unfold jM;rw[HQ.out.1];simp only[RF];rw[if_neg (fun h=>hlen h.symm)]
    have HR:=r9 hR;clear hR hlen;go_wp2_with fail
    obtain⟨W,hW,s0,s1,sF,_⟩:=wt Kf.out.1 () ();rw[<- hW];refine bodyPost_ret (v:=.tuple #[.agg #[(),()],str [],.bool RC]) (by simp[results,TY,go_sem,s0,s1]) rfl ?_;exact⟨sF _ _ Kf.out.2 (sZ _),fun _=>rfl,fun c' log' h=>by rw[HR.out]at h;simp at h⟩
   ·have hd:((xs.length:Int) != (t.args.length:Int))=RC:=by rw[hlen];simp
    have HL:=r9 hlen;clear hlen;go_wp2_with fail
    go_loopw [15,43] (fun l i wr=>∃(k:Nat) (a':Option Addr) (c':Nat) (us:List Value) (bs:List Bd),k<=xs.length/\i=.int RD k/\l=.slice a' k c'/\Own wr 34 1 (.slice a' k c') k us/\zY (fun i=>(RI a' k c').ownBlock≠OK i) wr (qH bs) us/\kO (t.args.take k) (xs.take k)=bs/\No w1 wr/\(∀g,(RI a' k c').ownBlock=OK g->(w1:Nat)<=g)) (fun _ i _=>xs.length-(intOf i).toNat)
    case atStart=>exact⟨0,U,0,[],[],R6 _,rfl,rfl,Sf _ _ _ _,by rw[qH];exact zE.2 rfl,by simp[kO],sQ _ _,fun g h=>by simp[RM]at h⟩
    case round=>
     obtain⟨k,a',c',us,bs,hk,rfl,rfl,ho,hr,i8,hb,hf⟩:=hrel;have HO:=r9 (r_ ho (r_ hr (r_ i8 hf)));clear ho hr i8 hf;have tY:No w wr:=zzT Kf.out.2 hb;have FY:=hg.below tY;have Nf:wr.heap[(w:Nat)]?=OK (.cells #[(),()] 77 (0,0)):=by rw[hb.block _ (zZ Kf.out.1)];exact Kf.out.1
     clear d0 d1 f0 f1;obtain⟨d0,d1,f0,f1,_⟩:=we Nf;have HB:=r9 (r_ hb (r_ tY Nf));clear hb tY Nf;by_cases sC:k<xs.length
     ·obtain⟨x,JL⟩:∃x,xs[k]?=OK x:=⟨xs[k],by simp[sC]⟩;obtain⟨bs1,os1,es1,F4⟩:=HX.out.1.below HB.out.2.1 k x JL;subst es1;have Id:=HX.out.2.1 x (RX JL);have Fa:k<t.args.length:=by have:=HL.out;omega
      obtain⟨bk,ok,uk,dk,eka,_,AI,Ip,Is,tq⟩:=HK.out.2 k Fa;subst eka;rw[yH,RP]at Ip;obtain⟨tk,lM,rfl⟩:=Ip;obtain⟨uka,_,euk,_⟩:=zh tq;subst euk;have F7:wr (bk,ok+k)=OK (.pointer (OK ⟨uka,0,U⟩)):=by rw[HB.out.1.cell AI];exact Is
      have FM:=Rep.below (F':=fun _=>True) HB.out.1 (fun _ _=>trivial) tq;have ckr:wr ak=OK (.slice (bk,ok) t.args.length kc):=by rw[HB.out.1.cell (sK w1 _ ck)];exact ck
      have Gj:zU tk<=15:=by have:=HQ.out.2.1;have hm:=kI t;have:=vI (RX lM);omega
      have MC:(k:Int)<(t.args.length:Int):=by omega
      have tB:(k:Int)<(xs.length:Int):=by omega
      have HS:=r9 (r_ JL lM);clear JL lM Is tq;go_wp2_with fail
      refine(pK _ tk x _ wr FY FM Gj Id).mono ?_;rintro en w2 ⟨v,rfl,sY,lY,lE⟩;have sf:kO (t.args.take (k+1)) (xs.take (k+1))=(qd tk x).map fun b=>bs++[b]:=by
       have h1:t.args.take (k+1)=t.args.take k++[tk]:=by rw[Sd,HS.out.2];rfl
       have h2:xs.take (k+1)=xs.take k++[x]:=by rw[Sd,HS.out.1];rfl
       rw[h1,h2,pA _ _ _ _ (by rw[Sy,Sy];omega),HO.out.2.2.1];rfl
      have BJ:=r9 sf;clear sf;have Nd:w2.heap[(w:Nat)]?=OK (.cells #[(),()] 77 (0,0)):=by rw[sY.block _ (zZ HB.out.2.2)];exact HB.out.2.2
      clear d0 d1 f0 f1;obtain⟨d0,d1,f0,f1,_⟩:=we Nd;have sw:=r9 (r_ sY Nd);clear sY Nd;cases ND:qd tk x with
      | none =>
        obtain rfl:=lY ND;have hR:jM most s text xs=U:=by
         unfold jM;rw[HQ.out.1];simp only[RF];rw[if_pos HL.out.symm,pL _ _ (k+1) (by rw[BJ.out,ND];rfl)];rfl
        have HR:=r9 hR;clear hR ND lY lE;go_wp2_with fail
        obtain⟨W,hW,s0,s1,sF,_⟩:=wt sw.out.2 () ();rw[<- hW];refine bodyPost_ret (v:=.tuple #[.agg #[(),()],str [],.bool RC]) (by simp[results,TY,go_sem,s0,s1]) rfl ?_;exact⟨sF _ _ (zzT HB.out.2.1 sw.out.1) (sZ _),fun _=>rfl,fun c' log' h=>by rw[HR.out]at h;simp at h⟩
      | some bk2 =>
        have hrv:=lE _ ND;obtain⟨bv2,ev⟩:=zg hrv;subst ev;have HRV:=r9 (r_ hrv ND);clear hrv ND lY lE;go_wp2_with (at_builtin;refine zF rfl _ _ 69 rfl 34 (.pointer U) 1 8 Tryz.underlying69 Tryz.infoB rfl (by decide) (.slice a' k c') k us rfl ?c1 _ 1 [.pointer (OK ⟨bv2,0,U⟩)] rfl ?c2 ?c3 ?c4 ?_)
        case c1=>exact(HO.out.1.keep fun g o _ ho=>by rw[sw.out.1.block g (zZ ho)];exact ho).alloc _
        case c2=>exact zz.litk #[.pointer (OK ⟨bv2,0,U⟩)] rfl (by simp[R4]) _ (by simp)
        case c3=>unfold maxLen;omega
        case c4=>omega
        intro a7 c7 w7 sj sH sS;have L4:=HB.out.1.size;have hzr2:=sw.out.1.size;have Hj:∀g,(RI a' k c').ownBlock=OK g->g<(wr:Nat):=fun g hg=>HO.out.1.lt hg;have tJ:No w1 w7:=by
         have h1:No w1 w2:=HB.out.1.trans (sw.out.1.mono L4);refine(h1.alloc h1.size _).trans (sH.toBelow (by rw[zK];have:=h1.size;omega) fun i hi e=>?_);have:=HO.out.2.2.2 i e;omega
        have tD:∀g,(RI a7 (k+1) c7).ownBlock=OK g->(RI a' k c').ownBlock=OK g\/g=(w2:Nat)+1:=by
         intro g hg;rcases sS g hg with h|h
         ·exact .inl h
         ·exact .inr (by simpa using h)
        have lS:zY (fun i=>(RI a7 (k+1) c7).ownBlock≠OK i) w7 (qH (bs++[bk2])) (us++[.pointer (OK ⟨bv2,0,U⟩)]):=by
         rw[pi];refine zY.append ?_ ?_
         ·refine(Rep.keep fun b o hf ho=>⟨fun e=>?_,?_⟩).2 _ _ HO.out.2.1
          ·have:=zZ ho;rcases tD b e with h|h
           ·exact hf h
           ·omega
          ·have h2:w2.heap[b]?=OK o:=by rw[sw.out.1.block b (zZ ho)];exact ho
           rw[sH.block b (by rw[zK];have:=zZ h2;omega) hf];exact zJ h2
         ·rw[qH,qH];refine zY.one ((Rep.keep fun b o hf ho=>⟨fun e=>?_,?_⟩).1 _ _ HRV.out.1)
          ·have:=zZ ho;rcases tD b e with h|h
           ·have:=Hj b h;omega
           ·omega
          ·rw[sH.block b (by rw[zK];have:=zZ ho;omega) (fun e=>by have:=Hj b e;omega)];exact zJ ho
        have iA:∀g,(RI a7 (k+1) c7).ownBlock=OK g->(w1:Nat)<=g:=by
         intro g hg;rcases tD g hg with h|h
         ·exact HO.out.2.2.2 g h
         ·omega
        have Hp:kO (t.args.take (k+1)) (xs.take (k+1))=OK (bs++[bk2]):=by rw[BJ.out,HRV.out.2];rfl
        have H7:=r9 (r_ sj (r_ lS (r_ Hp (r_ tJ iA))));clear sj lS Hp tJ iA sH sS tD;go_wp2_with fail
        go_roundw
        case rel=>exact⟨k+1,a7,c7,_,_,by omega,by go_num,rfl,H7.out.1,H7.out.2.1,H7.out.2.2.1,H7.out.2.2.2.1,H7.out.2.2.2.2⟩
        case measure=>simp[intOf];omega
     ·obtain rfl:k=xs.length:=by omega
      have i8:=HO.out.2.2.1;rw[S6 (by rw[HL.out];exact sZ _),List.take_length]at i8;have Dk:=yJ _ _ _ HL.out.symm i8;have B_:∀x∈t.args,zU x<=15:=fun x hx=>by have:=HQ.out.2.1;have hm:=kI t;have:=vI hx;omega
      obtain⟨NN,hna⟩:=xS _ _ _ HL.out.symm B_ i8;have az:=xv b _ HQ.out.2.2 B_;obtain⟨W,hW⟩:=zzN (wr.alloc (.cells #[(),(),(most:Int),.int RD 0,.bool keeps] 134));have sF:No wr W:=by rw[<- hW];exact(sQ _ _).alloc (sZ _) _
      have iV:(W:Nat)=wr+1:=by rw[<- hW];exact zK _ _
      have iS:∀i,MBk wr () () i->i=(wr:Nat):=by
       rintro i (h | h | h)
       ·exact h
       all_goals
        simp[RM]at h
      have E_:MS keeps most wr [] () () W:=by
       refine⟨by rw[<- hW];exact zW _ _,fun _=>⟨Sf _ _ _ _,Sf _ _ _ _⟩,fun _=>⟨rfl,rfl⟩,by simp[RM],by simp[RM]⟩
      have P7:yE W:=HX.out.2.2.but (m:=fun _=>False) (But.ofBelow (zzT HB.out.2.1 sF)) (fun h=>h)
      have KM:∀ i,MBk wr () () i->ru i/\i≠0:=fun i hi=>nO (ma:=wr) (mv:=.slice none 0 0) (pt:=.slice none 0 0) (w:=w) ⟨hg,HX.out.2.2⟩ (fun j hj=>by
       have h1:=iS j hj;have h2:=HB.out.2.1.size;refine⟨hg.new (by omega),?_⟩;obtain⟨te,pe,h3⟩:=HX.out.2.2;have h4:0<(w:Nat):=sK w _ h3
       omega) (.inl hi)
      have aJ:Rep (fun i=>¬MBk wr () () i) W (kM b) (.pointer (OK ⟨ba,0,U⟩)):=
       (Rep.keep fun i o _ ho=>⟨fun h=>by have:=iS i h;have:=zZ ho;have:=HB.out.1.size;omega,by
        have h2:wr.heap[i]?=OK o:=by rw[HB.out.1.block i (zZ ho)];exact ho
        rw [sF.block i (zZ h2)];exact h2⟩).1 _ _ Ec.out
      have lp:Rep (fun i=>¬MBk wr () () i) W (.sl 34 1 bs.length (qH bs)) (.slice a' bs.length c'):=by
       have h0:Rep (fun _=>True) wr (.sl 34 1 xs.length (qH bs)) (.slice a' xs.length c'):=
        HO.out.1.rep (fun _ _=>trivial) ((Rep.keep fun _ _ _ ho=>⟨trivial,ho⟩).2 _ _ HO.out.2.1)
       rw[Dk];exact(Rep.keep fun i o _ ho=>⟨fun h=>by have:=iS i h;have:=zZ ho;omega,by rw[sF.block i (zZ ho)];exact ho⟩).1 _ _ h0
      have C:=run_any keeps most wr () () b bs t.args (.pointer (OK ⟨ba,0,U⟩)) a' c' W E_ (FY.below sF) P7 KM aJ lp NN HQ.out.2.2 az hna (by have:=HL.out;omega) h1 ly;rw[Dk]at C;have hR:jM most s text xs=ex most b bs:=by unfold jM;rw[HQ.out.1];simp only[RF];rw[if_pos HL.out.symm,i8];rfl
      have CC:=r9 C;have HR:=r9 hR;have HW:=r9 (r_ hW (r_ sF (r_ iV iS)));clear C hR hW sF iV iS E_ P7 KM aJ lp NN hna az i8 Dk B_;have Ie:¬(xs.length:Int)<(xs.length:Int):=by omega
      go_wp2_with fail
      rw[HW.out.1];refine CC.out.mono ?_;rintro en w3 ⟨sE,lu,BY⟩;have Nc:w3.heap[(w:Nat)]?=OK (.cells #[(),()] 77 (0,0)):=by
       have sC:=zZ HB.out.2.2;rw[sE.block _ (by have:=HW.out.2.2.1;omega) (fun h=>by have:=HW.out.2.2.2 _ h;omega),HW.out.2.1.block _ sC];exact HB.out.2.2
      clear d0 d1 f0 f1;obtain⟨d0,d1,f0,f1,_⟩:=we Nc;have JS:No w w3:=by
       have h1:=HB.out.2.1.size;have h2:=HW.out.2.2.1;exact(HB.out.2.1.trans (HW.out.2.1.mono h1)).trans (sE.toBelow (by omega) fun i hi h=>by have:=HW.out.2.2.2 i h;omega)
      have af:=r9 (r_ Nc (r_ JS sE));clear Nc JS sE;cases hR:ex most b bs with
      | none =>
        obtain⟨te,pe,rfl⟩:=lu hR;have Np:=r9 (HR.out.trans hR);clear hR lu BY;go_wp2_with fail
        obtain⟨W',NX,s0,s1,MX,_⟩:=wt af.out.1 () ();rw[<- NX];refine bodyPost_ret (v:=.tuple #[.agg #[(),()],str [],.bool RC]) (by simp[results,TY,go_sem,s0,s1]) rfl ?_;exact⟨MX _ _ af.out.2.1 (sZ _),fun _=>rfl,fun c' log' h=>by rw[Np.out]at h;simp at h⟩
      | some x =>
        obtain⟨cc,log⟩:=x;obtain⟨rfl,mv,pt,E_,tg⟩:=BY _ _ hR;have Np:=r9 (HR.out.trans hR);clear hR lu BY;obtain⟨a1,n1,k1,a2,n2,k2,rfl,rfl⟩:=E_.slices;obtain⟨m0,m1,_⟩:=cv E_.blk;have HMS:=r9 (r_ E_ tg);clear E_ tg;go_wp2_with fail
        obtain⟨W',NX,s0,s1,MX,hkW'⟩:=wt af.out.1 (.slice a1 n1 k1) (.slice a2 n2 k2);rw[<- NX];refine bodyPost_ret (v:=.tuple #[.agg #[.slice a1 n1 k1,.slice a2 n2 k2],str [cc],.bool true]) (by simp[results,TY,go_sem,s0,s1]) rfl ?_;have Bx:∀i,MBk wr (.slice a1 n1 k1) (.slice a2 n2 k2) i->(wr:Nat)<=i:=fun i hi=>by
         rcases HMS.out.2 i hi with h|h
         ·have:=HW.out.2.2.2 i h;omega
         ·have:=HW.out.2.2.1;omega
        have sC:=zZ HB.out.2.2;refine⟨MX _ _ af.out.2.1 (sZ _),fun h=>by rw[Np.out]at h;simp at h,fun c' log' h=>?_⟩;rw[Np.out]at h;simp only[RK,SQ]at h;obtain⟨rfl,rfl⟩:=h;refine⟨wr,a1,n1,k1,a2,n2,k2,rfl,?_,fun i hi=>by have:=Bx i hi;omega⟩;have Ga:But (fun i=>i=w) w3 W':=by
         rw[NX];exact((But.refl (fun i=>i=w) w3).setCell (p:=w) (.inl rfl) _).setCell (p:=⟨w,1,U⟩) (.inl rfl) _
        exact HMS.out.1.but Ga fun i hi e=>by have:=Bx i hi;omega
inductive SC where
 |mk (b:Bd) (t:Ty) (env:List SC) (begun arg:Nat)
def SC.body:SC->Bd | .mk b _ _ _ _=>b
def SC.kind:SC->Ty | .mk _ t _ _ _=>t
def SC.env:SC->List SC | .mk _ _ e _ _=>e
def SC.begun:SC->Nat | .mk _ _ _ n _=>n
def SC.arg:SC->Nat | .mk _ _ _ _ n=>n
structure SF where
 v:Nat
 ss:List Bd
 yes:Bd
 no:Bd
 env:List SC
 opens:Nat
def vT (env:List SC)(asked:Nat):Nat->List Ty->List Bd->List SC
 |i,t::ts,s::ss=>.mk s t env asked i::vT env asked (i+1) ts ss
 |_,_,_=>[]
def v_ (keep:Bool)(log:List (Bs×Int))(i:Nat):Bs:=if keep then ((log[i]?).map fun x=>x.1.drop 1).getD [] else []
def wV (keep:Bool):Nat->List (Bs×Int)->Bd->List SC->Nat->List SF->Option (UInt8×List (Bs×Int))
 | f,log,.leaf c,_,opens,st =>
   if c=117 then OK (117,log) else
   match f with
   |0=>U
   | f+1=>match st with
     |[]=>OK (c,log++[(c::v_ keep log opens,(opens:Int))])
     |fr::st'=>wV keep f (log++[(c::v_ keep log opens,(opens:Int))]) (if c=102 then fr.no else fr.yes) fr.env fr.opens st'
 | f,log,.ask v ss y n,env,opens,st =>
   match f with
   |0=>U
   | f+1=>match env[v]? with
     |none=>U
     |some e=>wV keep f (log++[(113::(v_ keep log e.begun++dec e.arg),(e.begun:Int))]) e.body (e.env++vT env log.length 0 e.kind.args ss) log.length (⟨v,ss,y,n,env,opens⟩::st)
mutual
def simC (keep:Bool)(log:List (Bs×Int)):SC->Clo->Prop
 |.mk b t env bg i,c=>c.body=b/\uD keep log env c.env/\c.begun=bg/\(keep=true->∃q p,log[bg]?=OK (q,p)/\c.path=q.drop 1++dec i)
def uD (keep:Bool)(log:List (Bs×Int)):List SC->List Clo->Prop
 |[],cs=>cs=[]
 |x::xs,cs=>∃c cs',cs=c::cs'/\simC keep log x c/\uD keep log xs cs'
end
mutual
theorem simC_more {keep:Bool}{log:List (Bs×Int)}(m:List (Bs×Int)):∀(x:SC) (c:Clo),simC keep log x c->simC keep (log++m) x c
 | .mk b t env bg i,c,h=>by
   rw[simC] at *;refine⟨h.1,uu m env _ h.2.1,h.2.2.1,fun hk=>?_⟩;obtain⟨q,p,h1,h2⟩:=h.2.2.2 hk;exact⟨q,p,by rw[Sv (RR.1 h1).1];exact h1,h2⟩
theorem uu {keep:Bool}{log:List (Bs×Int)}(m:List (Bs×Int)):∀(xs:List SC) (cs:List Clo),uD keep log xs cs->uD keep (log++m) xs cs
 |[],cs,h=>by rw[uD] at *;exact h
 | x::xs,cs,h=>by
   rw[uD] at *;obtain⟨c,cs',rfl,h1,h2⟩:=h;exact⟨c,cs',rfl,simC_more m x c h1,uu m xs cs' h2⟩
end
theorem dH {keep:Bool}{log:List (Bs×Int)}:∀(xs:List SC) (cs:List Clo) (ys:List SC) (ds:List Clo),uD keep log xs cs->uD keep log ys ds->uD keep log (xs++ys) (cs++ds)
 |[],cs,ys,ds,h,k=>by rw[uD]at h;subst h;simpa using k
 | x::xs,cs,ys,ds,h,k=>by
   rw[uD]at h;obtain⟨c,cs',rfl,h1,h2⟩:=h;simp only[R5];rw[uD];exact⟨c,cs'++ds,rfl,h1,dH xs cs' ys ds h2 k⟩
theorem ez {keep:Bool}{log:List (Bs×Int)}{env:List SC}{cenv:List Clo}(he:uD keep log env cenv){m:Nat}{path q:Bs}{p:Int}(hm:keep=true->log[m]?=OK (q,p)/\q.drop 1=path) :
 ∀(ts:List Ty) (ss:List Bd) (i:Nat),ts.length=ss.length->uD keep log (vT env m i ts ss) (qW cenv m path i ss)
 |[],[],i,_=>by rw[qW,vT,uD];intros;contradiction
 |[],s::ss,i,h=>by simp at h
 |t::ts,[],i,h=>by simp at h
 | t::ts,s::ss,i,h=>by
   rw[qW,vT,uD];refine⟨_,_,rfl,?_,ez he hm ts ss (i+1) (by simpa using h)⟩;rw[simC];exact⟨rfl,he,rfl,fun hk=>⟨q,p,(hm hk).1,by rw[(hm hk).2];rfl⟩⟩
structure simF (keep:Bool)(log:List (Bs×Int))(x:SF)(f:Fr):Prop where
 yes:f.yes=x.yes
 no:f.no=x.no
 env:uD keep log x.env f.env
 opens:f.begun=x.opens
 path:keep=true->∃q p,log[x.opens]?=OK (q,p)/\f.path=q.drop 1
theorem simF.more {keep:Bool}{log:List (Bs×Int)}{x:SF}{f:Fr}(h:simF keep log x f)(m:List (Bs×Int)):simF keep (log++m) x f:=
 ⟨h.yes,h.no,uu m _ _ h.env,h.opens,fun hk=>by
  obtain⟨q,p,h1,h2⟩:=h.path hk
  exact ⟨q,p,by rw [Sv (RR.1 h1).1];exact h1,h2⟩⟩
def simFs (keep:Bool)(log:List (Bs×Int)):List SF->List Fr->Prop
 |[],fs=>fs=[]
 |x::xs,fs=>∃f fs',fs=f::fs'/\simF keep log x f/\simFs keep log xs fs'
theorem cR {keep:Bool}{log:List (Bs×Int)}(m:List (Bs×Int)):∀(xs:List SF) (fs:List Fr),simFs keep log xs fs->simFs keep (log++m) xs fs
 |[],fs,h=>h
 | x::xs,fs,h=>by
   obtain⟨f,fs',e,h1,h2⟩:=h;exact⟨f,fs',e,h1.more m,cR m xs fs' h2⟩
def vH (keep:Bool)(log:List (Bs×Int))(a:Option (UInt8×List (Bs×Int)))(b:Option (UInt8×List (Bs×Nat))):Prop:=
 (b=U->a=U)/\∀c ms,b=OK (c,ms)->∃log',a=OK (c,log')/\(keep=true->log'=log++hG ms)
theorem vH.step {keep:Bool}{log:List (Bs×Int)}{s:Bs}{n:Nat}{a:Option (UInt8×List (Bs×Int))}{b:Option (UInt8×List (Bs×Nat))}{s':Bs}(h:vH keep (log++[(s,(n:Int))]) a b)(hs:keep=true->s'=s):vH keep log a (b.map fun x=>(x.1,(s',n)::x.2)):=by
 constructor
 ·intro hb;cases b with
  |none=>exact h.1 rfl
  |some x=>simp at hb
 ·intro c ms hb;cases b with
  |none=>simp at hb
  | some x =>
    simp only[SR,RK,SQ]at hb;obtain⟨rfl,rfl⟩:=hb;obtain⟨log',h1,h2⟩:=h.2 x.1 x.2 rfl;exact⟨log',h1,fun hk=>by rw[h2 hk,hs hk];simp[hG]⟩
theorem vH.log {keep:Bool}{log:List (Bs×Int)}(c:UInt8):vH keep log (OK (c,log)) (OK (c,[])):=
 ⟨fun h=>by simp at h,fun c' ms h=>by
  simp only[RK,SQ]at h;obtain⟨rfl,rfl⟩:=h
  exact ⟨log,rfl,fun _=>by simp [hG]⟩⟩
theorem vH.none {keep:Bool}{log:List (Bs×Int)}:vH keep log U U:=⟨fun _=>rfl,fun c ms h=>by simp at h⟩
mutual
def okS:SC->Prop
 |.mk b t env _ _=>wfB b/\pY env/\qB (env.map SC.kind++t.args) b
def pY:List SC->Prop
 |[]=>True
 |x::xs=>okS x/\pY xs
end
theorem okSs_at:∀(xs:List SC),pY xs->∀(i:Nat) (x:SC),xs[i]?=OK x->okS x
 |[],_,i,x,h=>by simp at h
 | y::xs,k,i,x,h=>by
   rw[pY]at k;cases i with
   |zero=>simp at h;subst h;exact k.1
   |succ i=>exact okSs_at xs k.2 i x (by simpa using h)
theorem ft:∀(xs ys:List SC),pY xs->pY ys->pY (xs++ys)
 |[],ys,_,h=>h
 |x::xs,ys,h,k=>by rw[pY]at h;exact⟨h.1,ft xs ys h.2 k⟩
theorem mT {env:List SC}(he:pY env)(m:Nat):∀(ts:List Ty) (ss:List Bd) (i:Nat),qZ (kx (env.map SC.kind) ts) ss->uo ss->pY (vT env m i ts ss)/\(vT env m i ts ss).map SC.kind=ts
 | [],ss,i,_,_=>by
   rw[vT]
   ·exact⟨by rw[pY];trivial,rfl⟩
   ·intros;contradiction
 |t::ts,[],i,h,_=>by rw[qZ]at h;simp[kx]at h
 | t::ts,s::ss,i,h,hw=>by
   rw[qZ]at h;obtain⟨h',lw,e,h1,h2⟩:=h;simp only[kx,Sa,List.cons.injEq]at e;obtain⟨rfl,rfl⟩:=e;rw[uo]at hw;obtain⟨k1,k2⟩:=mT he m ts ss (i+1) h2 hw.2;rw[vT];refine⟨?_,by rw[Sa,k2];rfl⟩;rw[pY];exact⟨by rw[okS];exact⟨hw.1,he,h1⟩,k1⟩
structure okF (x:SF):Prop where
 yes:wfB x.yes
 no:wfB x.no
 env:pY x.env
 node:qB (x.env.map SC.kind) (.ask x.v x.ss x.yes x.no)
theorem okF.fits {x:SF}(h:okF x):qB (x.env.map SC.kind) x.yes/\qB (x.env.map SC.kind) x.no:=by
 have:=h.node;rw[qB]at this;obtain⟨t,_,_,h1,h2⟩:=this;exact⟨h1,h2⟩
theorem simCs_at' {keep:Bool}{log:List (Bs×Int)}:∀(xs:List SC) (cs:List Clo),uD keep log xs cs->∀(i:Nat) (x:SC),xs[i]?=OK x->∃c,cs[i]?=OK c/\simC keep log x c
 |[],cs,h,i,x,hx=>by simp at hx
 | y::xs,cs,h,i,x,hx=>by
   rw[uD]at h;obtain⟨c,cs',rfl,h1,h2⟩:=h;cases i with
   |zero=>simp at hx;subst hx;exact⟨c,rfl,h1⟩
   |succ i=>simpa using simCs_at' xs cs' h2 i x (by simpa using hx)
theorem eU {env:List SC}{v:Nat}{ss:List Bd}{y n:Bd}(he:pY env)(hf:qB (env.map SC.kind) (.ask v ss y n)) :
 ∃e,env[v]?=OK e/\okS e/\ss.length=e.kind.args.length/\qZ (kx (env.map SC.kind) e.kind.args) ss:=by
 rw[qB]at hf;obtain⟨t,h1,h2,_,_⟩:=hf;rw[List.getElem?_map,RP]at h1;obtain⟨e,h3,rfl⟩:=h1;refine⟨e,h3,okSs_at _ he _ _ h3,?_,h2⟩;have:=ju _ _ h2;rw[vJ]at this;exact this.symm
theorem ask_ok {env:List SC}{v:Nat}{ss:List Bd}{y n:Bd}(he:pY env)(hf:qB (env.map SC.kind) (.ask v ss y n))(hw:wfB (.ask v ss y n)){e:SC}(hv:env[v]?=OK e)(m:Nat) :
 wfB e.body/\pY (e.env++vT env m 0 e.kind.args ss)/\qB ((e.env++vT env m 0 e.kind.args ss).map SC.kind) e.body:=by
 obtain⟨e',L7,sI,hl,hfs⟩:=eU he hf;rw[hv]at L7;simp at L7;subst L7;rw[wfB]at hw;obtain⟨k1,k2⟩:=mT he m _ _ 0 hfs hw.1;obtain⟨b,t,en,bg,i⟩:=e;rw[okS]at sI;refine⟨sI.1,ft _ _ sI.2.1 k1,?_⟩;rw[List.map_append,k2];exact sI.2.2
theorem run_same (keep:Bool):∀(f:Nat) (log:List (Bs×Int)) (b:Bd) (senv:List SC) (opens:Nat) (sst:List SF) (env:List Clo) (path:Bs) (st:List Fr),
 wfB b->pY senv->qB (senv.map SC.kind) b->(∀x∈sst,okF x)->uD keep log senv env->simFs keep log sst st->(keep=true->∃q p,log[opens]?=OK (q,p)/\path=q.drop 1)->
 vH keep log (wV keep f log b senv opens sst) (pT f log.length b env opens path st):=by
 intro f
 induction f with
 | zero =>
   intro log b senv opens sst env path st hw sI tA KX FI Ap hp;cases b with
   | leaf c =>
     by_cases hc:c=117
     ·subst hc;rw[runM_u];simp only[wV,if_pos];exact vH.log _
     ·rw[runM_out hc];simp only[wV,if_neg hc];exact vH.none
   | ask v ss y n =>
     rw[runM_out2];simp only[wV];exact vH.none
 | succ f ih =>
   intro log b senv opens sst env path st hw sI tA KX FI Ap hp;cases b with
   | leaf c =>
     by_cases hc:c=117
     ·subst hc;rw[runM_u];simp only[wV,if_pos];exact vH.log _
     ·have hs:keep=true->c::path=c::v_ keep log opens:=by
       intro hk;obtain⟨q,p,h1,h2⟩:=hp hk;simp[v_,hk,h1,h2]
      cases sst with
      | nil =>
        rw[simFs]at Ap;subst Ap;rw[runM_end hc];simp only[wV,if_neg hc];have:=vH.step (keep:=keep) (log:=log) (s:=c::v_ keep log opens) (n:=opens) (vH.log (log:=log++[(c::v_ keep log opens,(opens:Int))]) c) (s':=c::path) hs;exact this
      | cons x sst =>
        obtain⟨fr,st',rfl,hx,iG⟩:=Ap;have Bp:=KX x (by simp);rw[runM_back hc];simp only[wV,if_neg hc];refine vH.step ?_ hs;have hl:log.length+1=(log++[(c::v_ keep log opens,(opens:Int))]).length:=by simp
        have hy:(if c=116 then fr.yes else fr.no)=(if c=102 then x.no else x.yes):=by
         rw[wfB]at hw;rcases hw with rfl|rfl|rfl
         ·rw[if_pos rfl,if_neg (by decide)];exact hx.yes
         ·rw[if_neg (by decide),if_pos rfl];exact hx.no
         ·exact absurd rfl hc
        rw[hl,hy,hx.opens];have KY:=Bp.fits;refine ih _ _ _ _ _ _ _ _ ?_ Bp.env ?_ (fun z hz=>KX z (by simp[hz])) (uu _ _ _ hx.env) (cR _ _ _ iG) (hx.more _).path
        ·split
         ·exact Bp.no
         ·exact Bp.yes
        ·split
         ·exact KY.2
         ·exact KY.1
   | ask v ss y n =>
     obtain⟨e,hv,_,hl,_⟩:=eU sI tA;obtain⟨k1,k2,k3⟩:=ask_ok sI tA hw hv log.length;obtain⟨c,hcv,Cu⟩:=simCs_at' _ _ FI v e hv;rw[runM_ask _ _ _ _ _ _ _ _ _ _ hcv];simp only[wV,hv];obtain⟨eb,et,ee,eg,ei⟩:=e;rw[simC]at Cu;obtain⟨s1,s2,s3,s4⟩:=Cu;simp only[SC.body,SC.kind,SC.env,SC.begun,SC.arg] at *;rw[s3];have hpe:keep=true->c.path=v_ keep log eg++dec ei:=by
      intro hk;obtain⟨q,p,h1,h2⟩:=s4 hk;simp[v_,hk,h1,h2]
     refine vH.step ?_ (fun hk=>by rw[hpe hk]);have Mz:log.length+1=(log++[(113::(v_ keep log eg++dec ei),(eg:Int))]).length:=by simp
     rw[Mz,s1];have tg:keep=true->(log++[(113::(v_ keep log eg++dec ei),(eg:Int))])[log.length]?=OK (113::(v_ keep log eg++dec ei),(eg:Int)):=fun _=>by simp
     refine ih _ _ _ _ _ _ _ _ k1 k2 k3 ?_ ?_ ?_ ?_
     ·intro z hz;rcases Sc.1 hz with rfl|hz
      ·have sL:=hw;rw[wfB]at sL;exact⟨sL.2.1,sL.2.2,sI,tA⟩
      ·exact KX z hz
     ·exact dH _ _ _ _ (uu _ _ _ s2) (ez (uu _ _ _ FI) (q:=113::(v_ keep log eg++dec ei)) (p:=(eg:Int)) (fun hk=>⟨tg hk,by rw[hpe hk];rfl⟩) _ _ 0 hl.symm)
     ·refine⟨_,_,rfl,⟨rfl,rfl,uu _ _ _ FI,rfl,fun hk=>?_⟩,cR _ _ _ Ap⟩;obtain⟨q,p,h1,h2⟩:=hp hk;exact⟨q,p,by rw[Sv (RR.1 h1).1];exact h1,h2⟩
     ·intro hk;exact⟨_,_,tg hk,by rw[hpe hk];rfl⟩
def Rn (w:World)(ra:Nat)(mv pt:Value)(moves most:Nat)(bad:Bool):Prop:=w.heap[ra]?=OK (.cells #[mv,pt,(moves:Int),(most:Int),.bool RC,.bool bad] 100 (0,0))
theorem Rn.cells {w:World}{ra:Nat}{mv pt:Value}{moves most:Nat}{bad:Bool}(h:Rn w ra mv pt moves most bad):w (ra,2)=OK (.int RD (moves:Nat))/\w (ra,3)=OK (.int RD (most:Nat))/\w (ra,4)=OK (.bool RC)/\w (ra,5)=OK (.bool bad)/\w.frozen? (ra,2)=RC/\w.frozen? (ra,5)=RC:=by
 unfold Rn at h;exact⟨by simp[RE,h],by simp[RE,h],by simp[RE,h],by simp[RE,h],by simp[RO,h],by simp[RO,h]⟩
theorem Rn.below {w w':World}{ra:Nat}{mv pt:Value}{moves most:Nat}{bad:Bool}(h:Rn w ra mv pt moves most bad)(hb:No w w'):Rn w' ra mv pt moves most bad:=by
 unfold Rn;rw[hb.block ra (zZ h)];exact h
theorem l4Path_any (ra:Nat)(mv pt:Value)(moves most:Nat)(bad:Bool)(i:Int)(w:World)(h:Rn w ra mv pt moves most bad) :
 Calls RG 75 #[ra,.int RD i] w fun en w'=>en=.returned (str [])/\w'=w:=by
 obtain⟨c2,c3,c4,c5,f2,f5⟩:=h.cells;clear h;go_enter Tryz.func75,Tryz.ntmps75;go_wp2_with fail
 go_ret;exact⟨rfl,rfl⟩
theorem l4Make_any (ra:Nat)(mv pt:Value)(moves most:Nat)(bad:Bool)(s:Bs)(p:Int)(w:World)(h:Rn w ra mv pt moves most bad)(hm:moves<=16777216) :
 Calls RG 48 #[ra,s,.int RD p] w fun en w'=>
  en=.returned (.int RD (moves:Nat))/\But (· = ra) w w'/\Rn w' ra mv pt (moves+1) most (bad || decide (most<moves+1)):=by
 obtain⟨c2,c3,c4,c5,f2,f5⟩:=h.cells;obtain⟨W,hW⟩:=zzN (w.setCell (ra,2) (.int RD ((moves:Int)+1)));have Dy:Rn W ra mv pt (moves+1) most bad:=by rw[<- hW];unfold Rn;rw[zT h];rfl
 have Ga:But (· = ra) w W:=by rw[<- hW];exact But.setCell (m:=(· = ra)) (p:=⟨ra,2,U⟩) (But.refl _ _) (.inl rfl) _
 obtain⟨d2,d3,d4,d5,g2,g5⟩:=Dy.cells;have d2':W (ra,2)=OK (.int RD ((moves:Int)+1)):=d2;have HW:=r9 hW;have HP:=r9 Dy;have HB:=r9 Ga;clear h Dy Ga hW d2;by_cases JY:most<moves+1
 ·have hd:(most:Int)<(moves:Int)+1:=by omega
  have HD:=r9 JY;clear JY;go_enter Xp,WS;go_upto_region 2 with (fail)
  rw[HW.out];clear c2 c3 c4 c5 f2 f5;go_quiet (fail);have hp2:Rn ((W.drewN nq).setCell (ra,5) (.bool true)) ra mv pt (moves+1) most true:=by
   unfold Rn;rw[zT (show (W.drewN nq).heap[ra]?=_ from HP.out)];rfl
  obtain⟨e2,e3,e4,e5,_,_⟩:=hp2.cells;have e2':((W.drewN nq).setCell (ra,5) (.bool true)) (ra,2)=OK (.int RD ((moves:Int)+1)):=e2;have g5':(W.drewN nq).frozen? (ra,5)=RC:=g5;have d5':(W.drewN nq) (ra,5)=OK (.bool bad):=d5;have HP2:=r9 hp2;clear hp2 e2;go_wp2_with fail
  go_ret;refine⟨yQ (by omega),But.setCell (m:=(· = ra)) (p:=⟨ra,5,U⟩) (HB.out.trans (c:=W.drewN nq) ⟨rfl,rfl,rfl,sZ _,fun _ _ _=>rfl⟩) (.inl rfl) _,?_⟩;rw[decide_eq_true HD.out,Bool.or_true];exact HP2.out
 ·have hd:¬(most:Int)<(moves:Int)+1:=by omega
  have HD:=r9 JY;clear JY;go_enter Xp,WS;go_upto_region 2 with (fail)
  rw[HW.out];clear c2 c3 c4 c5 f2 f5;go_quiet (fail);have e2:(W.drewN nq) (ra,2)=OK (.int RD ((moves:Int)+1)):=d2';have e4:(W.drewN nq) (ra,4)=OK (.bool RC):=d4;go_wp2_with fail
  go_ret;refine⟨yQ (by omega),HB.out.trans ⟨rfl,rfl,rfl,sZ _,fun _ _ _=>rfl⟩,?_⟩;rw[decide_eq_false HD.out,Bool.or_false];exact HP.out
mutual
def rH:SC->List DV
 |.mk b t env bg i=>[.val (.int RD (-1))]++(kU b++[ki t,.sl 147 9 env.length (qR env),.val (.int RD (bg:Nat)),.val (.int RD (i:Nat))])
def qR:List SC->List DV
 |[]=>[]
 |x::xs=>rH x++qR xs
end
theorem pd (x:SC):(rH x).length=9:=by cases x;simp[rH,qy]
theorem cC:∀xs:List SC,(qR xs).length=xs.length*9
 |[]=>by simp[qR]
 |x::xs=>by rw[qR,RL,pd,cC xs];simp;omega
theorem wI:∀(xs ys:List SC),qR (xs++ys)=qR xs++qR ys
 |[],ys=>by simp[qR]
 |x::xs,ys=>by simp[qR,wI xs ys]
theorem ownS_at (env:List SC)(m:Nat):∀(ts:List Ty) (ss:List Bd) (i k:Nat) (t:Ty) (s:Bd),ts[k]?=OK t->ss[k]?=OK s->(vT env m i ts ss)[k]?=OK (.mk s t env m (i+k))
 |[],ss,i,k,t,s,h,_=>by simp at h
 |t'::ts,[],i,k,t,s,_,h=>by simp at h
 | t'::ts,s'::ss,i,k,t,s,h1,h2=>by
   rw[vT];cases k with
   |zero=>simp at h1 h2;subst h1;subst h2;simp
   |succ k=>simp only[List.getElem?_cons_succ] at *;rw[ownS_at env m ts ss (i+1) k t s h1 h2,show i+1+k=i+(k+1) from by omega]
theorem xW (env:List SC)(m:Nat):∀(ts:List Ty) (ss:List Bd) (i:Nat),ts.length=ss.length->(vT env m i ts ss).length=ss.length
 | [],[],i,_=>by rw [vT];· rfl
                 ·intros;contradiction
 |[],s::ss,i,h=>by simp at h
 |t::ts,[],i,h=>by simp at h
 |t::ts,s::ss,i,h=>by rw[vT];simp[xW env m ts ss (i+1) (by simpa using h)]
theorem gz {F:Nat->Prop}{w:World}:∀(xs:List SC) (us:List Value),zY F w (qR xs) us->∀u∈us,u.oneCell'=true
 |[],us,h,u,hu=>by rw[qR,zE]at h;subst h;simp at hu
 | .mk b t env bg i::xs,us,h,u,hu=>by
   rw[qR]at h;obtain⟨h1,h2⟩:=h.split;rw[pd]at h1 h2;rw[<- R7 9 us]at hu;rcases Si.1 hu with hu|hu
   ·rw[rH]at h1;obtain⟨k1,k2⟩:=h1.split;obtain⟨k3,k4⟩:=k2.split;rw[<- R7 1 (us.take 9)]at hu;rcases Si.1 hu with hu|hu
    ·simp only[TN,zQ,zE,zC]at k1;obtain⟨_,_,e,rfl,rfl⟩:=k1;rw[e]at hu;simp at hu;subst hu;rfl
    ·rw[qy]at k3 k4;simp only[TN]at k3 k4;rw[<- R7 4 (List.drop 1 (us.take 9))]at hu;rcases Si.1 hu with hu|hu
     ·exact dT k3 u hu
     ·simp only[zQ,zE,zC]at k4;obtain⟨x0,_,e,q1,x1,_,rfl,q2,_,_,rfl,rfl,_,_,rfl,rfl,rfl⟩:=k4;rw[e]at hu;obtain⟨sa,sc,rfl⟩:=za q1;rw[zv]at q2;obtain⟨_,a,c,rfl,_⟩:=q2;simp only[Sc,List.not_mem_nil,or_false]at hu;rcases hu with rfl|rfl|rfl|rfl <;> rfl
   ·exact gz xs _ h2 u hu
def fL (F:Nat->Prop)(hand:List SC)(own:List SC)(w:World)(en:Ending)(w':World):Prop:=
 ∃a c,en=.returned (.slice a (hand.length+own.length) c)/\No w w'/\Rep (fun i=>F i\/w<=i) w' (.sl 147 9 (hand.length+own.length) (qR (hand++own))) (.slice a (hand.length+own.length) c)
theorem f_ (F:Nat->Prop)(hand env:List SC)(ss:List Bd)(t:Ty)(begun:Nat)(hv kv tv ev:Value)(w:World)(hh:Rep F w (.sl 147 9 hand.length (qR hand)) hv)(hk:Rep F w (.sl 53 4 ss.length (zp ss)) kv)(ht:Rep F w (ki t) tv)(he:Rep F w (.sl 147 9 env.length (qR env)) ev)(hl:hand.length<=10000000)(hs:ss.length=t.args.length)(Jz:ss.length<=16) :
 Calls RG 50 #[hv,kv,.agg #[tv],ev,(begun:Int)] w (fL F hand (vT env begun 0 t.args ss) w):=by
 obtain⟨xs1,Ba,g1⟩:=zz.ofRep hh (gz _);obtain⟨a1,c1,e1⟩:=g1.slice;subst e1;obtain⟨ka,kc,e,Ez⟩:=bZ.of hk;subst e;have al:=ht;rw[jJ]at al;obtain⟨ta,tc,e,_,_,AD⟩:=zH al;subst e;obtain⟨ea,ec,e⟩:∃a c,ev=.slice a env.length c:=by have h:=he;rw[zv]at h;obtain⟨_,a,c,e,_⟩:=h;exact⟨a,c,e⟩
 subst e;have H:=r9 (r_ Ba (r_ g1 (r_ Ez (r_ AD (r_ he hs)))));clear Ba g1 Ez AD he hs hh hk ht al;have lg:(vT env begun 0 t.args ss).length=ss.length:=xW _ _ _ _ _ H.out.2.2.2.2.2.symm;have Ob:=r9 lg;clear lg;go_enter Tryz.func50,Tryz.ntmps50;go_wp2_with (at_builtin;refine zF rfl _ _ 105 rfl 147 (.agg #[.int RD 0,str [],.int RD 0,(),(),(),(),.int RD 0,.int RD 0]) 9 144 Sp Tryz.infoBo rfl (by decide) (.slice (w+1:Nat) 0 0) 0 [] rfl ?c1 _ hand.length xs1 rfl ?c2 ?c3 ?c4 ?_)
 case c1=>exact Own.litAt #[] 0 _ (by simp) (by decide) rfl
 case c2=>exact(H.out.2.1.alloc _).alloc _
 case c3=>unfold maxLen;omega
 case c4=>omega
 intro ax cx wx Mo iw MG;obtain⟨oh,MJ⟩:=xI (w:=w.alloc (.cells #[.slice ta t.args.length tc] 47)) ((sQ _ _).alloc (sZ _) _) (dS (by simp)) iw (fun g h=>by have:=MG g h;simpa only[zK] using this);have iJ:No w (w.alloc (.cells #[.slice ta t.args.length tc] 47)):=(sQ _ _).alloc (sZ _) _;have IA:No w wx:=iJ.trans (oh.mono (by rw[zK];omega));have Dj:wx w=OK (.slice ta t.args.length tc):=by rw[oh.cell (p:=w) (by rw[zK];simp)];simp
 have Im:∀g,(RI ax hand.length cx).ownBlock=OK g->(w:Nat)+1<=g:=fun g hg=>by have:=MJ g hg;rwa [zK]at this
 have HX:=r9 (r_ Mo (r_ IA (r_ Dj Im)));clear Mo iw MG oh MJ iJ IA Dj Im;go_wp2_with fail
 go_loopw [12,11] (fun i o wr=>∃ (k:Nat) (a':Option Addr) (c':Nat) (cells:List Value),k<=ss.length/\i=.int .i64 k/\o=.slice a' (hand.length+k) c'/\Own wr 147 9 (.slice a' (hand.length+k) c') (hand.length+k) cells /\
  zY (fun i=>F i/\(RI a' (hand.length+k) c').ownBlock≠some i) wr (qR (hand++(vT env begun 0 t.args ss).take k)) cells/\Below w w wr/\wr w=some (.slice ta t.args.length tc)/\(∀ g,(RI a' (hand.length+k) c').ownBlock=some g->(w:Nat)+1<=g)) (fun i _ _=>ss.length-(intOf i).toNat)
 case atStart=>
  refine⟨0,ax,cx,xs1,R6 _,rfl,rfl,HX.out.1,?_,HX.out.2.1,HX.out.2.2.1,HX.out.2.2.2⟩;rw[List.take_zero,R9];exact(Rep.keep fun b o hf ho=>⟨⟨hf,fun e=>by have h1:w+1<=b:=HX.out.2.2.2 b e;have:=zZ ho;omega⟩,by rw[HX.out.2.1.block b (zZ ho)];exact ho⟩).2 _ _ H.out.1
 case round=>
  obtain⟨k,a',c',cells,hk,rfl,rfl,ho,hr,hb,hc,hf⟩:=hrel;have HR:=r9 (r_ ho (r_ hr (r_ hb hf)));clear ho hr hb hf;by_cases sC:k<ss.length
  ·obtain⟨kb,ko,s',v',a2,n2,c2,a3,n3,c3,d,e,ic,hd,k0,k1,k2,k3,i8⟩:=H.out.2.2.1 k sC;subst e;have Fa:k<t.args.length:=by have:=H.out.2.2.2.2.2;omega
   obtain⟨bt,ot,ut,dt,e,_,ib,NP,K5,tQ⟩:=H.out.2.2.2.1 k Fa;subst e;rw[vU,RP]at NP;obtain⟨tk,lM,rfl⟩:=NP;obtain⟨ua,uc,rfl⟩:=za tQ;have q0:=(HR.out.2.2.1.cell (p:=(kb,ko+k*4)) ic).trans k0;have q1:=(HR.out.2.2.1.cell (p:=(kb,ko+k*4+1)) ic).trans k1;have q2:=(HR.out.2.2.1.cell (p:=(kb,ko+k*4+2)) ic).trans k2;have q3:=(HR.out.2.2.1.cell (p:=(kb,ko+k*4+3)) ic).trans k3;have q4:=(HR.out.2.2.1.cell (p:=(bt,ot+k)) ib).trans K5;have HK:=r9 (r_ hd (r_ i8 (r_ lM tQ)));clear hd i8 lM tQ k0 k1 k2 k3 K5;have tB:(k:Int)<(ss.length:Int):=by omega
   have MC:(k:Int)<(t.args.length:Int):=by omega
   have h09:0<9:=by omega
   have oP:hand.length+k+1<=maxLen:=by unfold maxLen;omega
   have aI:(hand.length+k+1)*144<=140737488355328:=by omega
   have B5:=(zz.litk (w:=wr) (e:=147) #[.int RD (-1),str s',.int RD v',.slice a2 n2 c2,.slice a3 n3 c3,.slice ua tk.args.length uc,.slice ea env.length ec,.int RD (begun:Nat),.int RD (k:Nat)] rfl (by simp[str,R4]) _ rfl).drew;have HL:=r9 B5;clear B5;have hrw:∀g,(RI a' (hand.length+k) c').ownBlock=OK g->g<(wr:Nat):=fun g hg=>HR.out.1.lt hg
   have SIX:Hid (∀ w7:World,But (fun b=>(RI a' (hand.length+k) c').ownBlock=some b) (wr.alloc (.cells #[.int .i64 (-1),s',.int .i64 v',.slice a2 n2 c2,.slice a3 n3 c3,.slice ua tk.args.length uc,.slice ea env.length ec,(begun:Int),(k:Int)] 147)).drew w7 ->
    w7 (kb,ko+k*4)=str s'/\w7 (kb,ko+k*4+1)=some (.int .i64 v')/\w7 (kb,ko+k*4+2)=some (.slice a2 n2 c2)/\w7 (kb,ko+k*4+3)=some (.slice a3 n3 c3)/\w7 (bt,ot+k)=some (.slice ua tk.args.length uc)/\w7 w=some (.slice (bt,ot) t.args.length tc)):=by
    show ∀w7:World,_->_;intro w7 sH;have hz:=HR.out.2.2.1.size;have key:∀(p:Addr) (u:Value),p.block<w+1->wr.cell? p=u->w7.cell? p=u:=by
     intro p u hp hu;have h1:(wr.alloc (.cells #[.int RD (-1),s',.int RD v',.slice a2 n2 c2,.slice a3 n3 c3,.slice ua tk.args.length uc,.slice ea env.length ec,(begun:Int),(k:Int)] 147)).drew.cell? p=u:=zV hu;exact(sH.cell (sK _ _ h1) (fun e=>by have:=HR.out.2.2.2 _ e;omega)).trans h1
    exact⟨key _ _ (by simp only;omega) q0,key _ _ (by simp only;omega) q1,key _ _ (by simp only;omega) q2,key _ _ (by simp only;omega) q3,key _ _ (by simp only;omega) q4,key _ _ (by simp only;omega) hc⟩
   go_wp2_with fail
   go_region_held3 (fun w'=>w' (kb,ko+k*4)=str s'/\w' (kb,ko+k*4+1)=OK (.int RD v')/\w' (kb,ko+k*4+2)=OK (.slice a2 n2 c2)/\w' (kb,ko+k*4+3)=OK (.slice a3 n3 c3)/\w' (bt,ot+k)=OK (.slice ua tk.args.length uc)/\w' w=OK (.slice (bt,ot) t.args.length tc))
    (first
     |exact⟨q0,q1,q2,q3,q4,hc⟩
     |exact D_
     | go_keep)
    (first
     | (refine zL (by rfl) _ _ _ (by rfl) 147 (.agg #[.int .i64 0,str [],.int .i64 0,.slice none 0 0,.slice none 0 0,.slice none 0 0,.slice none 0 0,.int .i64 0,.int .i64 0]) 9 144 Sp Tryz.infoBo rfl h09 (.slice a' (hand.length+k) c') (hand.length+k) cells (by rfl) (HR.out.1.alloc _).drew _ 1 [.int .i64 (-1),str s',.int .i64 v',.slice a2 n2 c2,.slice a3 n3 c3,.slice ua tk.args.length uc,.slice ea env.length ec,.int .i64 (begun:Nat),.int .i64 (k:Nat)] (by rfl) HL.out oP aI ?_;intro a7 c7 w7 sj sH sS;have D_:=SIX.out w7 sH))
   have hz:=HR.out.2.2.1.size;have tD:∀g,(RI a7 (hand.length+k+1) c7).ownBlock=OK g->(RI a' (hand.length+k) c').ownBlock=OK g\/g=(wr:Nat)+1:=by
    intro g hg;rcases sS g hg with h|h
    ·exact .inl h
    ·exact .inr (by rw[h];exact zK _ _)
   have tJ:No w w7:=by
    refine((HR.out.2.2.1.alloc hz _).drew).trans (sH.toBelow (by show _<=(wr.alloc _).heap.size;rw[zK];omega) fun i hi e=>?_);have:=HR.out.2.2.2 i e;omega
   have i_:∀(b:Nat) (o:Obj),(RI a' (hand.length+k) c').ownBlock≠OK b->wr.heap[b]?=OK o->w7.heap[b]?=OK o:=by
    intro b o hf ho;have h2:=zZ ho;have h3:(wr.alloc (.cells #[.int RD (-1),s',.int RD v',.slice a2 n2 c2,.slice a3 n3 c3,.slice ua tk.args.length uc,.slice ea env.length ec,(begun:Int),(k:Int)] 147)).drew.heap[b]?=OK o:=zJ ho;rw[sH.block b (zZ h3) hf];exact h3
   have lS:zY (fun i=>F i/\(RI a7 (hand.length+k+1) c7).ownBlock≠OK i) w7 (qR (hand++(vT env begun 0 t.args ss).take (k+1))) (cells++[.int RD (-1),str s',.int RD v',.slice a2 n2 c2,.slice a3 n3 c3,.slice ua tk.args.length uc,.slice ea env.length ec,.int RD (begun:Nat),.int RD (k:Nat)]):=by
    have how:=ownS_at env begun t.args ss 0 k tk d HK.out.2.2.1 HK.out.1;rw[SU]at how;rw[Sd,how];simp only[Option.toList_some];rw[<- List.append_assoc,wI];have JG:∀(b:Nat) (o:Obj),F b->w.heap[b]?=OK o->(F b/\(RI a7 (hand.length+k+1) c7).ownBlock≠OK b)/\w7.heap[b]?=OK o:=by
     intro b o hf ho;have h1:=zZ ho;refine⟨⟨hf,fun e=>?_⟩,by rw[tJ.block b h1];exact ho⟩;rcases tD b e with h|h
     ·have:=HR.out.2.2.2 b h;omega
     ·omega
    refine zY.append ?_ ?_
    ·exact (Rep.keep fun b o hf ho=>⟨⟨hf.1,fun e=>by
      have:=zZ ho;rcases tD b e with h|h
      ·exact hf.2 h
      ·omega⟩,i_ b o hf.2 ho⟩).2 _ _ HR.out.2.1
    ·simp only[qR,rH,R9,R5,Ss];refine zQ.2 ⟨_,_,rfl,zC.2 rfl,?_⟩;have h4:=(Rep.keep JG).2 _ _ HK.out.2.1;have h5:=(Rep.keep JG).1 _ _ HK.out.2.2.2;have h6:=(Rep.keep JG).1 _ _ H.out.2.2.2.2.1;exact zY.append h4 (zQ.2 ⟨_,_,rfl,h5,zQ.2 ⟨_,_,rfl,h6,zQ.2 ⟨_,_,rfl,zC.2 rfl,zQ.2 ⟨_,_,rfl,zC.2 rfl,zE.2 rfl⟩⟩⟩⟩)
   have iA:∀g,(RI a7 (hand.length+k+1) c7).ownBlock=OK g->(w:Nat)+1<=g:=by
    intro g hg;rcases tD g hg with h|h
    ·exact HR.out.2.2.2 g h
    ·omega
   have H7:=r9 (r_ sj (r_ lS (r_ tJ (r_ D_.2.2.2.2.2 iA))));clear sj lS tJ D_ iA sH sS tD i_ q0 q1 q2 q3 q4 hc;go_wp2_with fail
   go_roundw
   case rel=>exact⟨k+1,a7,c7,_,by omega,by go_num,rfl,H7.out.1,H7.out.2.1,H7.out.2.2.1,H7.out.2.2.2.1,H7.out.2.2.2.2⟩
   case measure=>simp[intOf];omega
  ·obtain rfl:k=ss.length:=by omega
   have PC:¬(ss.length:Int)<(ss.length:Int):=by omega
   clear hc;go_wp2_with fail
   go_ret;have hr:=HR.out.2.1;rw[S6 (by rw[Ob.out];exact sZ _)]at hr;unfold fL;rw[Ob.out];refine⟨a',c',rfl,HR.out.2.2.1,HR.out.1.rep (fun g hg=>.inr (by have:=HR.out.2.2.2 g hg;omega)) ((Rep.keep fun b o hf ho=>⟨.inl hf.1,ho⟩).2 _ _ hr)⟩
structure RS (keep:Bool)(most ra:Nat)(log:List (Bs×Int))(mv pt:Value)(w:World):Prop where
 blk:w.heap[ra]?=OK (.cells #[mv,pt,.int RD (log.length:Nat),(most:Int),.bool keep,.bool (decide (most<log.length))] 100 (0,0))
 sls:∃a n k a' n' k',mv=.slice a n k/\pt=.slice a' n' k'
 rows:keep=true->log.length<=most->Own w 9 1 mv log.length (logM log)/\Own w 3 1 pt log.length (logP log)
 ne:∀g,mv.ownBlock=OK g\/pt.ownBlock=OK g->g≠ra/\g<(w:Nat)
theorem RS.but {keep:Bool}{most ra:Nat}{log:List (Bs×Int)}{mv pt:Value}{m:Nat->Prop}{w w':World}(h:RS keep most ra log mv pt w)(hb:But m w w')(hm:∀b,MBk ra mv pt b->¬m b):RS keep most ra log mv pt w':=
 ⟨by rw [hb.block ra (zZ h.blk) (hm ra (.inl rfl))];exact h.blk,h.sls,
  fun hk hl=>⟨(h.rows hk hl).1.keep fun g o hg ho=>by rw[hb.block g (zZ ho) (hm g (.inr (.inl hg)))];exact ho,(h.rows hk hl).2.keep fun g o hg ho=>by rw[hb.block g (zZ ho) (hm g (.inr (.inr hg)))];exact ho⟩,
  fun g hg=>⟨(h.ne g hg).1,sV (h.ne g hg).2 hb.size⟩⟩
theorem RS.below {keep:Bool}{most ra:Nat}{log:List (Bs×Int)}{mv pt:Value}{w w':World}(h:RS keep most ra log mv pt w)(hb:No w w'):RS keep most ra log mv pt w':=
 h.but (m:=fun _=>False) (But.ofBelow hb) fun _ _ h=>h
theorem RS.drew {keep:Bool}{most ra:Nat}{log:List (Bs×Int)}{mv pt:Value}{w:World}(h:RS keep most ra log mv pt w):RS keep most ra log mv pt w.drew:=h.but (m:=fun _=>False) (But.refl _ _).drew fun _ _ h=>h
theorem RS.lt {keep:Bool}{most ra:Nat}{log:List (Bs×Int)}{mv pt:Value}{w:World}(h:RS keep most ra log mv pt w){b:Nat}(hb:MBk ra mv pt b):b<w:=by
 rcases hb with rfl|hb|hb
 ·exact zZ h.blk
 ·exact(h.ne b (.inl hb)).2
 ·exact(h.ne b (.inr hb)).2
theorem RS.bad {keep:Bool}{most ra:Nat}{log:List (Bs×Int)}{mv pt:Value}{w:World}(h:RS keep most ra log mv pt w):w (ra,5)=OK (.bool (decide (most<log.length))):=by simp[RE,h.blk]
def rh (keep:Bool):Prop:=∀(most ra:Nat) (log:List (Bs×Int)) (mv pt:Value) (s:Bs) (p:Int) (w:World),RS keep most ra log mv pt w->log.length<=most->most<=100000->s.length<=1000000->
 Calls RG 48 #[ra,s,.int RD p] w fun en w'=>∃mv' pt',en=.returned (.int RD (log.length:Nat))/\But (MBk ra mv pt) w w'/\RS keep most ra (log++[(s,p)]) mv' pt' w'/\(∀b,MBk ra mv' pt' b->MBk ra mv pt b\/(w:Nat)<=b)
def rj (keep:Bool):Prop:=∀(most ra:Nat) (log:List (Bs×Int)) (mv pt:Value) (i:Nat) (w:World),RS keep most ra log mv pt w->log.length<=most->most<=100000->(∃q p,log[i]?=OK (q,p)/\1<=q.length/\q.length<=1000000)->
 Calls RG 75 #[ra,(i:Int)] w fun en w'=>en=.returned (str (v_ keep log i))/\w'=w
theorem make_none:rh RC:=by
 intro most ra log mv pt s p w h hl hm _;have hd:decide (most<log.length)=RC:=by rw[decide_eq_false_iff_not];omega
 have hb:=h.blk;rw[hd]at hb;refine(l4Make_any ra mv pt log.length most RC s p w hb (by omega)).mono ?_;rintro en w' ⟨rfl,sA,hr⟩;have hlen:(log++[(s,p)]).length=log.length+1:=by simp
 refine⟨mv,pt,rfl,sA.weak fun i _ hi=>.inl hi,⟨?_,h.sls,fun hk=>Bool.noConfusion hk,fun g hg=>⟨(h.ne g hg).1,sV (h.ne g hg).2 sA.size⟩⟩,fun b hb=>.inl hb⟩;rw[hlen];exact hr
theorem path_none:rj RC:=by
 intro most ra log mv pt i w h hl hm _;have hb:=h.blk;refine(l4Path_any ra mv pt log.length most _ (i:Int) w hb).mono ?_;rintro en w' ⟨rfl,e⟩;exact⟨rfl,e⟩
structure BoxS (F:Nat->Prop)(B:Nat)(b:Bd)(v:Int)(x2 x3:Value)(w:World):Prop where
 blk:w.heap[B]?=OK (.cells #[str (z_ b),.int RD v,x2,x3] 53 (0,0))
 rep:zY F w (kU b) [str (z_ b),.int RD v,x2,x3]
def encSF (x:SF):List DV:=kU (.ask x.v x.ss x.yes x.no)++[.sl 147 9 x.env.length (qR x.env),.val (.int RD (x.opens:Nat))]
def uN:List SF->List DV
 |[]=>[]
 |x::xs=>encSF x++uN xs
theorem encSF_length (x:SF):(encSF x).length=6:=by simp[encSF,qy]
theorem wL:∀(xs ys:List SF),uN (xs++ys)=uN xs++uN ys
 |[],ys=>by simp[uN]
 |x::xs,ys=>by simp[uN,wL xs ys]
theorem cB:∀fs:List SF,(uN fs).length=fs.length*6
 |[]=>by simp[uN]
 |f::fs=>by rw[uN,RL,cB fs,encSF_length];simp;omega
mutual
def okN (n:Nat):SC->Prop
 |.mk b _ e bg i=>nB b/\wT n e/\e.length<=16*n/\bg<n/\i<=15
def wT (n:Nat):List SC->Prop
 |[]=>True
 |c::cs=>okN n c/\wT n cs
end
mutual
theorem okN_mono {n m:Nat}(h:n<=m):∀c,okN n c->okN m c
 | .mk b _ e bg i,k=>by
   rw[okN] at *;exact⟨k.1,yq h e k.2.1,by have:=k.2.2.1;omega,by have:=k.2.2.2.1;omega,k.2.2.2.2⟩
theorem yq {n m:Nat}(h:n<=m):∀cs,wT n cs->wT m cs
 |[],k=>by rw[wT] at *;trivial
 |c::cs,k=>by rw[wT] at *;exact⟨okN_mono h c k.1,yq h cs k.2⟩
end
theorem okNs_at {n:Nat}:∀(cs:List SC),wT n cs->∀(i:Nat) (c:SC),cs[i]?=OK c->okN n c
 |[],_,i,c,h=>by simp at h
 | x::cs,k,i,c,h=>by
   rw[wT]at k;cases i with
   |zero=>simp at h;subst h;exact k.1
   |succ i=>exact okNs_at cs k.2 i c (by simpa using h)
theorem fi {n:Nat}:∀(xs ys:List SC),wT n xs->wT n ys->wT n (xs++ys)
 |[],ys,_,h=>h
 |x::xs,ys,h,k=>by rw[wT]at h;exact⟨h.1,fi xs ys h.2 k⟩
theorem nA {n m:Nat}{env:List SC}(he:wT n env)(hl:env.length<=16*n)(hm:m<n):∀(ts:List Ty) (ss:List Bd) (i:Nat),i+ss.length<=16->nBs ss->wT n (vT env m i ts ss)
 | [],ss,i,_,_=>by
   rw[vT]
   ·rw[wT];trivial
   ·intros;contradiction
 | t::ts,[],i,_,_=>by
   rw[vT]
   ·rw[wT];trivial
   ·intros;contradiction
 | t::ts,s::ss,i,hi,h=>by
   rw[nBs]at h;simp only[RU]at hi;rw[vT,wT];refine⟨?_,nA he hl hm ts ss (i+1) (by omega) h.2⟩;rw[okN];exact⟨h.1,he,hl,hm,by omega⟩
structure SFOk (n:Nat)(x:SF):Prop where
 ok:okF x
 yes:nB x.yes
 no:nB x.no
 env:wT n x.env
 len:x.env.length<=16*n
 opens:x.opens<n
theorem SFOk.mono {n m:Nat}{x:SF}(h:SFOk n x)(k:n<=m):SFOk m x:=⟨h.ok,h.yes,h.no,yq k _ h.env,by have:=h.len;omega,by have:=h.opens;omega⟩
def LogOk (log:List (Bs×Int)):Prop:=∀(i:Nat) (q:Bs) (p:Int),log[i]?=OK (q,p)->1<=q.length/\q.length<=2*log.length+1
theorem LogOk.snoc {log:List (Bs×Int)}(h:LogOk log){s:Bs}{p:Int}(h1:1<=s.length)(h2:s.length<=2*log.length+3):LogOk (log++[(s,p)]):=by
 intro i q p' hi;have hl:(log++[(s,p)]).length=log.length+1:=by simp
 rw[hl];rcases TR i log.length with sC|Bx
 ·rw[Sv sC]at hi;have:=h i q p' hi;omega
 ·rw[Sr Bx]at hi;rcases Nat.eq_zero_or_pos (i-log.length) with h0|h0
  ·rw[h0]at hi;simp at hi;obtain⟨rfl,rfl⟩:=hi;omega
  ·rw[List.getElem?_eq_none (by simp;omega)]at hi;simp at hi
theorem wG (keep:Bool){log:List (Bs×Int)}(h:LogOk log)(i:Nat):(v_ keep log i).length<=2*log.length:=by
 unfold v_;split
 ·cases hi:log[i]? with
  |none=>simp
  |some x=>obtain⟨q,p⟩:=x;have:=h i q p hi;simp;omega
 ·simp
structure GoPl (keep:Bool)(R:Option (UInt8×List (Bs×Int)))(most:Nat)(b:Bd)(env:List SC)(opens:Nat)(st:List SF)(log:List (Bs×Int)):Prop where
 goes:(log.length<=most/\R=wV keep (most-log.length) log b env opens st)\/(most<log.length/\log.length<=most+1/\R=U)
 wf:wfB b
 oks:pY env
 fit:qB (env.map SC.kind) b
 nb:nB b
 oke:wT log.length env
 len:env.length<=16*log.length
 opn:opens<log.length
 frs:∀f∈st,SFOk log.length f
 stl:st.length<=log.length
 lok:LogOk log
structure GoAt (keep:Bool)(most ra:Nat)(Eg Ee:Value)(w:World)(B:Nat)(b:Bd)(env:List SC)(opens:Nat)(st:List SF)(log:List (Bs×Int))(mv pt:Value)(v:Int)(x2 x3 ev sv:Value)(cells:List Value)(wr:World):Prop where
 rs:RS keep most ra log mv pt wr
 box:BoxS (fun i=>¬Chg ra mv pt B sv i) B b v x2 x3 wr
 re:Rep (fun i=>¬Chg ra mv pt B sv i) wr (.sl 147 9 env.length (qR env)) ev
 own:Own wr 155 6 sv st.length cells
 rf:zY (fun i=>¬Chg ra mv pt B sv i) wr (uN st.reverse) cells
 but:But (MBk ra Eg Ee) w wr
 new:∀i,MBk ra mv pt i->MBk ra Eg Ee i\/(w:Nat)<=i
 bB:w<=B/\¬MBk ra mv pt B
 sB:∀g,sv.ownBlock=OK g->(w:Nat)<=g/\g≠B/\¬MBk ra mv pt g
theorem gopl_back {keep:Bool}{R:Option (UInt8×List (Bs×Int))}{most:Nat}{c:UInt8}{env:List SC}{opens:Nat}{x:SF}{st:List SF}{log:List (Bs×Int)}(h:GoPl keep R most (.leaf c) env opens (x::st) log)(hc:c≠117)(hm:log.length<=most) :
 GoPl keep R most (if c=102 then x.no else x.yes) x.env x.opens st (log++[(c::v_ keep log opens,(opens:Int))]):=by
 obtain⟨FZ,An,JC,tA,az,Bo,hlen,hopn,Cz,lN,If⟩:=h;have hl:(log++[(c::v_ keep log opens,(opens:Int))]).length=log.length+1:=by simp
 have k:=Cz x (by simp);have hf:=k.ok.fits;have hp:=wG keep If opens;refine⟨?_,by split;exact k.ok.no;exact k.ok.yes,k.ok.env,by split;exact hf.2;exact hf.1,by split;exact k.no;exact k.yes,by rw[hl];exact yq (by omega) _ k.env,by rw[hl];have:=k.len;omega,by rw[hl];have:=k.opens;omega,fun g hg=>by rw[hl];exact(Cz g (by simp[hg])).mono (by omega),by rw[hl];simp at lN;omega,If.snoc (by simp) (by simp;omega)⟩;rw[hl];rcases FZ with ⟨_,FZ⟩|⟨h1,_⟩
 ·rcases TR log.length most with h2|h2
  ·refine .inl ⟨by omega,?_⟩;obtain⟨d,hd⟩:∃d,most-log.length=d+1:=⟨most-log.length-1,by omega⟩;rw[FZ,hd,show most-(log.length+1)=d from by omega];simp only[wV,if_neg hc]
  ·refine .inr ⟨by omega,by omega,?_⟩;rw[FZ,show most-log.length=0 from by omega];simp only[wV,if_neg hc]
 ·omega
theorem gopl_ask {keep:Bool}{R:Option (UInt8×List (Bs×Int))}{most:Nat}{v:Nat}{ss:List Bd}{y n:Bd}{env:List SC}{opens:Nat}{st:List SF}{log:List (Bs×Int)}(h:GoPl keep R most (.ask v ss y n) env opens st log)(hm:log.length<=most){e:SC}(he:env[v]?=OK e) :
 GoPl keep R most e.body (e.env++vT env log.length 0 e.kind.args ss) log.length (⟨v,ss,y,n,env,opens⟩::st) (log++[(113::(v_ keep log e.begun++dec e.arg),(e.begun:Int))]):=by
 obtain⟨FZ,An,JC,tA,az,Bo,hlen,hopn,Cz,lN,If⟩:=h;have hl:(log++[(113::(v_ keep log e.begun++dec e.arg),(e.begun:Int))]).length=log.length+1:=by simp
 obtain⟨k1,k2,k3⟩:=ask_ok JC tA An he log.length;obtain⟨e',MP,_,tt,_⟩:=eU JC tA;rw[he]at MP;simp at MP;subst MP;have hp:=wG keep If e.begun;have D5:=okNs_at _ Bo _ _ he;have hnb':=az;rw[nB]at az;have Ql:(dec e.arg).length<=2:=vP 1 _ (by obtain⟨_,_,_,_,_⟩:=e;rw[okN]at D5;have:=D5.2.2.2.2;simp only[SC.arg];omega);obtain⟨eb,et,ee,eg,ei⟩:=e;rw[okN]at D5;simp only[SC.body,SC.kind,SC.env,SC.begun,SC.arg] at *;have sI:wT (log.length+1) (vT env log.length 0 et.args ss):=nA (yq (by omega) _ Bo) (by omega) (by omega) et.args ss 0 (by omega) az.2.1;have hw:=An;rw[wfB]at hw;refine⟨?_,k1,k2,k3,D5.1,?_,?_,by rw[hl];omega,?_,by rw[hl];simp only[RU];omega,If.snoc (by simp) (by simp only[RU,RL];omega)⟩
 ·rw[hl];rcases FZ with ⟨_,FZ⟩|⟨h1,_⟩
  ·rcases TR log.length most with h2|h2
   ·refine .inl ⟨by omega,?_⟩;obtain⟨d,hd⟩:∃d,most-log.length=d+1:=⟨most-log.length-1,by omega⟩;rw[FZ,hd,show most-(log.length+1)=d from by omega];simp only[wV,he,SC.body,SC.kind,SC.env,SC.begun,SC.arg]
   ·refine .inr ⟨by omega,by omega,?_⟩;rw[FZ,show most-log.length=0 from by omega];simp only[wV]
  ·omega
 ·rw[hl];exact fi _ _ (yq (by omega) _ D5.2.1) sI
 ·rw[hl,RL,xW _ _ _ _ _ tt.symm];have:=D5.2.2.1;omega
 ·intro f hf;rw[hl];rcases Sc.1 hf with rfl|hf
  ·exact⟨⟨hw.2.1,hw.2.2,JC,tA⟩,az.2.2.1,az.2.2.2,yq (by omega) _ Bo,by simp only;omega,by simp only;omega⟩
  ·exact(Cz f hf).mono (by omega)
theorem rep_sl_at {F:Nat->Prop}{w:World}{T:TypeId}{sz n:Nat}{pre mid post:List DV}{v:Value}(h:Rep F w (.sl T sz n (pre++(mid++post))) v){k:Nat}(hp:pre.length=k*sz)(hm:mid.length=sz)(hk:k<n) :
 ∃b o cap vs,v=.slice (OK ⟨b,o,U⟩) n cap/\F b/\b<(w:Nat)/\zY F w mid vs/\∀(j:Nat) (u:Value),vs[j]?=OK u->w.cell? (b,o+k*sz+j)=u:=by
 rw[zv]at h;obtain⟨hl,a,cap,rfl,hn,hz,h⟩:=h;rcases h with h0|⟨b,o,cs,fr,rfl,hb,aP,hr⟩
 ·omega
 have h2:=hr.split.2;rw[hp]at h2;have h3:=h2.split.1;rw[hm]at h3;refine⟨b,o,cap,_,rfl,hb,zZ aP,h3,fun j u hj=>?_⟩;have hj2:j<sz:=by
  have:=(RR.1 hj).1;rw[<- h3.length,hm]at this;exact this
 rw[Su,if_pos hj2,SA,Su]at hj;split at hj
 ·rw[SA]at hj;simp only[RE,aP];simpa[Nat.add_assoc] using hj
 ·simp at hj
theorem encSCs_split {env:List SC}{v:Nat}{e:SC}(h:env[v]?=OK e):qR env=qR (env.take v)++(rH e++qR (env.drop (v+1))):=by
 have e2:env=env.take v++e::env.drop (v+1):=by
  have hv:=(RR.1 h).1;have:env[v]=e:=(RR.1 h).2;rw[<- this,List.getElem_cons_drop,R7]
 conv=>lhs;rw[e2]
 rw[wI,qR]
theorem boundR_at {F:Nat->Prop}{w:World}{env:List SC}{ev:Value}(h:Rep F w (.sl 147 9 env.length (qR env)) ev){v:Nat}{e:SC}(he:env[v]?=OK e) :
 ∃ b o cap bv a2 c2 a3 c3 ta tc ea ec,ev=.slice (some ⟨b,o,none⟩) env.length cap/\F b/\b<(w:Nat)/\w.cell? (b,o+v*9)=some (.int .i64 (-1))/\w (b,o+v*9+1)=some (str (z_ e.body))/\w (b,o+v*9+2)=some (.int .i64 bv) /\
   w (b,o+v*9+3)=OK (.slice a2 (kh e.body).length c2)/\w (b,o+v*9+4)=OK (.slice a3 (qS e.body).length c3)/\w (b,o+v*9+5)=OK (.slice ta e.kind.args.length tc) /\
   w (b,o+v*9+6)=OK (.slice ea e.env.length ec)/\w (b,o+v*9+7)=OK (.int RD (e.begun:Nat))/\w (b,o+v*9+8)=OK (.int RD (e.arg:Nat)) /\
   zY F w (kU e.body) [str (z_ e.body),.int RD bv,.slice a2 (kh e.body).length c2,.slice a3 (qS e.body).length c3]/\Rep F w (ki e.kind) (.slice ta e.kind.args.length tc)/\Rep F w (.sl 147 9 e.env.length (qR e.env)) (.slice ea e.env.length ec):=by
 have hv:=(RR.1 he).1;rw[encSCs_split he]at h;obtain⟨b,o,cap,vs,rfl,hF,sC,hr,sG⟩:=rep_sl_at h (k:=v) (by rw[cC,Sy,Nat.min_eq_left (by omega)]) (pd e) hv;obtain⟨eb,et,ee,eg,ei⟩:=e;rw[rH]at hr;obtain⟨k1,k2⟩:=hr.split;obtain⟨k3,k4⟩:=k2.split;rw[qy]at k3 k4;simp only[TN,RU,Sq,SU]at k1 k3 k4;obtain⟨bv,a2,c2,a3,c3,e3,_⟩:=jA k3;simp only[zQ,zE,zC]at k1 k4;obtain⟨_,_,e1,rfl,rfl⟩:=k1;obtain⟨x0,_,e4,q1,x1,_,rfl,q2,_,_,rfl,rfl,_,_,rfl,rfl,rfl⟩:=k4;obtain⟨ta,tc,rfl⟩:=za q1;obtain⟨ea,ec,rfl⟩:∃a c,x1=.slice a ee.length c:=by
  have h:=q2;rw[zv]at h;obtain⟨_,a,c,e,_⟩:=h;exact⟨a,c,e⟩
 have hvs:vs=[.int RD (-1)]++([str (z_ eb),.int RD bv,.slice a2 (kh eb).length c2,.slice a3 (qS eb).length c3]++[.slice ta et.args.length tc,.slice ea ee.length ec,.int RD (eg:Nat),.int RD (ei:Nat)]):=by
  rw[<- e3,<- e4,<- e1,R7,R7]
 rw[e3]at k3;subst hvs;exact⟨b,o,cap,bv,a2,c2,a3,c3,ta,tc,ea,ec,rfl,hF,sC,sG 0 _ rfl,sG 1 _ rfl,sG 2 _ rfl,sG 3 _ rfl,sG 4 _ rfl,sG 5 _ rfl,sG 6 _ rfl,sG 7 _ rfl,sG 8 _ rfl,k3,q1,q2⟩
theorem pair_at {F:Nat->Prop}{w:World}{y n:Bd}{v:Value}(h:Rep F w (.sl 53 4 2 (zp [y,n])) v)(k:Nat)(hk:k<2) :
 ∃ b o cap bv a2 c2 a3 c3,v=.slice (some ⟨b,o,none⟩) 2 cap/\F b/\b<(w:Nat)/\w.cell? (b,o+k*4)=some (str (z_ (if k=1 then n else y)))/\w (b,o+k*4+1)=some (.int .i64 bv) /\
   w (b,o+k*4+2)=OK (.slice a2 (kh (if k=1 then n else y)).length c2)/\w (b,o+k*4+3)=OK (.slice a3 (qS (if k=1 then n else y)).length c3) /\
   zY F w (kU (if k=1 then n else y)) [str (z_ (if k=1 then n else y)),.int RD bv,.slice a2 (kh (if k=1 then n else y)).length c2,.slice a3 (qS (if k=1 then n else y)).length c3]:=by
 have hs:zp [y,n]=zp ([y,n].take k)++(kU (if k=1 then n else y)++zp ([y,n].drop (k+1))):=by
  rcases(by omega:k=0\/k=1) with rfl|rfl <;> simp[zp]
 rw[hs]at h;obtain⟨b,o,cap,vs,rfl,hF,sC,hr,sG⟩:=rep_sl_at h (k:=k) (by rw[dn,Sy];simp;omega) (qy _) hk;obtain⟨bv,a2,c2,a3,c3,rfl,_⟩:=jA hr;exact⟨b,o,cap,bv,a2,c2,a3,c3,rfl,hF,sC,sG 0 _ rfl,sG 1 _ rfl,sG 2 _ rfl,sG 3 _ rfl,hr⟩
theorem top_at {F:Nat->Prop}{w:World}{sv:Value}{x:SF}{st:List SF}{cells:List Value}(ho:Own w 155 6 sv (st.length+1) cells)(hr:zY F w (uN (x::st).reverse) cells) :
 ∃ g c bv a2 c2 yv ea ec vy tl,sv=.slice (some ⟨g,0,none⟩) (st.length+1) c/\st.length+1<=c/\w (g,st.length*6)=some (str [])/\w (g,st.length*6+1)=some (.int .i64 bv)/\w (g,st.length*6+2)=some (.slice a2 x.ss.length c2) /\
   w (g,st.length*6+3)=OK yv/\w (g,st.length*6+4)=OK (.slice ea x.env.length ec)/\w (g,st.length*6+5)=OK (.int RD (x.opens:Nat))/\cells=vy++tl/\vy.length=st.length*6 /\
   zY F w (uN st.reverse) vy/\Rep F w (.sl 53 4 2 (zp [x.yes,x.no])) yv/\Rep F w (.sl 147 9 x.env.length (qR x.env)) (.slice ea x.env.length ec):=by
 rw[List.reverse_cons,wL]at hr;have hs:=hr.split;rw[cB,List.length_reverse]at hs;obtain⟨h1,h2⟩:=hs;simp only[uN,R9]at h2;rw[encSF]at h2;obtain⟨k1,k2⟩:=h2.split;rw[qy]at k1 k2;have k1':=k1;obtain⟨bv,a2,c2,a3,c3,e1,_,GZ⟩:=jA k1;simp only[zQ,zE,zC]at k2;obtain⟨x1,_,e2,q2,_,_,rfl,rfl,rfl⟩:=k2;obtain⟨ea,ec,rfl⟩:∃a c,x1=.slice a x.env.length c:=by
  have h:=q2;rw[zv]at h;obtain⟨_,a,c,e,_⟩:=h;exact⟨a,c,e⟩
 have Df:cells.drop (st.length*6)=[str [],.int RD bv,.slice a2 x.ss.length c2,.slice a3 2 c3]++[.slice ea x.env.length ec,.int RD (x.opens:Nat)]:=by
  have N8:List.take 4 (cells.drop (st.length*6))=[str [],.int RD bv,.slice a2 x.ss.length c2,.slice a3 2 c3]:=e1;rw[<- N8,<- e2,R7]
 have lD:cells=cells.take (st.length*6)++cells.drop (st.length*6):=(R7 _ _).symm;have hl:(cells.take (st.length*6)).length=st.length*6:=by
  have:=ho.1;rw[Sy];omega
 have at6:∀(j:Nat) (u:Value),([str [],.int RD bv,.slice a2 x.ss.length c2,.slice a3 2 c3]++[.slice ea x.env.length ec,.int RD (x.opens:Nat)])[j]?=OK u->cells[st.length*6+j]?=OK u:=by
  intro j u hj;rw[lD,Sr (by omega),hl,Nat.add_sub_cancel_left,Df];exact hj
 obtain⟨g,c,es,ir⟩:=ho.at (at6 0 _ rfl);subst es;have get:∀(j:Nat) (u:Value),([str [],.int RD bv,.slice a2 x.ss.length c2,.slice a3 2 c3]++[.slice ea x.env.length ec,.int RD (x.opens:Nat)])[j]?=OK u->w (g,st.length*6+j)=u:=by
  intro j u hj;obtain⟨g',c',es,hc⟩:=ho.at (at6 j u hj);simp only[RT,RK,Addr.mk.injEq,and_true,true_and]at es;obtain⟨rfl,rfl⟩:=es;exact hc
 have aj:st.length+1<=c:=by
  rcases ho.2 with ⟨e,_⟩|⟨g',cap,cur,e,_,_,og,_⟩
  ·simp at e
  ·simp only[RT,true_and]at e;rw[e.2];exact og
 exact⟨g,c,bv,a2,c2,_,ea,ec,_,_,rfl,aj,get 0 _ rfl,get 1 _ rfl,get 2 _ rfl,get 3 _ rfl,get 4 _ rfl,get 5 _ rfl,lD,hl,h1,GZ,q2⟩
def yd (B:Nat)(x0 x1 x2 x3:Value)(w:World):World:=(((w.setCell B x0).setCell (B,1) x1).setCell (B,2) x2).setCell (B,3) x3
theorem boxPut_at {B:Nat}{y0 y1 y2 y3:Value}{T:TypeId}{w:World}(h:w.heap[B]?=OK (.cells #[y0,y1,y2,y3] T (0,0)))(x0 x1 x2 x3:Value):(yd B x0 x1 x2 x3 w).heap[B]?=OK (.cells #[x0,x1,x2,x3] T (0,0)):=by
 unfold yd;rw[zT (zT (zT (zT h)))];rfl
theorem wZ {m:Nat->Prop}{B:Nat}{w w':World}(h:But m w w')(hB:m B)(x0 x1 x2 x3:Value):But m w (yd B x0 x1 x2 x3 w'):=
 (((h.setCell (p:=B) (.inl hB) _).setCell (p:=⟨B,1,U⟩) (.inl hB) _).setCell (p:=⟨B,2,U⟩) (.inl hB) _).setCell (p:=⟨B,3,U⟩) (.inl hB) _
theorem fX {keep:Bool}{most ra:Nat}{Eg Ee:Value}{w:World}{B:Nat}{b b':Bd}{env env':List SC}{opens opens':Nat}{st st':List SF}{log log':List (Bs×Int)}{mv pt mv' pt':Value}{v v':Int}{x2 x3 LA Lz ev ev' sv sv':Value}{cells cells':List Value}{wr w1 w6:World}{y0 y1 y2 y3:Value}(h:GoAt keep most ra Eg Ee w B b env opens st log mv pt v x2 x3 ev sv cells wr)(D8:But (Chg ra mv pt B sv) wr w6)(lF:But (fun b=>sv.ownBlock=OK b) w1 w6)(tG:RS keep most ra log' mv' pt' w1)(hz:(wr:Nat)<=w1)(hn:∀i,MBk ra mv' pt' i->MBk ra mv pt i\/(wr:Nat)<=i)(aL:w6.heap[B]?=OK (.cells #[y0,y1,y2,y3] 53 (0,0)))(hos:Own w6 155 6 sv' st'.length cells')(oG:∀g,sv'.ownBlock=OK g->sv.ownBlock=OK g\/(w1:Nat)<=g){F6:Nat->Prop}(Jn:∀i,F6 i->i<(w6:Nat)->¬Chg ra mv' pt' B sv' i)(aJ:zY F6 w6 (kU b') [str (z_ b'),.int RD v',LA,Lz])(D2:Rep F6 w6 (.sl 147 9 env'.length (qR env')) ev')(hrf:zY F6 w6 (uN st'.reverse) cells') :
 GoAt keep most ra Eg Ee w B b' env' opens' st' log' mv' pt' v' LA Lz ev' sv' cells' (yd B (str (z_ b')) (.int RD v') LA Lz w6):=by
 have L2:=zZ h.box.blk;have tt:∀g,sv.ownBlock=OK g->g<(wr:Nat):=fun g hg=>h.own.lt hg;have B3:∀i,MBk ra mv' pt' i->i<(w1:Nat):=fun i hi=>tG.lt hi;have lu:∀i,MBk ra mv' pt' i->i≠B:=by
  rintro i hi rfl;rcases hn _ hi with h'|h'
  ·exact h.bB.2 h'
  ·omega
 have H_:∀i,MBk ra mv' pt' i->sv.ownBlock≠OK i:=by
  intro i hi hs;rcases hn _ hi with h'|h'
  ·exact(h.sB i hs).2.2 h'
  ·have:=tt i hs;omega
 have O6:∀g,sv'.ownBlock=OK g->g≠B:=by
  rintro g hg rfl;rcases oG _ hg with h'|h'
  ·exact(h.sB _ h').2.1 rfl
  ·omega
 have x7:∀ {i:Nat} {o:Obj},i≠B->w6.heap[i]?=OK o->(yd B (str (z_ b')) (.int RD v') LA Lz w6).heap[i]?=OK o:=by
  intro i o hi ho;have:=(wZ (But.refl (fun i=>i=B) w6) rfl (str (z_ b')) (.int RD v') LA Lz).block i (zZ ho) hi;rw[this];exact ho
 have aX:∀(i:Nat) (o:Obj),F6 i->w6.heap[i]?=OK o->¬Chg ra mv' pt' B sv' i/\(yd B (str (z_ b')) (.int RD v') LA Lz w6).heap[i]?=OK o:=by
  intro i o hi ho;have og:=Jn i hi (zZ ho);exact⟨og,x7 (fun e=>og (.inr (.inl e))) ho⟩
 have sY:But (Chg ra mv pt B sv) wr (yd B (str (z_ b')) (.int RD v') LA Lz w6):=wZ D8 (.inr (.inl rfl)) _ _ _ _;have Al:=h.but.size;refine⟨?_,⟨boxPut_at aL _ _ _ _,(Rep.keep aX).2 _ _ aJ⟩,(Rep.keep aX).1 _ _ D2,hos.keep fun g o hg ho=>x7 (O6 g hg) ho,(Rep.keep aX).2 _ _ hrf,?_,?_,⟨h.bB.1,fun hi=>lu _ hi rfl⟩,fun g' tS=>⟨?_,O6 g' tS,fun hi=>?_⟩⟩
 ·refine tG.but (m:=fun i=>sv.ownBlock=OK i\/i=B) (wZ (lF.weak fun i _ hi=>.inl hi) (.inr rfl) _ _ _ _) fun b hb e=>?_;rcases e with e|e
  ·exact H_ b hb e
  ·exact lu b hb e
 ·refine h.but.trans' sY fun i hi hh=>?_;rcases hh with hh|hh|hh
  ·rcases h.new i hh with h'|h'
   ·exact h'
   ·omega
  ·subst hh;have:=h.bB.1;omega
  ·have:=(h.sB i hh).1;omega
 ·intro i hi;rcases hn i hi with h'|h'
  ·exact h.new i h'
  ·exact .inr (by omega)
 ·rcases oG g' tS with h'|h'
  ·exact(h.sB g' h').1
  ·omega
 ·rcases oG g' tS with h'|h'
  ·exact H_ g' hi h'
  ·have:=B3 g' hi;omega
theorem GoAt.drew {keep:Bool}{most ra:Nat}{Eg Ee:Value}{w:World}{B:Nat}{b:Bd}{env:List SC}{opens:Nat}{st:List SF}{log:List (Bs×Int)}{mv pt:Value}{v:Int}{x2 x3 ev sv:Value}{cells:List Value}{wr:World}(h:GoAt keep most ra Eg Ee w B b env opens st log mv pt v x2 x3 ev sv cells wr) :
 GoAt keep most ra Eg Ee w B b env opens st log mv pt v x2 x3 ev sv cells wr.drew:=
 ⟨h.rs.drew,⟨h.box.blk,h.box.rep.drew⟩,h.re.drew,h.own.drew,h.rf.drew,h.but.drew,h.new,h.bB,h.sB⟩
end Go.Proofs.YtnfenijemllkbaaGreatDoor

/- Walks. -/
import Derived.Test.YtnfenijemllkbaaGreatDoorQ8
set_option linter.unusedVariables false
set_option linter.unusedSimpArgs false
set_option maxHeartbeats 4000000
set_option maxRecDepth 100000
open Option renaming none->U
open Option renaming some->OK
open Bool renaming false->RC
open Go.IntKind renaming i64->RD
open Bool renaming false_and->Wg,or_eq_true->S4,true_and->UR
open Go.Addr.mk renaming injEq->So
open Go.NoPanic renaming normal->RQ
open Go.Proofs.Tryz renaming func113->VC,func33->Xk,func37->Xh,func38->Xj,func56->TO,func67->U9,func68->UB,func69->Xg,func95->UA,ntmps113->Vp,ntmps33->WO,ntmps37->WM,ntmps38->WN,ntmps56->TH,ntmps67->UX,ntmps68->Ul,ntmps69->WL,ntmps95->Uk,prog->RG,results33->UC,results67->Tf
open Go.Value renaming oneCell'->R4,ownBlock->RM,slice->RI
open Go.Value.slice renaming injEq->RT
open Go.World renaming cell?->RE,cell?_of_block->TP
open List renaming cons_append->R5,drop_eq_getElem_cons->SE,drop_eq_nil_of_le->TK,eq_nil_of_length_eq_zero->St,getElem?_cons_succ->RW,getElem?_cons_zero->RV,getElem?_drop->SA,getElem?_eq_getElem->SS,getElem?_eq_some_iff->RR,getElem?_take->Su,getElem_drop->U3,isEmpty_eq_false_iff->Vn,length->Td,length_append->RL,length_cons->RU,length_drop->TM,length_nil->Sq,length_pos_iff->Tg,map_cons->Sa,map_nil->SM,mem_append->Si,mem_of_getElem?->RX,take_length->R8,take_succ_cons->SO
open List.cons renaming injEq->RY
open Nat renaming add_zero->Xi,one_mul->TE,reduceAdd->S8,reduceMul->Tq,zero_le->R6
open Option renaming bind_some->RF,map_eq_some_iff->RP
open Option.some renaming inj->RZ,injEq->RK
namespace Go.Proofs.YtnfenijemllkbaaGreatDoor
open Go.RowKit
structure rx (F:Nat->Prop)(t:Tm)(ns:List Nm)(k:Ty)(tv lv:Value)(w:World):Prop where
 glob:yF w
 rt:Rep F w (jT t) tv
 rl:Rep F w (.sl 118 2 ns.length (jb ns)) lv
 ok:xA t
 n15:∀a∈kinds ns,zU a<=15
 room:ns.length+zO t<=100
 ty:typeOf ns t=k
def xw (N:Nat):Prop:=∀(F:Nat->Prop) (t:Tm) (ns:List Nm) (k:Ty) (tv lv:Value) (w:World),zO t<=N->rx F t ns k tv lv w->Calls RG 26 #[tv,lv] w (qq F w (zq ns t))
def fA (N:Nat):Prop:=∀(F:Nat->Prop) (t:Tm) (ns:List Nm) (k:Ty) (tv lv:Value) (w:World),zO t<=N->rx F t ns k tv lv w->Calls RG 56 #[tv,lv] w (qq F w (kz ns t))
theorem qq.no {F:Nat->Prop}{w w':World}{o:Option Bd}(ho:o=U)(hb:No w w'):qq F w o (.returned (.pointer U)) w':=
 ⟨_,rfl,hb,fun _=>rfl,fun k h=>by rw[ho]at h;simp at h⟩
theorem qq.yes {F:Nat->Prop}{w w':World}{o:Option Bd}{k:Bd}{v:Value}(ho:o=k)(hb:No w w')(hr:Rep (fun i=>F i\/w<=i) w' (kM k) v):qq F w o (.returned v) w':=
 ⟨_,rfl,hb,fun h=>by rw[ho]at h;simp at h,fun k' h=>by rw[ho]at h;obtain rfl:=RZ h;exact hr⟩
theorem nj (N:Nat)(ih:fA N):xw N:=by
 intro F t ns k tv lv w hN hp;have C0:=r9 (ih F t ns k tv lv w hN hp);have HM:=r9 (mean_meant t ns);have HP:=r9 hp.n15;obtain⟨tb,rfl⟩:=qO hp.rt;obtain⟨la,lc,rfl,_,_⟩:=AtNms.of hp.rl;clear hp ih;go_enter Tryz.func26,Tryz.ntmps26;go_wp2_with fail
 (with_reducible refine C0.out.mono ?_);rintro en w1 ⟨v,rfl,sX,tK,tH⟩
 cases hq:kz ns t with
 | none =>
   obtain rfl:=tK hq;have HQ:=r9 (show zq ns t=U by rw[HM.out,hq];rfl);have HB:=r9 sX;clear hq tK tH sX;go_wp2_with fail
   go_ret;exact qq.no HQ.out HB.out
 | some b =>
   have aJ:=tH b hq;obtain⟨bb,rfl⟩:=zg aJ;have tV:=meant_size t ns b HP.out hq;have CF:=r9 (fits2_any _ w1 b _ aJ tV);have HR:=r9 aJ;have HB:=r9 sX;have HQ:=r9 (show zq ns t=yZ b by rw[HM.out,hq];rfl);clear hq tK tH sX aJ tV;rw[small_fits]at CF;by_cases h2:zG b<=200
   ·have HE:=r9 (show zq ns t=OK b by rw[HQ.out,dG h2]);rw[decide_eq_true h2]at CF;clear h2;go_wp2_with fail
    (with_reducible refine CF.out.mono ?_);rintro en w2 ⟨rfl,sY⟩
    have sw:=r9 (zzT HB.out sY);have BK:=r9 (Rep.below (F':=fun i=>F i\/w<=i) sY (fun _ h=>h) HR.out);clear sY;go_wp2_with fail
    go_ret;exact qq.yes HE.out sw.out BK.out
   ·have HE:=r9 (show zq ns t=U by rw[HQ.out];unfold yZ;rw[if_neg h2]);rw[decide_eq_false h2]at CF;clear h2;go_wp2_with fail
    (with_reducible refine CF.out.mono ?_);rintro en w2 ⟨rfl,sY⟩
    have sw:=r9 (zzT HB.out sY);clear sY;go_wp2_with fail
    go_ret;exact qq.no HE.out sw.out
theorem meant_nm (F:Nat->Prop)(x:Bs)(ns:List Nm)(k:Ty)(tv lv:Value)(w:World)(hp:rx F (.nm x) ns k tv lv w):Calls RG 56 #[tv,lv] w (qq F w (kz ns (.nm x))):=by
 obtain⟨tb,kv,slv,rfl,_,sW,_,_,_⟩:=jt hp.rt;simp only[xp,xg]at sW;have t0:w tb=OK (str []):=by simp[RE,sW]
 have t1:w (tb,1)=str x:=by simp[RE,sW]
 have hn:ns.length<=100:=by have:=hp.room;omega
 have CF:=find_any F ns x lv w (by omega) hp.rl;obtain⟨la,lc,rfl,NH,sG⟩:=AtNms.of hp.rl;have Ao:=hp.ty;rw[typeOf,Option.bind_eq_some_iff]at Ao;obtain⟨i,hi,hik⟩:=Ao;rw[RP]at hik;obtain⟨⟨y0,k0⟩,Fc,_⟩:=hik;have sC:i<ns.length:=(RR.1 Fc).1;obtain⟨b,o,y,t,kb,e,hb,Gv,h1,h2,tq⟩:=sG i sC;subst e;have sT:=hp.n15 t (RX (yY Gv));have HT:=r9 (show kz ns (.nm x)=OK (eta t i ns.length) by rw[kz,hi,RF,Gv];rfl);have CC:=r9 (copyOf_any 15 t sT sT F _ i ns.length w tq (by omega) (by omega));rw[hi]at CF;simp only[mL]at CF;have CF':=r9 CF;have hiI:(i:Int)<(ns.length:Int):=by omega
 clear hp sG sW hi CF NH Fc Gv h1 tq hb;go_enter TO,TH;go_wp2_with fail
 (with_reducible refine CF'.out.mono ?_);rintro en w1 ⟨rfl,e⟩
 subst w1;go_wp2_with fail
 (with_reducible refine CC.out.mono ?_);rintro en w1 ⟨p,rfl,sX,aV⟩
 have HB:=r9 (r_ sX aV);clear sX aV;go_wp2_with fail
 go_ret;exact qq.yes HT.out HB.out.1 (HB.out.2.weak fun _ h=>.inr h)
theorem meant_wd (F:Nat->Prop)(u:Bs)(ns:List Nm)(k:Ty)(tv lv:Value)(w:World)(hp:rx F (.wd u) ns k tv lv w):Calls RG 56 #[tv,lv] w (qq F w (kz ns (.wd u))):=by
 obtain⟨tb,kv,slv,rfl,_,sW,_,_,_⟩:=jt hp.rt;simp only[xp,xg]at sW;have t0:w tb=str u:=by simp[RE,sW]
 have sI:js u=true:=hp.ok;simp only[js,S4,beq_iff_eq]at sI;obtain⟨la,lc,rfl,_,_⟩:=AtNms.of hp.rl;clear hp sW;rcases sI with (rfl|rfl)|rfl
 all_goals
  go_enter TO,TH;go_wp2_with fail
  go_ret;exact qq.yes (by rw[kz];rfl) ((sQ _ _).alloc (sZ _) _) ((gx (zW _ _) (sZ _)).weak fun _ h=>.inr h)
theorem meant_lam (N:Nat)(ih:xw N)(F:Nat->Prop)(x:Bs)(k:Ty)(t:Tm)(ns:List Nm)(kt:Ty)(tv lv:Value)(w:World)(hN:zO (.lam x k t)<=N+1)(hp:rx F (.lam x k t) ns kt tv lv w):Calls RG 56 #[tv,lv] w (qq F w (kz ns (.lam x k t))):=by
 obtain⟨tb,kv,slv,rfl,_,sW,_,Ey,AZ⟩:=jt hp.rt;have hk:=Ey k rfl;obtain⟨kb,_,e,_⟩:=zh hk;subst e;obtain⟨pa,pc,rfl,_,_,sG⟩:=zH AZ;simp only[xp,xg,vX]at sW;obtain⟨oS,oM,Om,On,GV,_,Ed,Dp,DZ,AX⟩:=sG 0 (by simp[ze]);simp only[ze,Sa,SM,RV,RW,RK]at Dp;subst Dp;obtain⟨Dn,e0⟩:=qO AX;subst e0;subst GV;have t0:w tb=OK (str [108,97,109]):=by simp[RE,sW]
 have t1:w (tb,1)=str x:=by simp[RE,sW]
 have t2:w (tb,2)=OK (.pointer (OK ⟨kb,0,U⟩)):=by simp[RE,sW]
 have t3:w (tb,3)=OK (.slice (oS,oM) 1 pc):=by simp[RE,sW,ze]
 have tP:=hp.room;have sI:=hp.ok;rw[zO]at tP hN;have hak:=qA k;have hlen:ns.length<=99:=by omega
 obtain⟨sT,D0,PS,_⟩:=dQ hp.ty;obtain⟨xs,iG,aW⟩:∃xs,zY F w (jb ns) xs/\∃a c,lv=.slice a ns.length c/\uT 2 (.slice a ns.length ns.length) ns.length xs w:=by
  obtain⟨a,c,e,_,_⟩:=AtNms.of hp.rl;have hr:=hp.rl;rw[e]at hr;obtain⟨xs,h1,h2⟩:=uT.ofRep hr (oneNm ns);exact⟨xs,h1,a,c,e,h2⟩
 obtain⟨la,lc,rfl,aW⟩:=aW;have NH:ns.length<=lc:=by obtain⟨a,c,e,h,_⟩:=AtNms.of hp.rl;simp only[RT]at e;obtain⟨_,_,rfl⟩:=e;exact h
 have SX:Hid (∀w',No w w'->w' (tb,1)=str x/\w' (tb,2)=OK (.pointer (OK ⟨kb,0,U⟩))/\w' (tb,3)=OK (.slice (oS,oM) 1 pc)/\w' (oS,oM)=OK (.pointer (OK ⟨Dn,0,U⟩))):=by
  show ∀w',_->_;intro w' sA;exact⟨(sA.cell (sK w _ t1)).trans t1,(sA.cell (sK w _ t2)).trans t2,(sA.cell (sK w _ t3)).trans t3,(sA.cell Ed).trans DZ⟩
 have HX:=r9 (r_ iG aW);have HP:=r9 (r_ hp (r_ hk (r_ AX PS)));have IH:=r9 ih;have HK:=r9 (r_ sT (r_ sI hN));have DR:ns.length+1<=maxLen:=by unfold maxLen;omega
 have aI:(ns.length+1)*24<=140737488355328:=by omega
 clear hp sG AZ hk Ey sW sT AX iG aW sI ih hN PS;go_enter TO,TH;go_wp2_with fail
 refine rB fun sP=>?_;refine tC [0,1,2,3,4,5,6,7,8,9,10,11,12,13,14,15,16,17,18,19,20] sP ?_;iterate 21 (refine tl (fun w' sL=>SX.out w' sL) ?_)
 refine tz ?_;refine oC 21 (sP.alloc (sZ _) _) ?_;(refine on 22 ?_;intro o ho K' hK;simp at ho;subst ho);have Mi:zz 2 (.slice w 1 1) 1 [x,kb] (w.drew.alloc (.cells #[x,kb] 118)):=zz.lit1 #[x,kb] rfl (by simp[str,R4]) _ (by rfl);have ll:uT 2 (.slice la ns.length ns.length) ns.length xs (w.drew.alloc (.cells #[x,kb] 118)):=HX.out.2.drew.alloc _;refine wi (by rfl) _ _ _ (by rfl) 118 (.agg #[str [],.pointer U]) 2 24 Tryz.underlying112 Tryz.infoBound rfl (.slice la ns.length ns.length) ns.length xs (by rfl) ll _ 1 _ (by rfl) Mi (by omega) DR aI ?_;intro c7 w7 sj sH;have e8:(w.alloc (.cells #[x,kb] 118)).drew.heap.size=w+1:=by simp
 rw[e8]at sj;have ik:No w w7:=(sP.alloc (sZ _) _).trans (sH.mono (sP.alloc (sZ _) _).size);(refine hK.out _ _ (fun _=>ik) ?_;clear hK K';try simp only[pQ,pN,pZ,pS]);(refine on 23 ?_;intro o ho K' hK;simp at ho;subst ho);have lS:Rep (fun i=>F i\/w<=i) w7 (.sl 118 2 (ns++[(x,k)]).length (jb (ns++[(x,k)]))) (.slice ((w:Nat)+1,0) (ns.length+1) c7):=by
  rw[RL,cD];refine sj.rep (fun g hg=>.inr (by simp[RM]at hg;subst hg;exact Nat.le_succ _)) ?_;exact(zY.below ik (fun _ h=>.inl h) HX.out.1).append (zQ.2 ⟨_,_,rfl,zC.2 rfl,zQ.2 ⟨_,_,rfl,Rep.below ik (fun _ h=>.inl h) HP.out.2.1,zE.2 rfl⟩⟩)
 have CT:=r9 (IH.out (fun i=>F i\/w<=i) t (ns++[(x,k)]) D0 (.pointer (some ⟨Dn,0,none⟩)) _ w7 (by have:=HK.out.2.2;omega) ⟨HP.out.1.glob.below ik,Rep.below ik (fun _ h=>.inl h) HP.out.2.2.1,lS,HK.out.2.1.2,(fun a ha=>by
  rw[jz]at ha;rcases Si.1 ha with ha|ha
  ·exact HP.out.1.n15 a ha
  ·simp at ha;subst ha;exact HK.out.1),by rw [RL];simp;omega,HP.out.2.2.2⟩)
 have Gq:=r9 ik;clear lS sj sH ik;go_simp;go_at_call 26;(with_reducible refine CT.out.mono ?_);rintro en w9 ⟨bv,rfl,aO,Es,Eh⟩;have GH:=r9 (zzT Gq.out aO);have HY:=r9 (r_ Es Eh);have z7:=Gq.out.size;clear aO Es Eh;(refine hK.out _ _ (fun _=>GH.out) ?_;clear hK K';try simp only[pQ,pN,pZ,pS]);refine oC 24 GH.out ?_;refine zX (by kernel_rfl) (RQ ?_) _;go_wp2_with fail
 go_ret;rw[kz];exact⟨bv,rfl,GH.out,HY.out.1,fun b h=>(HY.out.2 b h).weak fun i h=>by rcases h with h|h;exact h;exact .inr (by omega)⟩
theorem meant_app (N:Nat)(ih:xw N)(F:Nat->Prop)(m n:Tm)(ns:List Nm)(kt:Ty)(tv lv:Value)(w:World)(hN:zO (.app m n)<=N+1)(hp:rx F (.app m n) ns kt tv lv w):Calls RG 56 #[tv,lv] w (qq F w (kz ns (.app m n))):=by
 obtain⟨tb,kv,slv,rfl,_,sW,_,_,AZ⟩:=jt hp.rt;obtain⟨pa,pc,rfl,_,_,sG⟩:=zH AZ;simp only[xp,xg,uV]at sW;obtain⟨oS,oM,Om,On,GV,_,Ed,Dp,DZ,AX⟩:=sG 0 (by simp[ze]);simp only[ze,Sa,SM,RV,RW,RK]at Dp;subst Dp;obtain⟨Dn,e0⟩:=qO AX;subst e0;subst GV;obtain⟨sh,sg,pu1,Cq,A9,_,aS,oF,oR,lL⟩:=sG 1 (by simp[ze]);simp only[ze,Sa,SM,RV,RW,RK]at oF;subst oF;obtain⟨GN,e1⟩:=qO lL;subst e1;simp only[RK,So,and_true]at A9;obtain⟨rfl,rfl⟩:=A9;have t0:w tb=OK (str [97,112,112]):=by simp[RE,sW]
 have t3:w (tb,3)=OK (.slice (oS,oM) 2 pc):=by simp[RE,sW,ze]
 have tP:=hp.room;have sI:=hp.ok;have Ao:=hp.ty;have CT:=r9 (fun wz (hz:No w wz)=>eE (zO (.app m n)) F (.app m n) ns _ _ wz (sZ _) ⟨Rep.below hz (fun _ h=>h) hp.rt,Rep.below hz (fun _ h=>h) hp.rl,hp.ok,hp.n15,by omega⟩);rw[zO]at tP hN;obtain⟨a,c,rest,GB,A2,t6,rfl⟩:=dV Ao;obtain⟨la,lc,rfl,_,_⟩:=AtNms.of hp.rl;have SX:Hid (∀w',No w w'->w' (tb,3)=OK (.slice (oS,oM) 2 pc)/\w' (oS,oM)=OK (.pointer (OK ⟨Dn,0,U⟩))/\w' (oS,oM+1)=OK (.pointer (OK ⟨GN,0,U⟩))):=by
  show ∀w',_->_;intro w' sA;exact⟨(sA.cell (sK w _ t3)).trans t3,(sA.cell Ed).trans DZ,(sA.cell aS).trans oR⟩
 have C0:=r9 (fun wz (hz:No w wz)=>ih F m ns _ (.pointer (OK ⟨Dn,0,U⟩)) (.slice la ns.length lc) wz (by omega) ⟨hp.glob.below hz,Rep.below hz (fun _ h=>h) AX,Rep.below hz (fun _ h=>h) hp.rl,sI.1,hp.n15,by omega,GB⟩);have C1:=r9 (fun wz (hz:No w wz)=>ih F n ns _ (.pointer (OK ⟨GN,0,U⟩)) (.slice la ns.length lc) wz (by omega) ⟨hp.glob.below hz,Rep.below hz (fun _ h=>h) lL,Rep.below hz (fun _ h=>h) hp.rl,sI.2,hp.n15,by omega,A2⟩);have HP:=r9 (r_ hp sI);clear hp sG AZ sW sI hN ih AX DZ Ed lL oR aS;go_enter TO,TH;go_wp2_with fail
 refine rB fun sP=>?_;refine tC [0,1,2,3,4,5,6,8,9,10,11,12,13,14] sP ?_;iterate 14 (refine tl (fun w' sL=>SX.out w' sL) ?_)
 refine tz ?_;(refine on 7 ?_;intro o ho K' hK;simp at ho;subst ho;go_simp);go_at_call 26;(with_reducible refine(C0.out _ sP).mono ?_);rintro en v0 ⟨x0,rfl,s8,Br,Cs⟩;have iN:Hid (No w v0):=sP.trans s8;have IX:Hid ((zq ns m=U->x0=.pointer U)/\(∀k,zq ns m=OK k->Rep (fun i=>F i\/w<=i) v0 (kM k) x0)):=⟨Br,fun k h=>(Cs k h).weak fun i h=>by rcases h with h|h;exact .inl h;exact .inr (h)⟩;have Oe:=r9 s8;clear s8 Br Cs;(refine hK.out _ _ (fun _=>iN.out) ?_;clear hK K';try simp only[pQ,pN,pZ,pS]);have D_:=iN.out;(refine on 15 ?_;intro o ho K' hK;simp at ho;subst ho;go_simp);go_at_call 26;(with_reducible refine(C1.out _ iN.out).mono ?_);rintro en v1 ⟨x1,rfl,sX,tK,tH⟩;have sn:Hid (No w v1):=zzT iN.out sX;have IW:Hid ((zq ns n=U->x1=.pointer U)/\(∀k,zq ns n=OK k->Rep (fun i=>F i\/w<=i) v1 (kM k) x1)):=⟨tK,fun k h=>(tH k h).weak fun i h=>by rcases h with h|h;exact .inl h;exact .inr (sU iN.out.size h)⟩;have ES:=r9 sX;clear sX tK tH;(refine hK.out _ _ (fun _=>sn.out) ?_;clear hK K';try simp only[pQ,pN,pZ,pS]);have IN:=sn.out;refine tC [16,17] IN ?_;iterate 2 (refine tx ?_)
 refine tz ?_;refine zX (by kernel_rfl) (RQ ?_) _;clear t3 C0 C1;cases hm:zq ns m with
 | none =>
   obtain rfl:=IX.out.1 hm;have HQ:=r9 (show kz ns (.app m n)=U by rw[kz,zq,hm];rfl);clear hm;go_wp2_with fail
   go_ret;exact qq.no HQ.out sn.out
 | some p =>
   have I7:=Rep.below (F':=fun i=>F i\/w<=i) ES.out (fun _ h=>h) (IX.out.2 p hm);obtain⟨pp,rfl⟩:=zg I7;cases hn:zq ns n with
   | none =>
     obtain rfl:=IW.out.1 hn;have HQ:=r9 (show kz ns (.app m n)=U by rw[kz,zq,hm,hn];rfl);clear hm hn I7;go_wp2_with fail
     go_ret;exact qq.no HQ.out sn.out
   | some q =>
     have KF:=IW.out.2 q hn;obtain⟨qp,rfl⟩:=zg KF;obtain⟨f1,w1,s1⟩:=jd m ns a p HP.out.2.1 HP.out.1.n15 GB hm;obtain⟨f2,w2,s2⟩:=jd n ns c q HP.out.2.2 HP.out.1.n15 A2 hn;rw[t6]at f1;have tA:=hJ f2 f1;have iE:=qK m ns a HP.out.1.n15 GB;have Ad:=qK n ns c HP.out.1.n15 A2;have Dx:∀t∈rest,zU t<=15:=fun t ht=>fM iE t (by rw[t6];simp[ht]);have I8:rest.length<=100:=by have:=un iE;rw[t6]at this;simp at this;omega
     have HT:=r9 (show kz ns (.app m n)=vx p (zx (kinds ns) c q rest) ((kinds ns).length+rest.length) by
      rw [kz,zq,hm,hn,RF,RF,GB,RF,t6,jX])
     have CK:=r9 (kindsOf_any F ns _ v1 (by omega) (Rep.below sn.out (fun _ h=>h) HP.out.1.rl));have HA:=r9 (r_ I7 (r_ KF (r_ tA (r_ Ad Dx))));have Ce:ns.length<=100:=by omega
     clear hm hn I7 KF f1 f2 w1 w2 s1 s2 t6 tA iE Ad Dx GB A2;go_wp2_with fail
     (with_reducible refine CK.out.mono ?_);rintro en v2 ⟨ka,kc,rfl,sY,lq⟩
     have sw:=r9 (zzT sn.out sY);have HK2:=r9 (r_ sY lq);have EU:=r9 (CT.out v2 sw.out);clear sY lq CK;go_wp2_with fail
     (with_reducible refine EU.out.mono ?_);rintro en v3 ⟨tv3,rfl,sE,lu,BY⟩
     have lO:=BY _ Ao;obtain⟨rb,rk,rfl,_,aJ,Gt⟩:=zh lO;have Gt:Rep (fun i=>F i\/v2<=i) v3 (.sl 33 1 rest.length (qh rest)) rk:=Gt;have q0:v3 rb=rk:=by simp[RE,aJ]
     obtain⟨ra,rc,rfl,_,_,_⟩:=zH Gt;have af:=r9 (zzT sw.out sE);have z1:=sn.out.size;have z2:=sw.out.size;have CA:Hid (Calls RG 81 #[pp,qp,.slice ka ns.length kc,.slice ra rest.length rc] v3 (qq (fun i=>F i\/w<=i) v3 (vx p (zx (kinds ns) c q rest) ((kinds ns).length+rest.length)))):=by
      have oq:=zzT HK2.out.1 sE;have e:ns.length=(kinds ns).length:=(jX ns).symm;have Pk:Rep (fun i=>F i\/w<=i) v3 (.sl 33 1 ns.length (qh (kinds ns))) (.slice ka ns.length kc):=(Rep.below sE (fun _ h=>h) HK2.out.2).weak fun i h=>by rcases h with h|h;exact .inl h;exact .inr (by omega)
      have hrr3:Rep (fun i=>F i\/w<=i) v3 (.sl 33 1 rest.length (qh rest)) (.slice ra rest.length rc):=Gt.weak fun i h=>by rcases h with h|h;exact .inl h;exact .inr (by omega)
      rw[e]at Pk ⊢;exact apply_any _ (kinds ns) rest c p q _ _ _ _ v3 ⟨HP.out.1.glob.below af.out,HA.out.2.2.1,HA.out.2.2.2.1,by rw[jX];exact Ce,I8,HP.out.1.n15,HA.out.2.2.2.2,Rep.below oq (fun _ h=>h) HA.out.1,Rep.below oq (fun _ h=>h) HA.out.2.1,Pk,hrr3⟩
     clear lO aJ Gt lu BY sE EU;go_wp2_with fail
     (with_reducible refine CA.out.mono ?_);rintro en v4 ⟨bv,rfl,sO,hn4,hy4⟩
     have BW:=r9 (r_ (zzT af.out sO) (r_ hn4 hy4));have z3:=af.out.size;clear sO hn4 hy4;go_wp2_with fail
     go_ret;rw[HT.out];exact⟨bv,rfl,BW.out.1,BW.out.2.1,fun b h=>(BW.out.2.2 b h).weak fun i h=>by rcases h with h|h;exact h;exact .inr (by omega)⟩
theorem meant_ite (N:Nat)(ih:xw N)(F:Nat->Prop)(l m n:Tm)(ns:List Nm)(kt:Ty)(tv lv:Value)(w:World)(hN:zO (.ite l m n)<=N+1)(hp:rx F (.ite l m n) ns kt tv lv w):Calls RG 56 #[tv,lv] w (qq F w (kz ns (.ite l m n))):=by
 obtain⟨tb,kv,slv,rfl,_,sW,_,_,AZ⟩:=jt hp.rt;obtain⟨pa,pc,rfl,_,_,sG⟩:=zH AZ;simp only[xp,xg,ifW]at sW;obtain⟨oS,oM,Om,On,GV,_,Ed,Dp,DZ,AX⟩:=sG 0 (by simp[ze]);simp only[ze,Sa,SM,RV,RW,RK]at Dp;subst Dp;obtain⟨Dn,e0⟩:=qO AX;subst e0;subst GV;obtain⟨sh,sg,pu1,Cq,A9,_,aS,oF,oR,lL⟩:=sG 1 (by simp[ze]);simp only[ze,Sa,SM,RV,RW,RK]at oF;subst oF;obtain⟨GN,e1⟩:=qO lL;subst e1;simp only[RK,So,and_true]at A9;obtain⟨rfl,rfl⟩:=A9;obtain⟨L0,LY,pu2,Cp,A8,_,Do,A7,A_,Ak⟩:=sG 2 (by simp[ze]);simp only[ze,Sa,SM,RV,RW,RK]at A7;subst A7;obtain⟨Oh,e2⟩:=qO Ak;subst e2;simp only[RK,So,and_true]at A8;obtain⟨rfl,rfl⟩:=A8;have t0:w tb=OK (str [105,102]):=by simp[RE,sW]
 have t3:w (tb,3)=OK (.slice (oS,oM) 3 pc):=by simp[RE,sW,ze]
 have tP:=hp.room;have sI:=hp.ok;have Ao:=hp.ty;have CT:=r9 (fun wz (hz:No w wz)=>eE (zO (.ite l m n)) F (.ite l m n) ns _ _ wz (sZ _) ⟨Rep.below hz (fun _ h=>h) hp.rt,Rep.below hz (fun _ h=>h) hp.rl,hp.ok,hp.n15,by omega⟩);rw[zO]at tP hN;obtain⟨GB,A2,QM⟩:=dJ Ao;obtain⟨la,lc,rfl,_,_⟩:=AtNms.of hp.rl;have SX:Hid (∀w',No w w'->w' (tb,3)=OK (.slice (oS,oM) 3 pc)/\w' (oS,oM)=OK (.pointer (OK ⟨Dn,0,U⟩))/\w' (oS,oM+1)=OK (.pointer (OK ⟨GN,0,U⟩))/\w' (oS,oM+2)=OK (.pointer (OK ⟨Oh,0,U⟩))):=by
  show ∀w',_->_;intro w' sA;exact⟨(sA.cell (sK w _ t3)).trans t3,(sA.cell Ed).trans DZ,(sA.cell aS).trans oR,(sA.cell Do).trans A_⟩
 have C0:=r9 (fun wz (hz:No w wz)=>ih F l ns _ (.pointer (OK ⟨Dn,0,U⟩)) (.slice la ns.length lc) wz (by omega) ⟨hp.glob.below hz,Rep.below hz (fun _ h=>h) AX,Rep.below hz (fun _ h=>h) hp.rl,sI.1,hp.n15,by omega,GB⟩);have C1:=r9 (fun wz (hz:No w wz)=>ih F m ns _ (.pointer (OK ⟨GN,0,U⟩)) (.slice la ns.length lc) wz (by omega) ⟨hp.glob.below hz,Rep.below hz (fun _ h=>h) lL,Rep.below hz (fun _ h=>h) hp.rl,sI.2.1,hp.n15,by omega,A2⟩);have C2:=r9 (fun wz (hz:No w wz)=>ih F n ns _ (.pointer (OK ⟨Oh,0,U⟩)) (.slice la ns.length lc) wz (by omega) ⟨hp.glob.below hz,Rep.below hz (fun _ h=>h) Ak,Rep.below hz (fun _ h=>h) hp.rl,sI.2.2,hp.n15,by omega,QM⟩);have HP:=r9 (r_ hp sI);clear hp sG AZ sW sI hN ih AX DZ Ed lL oR aS Ak A_ Do;go_enter TO,TH;go_wp2_with fail
 refine rB fun sP=>?_;refine tC [0,1,2,3,4,5,6,8,9,10,11,12,13,14,16,17,18,19,20,21,22] sP ?_;iterate 21 (refine tl (fun w' sL=>SX.out w' sL) ?_)
 refine tz ?_;(refine on 7 ?_;intro o ho K' hK;simp at ho;subst ho;go_simp);go_at_call 26;(with_reducible refine(C0.out _ sP).mono ?_);rintro en v0 ⟨x0,rfl,s8,Br,Cs⟩;have iN:Hid (No w v0):=sP.trans s8;have IX:Hid ((zq ns l=U->x0=.pointer U)/\(∀k,zq ns l=OK k->Rep (fun i=>F i\/w<=i) v0 (kM k) x0)):=⟨Br,fun k h=>(Cs k h).weak fun i h=>by rcases h with h|h;exact .inl h;exact .inr (h)⟩;have Oe:=r9 s8;clear s8 Br Cs;(refine hK.out _ _ (fun _=>iN.out) ?_;clear hK K';try simp only[pQ,pN,pZ,pS]);have D_:=iN.out;(refine on 15 ?_;intro o ho K' hK;simp at ho;subst ho;go_simp);go_at_call 26;(with_reducible refine(C1.out _ iN.out).mono ?_);rintro en v1 ⟨x1,rfl,sX,tK,tH⟩;have sn:Hid (No w v1):=zzT iN.out sX;have IW:Hid ((zq ns m=U->x1=.pointer U)/\(∀k,zq ns m=OK k->Rep (fun i=>F i\/w<=i) v1 (kM k) x1)):=⟨tK,fun k h=>(tH k h).weak fun i h=>by rcases h with h|h;exact .inl h;exact .inr (sU iN.out.size h)⟩;have ES:=r9 sX;clear sX tK tH;(refine hK.out _ _ (fun _=>sn.out) ?_;clear hK K';try simp only[pQ,pN,pZ,pS]);have IN:=sn.out;(refine on 23 ?_;intro o ho K' hK;simp at ho;subst ho;go_simp);go_at_call 26;(with_reducible refine(C2.out _ sn.out).mono ?_);rintro en v2 ⟨x2,rfl,sY,lY,lE⟩;have sw:Hid (No w v2):=zzT sn.out sY;have Lf:Hid ((zq ns n=U->x2=.pointer U)/\(∀k,zq ns n=OK k->Rep (fun i=>F i\/w<=i) v2 (kM k) x2)):=⟨lY,fun k h=>(lE k h).weak fun i h=>by rcases h with h|h;exact .inl h;exact .inr (sU sn.out.size h)⟩;have GG:=r9 sY;clear sY lY lE;(refine hK.out _ _ (fun _=>sw.out) ?_;clear hK K';try simp only[pQ,pN,pZ,pS]);have M6:=sw.out;refine tC [24,25,26] M6 ?_;iterate 3 (refine tx ?_)
 refine tz ?_;refine zX (by kernel_rfl) (RQ ?_) _;clear t3 C0 C1 C2;cases hl:zq ns l with
 | none =>
   obtain rfl:=IX.out.1 hl;have HQ:=r9 (show kz ns (.ite l m n)=U by rw[kz,hl];rfl);clear hl;go_wp2_with fail
   go_ret;exact qq.no HQ.out sw.out
 | some p =>
   have I7:=Rep.below (F':=fun i=>F i\/w<=i) GG.out (fun _ h=>h) (Rep.below (F':=fun i=>F i\/w<=i) ES.out (fun _ h=>h) (IX.out.2 p hl));obtain⟨pp,rfl⟩:=zg I7;cases hm:zq ns m with
   | none =>
     obtain rfl:=IW.out.1 hm;have HQ:=r9 (show kz ns (.ite l m n)=U by rw[kz,hl,hm];rfl);clear hl hm I7;go_wp2_with fail
     go_ret;exact qq.no HQ.out sw.out
   | some q =>
     have KF:=Rep.below (F':=fun i=>F i\/w<=i) GG.out (fun _ h=>h) (IW.out.2 q hm);obtain⟨qp,rfl⟩:=zg KF;cases hn:zq ns n with
     | none =>
       obtain rfl:=Lf.out.1 hn;have HQ:=r9 (show kz ns (.ite l m n)=U by rw[kz,hl,hm,hn];rfl);clear hl hm hn I7 KF;go_wp2_with fail
       go_ret;exact qq.no HQ.out sw.out
     | some r =>
       have Gt:=Lf.out.2 r hn;obtain⟨rp,rfl⟩:=zg Gt;obtain⟨f1,w1,s1⟩:=jd l ns _ p HP.out.2.1 HP.out.1.n15 GB hl;have Ij:=qK m ns kt HP.out.1.n15 A2;have AG:=un Ij
       have iT:lvB p:=fit_lv 200 p (kinds ns++(Ty.mk []).args) s1 f1 (fun t ht=>by
        rcases Si.1 ht with ht|ht
        ·exact HP.out.1.n15 t ht
        ·simp [Ty.args] at ht) (by rw [RL,jX];simp [Ty.args];omega)
       have HT:=r9 (show kz ns (.ite l m n)=some (qP (kV p ns.length kt.args.length) q r) by
        rw [kz,hl,hm,hn,RF,RF,RF,A2,RF])
       have EU:=r9 (CT.out v2 sw.out);have HA:=r9 (r_ I7 (r_ KF (r_ Gt (r_ iT (r_ s1 w1)))));have Ce:ns.length<=100:=by omega
       clear hl hm hn I7 KF Gt f1 w1 s1 Ij GB A2 QM iT;go_wp2_with fail
       (with_reducible refine EU.out.mono ?_);rintro en v3 ⟨tv3,rfl,sE,lu,BY⟩
       have lO:=BY _ Ao;obtain⟨rb,rk,rfl,_,aJ,Gt⟩:=zh lO;have q0:v3 rb=rk:=by simp[RE,aJ]
       obtain⟨ra,rc,rfl,_,_,_⟩:=zH Gt;have af:=r9 (zzT sw.out sE);have z2:=sw.out.size;have CR:=r9 (raised_any (zG p) (fun i=>F i\/w<=i) p ns.length kt.args.length _ v3 (sZ _) (by have:=HA.out.2.2.2.2.1;omega) HA.out.2.2.2.1 (by omega) (by omega) (Rep.below sE (fun _ h=>h) HA.out.1));have HQ3:=r9 (r_ (Rep.below (F':=fun i=>F i\/w<=i) sE (fun _ h=>h) HA.out.2.1) (Rep.below (F':=fun i=>F i\/w<=i) sE (fun _ h=>h) HA.out.2.2.1));clear lO aJ Gt lu BY sE EU;go_wp2_with fail
       (with_reducible refine CR.out.mono ?_);rintro en v4 ⟨sp,rfl,sO,FQ⟩
       have z3:=af.out.size;have BW:=r9 (zzT af.out sO);have Po:Rep (fun i=>F i\/w<=i) v4 (kM (kV p ns.length kt.args.length)) (.pointer (OK ⟨sp,0,U⟩)):=FQ.weak fun i h=>by rcases h with h|h;exact h;exact .inr (by omega)
       have CG:=r9 (answered_any _ (fun i=>F i\/w<=i) (kV p ns.length kt.args.length) q r _ _ _ v4 (sZ _) (w_ _ _ _ HA.out.2.2.2.2.2) Po (Rep.below sO (fun _ h=>h) HQ3.out.1) (Rep.below sO (fun _ h=>h) HQ3.out.2));clear FQ Po sO q0 CR;go_wp2_with fail
       (with_reducible refine CG.out.mono ?_);rintro en v5 ⟨gp,rfl,sx,Gu⟩
       have z4:=BW.out.size;have DW:=r9 (r_ (zzT BW.out sx) Gu);clear sx Gu;go_wp2_with fail
       go_ret;exact qq.yes HT.out DW.out.1 (DW.out.2.weak fun i h=>by rcases h with h|h;exact h;exact .inr (by omega))
theorem meant_step (N:Nat)(ih:xw N):fA (N+1):=by
 intro F t ns k tv lv w h hp;cases t with
 |nm x=>exact meant_nm F x ns k tv lv w hp
 |wd u=>exact meant_wd F u ns k tv lv w hp
 |lam x k1 t=>exact meant_lam N ih F x k1 t ns k tv lv w h hp
 |app m n=>exact meant_app N ih F m n ns k tv lv w h hp
 |ite l m n=>exact meant_ite N ih F l m n ns k tv lv w h hp
theorem meant_any (N:Nat):fA N:=by
 induction N with
 |zero=>exact fun F t ns k tv lv w h=>by have:=nJ t;omega
 |succ N ih=>exact meant_step N (nj N ih)
theorem means_any (N:Nat):xw N:=nj N (meant_any N)
def MofPost (w:World)(o:Option (Ty×Bd))(en:Ending)(w':World):Prop:=
 ∃kv bv,en=.returned (.tuple #[kv,bv])/\No w w'/\(o=U->bv=.pointer U)/\∀x,o=OK x->Rep (w<=·) w' (jk x.1) kv/\Rep (w<=·) w' (kM x.2) bv
theorem nil_names (F:Nat->Prop)(w:World):Rep F w (.sl 118 2 ([]:List Nm).length (jb [])) ():=
 zv.2 ⟨rfl,U,0,rfl,sZ _,fun _=>rfl,.inl rfl⟩
theorem cW (s:Bs)(w:World)(he:yF w)(hs:Lim s.length) :
 Calls RG 13 #[s] w (MofPost w (qr s)):=by
 have C0:=r9 (readTerm_any s w hs);have HE:=r9 he;clear he hs;go_enter Tryz.func13,Tryz.ntmps13;go_wp2_with fail
 (with_reducible refine C0.out.mono ?_)
 rintro en w1 ⟨v,rfl,sX,tK,tH⟩;cases ht:jW s with
 | none =>
   obtain rfl:=tK ht;have HM:=r9 (show qr s=U by unfold qr;rw[ht];rfl);have HB:=r9 sX;clear ht tK tH sX;go_wp2_with fail
   go_ret2
   exact⟨_,_,rfl,HB.out,fun _=>rfl,fun x h=>by rw[HM.out]at h;simp at h⟩
 | some t =>
   have hr:=tH t ht;obtain⟨tb,rfl⟩:=qO hr;obtain⟨_,sI,Ea⟩:=y6 ht;have CT:=r9 (eE (zO t) (w<=·) t [] _ _ w1 (sZ _) ⟨hr,nil_names _ _,sI,by simp[kinds],by simp;omega⟩);have HT:=r9 (r_ hr (r_ sI Ea));have HB:=r9 sX;have HM:=r9 (show qr s=(typeOf [] t).bind fun k=>(zq [] t).map fun b=>(k,b) by unfold qr;rw[ht];rfl);clear ht tK tH sX hr sI Ea;go_wp2_with fail
   (with_reducible refine CT.out.mono ?_);rintro en w2 ⟨kv,rfl,sY,lY,lE⟩
   have sw:=r9 (zzT HB.out sY);cases hk:typeOf [] t with
   | none =>
     obtain rfl:=lY hk;have HM2:=r9 (show qr s=U by rw[HM.out,hk];rfl);clear hk lY lE sY;go_wp2_with fail
     go_ret2
     exact⟨_,_,rfl,sw.out,fun _=>rfl,fun x h=>by rw[HM2.out]at h;simp at h⟩
   | some k =>
     have tq:Rep (w<=·) w2 (jk k) kv:=(lE k hk).weak fun i h=>by rcases h with h|h;exact h;exact sU HB.out.size h
     obtain⟨kb,_,e,_⟩:=zh tq;subst e;have CM:=r9 (means_any (zO t) (w<=·) t [] k _ _ w2 (sZ _) ⟨HE.out.below sw.out,Rep.below sY (fun _ h=>h) HT.out.1,nil_names _ _,HT.out.2.1,by simp[kinds],by have:=HT.out.2.2;simp;omega,hk⟩);have HK:=r9 tq;have HM2:=r9 (show qr s=(zq [] t).map fun b=>(k,b) by rw[HM.out,hk];rfl);clear hk lY lE sY tq;go_wp2_with fail
     (with_reducible refine CM.out.mono ?_);rintro en w3 ⟨bv,rfl,sE,lu,BY⟩
     have af:=r9 (r_ (zzT sw.out sE) (r_ (Rep.below (F':=(w<=·)) sE (fun _ h=>h) HK.out) (r_ lu BY)));have z2:=sw.out.size;clear sE lu BY;go_wp2_with fail
     go_ret2
     refine⟨_,_,rfl,af.out.1,fun h=>?_,fun x h=>?_⟩
     ·rw[HM2.out,Option.map_eq_none_iff]at h;exact af.out.2.2.1 h
     ·rw[HM2.out,RP]at h;obtain⟨b,hb,rfl⟩:=h;exact⟨af.out.2.1,(af.out.2.2.2 b hb).weak fun i h=>by rcases h with h|h;exact h;exact sU z2 h⟩
theorem gw (n lo hi:Int)(w:World):Calls RG 113 #[.int RD n,.int RD lo,.int RD hi] w fun en w'=>en=.returned (.bool (decide (lo<=n) && decide (n<=hi)))/\w'=w:=by
 by_cases h1:lo<=n
 ·by_cases h2:n<=hi
  all_goals
   go_enter VC,Vp;go_wp2_with fail
   go_ret;exact⟨by simp[h1,h2],rfl⟩
 ·go_enter VC,Vp;go_wp2_with fail
  go_ret;exact⟨by simp[h1];omega,rfl⟩
theorem n8 (s:Bs)(w:World)(hl:Lim s.length) :
 Calls RG 95 #[s] w fun en w'=>en=.returned (.bool (qi s))/\w'=w:=by
 have Ar:=hl.le;by_cases h0:s.length=0
 ·obtain rfl:s=[]:=St h0;clear h0;go_enter UA,Uk;go_wp2_with fail
  (with_reducible refine(gw 0 1 3 w).mono ?_);rintro en w1 ⟨rfl,e⟩
  subst w1;have q1:(decide ((1:Int)<=0) && decide ((0:Int)<=3))=RC:=by decide
  rw[q1];clear q1;go_wp2_with fail
  go_ret;exact⟨rfl,rfl⟩
 have hne:(s == [])=RC:=by rw[beq_eq_false_iff_ne];rintro rfl;exact h0 rfl
 have Cx:s.isEmpty=RC:=by rw[Vn];rintro rfl;exact h0 rfl
 have iQ:0<s.length:=by omega
 clear h0;by_cases h3:3<s.length
 ·have HN:=r9 (name_no1 h3);go_enter UA,Uk;have q1:(decide ((1:Int)<=(s.length:Int)) && decide ((s.length:Int)<=3))=RC:=by rw[decide_eq_false (show ¬(s.length:Int)<=3 by omega),Bool.and_false]
  go_wp2_with fail
  (with_reducible refine(gw (s.length:Int) 1 3 w).mono ?_);rintro en w1 ⟨rfl,e⟩
  subst w1;rw[q1];clear q1;go_wp2_with fail
  go_ret;exact⟨by rw[HN.out];rfl,rfl⟩
 have q1:(decide ((1:Int)<=(s.length:Int)) && decide ((s.length:Int)<=3))=true:=by rw[decide_eq_true (show (1:Int)<=(s.length:Int) by omega),decide_eq_true (show (s.length:Int)<=3 by omega)];rfl
 have Q1:=r9 q1;clear q1;have B:=xD iQ;by_cases hA:s[0].toNat<120
 ·have HN:=r9 (dI iQ (.inl hA));have b1:((((⟨s.toArray⟩:ByteArray)[0]'(ke iQ)).toNat:Int))<120:=by rw[B];omega
  clear B hA;go_enter UA,Uk;go_wp2_with fail
  (with_reducible refine(gw (s.length:Int) 1 3 w).mono ?_);rintro en w1 ⟨rfl,e⟩
  subst w1;rw[Q1.out];go_wp2_with fail
  go_ret;exact⟨by rw[HN.out];rfl,rfl⟩
 by_cases hB:122<s[0].toNat
 ·have HN:=r9 (dI iQ (.inr hB));have b1:(122:Int)<((((⟨s.toArray⟩:ByteArray)[0]'(ke iQ)).toNat:Int)):=by rw[B];omega
  have b2:¬((((⟨s.toArray⟩:ByteArray)[0]'(ke iQ)).toNat:Int))<120:=by omega
  clear B hA hB;go_enter UA,Uk;go_wp2_with fail
  (with_reducible refine(gw (s.length:Int) 1 3 w).mono ?_);rintro en w1 ⟨rfl,e⟩
  subst w1;rw[Q1.out];go_wp2_with fail
  go_ret;exact⟨by rw[HN.out];rfl,rfl⟩
 have b1:¬(122:Int)<((((⟨s.toArray⟩:ByteArray)[0]'(ke iQ)).toNat:Int)):=by rw[B];omega
 have b2:¬((((⟨s.toArray⟩:ByteArray)[0]'(ke iQ)).toNat:Int))<120:=by rw[B];omega
 have HA:=r9 (r_ hA hB);clear B hA hB;go_enter UA,Uk;go_wp2_with fail
 (with_reducible refine(gw (s.length:Int) 1 3 w).mono ?_)
 rintro en w1 ⟨rfl,e⟩;subst w1;rw[Q1.out];go_wp2_with fail
 clear b1 b2
 go_loop [3] (fun i=>∃k:Nat,1<=k/\k<=s.length/\i=.int RD k/\∀j,1<=j->j<k->∀(hj:j<s.length),48<=s[j].toNat/\s[j].toNat<=57) (fun i=>s.length-(intOf i).toNat)
 case atStart=>exact⟨1,sZ _,iQ,rfl,fun j h1 h2=>by omega⟩
 case round=>
  obtain⟨k,Jd,hk,rfl,ah⟩:=hrel;have HR:=r9 ah;clear ah;by_cases sC:k<s.length
  ·have B:=xD sC;by_cases hA:s[k].toNat<48
   ·have HN:=r9 (dL Jd sC (.inl hA));have b1:((((⟨s.toArray⟩:ByteArray)[k]'(ke sC)).toNat:Int))<48:=by rw[B];omega
    clear B hA;go_wp2_with fail
    go_ret;exact⟨by rw[HN.out];rfl,rfl⟩
   by_cases hB:57<s[k].toNat
   ·have HN:=r9 (dL Jd sC (.inr hB));have b1:(57:Int)<((((⟨s.toArray⟩:ByteArray)[k]'(ke sC)).toNat:Int)):=by rw[B];omega
    have b2:¬((((⟨s.toArray⟩:ByteArray)[k]'(ke sC)).toNat:Int))<48:=by omega
    clear B hA hB;go_wp2_with fail
    go_ret;exact⟨by rw[HN.out];rfl,rfl⟩
   have b1:¬(57:Int)<((((⟨s.toArray⟩:ByteArray)[k]'(ke sC)).toNat:Int)):=by rw[B];omega
   have b2:¬((((⟨s.toArray⟩:ByteArray)[k]'(ke sC)).toNat:Int))<48:=by rw[B];omega
   have HB:=r9 (r_ hA hB);clear B hA hB;go_wp2_with fail
   go_round
   case rel=>exact ⟨k+1,by omega,by omega,by go_num,fun j h1 h2 hj=>by
    by_cases e:j=k
    ·subst e;have:=HB.out;omega
    ·exact HR.out j h1 (by omega) hj⟩
   case measure=>simp[intOf];omega
  ·go_wp2_with fail
   go_ret;have HA':=HA.out;exact⟨by rw[name_yes iQ (by omega) (by omega) (fun j h1 hj=>HR.out j h1 (by omega) hj)];rfl,rfl⟩
mutual
def vV:Tr->List DV
 |.am a=>[.val (str a),.sl 44 2 0 []]
 |.ls ps=>[.val (str []),.sl 44 2 ps.length (vW ps)]
def vW:List Tr->List DV
 |[]=>[]
 |p::ps=>vV p++vW ps
end
theorem di (b:Tr):(vV b).length=2:=by cases b <;> simp[vV]
theorem encTrs_length (bs:List Tr):(vW bs).length=bs.length*2:=by
 induction bs with
 |nil=>simp[vW]
 |cons b bs ih=>simp[vW,di,ih];omega
theorem wA (a b:List Tr):vW (a++b)=vW a++vW b:=by
 induction a with
 |nil=>simp[vW]
 |cons t ts ih=>simp[vW,ih,List.append_assoc]
theorem Tryz.infoTr:(RG.info? 44).map (fun i=>(i.zero,i.size,i.bytes))=OK (OK (.agg #[str [],()]),2,40):=by kernel_rfl
def jB:Tr->List Tr
 |.am _=>[]
 |.ls ps=>ps
theorem q_ {F:Nat->Prop}{w:World}{b:Tr}{vs:List Value}(h:zY F w (vV b) vs) :
 ∃a c,vs=[str (qE b),.slice a (jB b).length c]/\Rep F w (.sl 44 2 (jB b).length (vW (jB b))) (.slice a (jB b).length c):=by
 have key:∀(s:Bs) (n:Nat) (ds:List DV),zY F w [.val (str s),.sl 44 2 n ds] vs->∃a c,vs=[str s,.slice a n c]/\Rep F w (.sl 44 2 n ds) (.slice a n c):=by
  intro s n ds h;obtain⟨_,_,rfl,h0,h⟩:=zQ.1 h;obtain⟨_,_,rfl,h1,h⟩:=zQ.1 h;rw[zE]at h;subst h;rw[zC]at h0;subst h0;have h1':=h1;obtain⟨_,a2,c2,e2',_⟩:=zv.1 h1';subst e2';exact⟨a2,c2,rfl,h1⟩
 cases b with
 |am a=>rw[vV]at h;exact key _ _ _ h
 |ls ps=>rw[vV]at h;exact key _ _ _ h
def AtTr (F:Nat->Prop)(w:World)(bs:List Tr)(a:Option Addr)(k:Nat):Prop:=
 ∃b o s a2 n2 c2 d,a=OK ⟨b,o,U⟩/\b<(w:Nat)/\bs[k]?=OK d/\w (b,o+k*2)=str s/\w (b,o+k*2+1)=OK (.slice a2 n2 c2)/\zY F w (vV d) [s,.slice a2 n2 c2]/\s=qE d/\n2=(jB d).length
def yR (F:Nat->Prop)(w:World)(bs:List Tr)(a:Option Addr):Prop:=∀k,k<bs.length->AtTr F w bs a k
theorem yR.of {F:Nat->Prop}{w:World}{bs:List Tr}{v:Value}(h:Rep F w (.sl 44 2 bs.length (vW bs)) v):∃a c,v=.slice a bs.length c/\yR F w bs a:=by
 obtain⟨hl,a,c,rfl,hn,hz,h⟩:=zv.1 h;refine⟨a,c,rfl,fun k hk=>?_⟩;rcases h with h|⟨b,o,cs,fr,rfl,hb,hc,hr⟩
 ·omega
 ·have hs:vW bs=vW (bs.take k)++(vV bs[k]++vW (bs.drop (k+1))):=by
   have e1:vV bs[k]=vW [bs[k]]:=by simp[vW]
   rw[e1,<- wA,<- wA]
   congr 1
   simp
  rw[hs]at hr;obtain⟨h1,h2⟩:=hr.split;obtain⟨h3,h4⟩:=h2.split;have AG:(vW (bs.take k)).length=k*2:=by rw[encTrs_length];simp;omega
  rw[AG,di]at h3;obtain⟨a2,c2,e,_⟩:=q_ h3;have sG:∀j u,([str (qE bs[k]),.slice a2 (jB bs[k]).length c2]:List Value)[j]?=OK u->w (b,o+k*2+j)=OK u:=by
   intro j u hu;rw[<- e]at hu;have hj:j<2:=by
    have:=(RR.1 hu).1;simp at this;omega
   rw[Su,if_pos hj,SA,Su]at hu;split at hu
   ·rw[SA]at hu;simp only[RE,hc];rw[Nat.add_assoc];simpa using hu
   ·simp at hu
  refine⟨b,o,_,a2,_,c2,bs[k],rfl,zZ hc,by simp[hk],sG 0 _ rfl,sG 1 _ rfl,?_,rfl,rfl⟩;rw[<- e];exact h3
theorem dA:∀(ps:List Tr),qv ps->∀(k:Nat) (t:Tr),ps[k]?=t->jF t
 |[],_,k,t,h=>by simp at h
 |p::ps,ho,0,t,h=>by simp at h;subst h;exact(by rw[qv]at ho;exact ho.1)
 |p::ps,ho,k+1,t,h=>by rw[qv]at ho;exact dA ps ho.2 k t (by simpa using h)
def qN:List Tr->Bs
 |[]=>[]
 |[p]=>zy p
 |p::q::ps=>zy p++32::qN (q::ps)
theorem tail_join:∀ps:List Tr,ps≠[]->qV ps=32::(qN ps++[41])
 |[],h=>absurd rfl h
 |[p],_=>by rw[qV,qV,qN]
 |p::q::ps,_=>by rw[qV,tail_join (q::ps) (by simp),qN];simp
theorem text_join:∀ps:List Tr,zy (.ls ps)=[40]++qN ps++[41]
 |[]=>by rw[zy,j9,qN];rfl
 |[p]=>by rw[zy,j9,qV,qN];simp
 |p::q::ps=>by rw[zy,j9,tail_join (q::ps) (by simp),qN];simp
theorem join_snoc:∀(ps:List Tr) (t:Tr),ps≠[]->qN (ps++[t])=qN ps++[32]++zy t
 |[],t,h=>absurd rfl h
 |[p],t,_=>by rw[List.singleton_append,qN,qN,qN];simp
 |p::q::ps,t,_=>by rw[R5,R5,qN,<- R5,join_snoc (q::ps) t (by simp),qN];simp
theorem join_one (t:Tr):qN [t]=zy t:=by rw[qN]
theorem join_take_len (ps:List Tr)(k:Nat):(qN (ps.take k)).length<=(qN ps).length:=by
 induction ps generalizing k with
 |nil=>simp
 | cons p ps ih =>
   cases k with
   |zero=>simp[qN]
   | succ k =>
     cases ps with
     |nil=>simp[qN]
     | cons q ps =>
       have:=ih k;cases k with
       |zero=>simp[qN]
       |succ k=>simp only[SO,qN,RL,RU]at this ⊢;omega
theorem dR:∀(ps:List Tr) (t:Tr),t∈ps->(zy t).length<=(qN ps).length
 |[],t,h=>by simp at h
 |[p],t,h=>by simp at h;subst h;rw[qN];exact sZ _
 | p::q::ps,t,h=>by
   rw[qN];rcases List.mem_cons.1 h with rfl|h
   ·simp
   ·have:=dR (q::ps) t h;simp only[RL,RU]at this ⊢;omega
theorem ug (ps:List Tr):(zy (.ls ps)).length=(qN ps).length+2:=by rw[text_join];simp
theorem text_pos (t:Tr)(h:jF t):1<=(zy t).length:=by
 cases t with
 |am a=>rw[jF]at h;rw[zy];exact Tg.2 h.1
 |ls ps=>rw[ug];omega
mutual
theorem eO:∀t:Tr,jF t->qM t<=(zy t).length
 | .am a,h=>by
   rw[jF]at h;rw[qM,zy];exact Tg.2 h.1
 | .ls ps,h=>by
   rw[jF]at h;rw[qM,ug];have:=cN ps h.2;omega
theorem cN:∀ps:List Tr,qv ps->kE ps<=(qN ps).length
 |[],h=>by rw[kE];omega
 | [p],h=>by
   rw[qv]at h;rw[kE,kE,qN];exact eO p h.1
 | p::q::ps,h=>by
   rw[qv]at h;have h1:=eO p h.1;have h2:=cN (q::ps) h.2;rw[kE,qN,RL,RU];omega
end
theorem dp:∀ps:List Tr,qv ps->ps.length<=(qN ps).length
 |[],_=>by simp
 | [p],h=>by
   rw[qv]at h;have hp:=text_pos p h.1;rw[qN];simpa using hp
 | p::q::ps,h=>by
   rw[qv]at h;have hp:=text_pos p h.1;have:=dp (q::ps) h.2;rw[qN];simp only[RU,RL]at this ⊢;omega
theorem sizeTrs_take {ps:List Tr}{k:Nat}{t:Tr}(h:ps[k]?=t):kE (ps.take (k+1))=kE (ps.take k)+qM t:=by
 induction ps generalizing k with
 |nil=>simp at h
 | cons p ps ih =>
   cases k with
   |zero=>simp at h;subst h;simp[kE]
   | succ k =>
     simp only[RW]at h;have:=ih h;simp only[SO,kE]at this ⊢;omega
theorem mD (ps:List Tr)(k:Nat):kE (ps.take k)<=kE ps:=by
 induction ps generalizing k with
 |nil=>simp
 | cons p ps ih =>
   cases k with
   |zero=>simp[kE]
   |succ k=>have:=ih k;simp only[SO,kE];omega
theorem am_ne {a:Bs}(h:jF (.am a)):(a == [])=RC:=by
 rw[jF]at h;rw[beq_eq_false_iff_ne];exact h.1
def BoxT (g:Nat)(s:Bs)(k:Value)(w:World):Prop:=w g=str s/\w (g,1)=k
theorem BoxT.below {g:Nat}{s:Bs}{k:Value}{w w':World}(h:BoxT g s k w)(hb:No w w'):BoxT g s k w':=by
 obtain⟨h1,h2⟩:=h;have:=sK w _ h1;exact⟨by rw[hb.cell (by exact this)];exact h1,by rw[hb.cell (by exact this)];exact h2⟩
def gV (b:Tr):Prop:=∀(F:Nat->Prop) (w:World) (s v:Value),zY F w (vV b) [s,v]->
 Calls RG 69 #[.agg #[s,v]] w fun en w'=>en=.returned (.int RD (qM b))/\No w w'
theorem f7 (b:Tr)(ho:jF b)(hl:Lim (zy b).length)(ih:∀b',(zy b').length<(zy b).length->jF b'->gV b'):gV b:=by
 intro F w s v hv;obtain⟨a2,c2,e,hk⟩:=q_ hv;simp only[RY,and_true]at e;obtain⟨rfl,rfl⟩:=e;cases b with
 | am a =>
   have ha:=am_ne ho;clear hv hk ih hl;simp only[qE,jB];go_enter Xg,WL;go_wp2_with fail
   go_ret;exact⟨by rw[qM];rfl,(sQ _ _).alloc (sZ _) _⟩
 | ls kids =>
   simp only[qE,jB]at hk ⊢;obtain⟨_,_,ek,oK⟩:=yR.of hk;simp only[RT,true_and]at ek;obtain⟨rfl,rfl⟩:=ek;rw[jF]at ho;have IH:=r9 ih;clear ih;have tV:=cN kids ho.2;have Df:=ug kids;have hll:=hl.le;have AG:kids.length<=kE kids+kids.length:=by omega
   have nk:kids.length<=16777216:=by have:=dp kids ho.2;omega
   have E1:=r9 tV;have HO:=r9 ho;have HT:=r9 Df;have ATK:=r9 oK;clear oK hk hv tV Df AG ho;go_enter Xg,WL;go_wp2_with fail
   go_loopw [3,4] (fun n i wr=>∃k:Nat,k<=kids.length/\i=.int RD k/\n=.int RD ((kE (kids.take k):Nat):Int)/\No w wr/\BoxT w [] (.slice a2 kids.length c2) wr) (fun _ i _=>kids.length-(intOf i).toNat)
   case atStart=>exact⟨0,R6 _,rfl,by simp[kE],(sQ _ _).alloc (sZ _) _,by simp,by simp⟩
   case round=>
    rename_i wr;obtain⟨k,hk,rfl,rfl,hb,hc⟩:=hrel;obtain⟨lJ,oI⟩:=id hc;by_cases sC:k<kids.length
    ·obtain⟨bb,o,s',b2,m2,d2,t,rfl,hbb,ht,u0,u1,hr,es,en⟩:=ATK.out k sC;clear es en;have q0:=(hb.cell hbb).trans u0;have q1:=(hb.cell hbb).trans u1;have o_:=(zY.below (F':=F) hb (fun _ h=>h) hr);have hs:=sizeTrs_take ht;have tw:=mD kids (k+1);have oQ:=E1.out;have Aa:=dR kids t (RX ht);have al:=HT.out;have IH':=r9 (IH.out t (by omega) (dA kids HO.out.2 k t ht));unfold gV at IH';have HS:=r9 hs;have b1:kE (kids.take k)+qM t<=16777216:=by omega
     have hz:=sK wr _ lJ;have tB:(k:Int)<(kids.length:Int):=by omega
     clear hs ht oQ u0 u1 hr al Aa;go_wp2_with fail
     (with_reducible refine(IH'.out _ _ _ _ o_).mono ?_);rintro en w2 ⟨rfl,sY⟩
     have sE:=zzT hb sY;obtain⟨lJ,oI⟩:=id (hc.below sY);have Fg:=r9 (hc.below sY);go_wp2_with fail
     go_roundw
     case rel=>exact⟨k+1,by omega,by go_num,by rw[HS.out] <;> go_num,sE,Fg.out⟩
     case measure=>simp[intOf];omega
    ·obtain rfl:k=kids.length:=by omega
     rw[R8];go_wp2_with fail
     go_ret;exact⟨by rw[qM];rfl,hb⟩
theorem l5Size_any (n:Nat):∀b,(zy b).length<=n->Lim n->jF b->gV b:=by
 induction n with
 |zero=>intro b h hn ho;exact f7 b ho (hn.mono h) (fun b' h' _=>by omega)
 |succ n ih=>exact fun b h hn ho=>f7 b ho (hn.mono h) (fun b' h' E9=>ih b' (by omega) (hn.mono (by omega)) E9)
def xH:Tr->Bs
 |.am _=>[]
 |.ls ps=>qo ps
theorem ux (b:Tr)(ho:jF b)(F:Nat->Prop)(w:World)(s v:Value)(hv:zY F w (vV b) [s,v]) :
 Calls RG 37 #[.agg #[s,v]] w fun en w'=>en=.returned (str (xH b))/\No w w':=by
 obtain⟨a2,c2,e,hk⟩:=q_ hv;simp only[RY,and_true]at e;obtain⟨rfl,rfl⟩:=e;cases b with
 | am a =>
   have ha:=am_ne ho;clear hv hk;simp only[qE,jB];go_enter Xh,WM;go_wp2_with fail
   go_ret;exact⟨by rw[xH];rfl,(sQ _ _).alloc (sZ _) _⟩
 | ls kids =>
   simp only[qE,jB]at hk ⊢;obtain⟨_,_,ek,oK⟩:=yR.of hk;simp only[RT,true_and]at ek;obtain⟨rfl,rfl⟩:=ek;rw[jF]at ho;cases kids with
   |nil=>exact absurd rfl ho.1
   | cons p ps =>
     obtain⟨bb,o,s',b2,m2,d2,t,rfl,hbb,ht,u0,u1,hr,lw,_⟩:=oK 0 (by simp);simp only[RV,RK]at ht;subst ht;have HH:=r9 (show xH (.ls (p::ps))=s' by rw[lw,xH];cases p <;> rfl);simp only[Nat.zero_mul,Xi]at u0;have hl0:0<(p::ps).length:=by simp
     have Gy:(((p::ps).length:Int) == 0)=RC:=by rw[beq_eq_false_iff_ne];simp;omega
     generalize (p::ps).length=L at *;have PQ:(0:Int)<(L:Int):=by omega
     clear oK hk hv ho u1 hr lw;go_enter Xh,WM;go_wp2_with fail
     go_ret;exact⟨by rw[HH.out];rfl,(sQ _ _).alloc (sZ _) _⟩
def wQ (b:Tr):Prop:=∀(F:Nat->Prop) (w:World) (s v:Value),zY F w (vV b) [s,v]->
 Calls RG 38 #[.agg #[s,v]] w fun en w'=>en=.returned (str (zy b))/\No w w'
def yP (ps:List Tr)(k:Nat):Bs:=[40]++qN (ps.take k)
theorem fo (b:Tr)(ho:jF b)(hl:Lim (zy b).length)(ih:∀b',(zy b').length<(zy b).length->jF b'->wQ b'):wQ b:=by
 intro F w s v hv;obtain⟨a2,c2,e,hk⟩:=q_ hv;simp only[RY,and_true]at e;obtain⟨rfl,rfl⟩:=e;cases b with
 | am a =>
   have ha:=am_ne ho;clear hv hk ih hl;simp only[qE,jB];go_enter Xj,WN;go_wp2_with fail
   go_ret;exact⟨by rw[zy];rfl,(sQ _ _).alloc (sZ _) _⟩
 | ls kids =>
   simp only[qE,jB]at hk ⊢;obtain⟨_,_,ek,oK⟩:=yR.of hk;simp only[RT,true_and]at ek;obtain⟨rfl,rfl⟩:=ek;rw[jF]at ho;have IH:=r9 ih;clear ih;have Df:=ug kids;have hll:=hl.le;have nk:kids.length<=16777216:=by have:=dp kids ho.2;omega
   have HO:=r9 ho;have HT:=r9 Df;have ATK:=r9 oK;have HJ:=r9 (text_join kids);clear oK hk hv Df ho hl;go_enter Xj,WN;go_wp2_with fail
   go_loopw [3,4] (fun n i wr=>∃k:Nat,k<=kids.length/\i=.int RD k/\n=str (yP kids k)/\No w wr/\BoxT w [] (.slice a2 kids.length c2) wr) (fun _ i _=>kids.length-(intOf i).toNat)
   case atStart=>exact⟨0,R6 _,rfl,rfl,(sQ _ _).alloc (sZ _) _,by simp,by simp⟩
   case round=>
    rename_i wr;obtain⟨k,hk,rfl,rfl,hb,hc⟩:=hrel;obtain⟨lJ,oI⟩:=id hc;have Je:(yP kids k).length<=(qN kids).length+1:=by
     have:=join_take_len kids k;unfold yP;simp;omega
    by_cases sC:k<kids.length
    ·obtain⟨bb,o,s',b2,m2,d2,t,rfl,hbb,ht,u0,u1,hr,es,en⟩:=ATK.out k sC;clear es en;have q0:=(hb.cell hbb).trans u0;have q1:=(hb.cell hbb).trans u1;have o_:=(zY.below (F':=F) hb (fun _ h=>h) hr);have Aa:=dR kids t (RX ht);have al:=HT.out;have IH':=r9 (IH.out t (by omega) (dA kids HO.out.2 k t ht));have hz:=sK wr _ lJ;have tB:(k:Int)<(kids.length:Int):=by omega
     have e1:kids.take (k+1)=kids.take k++[t]:=by rw[List.take_add_one,ht];rfl
     by_cases Fc:k=0
     focus
      have Jd:¬(0:Int)<(k:Int):=by omega
      have sf:yP kids (k+1)=yP kids k++zy t:=by unfold yP;rw[e1,Fc,List.take_zero,List.nil_append,join_one,qN];simp
      obtain⟨A,hA⟩:=zzM (yP kids k);obtain⟨T,hT⟩:=zzM (zy t);unfold wQ at IH';rw[<- hA]at sf Je ⊢;rw[<- hT]at sf Aa IH';obtain⟨O,hO⟩:=zzM (A++T);have a1:=fun w0=>qz (P:=RG) A T (by omega) w0;rw[<- hO]at a1 sf;have HS:=r9 sf;clear Fc sf hA hT hO e1 ht u0 u1 hr al Aa
     rotate_left
     focus
      have Jd:(0:Int)<(k:Int):=by omega
      have sf:yP kids (k+1)=yP kids k++[32]++zy t:=by unfold yP;rw[e1,join_snoc _ _ (by intro h;have:=congrArg Td h;rw[List.length_take]at this;simp only[Sq]at this;omega)];simp
      obtain⟨A,hA⟩:=zzM (yP kids k);obtain⟨T,hT⟩:=zzM (zy t);unfold wQ at IH';rw[<- hA]at sf Je ⊢;rw[<- hT]at sf Aa IH';obtain⟨A1,QZ⟩:=zzM (A++[32]);have lA1:A1.length=A.length+1:=by rw[QZ];simp
      obtain⟨O,hO⟩:=zzM (A1++T);have a0:=fun w0=>qz (P:=RG) A [32] (by simp;omega) w0;have a1:=fun w0=>qz (P:=RG) A1 T (by omega) w0;rw[<- QZ]at a0 sf;rw[<- hO]at a1 sf;have HS:=r9 sf;clear sf hA hT hO QZ lA1 e1 ht u0 u1 hr al Aa
     all_goals
      go_wp2_with fail
      (with_reducible refine(IH'.out _ _ _ _ o_).mono ?_);rintro en w2 ⟨rfl,sY⟩
      have sE:=zzT hb sY;obtain⟨lJ,oI⟩:=id (hc.below sY);have Fg:=r9 (hc.below sY);go_wp2_with fail
      go_roundw
      case rel=>exact⟨k+1,by omega,by go_num,by rw[<- HS.out],sE,Fg.out⟩
      case measure=>simp[intOf];omega
    ·obtain rfl:k=kids.length:=by omega
     have hj:zy (.ls kids)=yP kids kids.length++[41]:=by rw[HJ.out];unfold yP;rw[R8]
     have Ce:¬((kids.length:Int)<(kids.length:Int)):=by omega
     obtain⟨A,hA⟩:=zzM (yP kids kids.length);rw[<- hA]at hj Je ⊢;obtain⟨O,hO⟩:=zzM (A++[41]);have al:=HT.out;have a1:=fun w0=>qz (P:=RG) A [41] (by simp;omega) w0;rw[<- hO]at a1 hj;have HS:=r9 hj;clear hj hA hO al;go_wp2_with fail
     go_ret;exact⟨by rw[HS.out];rfl,hb⟩
theorem ch (n:Nat):∀b,(zy b).length<=n->Lim n->jF b->wQ b:=by
 induction n with
 |zero=>intro b h hn ho;exact fo b ho (hn.mono h) (fun b' h' _=>by omega)
 |succ n ih=>exact fun b h hn ho=>fo b ho (hn.mono h) (fun b' h' E9=>ih b' (by omega) (hn.mono (by omega)) E9)
theorem TypeValid_any (l:Bs)(hl:Lim l.length)(w:World):Calls RG 96 #[l] w fun en w'=>en=.returned (.bool (zD l).2)/\No w w':=by
 have C:=r9 (x5 l hl w);generalize hB:(zD l).2=B;have HB:=r9 hB;clear hB;go_enter Tryz.func96,Tryz.ntmps96;go_wp2_with fail
 (with_reducible refine C.out.mono ?_);rintro en w1 ⟨v,rfl,hb,hv⟩
 obtain⟨a1,c1,e1⟩:=za hv;subst e1;clear hv;rw[HB.out];generalize (zD l).1.args.length=n1;go_wp2_with fail
 refine bodyPost_ret (v:=.bool B) (by simp[results,Tryz.results96,go_sem]) rfl ?_;exact⟨rfl,by repeat (first | exact hb | refine Below.alloc ?_ hb.size _ | refine Below.setCell ?_ (by simp;exact hb.size) _)⟩
theorem yR.some {F:Nat->Prop}{w:World}{bs:List Tr}{a:Option Addr}(h:yR F w bs a)(hp:0<bs.length):∃bb o,a=.some ⟨bb,o,U⟩/\bb<(w:Nat):=by
 obtain⟨b,o,_,_,_,_,_,e,hb,_⟩:=h 0 hp;exact⟨b,o,e,hb⟩
theorem yR.get {F:Nat->Prop}{w:World}{bs:List Tr}{bb o:Nat}(h:yR F w bs (.some ⟨bb,o,U⟩)){k:Nat}{t:Tr}(ht:bs[k]?=.some t) :
 ∃a2 c2,w (bb,o+k*2)=.some (str (qE t))/\w (bb,o+k*2+1)=.some (.slice a2 (jB t).length c2)/\zY F w (vV t) [str (qE t),.slice a2 (jB t).length c2]:=by
 obtain⟨b,o',s,a2,n2,c2,d,e,hb,hd,u0,u1,hr,es,en⟩:=h k (RR.1 ht).1;simp only[RK,So,and_true]at e;obtain⟨rfl,rfl⟩:=e;rw[ht]at hd;obtain rfl:=RZ hd;subst es;subst en;exact⟨a2,c2,u0,u1,hr⟩
theorem isTr_no3 {ps:List Tr}(h:qo ps=uV)(hl:ps.length≠3):qw (.ls ps)=RC:=by
 match ps with
 |[]=>exact(qw.eq_def _).trans rfl
 |[a]=>exact(qw.eq_def _).trans rfl
 |[a,b]=>exact(qw.eq_def _).trans rfl
 |[a,b,c]=>simp at hl
 | [a,b,c,d] =>
   have h':qo [a]=uV:=by cases a <;> exact h
   rw[qw,h'];rfl
 |a::b::c::d::e::ps=>exact(qw.eq_def _).trans rfl
theorem isTr_no4 {ps:List Tr}(h:qo ps=vX\/qo ps=ifW)(hl:ps.length≠4):qw (.ls ps)=RC:=by
 match ps with
 |[]=>exact(qw.eq_def _).trans rfl
 |[a]=>exact(qw.eq_def _).trans rfl
 |[a,b]=>exact(qw.eq_def _).trans rfl
 | [a,b,c] =>
   have h':qo [a]=vX\/qo [a]=ifW:=by cases a <;> exact h
   rw[qw];rcases h' with h'|h' <;> (rw[h'];rfl)
 |[a,b,c,d]=>simp at hl
 |a::b::c::d::e::ps=>exact(qw.eq_def _).trans rfl
theorem isTr_noW {ps:List Tr}(h1:qo ps≠vX)(h2:qo ps≠uV)(h3:qo ps≠ifW):qw (.ls ps)=RC:=by
 match ps with
 |[]=>exact(qw.eq_def _).trans rfl
 |[a]=>exact(qw.eq_def _).trans rfl
 |[a,b]=>exact(qw.eq_def _).trans rfl
 | [a,b,c] =>
   have h':qo [a]≠uV:=by cases a <;> exact h2
   rw[qw,beq_false_of_ne h'];rfl
 | [a,b,c,d] =>
   have h':qo [a]≠vX:=by cases a <;> exact h1
   have h'':qo [a]≠ifW:=by cases a <;> exact h3
   rw[qw,beq_false_of_ne h',beq_false_of_ne h''];rfl
 |a::b::c::d::e::ps=>exact(qw.eq_def _).trans rfl
theorem isTr_lam {a b c d:Tr}(h:qo [a,b,c,d]=vX):qw (.ls [a,b,c,d])=(qi (qE b) && (zD (zy c)).2 && qw d):=by
 have h':qo [a]=vX:=by cases a <;> exact h
 rw[qw,h'];have e1:(vX == vX)=true:=by decide
 have e2:(vX == ifW)=RC:=by decide
 rw[e1,e2,UR,Wg,Bool.or_false,Bool.and_assoc]
theorem isTr_if {a b c d:Tr}(h:qo [a,b,c,d]=ifW):qw (.ls [a,b,c,d])=(qw b && qw c && qw d):=by
 have h':qo [a]=ifW:=by cases a <;> exact h
 rw[qw,h'];have e1:(ifW == vX)=RC:=by decide
 have e2:(ifW == ifW)=true:=by decide
 rw[e1,e2,UR,Wg,Bool.false_or]
theorem isTr_app {a b c:Tr}(h:qo [a,b,c]=uV):qw (.ls [a,b,c])=(qw b && qw c):=by
 have h':qo [a]=uV:=by cases a <;> exact h
 rw[qw,h'];have e2:(uV == uV)=true:=by decide
 rw[e2,UR]
def eH (b:Tr):Prop:=∀(F:Nat->Prop) (w:World) (s v:Value),zY F w (vV b) [s,v]->
 Calls RG 68 #[.agg #[s,v]] w fun en w'=>en=.returned (.bool (qw b))/\No w w'
structure PartAt (F:Nat->Prop)(w:World)(bb o k:Nat)(t:Tr)(a2:Option Addr)(c2:Nat):Prop where
 blk:bb<w
 c0:w (bb,o+k)=.some (str (qE t))
 c1:w (bb,o+(k+1))=.some (.slice a2 (jB t).length c2)
 rp:zY F w (vV t) [str (qE t),.slice a2 (jB t).length c2]
theorem PartAt.below {F:Nat->Prop}{w w':World}{bb o k:Nat}{t:Tr}{a2:Option Addr}{c2:Nat}(h:PartAt F w bb o k t a2 c2)(hb:No w w'):PartAt F w' bb o k t a2 c2:=
 ⟨sV h.blk hb.size,(hb.cell (by exact h.blk)).trans h.c0,(hb.cell (by exact h.blk)).trans h.c1,zY.below hb (fun _ h=>h) h.rp⟩
theorem yR.part {F:Nat->Prop}{w:World}{bs:List Tr}{bb o:Nat}(h:yR F w bs (.some ⟨bb,o,U⟩))(hb:bb<w){k:Nat}{t:Tr}(ht:bs[k]?=.some t):∃a2 c2,PartAt F w bb o (k*2) t a2 c2:=by
 obtain⟨a2,c2,u0,u1,hr⟩:=h.get ht;exact⟨a2,c2,hb,u0,u1,hr⟩
theorem l5Is_step (b:Tr)(ho:jF b)(hl:Lim (zy b).length)(ih:∀b',(zy b').length<(zy b).length->jF b'->eH b'):eH b:=by
 intro F w s v hv;have hvv:=r9 hv;have CH:=r9 (fun wz (hb:No w wz)=>ux b ho F wz s v (zY.below hb (fun _ h=>h) hvv.out));obtain⟨a2,c2,e,hk⟩:=q_ hv;simp only[RY,and_true]at e;obtain⟨rfl,rfl⟩:=e;cases b with
 | am a =>
   have ha:=am_ne ho;have hla:Lim a.length:=hl.mono (by rw[zy];exact sZ _);have CN:=r9 (fun wz=>n8 a wz hla);have HI:=r9 (show qw (.am a)=(js a || qi a) by rw[qw]);clear hv hk ih hl hla CH hvv ho;simp only[qE,jB];by_cases h1:a=[116]
   ·subst h1;go_enter UB,Ul;go_wp2_with fail
    go_ret;exact⟨by rw[HI.out];rfl,(sQ _ _).alloc (sZ _) _⟩
   by_cases h2:a=[102]
   ·subst h2;go_enter UB,Ul;go_wp2_with fail
    go_ret;exact⟨by rw[HI.out];rfl,(sQ _ _).alloc (sZ _) _⟩
   by_cases h3:a=[117]
   ·subst h3;go_enter UB,Ul;go_wp2_with fail
    go_ret;exact⟨by rw[HI.out];rfl,(sQ _ _).alloc (sZ _) _⟩
   have n1:(a == [116])=RC:=by rw[beq_eq_false_iff_ne];exact h1
   have n2:(a == [102])=RC:=by rw[beq_eq_false_iff_ne];exact h2
   have n3:(a == [117])=RC:=by rw[beq_eq_false_iff_ne];exact h3
   have HL:=r9 (show js a=RC by simp[js,n1,n2,n3]);clear h1 h2 h3;go_enter UB,Ul;go_wp2_with fail
   (with_reducible refine(CN.out _).mono ?_);rintro en w1 ⟨rfl,e⟩
   subst w1;go_wp2_with fail
   go_ret;exact⟨by rw[HI.out,HL.out];rfl,(sQ _ _).alloc (sZ _) _⟩
 | ls kids =>
   simp only[qE,jB]at hk CH hvv ⊢;obtain⟨_,_,ek,oK⟩:=yR.of hk;simp only[RT,true_and]at ek;obtain⟨rfl,rfl⟩:=ek;rw[jF]at ho;have IH:=r9 ih;clear ih;have hp0:0<kids.length:=Tg.2 ho.1;obtain⟨bb,o,rfl,hbb⟩:=oK.some hp0;have HO:=r9 ho;have HT:=r9 (r_ (ug kids) hl);have ATK:=r9 oK;have AG:kids.length<=16777216:=by have:=dp kids ho.2;have:=ug kids;have:=hl.le;omega
   have sub:∀(t:Tr),t∈kids->jF t/\Lim (zy t).length/\eH t:=fun t ht=>by
    obtain⟨k,hk⟩:=List.getElem?_of_mem ht;have h1:=dA kids HO.out.2 k t hk;have h2:=dR kids t ht;have h3:=HT.out.1;have h4:=HT.out.2.le;exact⟨h1,(show _<=_ by omega),IH.out t (by omega) h1⟩
   have SUB:=r9 sub;have iw:BoxT w [] (.slice (.some ⟨bb,o,U⟩) kids.length c2) (w.alloc (.cells #[str [],.slice (.some ⟨bb,o,U⟩) kids.length c2] 44)):=⟨by simp,by simp⟩;have Lo:=r9 iw;have iN:Hid (No w (w.alloc (.cells #[str [],.slice (.some ⟨bb,o,U⟩) kids.length c2] 44))):=(sQ _ _).alloc (sZ _) _;clear oK hk hv hvv ho hl sub iw;go_enter UB,Ul;go_wp2_with fail
   (with_reducible refine(CH.out _ iN.out).mono ?_);rintro en w1 ⟨rfl,sX⟩
   have EM:No w w1:=zzT iN.out sX;have oH:=r9 (Lo.out.below sX);have sn:=r9 EM;clear sX EM Lo iN CH;obtain⟨hd,KR⟩:=zzM (xH (.ls kids));rw[<- KR];have HD:Hid (qo kids=hd):=KR.symm;clear KR;have nl:(4:Int)=(kids.length:Int)\/¬(4:Int)=(kids.length:Int):=by omega
   by_cases lr:hd=vX
   ·have q0:(hd == [108,97,109])=true:=by rw[beq_iff_eq];exact lr
    have HL:=r9 lr;clear lr;obtain⟨x0,x1⟩:=oH.out;by_cases h4:kids.length=4
    ·obtain⟨p0,p1,p2,p3,rfl⟩:∃a b c d,kids=[a,b,c,d]:=by
      match kids,h4 with
      |[a,b,c,d],_=>exact⟨a,b,c,d,rfl⟩
     obtain⟨a1,k1,P1⟩:=(ATK.out.part hbb (k:=1) (t:=p1) rfl).imp fun _ h=>h;obtain⟨a3,k3,P2⟩:=(ATK.out.part hbb (k:=2) (t:=p2) rfl).imp fun _ h=>h;obtain⟨a5,k5,P3⟩:=(ATK.out.part hbb (k:=3) (t:=p3) rfl).imp fun _ h=>h;have HI:=r9 (isTr_lam (a:=p0) (b:=p1) (c:=p2) (d:=p3) (by rw[HD.out,HL.out]));have S1:=r9 (SUB.out p1 (by simp));have S2:=r9 (SUB.out p2 (by simp));have S3:=r9 (SUB.out p3 (by simp));have PP:=r9 (r_ P1 (r_ P2 P3));have lat:Lim (qE p1).length:=by
      cases p1 with
      |am a=>have:=S1.out.2.1;rw[zy]at this;exact this
      |ls ps=>exact R6 _
     have CN:=r9 (fun wz=>n8 (qE p1) wz lat);obtain⟨y0,y1⟩:=r_ (P1.below sn.out).c0 (P1.below sn.out).c1;have tY:=(P1.below sn.out).blk;have Bu:(([p0,p1,p2,p3]:List Tr).length:Nat)=4:=rfl;rw[Bu]at x1 ⊢;simp only[TE,Tq,S8]at y0 y1;clear P1 P2 P3 h4 Bu lat AG hp0 nl;go_wp2_with fail
     (with_reducible refine(CN.out _).mono ?_);rintro en w2 ⟨rfl,e⟩
     subst w2;cases hn:qi (qE p1) with
     | false =>
       have HN:=r9 hn;clear hn;go_wp2_with fail
       go_ret;exact⟨by rw[HI.out,HN.out];rfl,sn.out⟩
     | true =>
       have HN:=r9 hn;clear hn;have P2:=PP.out.2.1.below sn.out;have CT:=r9 (ch _ p2 (sZ _) S2.out.2.1 S2.out.1 F w1 _ _ P2.rp);obtain⟨y2,y3⟩:=r_ P2.c0 P2.c1;simp only[TE,Tq,S8]at y2 y3;clear P2 y0 y1;go_wp2_with fail
       (with_reducible refine CT.out.mono ?_);rintro en w2 ⟨rfl,sY⟩
       have sw:=r9 (zzT sn.out sY);have Oa:=r9 (oH.out.below sY);have CV:=r9 (TypeValid_any (zy p2) S2.out.2.1 w2);clear sY x0 x1 y2 y3 tY;go_wp2_with fail
       (with_reducible refine CV.out.mono ?_);rintro en w3 ⟨rfl,sE⟩
       have af:=r9 (zzT sw.out sE);have HX3:=r9 (Oa.out.below sE);clear sE;cases hv:(zD (zy p2)).2 with
       | false =>
         have HV:=r9 hv;clear hv;go_wp2_with fail
         go_ret;exact⟨by rw[HI.out,HN.out,HV.out];rfl,af.out⟩
       | true =>
         have HV:=r9 hv;clear hv;have P3:=PP.out.2.2.below af.out;have CI:=r9 (S3.out.2.2 F w3 _ _ P3.rp);obtain⟨x0,x1⟩:=HX3.out;obtain⟨y2,y3⟩:=r_ P3.c0 P3.c1;have tY:=P3.blk;have Bu:(([p0,p1,p2,p3]:List Tr).length:Nat)=4:=rfl;rw[Bu]at x1;simp only[TE,Tq,S8]at y2 y3;clear P3 Bu;go_wp2_with fail
         (with_reducible refine CI.out.mono ?_);rintro en w4 ⟨rfl,sO⟩
         go_wp2_with fail
         go_ret;exact⟨by rw[HI.out,HN.out,HV.out];rfl,zzT af.out sO⟩
    ·have hne:((kids.length:Int) == 4)=RC:=by rw[beq_eq_false_iff_ne];omega
     have HI:=r9 (isTr_no4 (.inl (by rw[HD.out,HL.out])) h4);clear h4;go_wp2_with fail
     go_ret;exact⟨by rw[HI.out];rfl,sn.out⟩
   have q0:(hd == [108,97,109])=RC:=by rw[beq_eq_false_iff_ne];exact lr
   by_cases EN:hd=uV
   ·have q1:(hd == [97,112,112])=true:=by rw[beq_iff_eq];exact EN
    have HL:=r9 EN;clear EN lr;obtain⟨x0,x1⟩:=oH.out;by_cases h4:kids.length=3
    ·obtain⟨p0,p1,p2,rfl⟩:∃a b c,kids=[a,b,c]:=by
      match kids,h4 with
      |[a,b,c],_=>exact⟨a,b,c,rfl⟩
     obtain⟨a1,k1,P1⟩:=(ATK.out.part hbb (k:=1) (t:=p1) rfl).imp fun _ h=>h;obtain⟨a3,k3,P2⟩:=(ATK.out.part hbb (k:=2) (t:=p2) rfl).imp fun _ h=>h;have HI:=r9 (isTr_app (a:=p0) (b:=p1) (c:=p2) (by rw[HD.out,HL.out]));have S1:=r9 (SUB.out p1 (by simp));have S2:=r9 (SUB.out p2 (by simp));have PP:=r9 (r_ P1 P2);have CI1:=r9 (S1.out.2.2 F w1 _ _ (P1.below sn.out).rp);obtain⟨y0,y1⟩:=r_ (P1.below sn.out).c0 (P1.below sn.out).c1;have tY:=(P1.below sn.out).blk;have Bu:(([p0,p1,p2]:List Tr).length:Nat)=3:=rfl;rw[Bu]at x1 ⊢;simp only[TE,Tq,S8]at y0 y1;clear P1 P2 h4 Bu AG hp0 nl;go_wp2_with fail
     (with_reducible refine CI1.out.mono ?_);rintro en w2 ⟨rfl,sY⟩
     have sw:=r9 (zzT sn.out sY);have Oa:=r9 (oH.out.below sY);clear sY x0 x1 y0 y1 tY;cases hn:qw p1 with
     | false =>
       have HN:=r9 hn;clear hn;go_wp2_with fail
       go_ret;exact⟨by rw[HI.out,HN.out];rfl,sw.out⟩
     | true =>
       have HN:=r9 hn;clear hn;have P2:=PP.out.2.below sw.out;have CI2:=r9 (S2.out.2.2 F w2 _ _ P2.rp);obtain⟨x0,x1⟩:=Oa.out;obtain⟨y2,y3⟩:=r_ P2.c0 P2.c1;have tY:=P2.blk;have Bu:(([p0,p1,p2]:List Tr).length:Nat)=3:=rfl;rw[Bu]at x1;simp only[TE,Tq,S8]at y2 y3;clear P2 Bu;go_wp2_with fail
       (with_reducible refine CI2.out.mono ?_);rintro en w4 ⟨rfl,sO⟩
       go_wp2_with fail
       go_ret;exact⟨by rw[HI.out,HN.out];rfl,zzT sw.out sO⟩
    ·have hne:((kids.length:Int) == 3)=RC:=by rw[beq_eq_false_iff_ne];omega
     have HI:=r9 (isTr_no3 (by rw[HD.out,HL.out]) h4);clear h4;go_wp2_with fail
     go_ret;exact⟨by rw[HI.out];rfl,sn.out⟩
   have q1:(hd == [97,112,112])=RC:=by rw[beq_eq_false_iff_ne];exact EN
   by_cases GA:hd=ifW
   ·have q2:(hd == [105,102])=true:=by rw[beq_iff_eq];exact GA
    have HL:=r9 GA;clear GA EN lr;obtain⟨x0,x1⟩:=oH.out;by_cases h4:kids.length=4
    ·obtain⟨p0,p1,p2,p3,rfl⟩:∃a b c d,kids=[a,b,c,d]:=by
      match kids,h4 with
      |[a,b,c,d],_=>exact⟨a,b,c,d,rfl⟩
     obtain⟨a1,k1,P1⟩:=(ATK.out.part hbb (k:=1) (t:=p1) rfl).imp fun _ h=>h;obtain⟨a3,k3,P2⟩:=(ATK.out.part hbb (k:=2) (t:=p2) rfl).imp fun _ h=>h;obtain⟨a5,k5,P3⟩:=(ATK.out.part hbb (k:=3) (t:=p3) rfl).imp fun _ h=>h;have HI:=r9 (isTr_if (a:=p0) (b:=p1) (c:=p2) (d:=p3) (by rw[HD.out,HL.out]));have S1:=r9 (SUB.out p1 (by simp));have S2:=r9 (SUB.out p2 (by simp));have S3:=r9 (SUB.out p3 (by simp));have PP:=r9 (r_ P1 (r_ P2 P3));have CI1:=r9 (S1.out.2.2 F w1 _ _ (P1.below sn.out).rp);obtain⟨y0,y1⟩:=r_ (P1.below sn.out).c0 (P1.below sn.out).c1;have tY:=(P1.below sn.out).blk;have Bu:(([p0,p1,p2,p3]:List Tr).length:Nat)=4:=rfl;rw[Bu]at x1 ⊢;simp only[TE,Tq,S8]at y0 y1;clear P1 P2 P3 h4 Bu AG hp0 nl;go_wp2_with fail
     (with_reducible refine CI1.out.mono ?_);rintro en w2 ⟨rfl,sY⟩
     have sw:=r9 (zzT sn.out sY);have Oa:=r9 (oH.out.below sY);clear sY x0 x1 y0 y1 tY;cases hn:qw p1 with
     | false =>
       have HN:=r9 hn;clear hn;go_wp2_with fail
       go_ret;exact⟨by rw[HI.out,HN.out];rfl,sw.out⟩
     | true =>
       have HN:=r9 hn;clear hn;have P2:=PP.out.2.1.below sw.out;have CI2:=r9 (S2.out.2.2 F w2 _ _ P2.rp);obtain⟨x0,x1⟩:=Oa.out;obtain⟨y2,y3⟩:=r_ P2.c0 P2.c1;have tY:=P2.blk;have Bu:(([p0,p1,p2,p3]:List Tr).length:Nat)=4:=rfl;rw[Bu]at x1;simp only[TE,Tq,S8]at y2 y3;clear P2 Bu;go_wp2_with fail
       (with_reducible refine CI2.out.mono ?_);rintro en w4 ⟨rfl,sO⟩
       have BW:=r9 (zzT sw.out sO);have HX4:=r9 (Oa.out.below sO);clear sO x0 x1 y2 y3 tY;cases lY:qw p2 with
       | false =>
         have Gn:=r9 lY;clear lY;go_wp2_with fail
         go_ret;exact⟨by rw[HI.out,HN.out,Gn.out];rfl,BW.out⟩
       | true =>
         have Gn:=r9 lY;clear lY;have P3:=PP.out.2.2.below BW.out;have CI3:=r9 (S3.out.2.2 F w4 _ _ P3.rp);obtain⟨x0,x1⟩:=HX4.out;obtain⟨y2,y3⟩:=r_ P3.c0 P3.c1;have tY:=P3.blk;have Bu:(([p0,p1,p2,p3]:List Tr).length:Nat)=4:=rfl;rw[Bu]at x1;simp only[TE,Tq,S8]at y2 y3;clear P3 Bu;go_wp2_with fail
         (with_reducible refine CI3.out.mono ?_);rintro en w5 ⟨rfl,sx⟩
         go_wp2_with fail
         go_ret;exact⟨by rw[HI.out,HN.out,Gn.out];rfl,zzT BW.out sx⟩
    ·have hne:((kids.length:Int) == 4)=RC:=by rw[beq_eq_false_iff_ne];omega
     have HI:=r9 (isTr_no4 (.inr (by rw[HD.out,HL.out])) h4);clear h4;go_wp2_with fail
     go_ret;exact⟨by rw[HI.out];rfl,sn.out⟩
   have q2:(hd == [105,102])=RC:=by rw[beq_eq_false_iff_ne];exact GA
   have HI:=r9 (isTr_noW (by rw[HD.out];exact lr) (by rw[HD.out];exact EN) (by rw[HD.out];exact GA));clear lr EN GA;go_wp2_with fail
   go_ret;exact⟨by rw[HI.out];rfl,sn.out⟩
theorem l5Is_any (n:Nat):∀b,(zy b).length<=n->Lim n->jF b->eH b:=by
 induction n with
 |zero=>intro b h hn ho;exact l5Is_step b ho (hn.mono h) (fun b' h' _=>by omega)
 |succ n ih=>exact fun b h hn ho=>l5Is_step b ho (hn.mono h) (fun b' h' E9=>ih b' (by omega) (hn.mono (by omega)) E9)
def dN (e:Nat)(m:Bs):Option (List Tr×Bs):=xY (vE e) (m.length+1) m
theorem rdAll_eq (e:Nat)(m:Bs):dN e m=(vE e m).bind fun x=>match x.2 with
 |[]=>U
 |c::r=>if c=41 then OK ([x.1],r) else if c=32 then (dN e r).map fun y=>(x.1::y.1,y.2) else U:=by
 unfold dN;rw[xY];cases h:vE e m with
 |none=>rfl
 | some x =>
   obtain⟨t,r1⟩:=x;simp only[RF];cases r1 with
   |nil=>rfl
   | cons c r =>
     have hl:=yV e _ _ _ h;simp only[RU]at hl;simp only;rw[nC (yV e) m.length (r.length+1) r (by omega) (by omega)]
theorem rdTr_all (e:Nat)(r:Bs):vE (e+1) (40::r)=(dN e r).map fun y=>(.ls y.1,y.2):=bH e r
theorem rdTr_suffix {e:Nat}{m r:Bs}{t:Tr}(h:vE e m=OK (t,r)):r <:+ m:=by
 obtain⟨e1,_⟩:=xi e m t r h;exact⟨_,e1.symm⟩
def uU (L:Nat)(w:World)(o:Option (Tr×Bs))(en:Ending)(w':World):Prop:=
 ∃ (s:Bs) (a:Option Addr) (n c:Nat) (k:Int),en=.returned (.tuple #[.agg #[s,.slice a n c],.int .i64 k])/\Below w w w'/\(o=none->k = -1) /\
   (∀t rest,o=OK (t,rest)->k=(L:Int)-rest.length/\zY (w<=·) w' (vV t) [s,.slice a n c])
theorem uU.no {L:Nat}{w w':World}{o:Option (Tr×Bs)}{s:Bs}{a:Option Addr}{n c:Nat}(ho:o=.none)(hb:No w w'):uU L w o (.returned (.tuple #[.agg #[s,.slice a n c],.int RD (-1)])) w':=
 ⟨s,a,n,c,_,rfl,hb,fun _=>rfl,fun _ _ h=>by rw[ho]at h;simp at h⟩
theorem uU.yes {L:Nat}{w w':World}{o:Option (Tr×Bs)}{t:Tr}{rest s:Bs}{a:Option Addr}{n c:Nat}{k:Int}(ho:o=.some (t,rest))(hk:k=(L:Int)-rest.length)(hb:No w w')(hv:zY (w<=·) w' (vV t) [s,.slice a n c]):uU L w o (.returned (.tuple #[.agg #[s,.slice a n c],.int RD k])) w':=
 ⟨s,a,n,c,k,rfl,hb,fun h=>by rw[ho]at h;simp at h,fun _ _ h=>by rw[ho]at h;simp at h;obtain⟨rfl,rfl⟩:=h;exact⟨hk,hv⟩⟩
def TrSaid (l:Bs)(e:Nat):Prop:=∀ (d i:Nat) (w:World),e+d=101->i<=l.length ->
    Calls RG 67 #[l,.int RD i,.int RD d] w (uU l.length w (vE e (l.drop i)))
def vz (ob:Nat)(s:Bs)(slv:Value)(w:World):Prop:=w.heap[ob]?=OK (.cells #[s,slv] 44 (0,0))
theorem vz.cells {ob:Nat}{s:Bs}{sl:Value}{w:World}(h:vz ob s sl w):w ob=str s/\w (ob,1)=OK sl/\ob<(w:Nat)/\(∀o,w.frozen? ⟨ob,o,U⟩=RC):=by
 have hl:=zZ h;unfold vz at h;exact⟨by simp[RE,h],by simp[RE,h],hl,fun o=>by simp[World.frozen?,h]⟩
theorem vz.put1 {ob:Nat}{s:Bs}{sl u:Value}{w:World}(h:vz ob s sl w):vz ob s u (w.setCell (ob,1) u):=by
 unfold vz;rw[zT h];rfl
theorem vz.below {ob:Nat}{s:Bs}{sl:Value}{w w':World}{B:Nat}(h:vz ob s sl w)(hb:Below B w w')(hm:ob<B):vz ob s sl w':=by
 unfold vz;rw[hb.block ob hm];exact h
theorem vz.store {ob:Nat}{s:Bs}{sl:Value}{w:World}(h:vz ob s sl w)(u0 u1:Value) :
 ∃ W,W=((w.setCell ob u0).setCell (ob,1) u1)/\W ob=u0/\W (ob,1)=u1 /\
   (∀B w0,Below B w0 w->B<=ob->Below B w0 W)/\(∀i x,i≠ob->w.heap[i]?=OK x->W.heap[i]?=OK x):=by
 have hc:((w.setCell ob u0).setCell (ob,1) u1).heap[ob]?=OK (.cells #[u0,u1] 44 (0,0)):=by
  unfold vz at h;rw[zT (zT h)];rfl
 refine⟨_,rfl,by simp only[RE,hc];rfl,by simp only[RE,hc];rfl,fun B w0 hb hB=>?_,fun i x hi hx=>?_⟩
 ·exact((hb.setCell (p:=ob) hB _).setCell (p:=(ob,1)) hB _)
 ·rw[sJ _ _ _ _ (by simpa using hi),sJ _ _ _ _ (by simpa using hi)];exact hx
theorem zz.lit2 {w:World}{e:TypeId}(cs:Array Value)(hn:cs.size=2)(hc:∀u∈cs.toList,u.oneCell'=true)(g:Nat)(hg:g=w):zz 2 (.slice g 1 1) 1 cs.toList (w.alloc (.cells cs e)):=by
 subst hg;refine⟨by simp[hn],hc,.inl ⟨_,_,rfl,fun j u hu=>?_⟩⟩;unfold Addr.add;split
 ·subst j;simp;simpa using hu
 ·simp;simpa using hu
theorem word_in {m:Bs}{j:Nat}(h:j<(zR m).length):∃hm:j<m.length,sep m[j]=RC:=by
 have tw:=yr m;have hm:j<m.length:=by omega
 refine⟨hm,?_⟩;have h1:m[j]=(zR m)[j]:=by
  have e:=y_ m
  have:m[j]? = (zR m)[j]?:=by conv=>lhs;rw [<- e]
                              rw[List.getElem?_append_left h]
  rw[SS hm,SS h]at this;exact RZ this
 rw[h1];have:=tw_all (fun c=>!sep c) m _ (List.getElem_mem h);simpa using this
theorem word_out {m:Bs}(h:(zR m).length<m.length):sep m[(zR m).length]=true:=by
 have h2:(!sep m[(zR m).length])=RC:=tw_end (fun c=>!sep c) m h;simpa using h2
structure rz (w:World)(ob Z:Nat)(wr:World)(ps:List Tr)(vs:List Value)(sl:Value):Prop where
 below:No w wr
 res:vz w [] () wr
 out:vz ob [] sl wr
 own:Own wr 44 2 sl ps.length vs
 blk:∀g,sl.ownBlock=OK g->Z<=g
 rep:zY (fun b=>Z<=b/\sl.ownBlock≠OK b) wr (vW ps) vs
 z:Z<=wr
theorem rz.next {w:World}{ob Z:Nat}{wr:World}{ps:List Tr}{vs:List Value}{sl:Value}(h:rz w ob Z wr ps vs sl)(Hw:ob<Z)(hwo:w<ob){W w7:World}{t:Tr}{cs:List Value}{a':Option Addr}{c':Nat}(sM:No wr W)(aP:zY (wr<=·) W (vV t) cs)(si:Own w7 44 2 (.slice a' (ps.length+1) c') (ps.length+1) (vs++cs))(sH:But (fun i=>sl.ownBlock=OK i) W w7)(sS:∀g,(RI a' (ps.length+1) c').ownBlock=OK g->sl.ownBlock=OK g\/g=(W:Nat)) :
 rz w ob Z (w7.setCell (ob,1) (.slice a' (ps.length+1) c')) (ps++[t]) (vs++cs) (.slice a' (ps.length+1) c'):=by
 have z6:=sM.size;have z7:=sH.size;have zr:=h.z;have keep:∀i x,wr.heap[i]?=OK x->sl.ownBlock≠OK i->i≠ob->(w7.setCell (ob,1) (.slice a' (ps.length+1) c')).heap[i]?=OK x:=by
  intro i x hx h1 h2;have:=zZ hx;rw[sJ _ _ _ _ (by simpa using h2),sH.block i (by omega) h1,sM.block i this];exact hx
 have iW:∀i x,W.heap[i]?=OK x->sl.ownBlock≠OK i->i≠ob->(w7.setCell (ob,1) (.slice a' (ps.length+1) c')).heap[i]?=OK x:=by
  intro i x hx h1 h2;have:=zZ hx;rw[sJ _ _ _ _ (by simpa using h2),sH.block i (by omega) h1];exact hx
 have ltK:∀g,sl.ownBlock=OK g->g<(wr:Nat):=fun g hg=>h.own.lt hg;have nK:∀i,i<Z->sl.ownBlock≠OK i:=fun i hi e=>by have:=h.blk i e;omega
 have newg:∀g,(RI a' (ps.length+1) c').ownBlock=OK g->Z<=g:=fun g hg=>by
  rcases sS g hg with e|e
  ·exact h.blk g e
  ·omega
 refine⟨?_,?_,?_,?_,newg,?_,by simp[World.setCell];omega⟩
 ·refine Below.setCell ?_ (show w<=ob by omega) _;exact(zzT h.below sM).trans (sH.toBelow (by have:=h.below.size;omega) fun i hi e=>nK i (by omega) e)
 ·exact keep _ _ h.res (nK _ (by omega)) (by omega)
 ·have h1:vz ob [] sl w7:=by
   unfold vz;rw[sH.block ob (by omega) (nK _ Hw),sM.block ob (by omega)];exact h.out
  exact h1.put1
 ·rw[show (ps++[t]).length=ps.length+1 from by simp];exact si.keep fun g o hg ho=>by rw[sJ _ _ _ _ (by have:=newg g hg;simp;omega)];exact ho
 ·rw[wA];refine zY.append ?_ ?_
  ·refine(Rep.keep fun x o hx ho=>⟨⟨hx.1,fun e=>?_⟩,?_⟩).2 _ _ h.rep
   ·exact keep x o ho hx.2 (by have:=hx.1;omega)
   ·rcases sS x e with e'|e'
    ·exact hx.2 e'
    ·have:=zZ ho;omega
  ·have e1:vW [t]=vV t:=by simp[vW]
   rw[e1];refine(Rep.keep fun x o hx ho=>⟨⟨by have:=hx;omega,fun e=>?_⟩,?_⟩).2 _ _ aP
   ·exact iW x o ho (fun e=>by have:=ltK x e;have:=hx;omega) (by have:=hx;omega)
   ·rcases sS x e with e'|e'
    ·have:=ltK x e';have:=hx;omega
    ·have:=zZ ho;omega
theorem dy (l:Bs)(hl:Lim l.length)(e d:Nat)(F2:e+d=101)(i:Nat)(w:World)(hi:i<=l.length)(oW:∀h:i<l.length,e=0\/¬l[i]=40) :
 Calls RG 67 #[l,.int RD i,.int RD d] w (uU l.length w (vE e (l.drop i))):=by
 have Ar:=hl.le;rcases e with _|e
 ·have F3:(100:Int)<(d:Int):=by omega
  clear oW;go_enter U9,UX;go_wp2_with fail
  refine bodyPost_ret (v:=.tuple #[.agg #[str [],()],.int RD (-1)]) (by simp[results,Tf,go_sem]) rfl ?_;exact uU.no (by rfl) (((sQ _ _).alloc (sZ _) _).alloc (by simp) _)
 have DH:¬(100:Int)<(d:Int):=by omega
 by_cases sC:i<l.length;rotate_left
 ·clear oW;go_enter U9,UX;go_wp2_with fail
  refine bodyPost_ret (v:=.tuple #[.agg #[str [],()],.int RD (-1)]) (by simp[results,Tf,go_sem]) rfl ?_;exact uU.no (by rw[TK (by omega)];rfl) (((sQ _ _).alloc (sZ _) _).alloc (by simp) _)
 have iY:¬l[i]=40:=(oW sC).resolve_left (by omega);clear oW;have Qm:=SE sC;have hm:vE (e+1) (l.drop i)=if zR (l.drop i)=[] then U else OK (.am (zR (l.drop i)),zM (l.drop i)):=by rw[Qm];exact bD e _ _ iY
 have Bb:=yr (l.drop i);rw[TM]at Bb;have hx:(l.take (i+(zR (l.drop i)).length)).drop i=zR (l.drop i):=by
  rw[List.drop_take,Nat.add_sub_cancel_left];exact word_take _
 have Jg:∀j,j<(zR (l.drop i)).length->∃h:i+j<l.length,sep l[i+j]=RC:=fun j hj=>by
  obtain⟨h1,h2⟩:=word_in hj;rw[TM]at h1;rw[U3]at h2;exact⟨by omega,h2⟩
 have Ab:l.length<=i+(zR (l.drop i)).length\/∃h:i+(zR (l.drop i)).length<l.length,sep l[i+(zR (l.drop i)).length]=true:=by
  by_cases h:i+(zR (l.drop i)).length<l.length
  ·right;refine⟨h,?_⟩;have:=word_out (m:=l.drop i) (by rw[TM];omega);rw[U3]at this;exact this
  ·left;omega
 have E6:(zM (l.drop i)).length+(i+(zR (l.drop i)).length)=l.length:=by omega
 obtain⟨wd,Ju⟩:=zzM (zR (l.drop i));rw[<- Ju]at hm hx Jg Ab E6 Bb;have HM:=r9 (r_ hm (r_ Jg (r_ Ab (r_ hx E6))));have f4:=vR sC (n:=40) (by decide) iY;have MF:i+wd.length<=l.length:=by omega
 clear iY Qm hm hx Jg Ab Ju Bb E6;go_enter U9,UX;go_wp2_with fail
 clear f4
 go_loop [1] (fun a=>∃j:Nat,j<=wd.length/\a=.int RD ((i+j:Nat):Int)) (fun a=>i+wd.length-(intOf a).toNat)
 case atStart=>exact⟨0,R6 _,by simp⟩
 case round=>
  obtain⟨j,hj,rfl⟩:=hrel;by_cases Je:j<wd.length
  ·obtain⟨JM,hs⟩:=HM.out.2.1 j Je;have Bf:¬l[i+j]=32/\¬l[i+j]=40/\¬l[i+j]=41:=by
    simp only[sep,Bool.or_eq_false_iff,beq_eq_false_iff_ne]at hs;exact⟨hs.1.1,hs.1.2,hs.2⟩
   have f1:=vR JM (n:=32) (by decide) Bf.1;have f2:=vR JM (n:=40) (by decide) Bf.2.1;have f3:=vR JM (n:=41) (by decide) Bf.2.2;clear hs Bf;go_wp2_with fail
   go_round
   case rel=>exact⟨j+1,by omega,by go_num⟩
   case measure=>simp[intOf];omega
  ·obtain rfl:j=wd.length:=by omega
   have im:l.length<=i+wd.length\/(∃h:i+wd.length<l.length,((((⟨l.toArray⟩:ByteArray)[i+wd.length]'(ke h)).toNat:Int) != 32)=RC) \/
    (∃h:i+wd.length<l.length,((((⟨l.toArray⟩:ByteArray)[i+wd.length]'(ke h)).toNat:Int) != 32)=true/\((((⟨l.toArray⟩:ByteArray)[i+wd.length]'(ke h)).toNat:Int) != 40)=RC) \/
    (∃h:i+wd.length<l.length,((((⟨l.toArray⟩:ByteArray)[i+wd.length]'(ke h)).toNat:Int) != 32)=true/\((((⟨l.toArray⟩:ByteArray)[i+wd.length]'(ke h)).toNat:Int) != 40)=true/\((((⟨l.toArray⟩:ByteArray)[i+wd.length]'(ke h)).toNat:Int) != 41)=RC):=by
    rcases HM.out.2.2.1 with h|⟨h,hs⟩
    ·exact .inl h
    ·right;simp only[sep,S4,beq_iff_eq]at hs;rcases hs with (hs|hs)|hs
     ·exact .inl ⟨h,vi h (n:=32) (by decide) hs⟩
     ·exact .inr (.inl ⟨h,vR h (c:=32) (n:=32) (by decide) (by rw[hs];decide),vi h (n:=40) (by decide) hs⟩)
     ·exact .inr (.inr ⟨h,vR h (c:=32) (n:=32) (by decide) (by rw[hs];decide),vR h (c:=40) (n:=40) (by decide) (by rw[hs];decide),vi h (n:=41) (by decide) hs⟩)
   have hx:((⟨l.toArray⟩:ByteArray).extract i (i+wd.length))=⟨wd.toArray⟩:=by rw[bI,HM.out.2.2.2.1]
   by_cases h0:wd=[]
   ·subst h0;have HN:=r9 (show vE (e+1) (l.drop i)=U by rw[HM.out.1,if_pos rfl]);simp only[Sq,Xi]at im hx MF ⊢;clear Je hj;rcases im with h|⟨h,f1⟩|⟨h,f1,f2⟩|⟨h,f1,f2,f3⟩
    ·omega
    all_goals
     go_wp2_with fail
     refine bodyPost_ret (v:=.tuple #[.agg #[.string ByteArray.empty,()],.int RD (-1)]) (by simp[results,Tf,go_sem]) rfl ?_;exact uU.no (s:=[]) HN.out (((sQ _ _).alloc (sZ _) _).alloc (by simp) _)
   ·have hne:(wd == [])=RC:=by rw[beq_eq_false_iff_ne];exact h0
    have Cx:wd.isEmpty=RC:=by rw[Vn];exact h0
    have HN:=r9 (show vE (e+1) (l.drop i)=OK (.am wd,zM (l.drop i)) by rw[HM.out.1,if_neg h0])
    have fin:∀W:World,No w W->uU l.length w (vE (e+1) (l.drop i)) (.returned (.tuple #[.agg #[wd,()],.int RD ((i:Int)+(wd.length:Int))])) W:=fun W hb=>
     uU.yes HN.out (by have:=HM.out.2.2.2.2;omega) hb (by
      rw[vV]
      exact zQ.2 ⟨_,_,rfl,zC.2 rfl,zQ.2 ⟨_,_,rfl,zv.2 ⟨rfl,none,0,rfl,sZ _,fun _=>rfl,.inl rfl⟩,zE.2 rfl⟩⟩)
    have FIN:=r9 fin;clear fin h0 Je hj;rcases im with h|⟨h,f1⟩|⟨h,f1,f2⟩|⟨h,f1,f2,f3⟩
    all_goals
     go_wp2_with fail
     refine bodyPost_ret (v:=.tuple #[.agg #[wd,()],.int RD ((i:Int)+(wd.length:Int))]) (by simp[results,Tf,go_sem]) rfl ?_;exact FIN.out _ (((sQ _ _).alloc (sZ _) _).alloc (by simp) _)
theorem vz.alloc {ob:Nat}{s:Bs}{sl:Value}{w:World}(h:vz ob s sl w)(o:Obj):vz ob s sl (w.alloc o):=zJ h
theorem l5Read_open (l:Bs)(hl:Lim l.length)(e d:Nat)(F2:e+1+d=101)(ih:TrSaid l e)(i0:Nat)(w:World)(hi:i0<l.length)(iY:l[i0]=40) :
 Calls RG 67 #[l,.int RD i0,.int RD d] w (uU l.length w (vE (e+1) (l.drop i0))):=by
 have Ar:=hl.le;have IH:=r9 ih;clear ih;have DH:¬(100:Int)<(d:Int):=by omega
 have hm:vE (e+1) (l.drop i0)=(dN e (l.drop (i0+1))).map fun y=>(.ls y.1,y.2):=by
  rw[SE hi,iY,rdTr_all]
 have HM:=r9 hm;clear hm;have f4:=vi hi (n:=40) (by decide) iY;clear iY;go_enter U9,UX;go_wp2_with fail
 clear f4;have OU:rz w (w.heap.size+1) (w.heap.size+2) ((w.alloc (.cells #[str [],.slice U 0 0] 44)).alloc (.cells #[str [],.slice U 0 0] 44)) [] [] (.slice U 0 0):=by
  refine⟨((sQ _ _).alloc (sZ _) _).alloc (by simp) _,?_,?_,World.ownsRow_nil _ _ _ _,fun g h=>by simp[RM]at h,zE.2 rfl,by simp⟩
  ·exact zJ (zW _ _)
  ·have:=zW (w.alloc (.cells #[str [],.slice U 0 0] 44)) (.cells #[str [],.slice U 0 0] 44);rw[zK]at this;exact this
 go_loopw [1] (fun a wr=>∃(i:Nat) (ps:List Tr) (vs:List Value) (sa:Option Addr) (sc:Nat),a=.int RD i/\i<l.length/\ps.length<=i/\(dN e (l.drop (i0+1))=(dN e (l.drop (i+1))).map fun y=>(ps++y.1,y.2))/\rz w (w.heap.size+1) (w.heap.size+2) wr ps vs (.slice sa ps.length sc)) (fun a _=>l.length-(intOf a).toNat)
 case atStart=>exact⟨i0,[],[],U,0,rfl,hi,R6 _,by simp,OU⟩
 case round=>
  clear OU;rename_i wr;obtain⟨i,ps,vs,sa,sc,rfl,MF,Aa,NA,lC⟩:=hrel;have Ro:=r9 NA;clear NA;have BJ:=r9 lC;clear lC;have C:=r9 (IH.out (d+1) (i+1) wr (by omega) MF);go_wp2_with fail
  rw[show (i:Int)+1=((i+1:Nat):Int) from by omega,show (d:Int)+1=((d+1:Nat):Int) from by omega];(with_reducible refine C.out.mono ?_);rintro Fu w6 ⟨s6,a6,n6,c6,k6,rfl,sM,oL,Am⟩;have z6:=sM.size;have zr:=BJ.out.z;have Hl:=BJ.out.res.below sM (by omega);have Hu:=BJ.out.out.below sM (by omega);have DI:=zzT BJ.out.below sM;obtain⟨r0,r1,rl6,rf⟩:=Hl.cells;obtain⟨q0,q1,LT,qf⟩:=Hu.cells;have iX:=rf 0;have iu:=rf 1;clear rf;have qf0:=qf 0;have qf1:=qf 1;clear qf;have Q:=r9 (r_ sM (r_ Hl (r_ Hu DI)));clear sM Hl Hu DI C;have As:=rdAll_eq e (l.drop (i+1));cases hq:vE e (l.drop (i+1)) with
  | none =>
    obtain rfl:=oL hq;have HN:=r9 (show vE (e+1) (l.drop i0)=U by rw[HM.out,Ro.out,As,hq];rfl);clear As hq oL Am;go_wp2_with fail
    obtain⟨W,hW,s0,s1,sF,_⟩:=Q.out.2.1.store (.string ⟨#[]⟩) (.slice sa ps.length sc);rw[<- hW];refine bodyPost_ret (v:=.tuple #[.agg #[str [],.slice sa ps.length sc],.int RD (-1)]) (by simp[results,Tf,go_sem,zV s0,zV s1]) rfl ?_;exact uU.no HN.out ((sF _ _ Q.out.2.2.2 (sZ _)).alloc (sF _ _ Q.out.2.2.2 (sZ _)).size _)
  | some x =>
    obtain⟨t,rest⟩:=x;obtain⟨rfl,Fe⟩:=Am _ _ hq;have Ap:=xK (rdTr_suffix hq);have OZ:=yV e _ _ _ hq;rw[TM]at OZ;have I8:rest.length<=l.length:=by omega
    obtain⟨lV,Ji⟩:=zzM (l.length-rest.length);rw[<- Ji]at Ap;have EB:(l.length:Int)-(rest.length:Int)=(lV:Int):=by omega
    rw[EB];have JO:i+1<lV/\lV<=l.length:=by omega
    subst Ap;rw[hq,RF]at As;simp only at As;have Jq:=r9 As;have Rw:=r9 Fe;clear As Fe hq oL Am EB Ji I8 OZ;by_cases EC:lV=l.length
    ·have HN:=r9 (show vE (e+1) (l.drop i0)=U by rw[HM.out,Ro.out,Jq.out,TK (by omega)];rfl);have g1:(l.length:Int)<=(lV:Int):=by omega
     have g0:¬(lV:Int)<0:=by omega
     go_wp2_with fail
     obtain⟨W,hW,s0,s1,sF,_⟩:=Q.out.2.1.store (.string ⟨#[]⟩) (.slice sa ps.length sc);rw[<- hW];refine bodyPost_ret (v:=.tuple #[.agg #[str [],.slice sa ps.length sc],.int RD (-1)]) (by simp[results,Tf,go_sem,zV s0,zV s1]) rfl ?_;exact uU.no HN.out ((sF _ _ Q.out.2.2.2 (sZ _)).alloc (sF _ _ Q.out.2.2.2 (sZ _)).size _)
    have Eu:lV<l.length:=by omega
    have g1:¬(l.length:Int)<=(lV:Int):=by omega
    have g0:¬(lV:Int)<0:=by omega
    have hlps:ps.length<=16777216:=by omega
    clear EC;go_wp2_with (at_builtin;refine zF rfl _ _ 42 rfl 44 (.agg #[str [],()]) 2 40 Tryz.underlying42 Tryz.infoTr rfl (by decide) (.slice sa ps.length sc) ps.length vs rfl ?c1 _ 1 [s6,.slice a6 n6 c6] rfl ?c2 ?c3 ?c4 ?_)
    case c1=>
     refine(BJ.out.own.keep fun g o hg ho=>?_).alloc _ |>.alloc _;rw[Q.out.1.block g (zZ ho)];exact ho
    case c2=>exact zz.lit2 #[s6,.slice a6 n6 c6] rfl (by simp[str,R4]) _ (by simp)
    case c3=>unfold maxLen;omega
    case c4=>omega
    intro a' c' w7 sj sH sS;have hW:No wr ((w6.alloc (.cells #[s6,.slice a6 n6 c6] 44)).alloc (.cells #[s6,.slice a6 n6 c6] 44)):=(Q.out.1.alloc Q.out.1.size _).alloc (by have:=Q.out.1.size;simp;omega) _
    have hC:zY (wr<=·) ((w6.alloc (.cells #[s6,.slice a6 n6 c6] 44)).alloc (.cells #[s6,.slice a6 n6 c6] 44)) (vV t) [s6,.slice a6 n6 c6]:=
     (Rep.keep fun i o hi ho=>⟨hi,zJ (zJ ho)⟩).2 _ _ Rw.out
    have hA:=BJ.out.next (by omega) (show (w:Nat)<w+1 by omega) hW hC sj sH (fun g hg=>by simpa only[zK] using sS g hg);have z7:=sH.size;rw[zK,zK]at z7;have ED:w7 ((w:Nat)+1,1)=OK (.slice sa ps.length sc):=by
     rw[sH.cell (by simp only[zK];omega) (fun e=>by have h:(w:Nat)+2<=(w:Nat)+1:=BJ.out.blk _ e;omega)];exact zV (zV q1)
    have Ht:vz ((w:Nat)+1) [] (.slice sa ps.length sc) w7:=by
     unfold vz;rw[sH.block _ (by simp only[zK];omega) (fun e=>by have h:(w:Nat)+2<=(w:Nat)+1:=BJ.out.blk _ e;omega)];exact zJ (zJ Q.out.2.2.1)
    obtain⟨p0,p1,pl7,pf⟩:=Ht.cells;have pf1:=pf 1;clear pf q0 q1 qf0 qf1 r0 r1 iX iu LT rl6;have HA:=r9 (r_ hA Ht);clear hA hW hC sj sH sS Ht ED;have Qm:=SE Eu;rw[Qm]at Jq;obtain⟨r0,r1,rl8,rf⟩:=HA.out.1.res.cells;have iX:=rf 0;have iu:=rf 1;clear rf Qm;by_cases Dl:l[lV]=41
    ·have f1:=x9 Eu (n:=41) (by decide) Dl
     have HY:=r9 (show vE (e+1) (l.drop i0)=some (.ls (ps++[t]),l.drop (lV+1)) by
      rw [HM.out,Ro.out,Jq.out];simp only [if_pos Dl,Option.map_some])
     clear Dl;go_wp2_with fail
     obtain⟨W,hW,s0,s1,sF,tZ⟩:=HA.out.1.res.store (.string ⟨#[]⟩) (.slice a' (ps.length+1) c');rw[<- hW];refine bodyPost_ret (v:=.tuple #[.agg #[str [],.slice a' (ps.length+1) c'],.int RD ((lV:Int)+1)]) (by simp[results,Tf,go_sem,s0,s1]) rfl ?_;have lC:=HA.out.1;refine uU.yes (s:=[]) HY.out (by rw[TM];omega) (sF _ _ lC.below (sZ _)) ?_;rw[vV];refine zQ.2 ⟨_,_,rfl,zC.2 rfl,zQ.2 ⟨_,_,rfl,?_,zE.2 rfl⟩⟩;rw[show ps.length+1=(ps++[t]).length from by simp]at lC tZ ⊢;refine(lC.own.keep fun g o hg ho=>tZ g o (by have:=lC.blk g hg;omega) ho).rep (fun g hg=>by have:=lC.blk g hg;omega) ?_;exact(Rep.keep fun x o hx ho=>⟨by have:=hx.1;omega,tZ x o (by have:=hx.1;omega) ho⟩).2 _ _ lC.rep
    have f1:=uG Eu (n:=41) (by decide) Dl;by_cases Eb:l[lV]=32
    ·have f2:=vi Eu (n:=32) (by decide) Eb
     have HY:=r9 (show dN e (l.drop (i0+1))=(dN e (l.drop (lV+1))).map fun y=>((ps++[t])++y.1,y.2) by
      rw [Ro.out,Jq.out];simp only [if_neg Dl,if_pos Eb,Option.map_map];congr 1;funext y;simp)
     clear Dl Eb;go_wp2_with fail
     go_roundw
     case rel=>exact⟨lV,ps++[t],vs++[str s6,.slice a6 n6 c6],a',c',rfl,Eu,by simp;omega,HY.out,by simpa using HA.out.1⟩
     case measure=>simp[intOf];omega
    ·have f2:=vR Eu (n:=32) (by decide) Eb;have HN:=r9 (show vE (e+1) (l.drop i0)=U by rw[HM.out,Ro.out,Jq.out];simp only[if_neg Dl,if_neg Eb];rfl);clear Dl Eb;go_wp2_with fail
     obtain⟨W,hW,s0,s1,sF,tZ⟩:=HA.out.1.res.store (.string ⟨#[]⟩) (.slice a' (ps.length+1) c');rw[<- hW];refine bodyPost_ret (v:=.tuple #[.agg #[str [],.slice a' (ps.length+1) c'],.int RD (-1)]) (by simp[results,Tf,go_sem,s0,s1]) rfl ?_;exact uU.no HN.out (sF _ _ HA.out.1.below (sZ _))
theorem n7 (l:Bs)(hl:Lim l.length):∀e,e<=101->TrSaid l e
 |0,h=>fun d i w F2 hi=>dy l hl 0 d F2 i w hi (fun _=>.inl rfl)
 | e+1,h=>fun d i w F2 hi=>by
   by_cases iY:∃sC:i<l.length,l[i]=40
   ·obtain⟨sC,iY⟩:=iY;exact l5Read_open l hl e d F2 (n7 l hl e (by omega)) i w sC iY
   ·exact dy l hl (e+1) d F2 i w hi (fun sC=>.inr fun h=>iY ⟨sC,h⟩)
def STermPost (w:World)(o:Option Tr)(en:Ending)(w':World):Prop:=
 ∃(s:Bs) (a:Option Addr) (n c:Nat),en=.returned (.tuple #[.agg #[s,.slice a n c],.bool o.isSome])/\No w w'/\(∀t,o=OK t->jF t/\zY (w<=·) w' (vV t) [s,.slice a n c])
abbrev wq (tb:Nat)(u0 u1:Value)(w':World):Prop:=w' tb=u0/\w' (tb,1)=u1
theorem wq.below {tb:Nat}{u0 u1:Value}{w w':World}(h:wq tb u0 u1 w)(hb:No w w'):wq tb u0 u1 w':=
 ⟨(hb.cell (sK w _ h.1)).trans h.1,(hb.cell (sK w _ h.2)).trans h.2⟩
theorem wq.set {tb:Nat}{u0 u1:Value}{w:World}(h:wq tb u0 u1 w)(b o:Nat)(u:Value)(hb:tb≠b):wq tb u0 u1 (w.setCell (b,o) u):=
 ⟨(TP (sJ _ _ _ _ (by simpa using hb))).trans h.1,(TP (sJ _ _ _ _ (by simpa using hb))).trans h.2⟩
theorem isTr_ok {l:Bs}{t:Tr}{r:Bs}{e:Nat}(h:vE e l=OK (t,r)):jF t:=(xi e l t r h).2.1
theorem l5Term_any (l:Bs)(hl:Lim l.length)(w:World):Calls RG 33 #[l] w (STermPost w (qg l)):=by
 have Ar:=hl.le;by_cases IS:1000<l.length
 ·have h1:(1000:Int)<(l.length:Int):=by omega
  have HM:=r9 (show qg l=U by unfold qg;rw[if_pos IS]);go_enter Xk,WO;go_wp2_with fail
  refine bodyPost_ret (v:=.tuple #[.agg #[str [],()],.bool RC]) (by simp[results,UC,go_sem]) rfl ?_;exact⟨[],U,0,0,by rw[HM.out];rfl,(sQ _ _).alloc (sZ _) _,fun t h=>by rw[HM.out]at h;simp at h⟩
 have h1:¬(1000:Int)<(l.length:Int):=by omega
 have HM:=r9 (show qg l=(match vE 101 l with | some (t,[])=>if qw t && decide (qM t<=60) then OK t else U | _=>U) by unfold qg;rw[if_neg IS];rfl);clear IS;have C:Hid (∀wz,Calls RG 67 #[l,.int RD 0,.int RD 0] wz (uU l.length wz (vE 101 l))):=fun wz=>by
  have h:=n7 l hl 101 (by omega) 0 0 wz (by omega) (R6 _);rw[List.drop_zero]at h;exact h
 go_enter Xk,WO;go_wp2_with fail
 (with_reducible refine(C.out _).mono ?_);rintro en w1 ⟨s6,a6,n6,c6,k6,rfl,sX,tK,tH⟩
 have z1:=sX.size;rw[zK]at z1;have Hm:vz w [] () w1:=vz.below (zW _ _) sX (by simp);have JT:No w w1:=((sQ w w).alloc (sZ _) _).trans (sX.mono (by simp));obtain⟨W2,se⟩:=zzM (w1.alloc (.cells #[s6,.slice a6 n6 c6] 44));have IP:wq w1 (str s6) (.slice a6 n6 c6) W2:=by subst se;exact⟨by simp,by simp⟩
 have hK2d:wq w1.heap.size (str s6) (.slice a6 n6 c6) W2.drew:=IP;have aY:vz w.heap.size [] (.slice U 0 0) W2:=by subst se;exact zJ Hm
 have B7:No w W2:=by subst se;exact JT.alloc JT.size _
 have z2:W2.heap.size=w1.heap.size+1:=by subst se;simp
 obtain⟨r0,r1,rl,rf⟩:=aY.cells;have iX:=rf 0;have iu:=rf 1;clear rf;have BO:(w1:Nat)≠w:=by omega
 have FIN:∀(Wz:World) (B:Bool) (o:Option Tr),qg l=o->o.isSome=B->No w Wz->(∀t,o=OK t->jF t/\zY (fun b=>w<b) Wz (vV t) [s6,.slice a6 n6 c6])->
  ∀W,(∀B w0,Below B w0 Wz->B<=(w:Nat)->Below B w0 W)->(∀i x,i≠(w:Nat)->Wz.heap[i]?=OK x->W.heap[i]?=OK x)->STermPost w (qg l) (.returned (.tuple #[.agg #[s6,.slice a6 n6 c6],.bool B])) W:=by
  intro Wz B o ho hB hb hr W sF tZ;rw[ho];exact⟨s6,a6,n6,c6,by rw[hB],sF _ _ hb (sZ _),fun t ht=>⟨(hr t ht).1,(Rep.keep fun b o sA ho=>⟨Nat.le_of_lt sA,tZ b o (by have:=sA;omega) ho⟩).2 _ _ (hr t ht).2⟩⟩
 have FN:=r9 FIN;clear FIN;by_cases aW:k6=(l.length:Int);rotate_left
 ·have q:(k6 == (l.length:Int))=RC:=by rw[beq_eq_false_iff_ne];exact aW
  have oW:qg l=U:=by
   rw[HM.out];cases hq:vE 101 l with
   |none=>rfl
   | some x =>
     obtain⟨t,rest⟩:=x;cases rest with
     |nil=>have:=(tH t [] hq).1;simp at this;exact absurd this aW
     |cons a b=>rfl
  have HN:=r9 oW;have HR:=r9 (r_ aY B7);clear oW aW tH tK sX JT Hm;have q0:W2 w1=str s6:=IP.1;have q1:W2 (w1,1)=OK (.slice a6 n6 c6):=IP.2;go_wp2_with fail
  rw[<- se];clear se
  go_region
  go_wp2_with fail
  obtain⟨W,hW,s0,s1,sF,tZ⟩:=(HR.out.1).store (str s6) (.slice a6 n6 c6);rw[<- hW];refine bodyPost_ret (v:=.tuple #[.agg #[s6,.slice a6 n6 c6],.bool RC]) (by simp[results,UC,go_sem,s0,s1]) rfl ?_;exact FN.out W2 RC U HN.out rfl HR.out.2 (fun t h=>by simp at h) W.drew (fun B w0 h hB=>(sF B w0 h hB).drew) tZ
 obtain⟨t,hq⟩:∃t,vE 101 l=OK (t,[]):=by
  cases hq:vE 101 l with
  |none=>have:=tK hq;omega
  | some x =>
    obtain⟨t,rest⟩:=x;have h1:=(tH t rest hq).1;have:rest.length=0:=by omega
    rw[St this];exact⟨t,rfl⟩
 have q:(k6 == (l.length:Int))=true:=by rw[beq_iff_eq];exact aW
 have tQ:=(tH t [] hq).2;have sI:=isTr_ok hq;have sC:Lim (zy t).length:=hl.mono (by have:=congrArg Td (xi 101 l t [] hq).1;simp at this;omega);have hm:qg l=if qw t && decide (qM t<=60) then OK t else U:=by rw[HM.out,hq]
 have HM:=r9 hm;have lq:zY (fun b=>w<b) W2 (vV t) [s6,.slice a6 n6 c6]:=by
  subst se;exact(Rep.keep fun b o h ho=>⟨by have:=h;rw[zK]at this;omega,zJ ho⟩).2 _ _ tQ
 have BK:=r9 lq;have CI:=r9 (l5Is_any _ t (sZ _) sC sI _ W2.drew _ _ lq.drew);have CS:=r9 (fun wz (hb:No W2 wz)=>l5Size_any _ t (sZ _) sC sI _ wz _ _ (zY.below (F':=fun b=>w<b) hb (fun _ h=>h) lq));have tV:qM t<=16777216:=by have:=eO t sI;have:=sC.le;omega
 have ER:=r9 (r_ sI B7);have rl0:=rl;clear hm lq tQ tH tK sX JT Hm hq r0 r1 iX iu rl aW sI;cases hi:qw t with
 | false =>
   have HI:=r9 hi;have HN:=r9 (show qg l=U by rw[HM.out,hi];rfl);clear hi;go_wp2_with fail
   rw[<- se];clear se;refine rS (fun w'=>wq w1 (str s6) (.slice a6 n6 c6) w') (fun _=>RC) IP fun sP=>?_;refine tC [0,1,2,3,4,5,6] sP ?_;iterate 7 (refine tl (fun w' sL=>sL) ?_)
   refine tz ?_;(refine on 7 ?_;intro o ho K' hK;simp at ho;subst ho;go_simp);go_at_call 68;(with_reducible refine CI.out.mono ?_);rintro en5 w5 ⟨rfl,sx⟩;rw[HI.out];have DW:Hid (No W2 w5):=(Below.drew (sQ W2 W2)).trans sx;have Ci:=IP.below DW.out;have HN5:=r9 (aY.below DW.out rl0);clear sx;(refine hK.out _ _ (fun _=>Ci) ?_;clear hK K';try simp only[pQ,pN,pZ,pS]);have D_:=Ci;refine tk [8,9,10] D_ ?_;(intro d hd;simp[tkD]at hd;subst hd;simp only[tks,pQ,pZ,pS]);iterate 3 (refine⟨?_,?_,?_⟩;rotate_left;· (intro oi ho;simp at ho;subst ho;first | (refine Or.inr ⟨by rfl,?_⟩;with_reducible rfl) | (refine Or.inl ⟨by rfl,fun w' sL=>?_⟩;go_simp;try with_reducible rfl)))
   refine oC 11 Ci ?_;refine tk [12,13] D_ ?_;(intro d hd;simp[tkD]at hd;subst hd;simp only[tks,pQ,pZ,pS]);iterate 2 (refine⟨?_,?_,?_⟩;rotate_left;· (intro oi ho;simp at ho;subst ho;first | (refine Or.inr ⟨by rfl,?_⟩;with_reducible rfl) | (refine Or.inl ⟨by rfl,fun w' sL=>?_⟩;go_simp;try with_reducible rfl)))
   (refine on 14 ?_;intro o ho K' hK;simp at ho;subst ho);obtain⟨r0,r1,rl,rf⟩:=(HN5.out).cells
   have iX:=rf 0;have iu:=rf 1;clear rf;go_simp;(refine hK.out _ _ (fun _=>(Ci.set _ _ _ BO).set _ _ _ BO) ?_;clear hK K';try simp only[pQ,pN,pZ,pS]);refine oC 15 ((Ci.set _ _ _ BO).set _ _ _ BO) ?_;refine zX (by kernel_rfl) (RQ ?_) _;go_wp2_with fail
   obtain⟨W,hW,s0,s1,sF,tZ⟩:=(HN5.out).store (str s6) (.slice a6 n6 c6);rw[<- hW];refine bodyPost_ret (v:=.tuple #[.agg #[s6,.slice a6 n6 c6],.bool RC]) (by simp[results,UC,go_sem,s0,s1]) rfl ?_;exact FN.out w5 RC U HN.out rfl (zzT ER.out.2 DW.out) (fun t h=>by simp at h) W sF tZ
 | true =>
   have HI:=r9 hi;have HN:=r9 (show qg l=if decide (qM t<=60) then OK t else U by rw[HM.out,hi];rfl);clear hi;go_wp2_with fail
   rw[<- se];clear se;refine rS (fun w'=>wq w1 (str s6) (.slice a6 n6 c6) w') (fun _=>RC) IP fun sP=>?_;refine tC [0,1,2,3,4,5,6] sP ?_;iterate 7 (refine tl (fun w' sL=>sL) ?_)
   refine tz ?_;(refine on 7 ?_;intro o ho K' hK;simp at ho;subst ho;go_simp);go_at_call 68;(with_reducible refine CI.out.mono ?_);rintro en5 w5 ⟨rfl,sx⟩;rw[HI.out];have DW:Hid (No W2 w5):=(Below.drew (sQ W2 W2)).trans sx;have Ci:=IP.below DW.out;have HN5:=r9 (aY.below DW.out rl0);clear sx;(refine hK.out _ _ (fun _=>Ci) ?_;clear hK K';try simp only[pQ,pN,pZ,pS]);have D_:=Ci;refine tC [8,9,10] D_ ?_;iterate 3 (refine tl (fun w' sL=>sL) ?_)
   refine tz ?_;(refine on 11 ?_;intro o ho K' hK;simp at ho;subst ho;go_simp);go_at_call 69;(with_reducible refine(CS.out w5 DW.out).mono ?_);rintro en7 w7 ⟨rfl,sH⟩;have Gq:Hid (No W2 w7):=zzT DW.out sH;have hK7:=IP.below Gq.out;have HN7:=r9 (aY.below Gq.out rl0);clear sH;(refine hK.out _ _ (fun _=>hK7) ?_;clear hK K';try simp only[pQ,pN,pZ,pS]);have hS11:=hK7;refine tC [12,13] hS11 ?_;iterate 2 (refine tx ?_)
   refine tz ?_;(refine on 14 ?_;intro o ho K' hK;simp at ho;subst ho);obtain⟨r0,r1,rl,rf⟩:=(HN7.out).cells;have iX:=rf 0;have iu:=rf 1;clear rf;go_simp;(refine hK.out _ _ (fun _=>(hK7.set _ _ _ BO).set _ _ _ BO) ?_;clear hK K';try simp only[pQ,pN,pZ,pS]);refine oC 15 ((hK7.set _ _ _ BO).set _ _ _ BO) ?_;refine zX (by kernel_rfl) (RQ ?_) _;go_wp2_with fail
   obtain⟨W,hW,s0,s1,sF,tZ⟩:=(HN7.out).store (str s6) (.slice a6 n6 c6);rw[<- hW];refine bodyPost_ret (v:=.tuple #[.agg #[s6,.slice a6 n6 c6],.bool (decide ((qM t:Int)<=60))]) (by simp[results,UC,go_sem,s0,s1]) rfl ?_;by_cases Ea:qM t<=60
   ·exact FN.out w7 _ (some t) (by rw [HN.out,if_pos (by simpa using Ea)]) (by rw [decide_eq_true (by omega)];rfl) (zzT ER.out.2 Gq.out) (fun t' h=>by
     obtain rfl:=RZ h
     exact ⟨ER.out.1,zY.below Gq.out (fun _ h=>h) BK.out⟩) W sF tZ
   ·exact FN.out w7 _ U (by rw[HN.out,if_neg (by simpa using Ea)]) (by rw[decide_eq_false (by omega)];rfl) (zzT ER.out.2 Gq.out) (fun t h=>by simp at h) W sF tZ
def fN (t:Ty):Prop:=∀(F:Nat->Prop) (w:World) (v:Value),Rep F w (ki t) v->
 Calls RG 19 #[.agg #[v]] w fun en w'=>en=.returned (str (zS t))/\No w w'
theorem textT_drop {ts:List Ty}{k:Nat}{t:Ty}(h:ts[k]?=t):zS (.mk (ts.drop k))=((([40,62,32]++zS t)++[32])++zS (.mk (ts.drop (k+1))))++[41]:=by
 have hk:=(RR.1 h).1;have e:ts[k]=t:=(RR.1 h).2;rw[SE hk,yL,e];simp
theorem atomsT_drop (ts:List Ty)(k:Nat):zU (.mk (ts.drop k))<=zU (.mk ts):=by
 have:=wK (ts.take k) (ts.drop k);rw[List.take_append_drop]at this;simp only[zU];omega
theorem l1Text_step (t:Ty)(hl:zU t<=1000)(ih:∀t',zU t'<zU t->fN t'):fN t:=by
 intro F w v hv;rw[jJ]at hv;obtain⟨a,cap,e,_,hlen,sG⟩:=zH hv;subst e;have IH:=r9 ih;clear ih;have AT:=r9 sG;clear sG hlen hv;have hE:=kI t;have PO:t.args.length<=1000:=by have:=kW t.args;omega
 have E1:=r9 hE;clear hE;have HT:Hid (t=.mk t.args):=by show t=_;cases t;rfl
 go_enter Tryz.func19,Tryz.ntmps19;go_wp2_with fail
 go_loopw [3,4] (fun o i wr=>∃k:Nat,k<=t.args.length/\i=.int RD ((k:Int)-1)/\o=str (zS (.mk (t.args.drop k)))/\No w wr/\wr w=OK (.slice a t.args.length cap)) (fun _ i _=>(intOf i+1).toNat)
 case atStart=>exact⟨t.args.length,sZ _,rfl,by rw[List.drop_length,yA],(sQ _ _).alloc (sZ _) _,by simp⟩
 case round=>
  obtain⟨k,hk,rfl,rfl,hb,hc⟩:=hrel;cases k with
  | succ k =>
    have Bx:(0:Int)<=((k+1:Nat):Int)-1:=by omega
    have hki:((k+1:Nat):Int)-1=(k:Int):=by omega
    have sC:k<t.args.length:=by omega
    have tB:(k:Int)<(t.args.length:Int):=by omega
    obtain⟨b',o,u,d,eb,_,sA,hd,hu,hr⟩:=AT.out k sC;subst eb;rw[vU,RP]at hd;obtain⟨t',al,rfl⟩:=hd;obtain⟨ua,uc,rfl⟩:=za hr;have hu':wr (b',o+k)=OK (.slice ua t'.args.length uc):=by rw[hb.cell sA];exact hu
    have o_:=Rep.below (F':=F) hb (fun _ h=>h) hr;have hs:=xq al;have tw:=uz t.args (k+1);have oQ:=E1.out;have IH':=r9 (IH.out t' (by omega));have l1:=jY 1000 t' (by omega);have d1:=atomsT_drop t.args (k+1);rw[<- HT.out]at d1;have l2:=jY 1000 (.mk (t.args.drop (k+1))) (by omega);have hx:=textT_drop al;obtain⟨X,hX⟩:=zzN (zS t');rw[hX]at hx l1;have HX:=r9 hx;have HXX:=r9 hX;clear hx hX;generalize zS (.mk (t.args.drop (k+1)))=R at *;obtain⟨O1,h1⟩:=zzM ([40,62,32]++X);obtain⟨O2,h2⟩:=zzM (O1++[32]);obtain⟨O3,h3⟩:=zzM (O2++R);obtain⟨O4,h4⟩:=zzM (O3++[41]);have m1:O1.length=X.length+3:=by rw[h1];simp
    have m2:O2.length=O1.length+1:=by rw[h2];simp
    have m3:O3.length=O2.length+R.length:=by rw[h3];simp
    have ou:=fun w0=>qz (P:=RG) [40,62,32] X (by simp;omega) w0;have At:=fun w0=>qz (P:=RG) O1 [32] (by simp;omega) w0;have DO:=fun w0=>qz (P:=RG) O2 R (by omega) w0;have DN:=fun w0=>qz (P:=RG) O3 [41] (by simp;omega) w0;have H4:Hid (zS (.mk (t.args.drop k))=O4):=by show _=_;rw[HX.out,h4,h3,h2,h1]
    rw[<- h1]at ou;rw[<- h2]at At;rw[<- h3]at DO;rw[<- h4]at DN;have hz:=sK wr _ hc;rw[hki];clear hs al oQ hu hr l1 l2 d1 h1 h2 h3 h4 m1 m2 m3 tw hki Bx;go_wp2_with fail
    refine(IH'.out _ _ _ o_).mono ?_;rintro en w2 ⟨rfl,sY⟩;rw[HXX.out];have sE:=zzT hb sY;have oI:w2 w=OK (.slice (b',o) t.args.length cap):=by rw[sY.cell hz];exact hc
    go_wp2_with fail
    go_roundw
    case rel=>exact⟨k,by omega,rfl,by rw[H4.out],sE,oI⟩
    case measure=>simp[intOf]
  | zero =>
    have Bx:¬(0:Int)<=((0:Nat):Int)-1:=by omega
    go_wp2_with fail
    go_ret;refine⟨?_,hb⟩;have e:zS (.mk t.args)=zS t:=by rw[<- HT.out]
    show Ending.returned (str (zS (.mk t.args)))=_;rw[e]
theorem uK (n:Nat):∀t,zU t<=n->n<=1000->fN t:=by
 induction n with
 |zero=>intro t h _;have:=qA t;omega
 |succ n ih=>exact fun t h hn=>l1Text_step t (by omega) (fun t' h'=>ih t' (by omega) (by omega))
def vw (w:World)(a:Option Addr)(xs:List Bs):Prop:=∀(k:Nat) (s:Bs),xs[k]?=s->∃b o,a=OK ⟨b,o,U⟩/\w (b,o+k)=str s
theorem vw.below {w w':World}{a:Option Addr}{xs:List Bs}(h:vw w a xs)(hb:No w w'):vw w' a xs:=fun k s hs=>by
 obtain⟨b,o,e,hc⟩:=h k s hs;exact⟨b,o,e,(hb.cell (sK w _ hc)).trans hc⟩
theorem Tryz.infoStr:(RG.info? 9).map (fun i=>(i.zero,i.size,i.bytes))=OK (OK (str []),1,16):=by kernel_rfl
end Go.Proofs.YtnfenijemllkbaaGreatDoor

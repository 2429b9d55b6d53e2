/- Walks. -/
import Derived.Deep.DeepCutAuto
import Derived.Test.YtnfenijemllkbaaGreatDoorQ7
set_option linter.unusedVariables false
set_option linter.unusedSimpArgs false
set_option maxHeartbeats 4000000
set_option maxRecDepth 100000
open Option renaming none->U
open Option renaming some->OK
open Go.IntKind renaming i64->RD
open Bool renaming and_eq_true->R3,true_and->UR
open Go.Lib renaming decDigits->Sk,itoa->Tb,join->Ws,joinTail->VH,join_cons->Vw
open Go.NoPanic renaming normal->RQ
open Go.Proofs.Tryz renaming func15->Xd,func25->Tt,func83->Xf,func84->U8,ntmps15->WJ,ntmps25->Th,ntmps83->WK,ntmps84->UW,prog->RG,underlying69->Tc
open Go.Value renaming oneCell'->R4,ownBlock->RM,slice->RI
open Go.World renaming cell?->RE,frozen?->RO,ownsRow_nil->Sf
open Int renaming natCast_add->S_
open List renaming cons_append->R5,getElem?_cons_succ->RW,getElem?_cons_zero->RV,getElem?_map->S5,getElem?_take->Su,length_append->RL,length_cons->RU,map_cons->Sa,map_nil->SM,mem_append->Si,mem_cons->Sc,mem_iff_getElem?->VG,mem_of_getElem?->RX,take_add_one->Sd,take_length->R8
open Nat renaming add_mul->Uo,le_of_lt->Xe,zero_le->R6
open Option renaming bind_eq_some_iff->RH,bind_some->RF,map_eq_some_iff->RP
open Option.some renaming inj->RZ,injEq->RK
namespace Go.Proofs.YtnfenijemllkbaaGreatDoor
open Go.RowKit
theorem Tryz.infoBound:(RG.info? 118).map (fun i=>(i.zero,i.size,i.bytes))=OK (OK (.agg #[str [],.pointer U]),2,24):=by kernel_rfl
def jb:List Nm->List DV
 |[]=>[]
 |p::ps=>.val (str p.1)::jk p.2::jb ps
theorem cD (a b:List Nm):jb (a++b)=jb a++jb b:=by
 induction a with
 |nil=>rfl
 |cons p ps ih=>rw[R5,jb,jb,ih];rfl
theorem encNms_at:∀(ns:List Nm) (i:Nat) (p:Nm),ns[i]?=OK p->(jb ns)[i*2]?=OK (.val (str p.1))/\(jb ns)[i*2+1]?=OK (jk p.2)
 |[],i,p,h=>by simp at h
 |q::ps,0,p,h=>by simp at h;subst h;rw[jb];exact⟨rfl,rfl⟩
 | q::ps,i+1,p,h=>by
   have:=encNms_at ps i p (by simpa using h);rw[jb,show (i+1)*2=i*2+1+1 from by omega,show i*2+1+1+1=(i*2+1)+1+1 from rfl];simpa using this
theorem oneNm {F:Nat->Prop}{w:World}:∀(ns:List Nm) (us:List Value),zY F w (jb ns) us->∀u∈us,u.oneCell'=true
 |[],us,h,u,hu=>by rw[jb,zE]at h;subst h;simp at hu
 | p::ps,us,h,u,hu=>by
   rw[jb,zQ]at h;obtain⟨v1,vs,rfl,h1,h2⟩:=h;rw[zQ]at h2;obtain⟨v2,vs2,rfl,h3,h4⟩:=h2;rw[zC]at h1;subst h1;obtain⟨b,_,rfl,_⟩:=zh h3;rcases Sc.1 hu with rfl|hu
   ·simp[str,R4]
   rcases Sc.1 hu with rfl|hu
   ·simp[R4]
   ·exact oneNm ps vs2 h4 u hu
def AtNm (F:Nat->Prop)(w:World)(ns:List Nm)(a:Option Addr)(k:Nat):Prop:=
 ∃b o x t kb,a=OK ⟨b,o,U⟩/\b<(w:Nat)/\ns[k]?=OK (x,t)/\w (b,o+k*2)=str x/\w (b,o+k*2+1)=OK (.pointer (OK ⟨kb,0,U⟩))/\Rep F w (jk t) (.pointer (OK ⟨kb,0,U⟩))
theorem AtNms.of {F:Nat->Prop}{w:World}{ns:List Nm}{v:Value}(h:Rep F w (.sl 118 2 ns.length (jb ns)) v):∃a c,v=.slice a ns.length c/\ns.length<=c/\∀k,k<ns.length->AtNm F w ns a k:=by
 obtain⟨hl,a,c,rfl,hn,hz,h⟩:=zv.1 h;refine⟨a,c,rfl,hn,fun k hk=>?_⟩;rcases h with h|⟨b,o,cs,fr,rfl,hb,hc,hr⟩
 ·omega
 ·obtain⟨⟨x,t⟩,hp⟩:∃p,ns[k]?=OK p:=⟨ns[k],by simp[hk]⟩;obtain⟨g1,g2⟩:=encNms_at ns k (x,t) hp;obtain⟨v1,e1,r1⟩:=zY.at hr g1;obtain⟨v2,e2,r2⟩:=zY.at hr g2;rw[zC]at r1;subst r1;obtain⟨kb,_,rfl,_⟩:=zh r2;have sG:∀j u,((cs.toList.drop o).take (ns.length*2))[j]?=OK u->w.cell? (b,o+j)=OK u:=by
   intro j u hu;rw[Su]at hu;split at hu
   ·rw[List.getElem?_drop]at hu;simp only[RE,hc];simpa using hu
   ·simp at hu
  exact⟨b,o,x,t,kb,rfl,zZ hc,hp,sG _ _ e1,by have:=sG _ _ e2;rwa [<- Nat.add_assoc]at this,r2⟩
def mL:Option Nat->Int
 |some i=>i
 |none=>-1
theorem nJ (t:Tm):0<zO t:=by cases t <;> simp only[zO] <;> omega
def FoundAt (ns:List Nm)(x:Bs)(k:Nat):Prop:=jh ns x=qT ns x k
theorem find_any (F:Nat->Prop)(ns:List Nm)(x:Bs)(lv:Value)(w:World)(hn:ns.length<=1000)(hr:Rep F w (.sl 118 2 ns.length (jb ns)) lv) :
 Calls RG 53 #[lv,x] w fun en w'=>en=.returned (.int RD (mL (jh ns x)))/\w'=w:=by
 obtain⟨a,c,rfl,hc,sG⟩:=AtNms.of hr;have AT:=r9 sG;clear sG hr;go_enter Tryz.func53,Tryz.ntmps53;go_wp2_with fail
 go_loop [5] (fun i=>∃k:Nat,k<=ns.length/\i=.int RD ((k:Int)-1)/\FoundAt ns x k) (fun i=>(intOf i+1).toNat)
 case atStart=>exact⟨ns.length,sZ _,rfl,rfl⟩
 case round=>
  obtain⟨k,hk,rfl,hf⟩:=hrel;cases k with
  | zero =>
    have hz:((0:Nat):Int)-1 = -1:=rfl;rw[hz];go_wp2_with fail
    go_ret;refine⟨?_,rfl⟩;rw[show jh ns x=U from hf];rfl
  | succ j =>
    have hj:j<ns.length:=by omega
    rw[show ((j+1:Nat):Int)-1=(j:Int) from by omega];obtain⟨b,o,y,t,kb,e,hb,hp,h1,h2,_⟩:=AT.out j hj;subst e;have hjI:(j:Int)<(ns.length:Int):=by omega
    have sf:qT ns x (j+1)=if y=x then OK j else qT ns x j:=by
     rw[qT,hp];simp
    by_cases BQ:y=x
    ·subst BQ;have q:(y == y)=true:=by simp
     have HS:=r9 (show jh ns y=OK j by rw[show jh ns y=qT ns y (j+1) from hf,sf,if_pos rfl]);clear hf sf hp h2;go_wp2_with fail
     go_ret;exact⟨by rw[HS.out];rfl,rfl⟩
    ·have q:(y == x)=false:=by rw[beq_eq_false_iff_ne];exact BQ
     have HS:=r9 (show jh ns x=qT ns x j by rw[show jh ns x=qT ns x (j+1) from hf,sf,if_neg BQ]);clear hf sf hp h2 BQ;go_wp2_with fail
     go_round
     case rel=>exact⟨j,by omega,by go_num,HS.out⟩
     case measure=>simp only[intOf];omega
theorem nX (F:Nat->Prop)(a b:Ty)(va vb:Value)(w:World)(ha:Rep F w (jk a) va)(hb:Rep F w (jk b) vb)(iE:zU a<=15)(AM:zU b<=15) :
 Calls RG 14 #[va,vb] w fun en w'=>en=.returned (.bool (zS a == zS b))/\No w w':=by
 obtain⟨ab,_,rfl,_⟩:=zh ha;obtain⟨bb,_,rfl,_⟩:=zh hb;have C1:=r9 (eN 15 a iE (by omega) F w _ ha);have C2:=r9 (fun w1 (h:No w w1)=>eN 15 b AM (by omega) F w1 _ (Rep.below (F':=F) h (fun _ h=>h) hb));clear ha hb;go_enter Tryz.func14,Tryz.ntmps14;go_wp2_with fail
 (with_reducible refine C1.out.mono ?_)
 rintro en w1 ⟨rfl,sX⟩;have sn:=r9 sX;clear sX;go_wp2_with fail
 (with_reducible refine(C2.out w1 sn.out).mono ?_)
 rintro en w2 ⟨rfl,sY⟩;have sw:=r9 (zzT sn.out sY);clear sY;go_wp2_with fail
 go_ret;exact⟨rfl,sw.out⟩
def kH (F:Nat->Prop)(w:World)(o:Option Ty)(en:Ending)(w':World):Prop:=
 ∃v,en=.returned v/\No w w'/\(o=U->v=.pointer U)/\(∀k,o=OK k->Rep (fun i=>F i\/w<=i) w' (jk k) v)
structure TyPre (F:Nat->Prop)(t:Tm)(ns:List Nm)(tv lv:Value)(w:World):Prop where
 rt:Rep F w (jT t) tv
 rl:Rep F w (.sl 118 2 ns.length (jb ns)) lv
 ok:xA t
 n15:∀a∈kinds ns,zU a<=15
 room:ns.length+zO t<=1000
def b6 (N:Nat):Prop:=∀(F:Nat->Prop) (t:Tm) (ns:List Nm) (tv lv:Value) (w:World),zO t<=N->TyPre F t ns tv lv w->Calls RG 25 #[tv,lv] w (kH F w (typeOf ns t))
theorem wF {F:Nat->Prop}{w:World}(hF:F w):Rep F (w.alloc (.cells #[()] 39)) (jk (.mk [])) (.pointer (OK ⟨w,0,U⟩)):=
 bx hF (zW _ _) (zv.2 ⟨rfl,U,0,rfl,sZ _,fun _=>rfl,.inl rfl⟩)
theorem uT.alloc {w:World}{size n:Nat}{v:Value}{xs:List Value}(h:uT size v n xs w)(o:Obj):uT size v n xs (w.alloc o):=
 ⟨h.1,h.2.elim (fun ⟨b,e,hc⟩=>.inl ⟨b,e,fun j u hj=>zV (hc j u hj)⟩) .inr⟩
theorem kH.no {F:Nat->Prop}{w w':World}{o:Option Ty}(ho:o=U)(hb:No w w'):kH F w o (.returned (.pointer U)) w':=
 ⟨_,rfl,hb,fun _=>rfl,fun k h=>by rw[ho]at h;simp at h⟩
theorem kH.yes {F:Nat->Prop}{w w':World}{o:Option Ty}{k:Ty}{v:Value}(ho:o=k)(hb:No w w')(hr:Rep (fun i=>F i\/w<=i) w' (jk k) v):kH F w o (.returned v) w':=
 ⟨_,rfl,hb,fun h=>by rw[ho]at h;simp at h,fun k' h=>by rw[ho]at h;obtain rfl:=RZ h;exact hr⟩
theorem typed_nm (F:Nat->Prop)(x:Bs)(ns:List Nm)(tv lv:Value)(w:World)(hp:TyPre F (.nm x) ns tv lv w):Calls RG 25 #[tv,lv] w (kH F w (typeOf ns (.nm x))):=by
 obtain⟨tb,kv,slv,rfl,_,sW,_,_,_⟩:=jt hp.rt;simp only[xp,xg]at sW;have t0:w tb=OK (str []):=by simp[RE,sW]
 have t1:w (tb,1)=str x:=by simp[RE,sW]
 have hn:ns.length<=1000:=by have:=hp.room;omega
 have CF:=find_any F ns x lv w hn hp.rl;obtain⟨la,lc,rfl,NH,sG⟩:=AtNms.of hp.rl;have AT:=r9 sG;have HP:=r9 hp;clear hp sG sW;cases hq:jh ns x with
 | none =>
   have HT:=r9 (show typeOf ns (.nm x)=U by rw[typeOf,hq];rfl);rw[hq]at CF;simp only[mL]at CF;have CF':=r9 CF;clear hq CF NH;go_enter Tt,Th;go_wp2_with fail
   (with_reducible refine CF'.out.mono ?_);rintro en w1 ⟨rfl,e⟩
   subst w1;go_wp2_with fail
   go_ret;exact kH.no HT.out (sQ _ _)
 | some i =>
   obtain⟨sC,k,hk⟩:=findAt_lt hq;obtain⟨b,o,y,t,kb,e,hb,Gv,h1,h2,tq⟩:=AT.out i sC;subst e;have sT:=HP.out.n15 t (RX (yY Gv));have HT:=r9 (show typeOf ns (.nm x)=OK t by rw[typeOf,hq,RF,Gv];rfl);have CA:=r9 (uB F w 15 t sT (by unfold Lim;omega) _ tq);have HR:=r9 tq;rw[hq]at CF;simp only[mL]at CF;have CF':=r9 CF;have hi:(i:Int)<(ns.length:Int):=by omega
   have hA:¬(15:Int)<(zU t:Int):=by omega
   clear hq CF NH hk Gv h1 tq hb;go_enter Tt,Th;go_wp2_with fail
   (with_reducible refine CF'.out.mono ?_);rintro en w1 ⟨rfl,e⟩
   subst w1;go_wp2_with fail
   (with_reducible refine CA.out.mono ?_);rintro en w1 ⟨rfl,e⟩
   subst w1;go_wp2_with fail
   go_ret;exact kH.yes HT.out (sQ _ _) (HR.out.weak fun _ h=>.inl h)
theorem typed_wd (F:Nat->Prop)(u:Bs)(ns:List Nm)(tv lv:Value)(w:World)(hp:TyPre F (.wd u) ns tv lv w):Calls RG 25 #[tv,lv] w (kH F w (typeOf ns (.wd u))):=by
 obtain⟨tb,kv,slv,rfl,_,sW,_,_,_⟩:=jt hp.rt;simp only[xp,xg]at sW;have t0:w tb=str u:=by simp[RE,sW]
 have sI:js u=true:=hp.ok;simp only[js,Bool.or_eq_true,beq_iff_eq]at sI;obtain⟨la,lc,rfl,_,_⟩:=AtNms.of hp.rl;have HT:=r9 (show typeOf ns (.wd u)=OK (.mk []) by rw[typeOf]);have CA:=r9 (uB (fun _=>True) (w.alloc (.cells #[()] 39)) 15 (.mk []) (by decide) (by unfold Lim;omega) _ (wF trivial));have eA:((zU (.mk []):Nat):Int)=1:=by decide
 rw[eA]at CA;clear hp sW eA;rcases sI with (rfl|rfl)|rfl
 all_goals
  go_enter Tt,Th;go_wp2_with fail
  (with_reducible refine CA.out.mono ?_);rintro en w1 ⟨rfl,e⟩
  subst w1;go_wp2_with fail
  go_ret;exact kH.yes HT.out ((sQ _ _).alloc (sZ _) _) (wF (.inr (sZ _)))
theorem typed_lam (N:Nat)(ih:b6 N)(F:Nat->Prop)(x:Bs)(k:Ty)(t:Tm)(ns:List Nm)(tv lv:Value)(w:World)(hN:zO (.lam x k t)<=N+1)(hp:TyPre F (.lam x k t) ns tv lv w):Calls RG 25 #[tv,lv] w (kH F w (typeOf ns (.lam x k t))):=by
 obtain⟨tb,kv,slv,rfl,_,sW,_,Ey,AZ⟩:=jt hp.rt;have hk:=Ey k rfl;obtain⟨kb,_,e,_⟩:=zh hk;subst e;obtain⟨pa,pc,rfl,_,_,sG⟩:=zH AZ;simp only[xp,xg,vX]at sW;obtain⟨oS,oM,Om,On,GV,_,Ed,Dp,DZ,AX⟩:=sG 0 (by simp[ze]);simp only[ze,Sa,SM,RV,RW,RK]at Dp;subst Dp;obtain⟨Dn,e0⟩:=qO AX;subst e0;subst GV;have t0:w tb=OK (str [108,97,109]):=by simp[RE,sW]
 have t1:w (tb,1)=str x:=by simp[RE,sW]
 have t2:w (tb,2)=OK (.pointer (OK ⟨kb,0,U⟩)):=by simp[RE,sW]
 have t3:w (tb,3)=OK (.slice (oS,oM) 1 pc):=by simp[RE,sW,ze]
 have tP:=hp.room;have sI:=hp.ok;rw[zO]at tP hN;have hak:=qA k;have CK:=r9 (uB F w 1000 k (by omega) (by unfold Lim;omega) _ hk);have hlen:ns.length<=999:=by omega
 by_cases sT:15<zU k
 ·have HT:=r9 (show typeOf ns (.lam x k t)=U by rw[typeOf,if_pos sT]);have hA:(15:Int)<(zU k:Int):=by omega
  obtain⟨la,lc,rfl,_,_⟩:=AtNms.of hp.rl;clear hp sG AZ hk Ey sW sT AX DZ sI hN;go_enter Tt,Th;go_wp2_with fail
  (with_reducible refine CK.out.mono ?_);rintro en w1 ⟨rfl,e⟩
  subst w1;go_wp2_with fail
  go_ret;exact kH.no HT.out (sQ _ _)
 have hA:¬(15:Int)<(zU k:Int):=by omega
 have hT:typeOf ns (.lam x k t)=(typeOf (ns++[(x,k)]) t).bind fun b=>if 15<zU (zi k b) then U else OK (zi k b):=by rw[typeOf,if_neg sT]
 have HT:=r9 hT;obtain⟨xs,iG,aW⟩:∃xs,zY F w (jb ns) xs/\∃a c,lv=.slice a ns.length c/\uT 2 (.slice a ns.length ns.length) ns.length xs w:=by
  obtain⟨a,c,e,_,_⟩:=AtNms.of hp.rl;have hr:=hp.rl;rw[e]at hr;obtain⟨xs,h1,h2⟩:=uT.ofRep hr (oneNm ns);exact⟨xs,h1,a,c,e,h2⟩
 obtain⟨la,lc,rfl,aW⟩:=aW;have NH:ns.length<=lc:=by obtain⟨a,c,e,h,_⟩:=AtNms.of hp.rl;simp only[Value.slice.injEq]at e;obtain⟨_,_,rfl⟩:=e;exact h
 have SX:Hid (∀w',No w w'->w' (tb,1)=str x/\w' (tb,2)=OK (.pointer (OK ⟨kb,0,U⟩))/\w' (tb,3)=OK (.slice (oS,oM) 1 pc)/\w' (oS,oM)=OK (.pointer (OK ⟨Dn,0,U⟩))):=by
  show ∀w',_->_;intro w' sA;exact⟨(sA.cell (sK w _ t1)).trans t1,(sA.cell (sK w _ t2)).trans t2,(sA.cell (sK w _ t3)).trans t3,(sA.cell Ed).trans DZ⟩
 have HX:=r9 (r_ iG aW);have HP:=r9 (r_ hp (r_ hk AX));have IH:=r9 ih;have HK:=r9 (r_ sT (r_ sI hN));have DR:ns.length+1<=maxLen:=by unfold maxLen;omega
 have aI:(ns.length+1)*24<=140737488355328:=by omega
 clear hp sG AZ hk Ey sW sT AX iG aW sI ih hN hT;go_enter Tt,Th;go_wp2_with fail
 (with_reducible refine CK.out.mono ?_);rintro en w1 ⟨rfl,e⟩
 subst w1;go_wp2_with fail
 refine rB fun sP=>?_;refine tC [0,1,2,3,4,5,6,7,8,9,10,11,12,13,14,15,16,17,18,19,20] sP ?_;iterate 21 (refine tl (fun w' sL=>SX.out w' sL) ?_)
 refine tz ?_;refine oC 21 (sP.alloc (sZ _) _) ?_;(refine on 22 ?_;intro o ho K' hK;simp at ho;subst ho);have Mi:zz 2 (.slice w 1 1) 1 [x,kb] (w.drew.alloc (.cells #[x,kb] 118)):=zz.lit1 #[str x,.pointer (OK ⟨kb,0,U⟩)] rfl (by simp[str,R4]) _ (by rfl);have ll:uT 2 (.slice la ns.length ns.length) ns.length xs (w.drew.alloc (.cells #[x,kb] 118)):=HX.out.2.drew.alloc _;refine wi (by rfl) _ _ _ (by rfl) 118 (.agg #[str [],.pointer U]) 2 24 Tryz.underlying112 Tryz.infoBound rfl (.slice la ns.length ns.length) ns.length xs (by rfl) ll _ 1 _ (by rfl) Mi (by omega) DR aI ?_;intro c7 w7 sj sH;have e8:(w.alloc (.cells #[x,kb] 118)).drew.heap.size=w+1:=by simp
 rw[e8]at sj;have ik:No w w7:=(sP.alloc (sZ _) _).trans (sH.mono (sP.alloc (sZ _) _).size);(refine hK.out _ _ (fun _=>ik) ?_;clear hK K';try simp only[pQ,pN,pZ,pS]);(refine on 23 ?_;intro o ho K' hK;simp at ho;subst ho);have lS:Rep (fun i=>F i\/w<=i) w7 (.sl 118 2 (ns++[(x,k)]).length (jb (ns++[(x,k)]))) (.slice (w+1:Nat) (ns.length+1) c7):=by
  rw[RL,cD];refine sj.rep (fun g hg=>.inr (by simp[RM]at hg;subst hg;exact Nat.le_succ _)) ?_;exact(zY.below ik (fun _ h=>.inl h) HX.out.1).append (zQ.2 ⟨_,_,rfl,zC.2 rfl,zQ.2 ⟨_,_,rfl,Rep.below ik (fun _ h=>.inl h) HP.out.2.1,zE.2 rfl⟩⟩)
 have CT:=r9 (IH.out (fun i=>F i\/w<=i) t (ns++[(x,k)]) (.pointer (some ⟨Dn,0,none⟩)) _ w7 (by have:=HK.out.2.2;omega) ⟨Rep.below ik (fun _ h=>.inl h) HP.out.2.2,lS,HK.out.2.1.2,(fun a ha=>by
  rw[jz]at ha;rcases Si.1 ha with ha|ha
  ·exact HP.out.1.n15 a ha
  ·simp at ha;subst ha;have:=HK.out.1;omega),by rw [RL];simp;omega⟩)
 have Gq:=r9 ik;clear lS sj sH ik;go_simp;go_at_call 25;(with_reducible refine CT.out.mono ?_);rintro en w9 ⟨bv,rfl,aO,Es,Eh⟩;have GH:=r9 (zzT Gq.out aO);have HY:=r9 (r_ Es Eh);have z7:=Gq.out.size;clear aO Es Eh;(refine hK.out _ _ (fun _=>GH.out) ?_;clear hK K';try simp only[pQ,pN,pZ,pS]);refine oC 24 GH.out ?_;refine zX (by kernel_rfl) (RQ ?_) _;cases hq:typeOf (ns++[(x,k)]) t with
 | none =>
   obtain rfl:=HY.out.1 hq;have HN:=r9 (show typeOf ns (.lam x k t)=U by rw[HT.out,hq];rfl);clear hq;go_wp2_with fail
   go_ret;exact kH.no HN.out GH.out
 | some b =>
   have aJ:=HY.out.2 b hq;obtain⟨bb,_,e,_⟩:=zh aJ;subst e
   have AM:zU b<=15:=qK t _ b (fun a ha=>by
    rw[jz]at ha;rcases Si.1 ha with ha|ha
    ·exact HP.out.1.n15 a ha
    ·simp at ha;subst ha;have:=HK.out.1;omega) hq
   have Dk:=un AM;have CW:=r9 (arrow_any (fun i=>F i\/w<=i) k b (.pointer (OK ⟨kb,0,U⟩)) (.pointer (OK ⟨bb,0,U⟩)) w9 (Rep.below GH.out (fun _ h=>.inl h) HP.out.2.1) (aJ.weak fun i h=>by rcases h with h|h;exact h;exact .inr (by omega)) (show _<=_ by omega));have HQ:=r9 (show typeOf ns (.lam x k t)=if 15<zU (zi k b) then U else OK (zi k b) by rw[HT.out,hq];rfl);obtain⟨e0,e1,e2,e3⟩:=SX.out w9 GH.out;have D9:zU (zi k b)<=1000:=by
    have h1:=HK.out.1;have:zU (zi k b)=1+zU k+zU b:=xj k b;omega
   clear hq aJ;go_wp2_with fail
   (with_reducible refine CW.out.mono ?_);rintro en Jr ⟨av,rfl,DK,Pp⟩
   have Rx:=r9 (zzT GH.out DK);have E7:Rep (fun i=>F i\/w<=i) Jr (jk (zi k b)) av:=Pp.weak fun i h=>by rcases h with h|h;exact h;exact .inr (by have:=GH.out.size;omega)
   obtain⟨ab,_,e,_⟩:=zh E7;subst e;have CA:=r9 (uB _ Jr 1000 (zi k b) D9 (by unfold Lim;omega) _ E7);have HR:=r9 E7;clear DK Pp E7 e0 e1 e2 e3;by_cases sT:15<zU (zi k b)
   ·have hA2:(15:Int)<(zU (zi k b):Int):=by omega
    have HN:=r9 (show typeOf ns (.lam x k t)=U by rw[HQ.out,if_pos sT]);generalize zU (zi k b)=A at *;clear sT;go_wp2_with fail
    (with_reducible refine CA.out.mono ?_);rintro en oE ⟨rfl,e⟩
    subst oE;go_wp2_with fail
    go_ret;exact kH.no HN.out Rx.out
   ·have hA2:¬(15:Int)<(zU (zi k b):Int):=by omega
    have HN:=r9 (show typeOf ns (.lam x k t)=OK (zi k b) by rw[HQ.out,if_neg sT]);generalize zU (zi k b)=A at *;clear sT;go_wp2_with fail
    (with_reducible refine CA.out.mono ?_);rintro en oE ⟨rfl,e⟩
    subst oE;go_wp2_with fail
    go_ret;exact kH.yes HN.out Rx.out HR.out
theorem typed_app (N:Nat)(ih:b6 N)(F:Nat->Prop)(m n:Tm)(ns:List Nm)(tv lv:Value)(w:World)(hN:zO (.app m n)<=N+1)(hp:TyPre F (.app m n) ns tv lv w):Calls RG 25 #[tv,lv] w (kH F w (typeOf ns (.app m n))):=by
 obtain⟨tb,kv,slv,rfl,_,sW,_,_,AZ⟩:=jt hp.rt;obtain⟨pa,pc,rfl,_,_,sG⟩:=zH AZ;simp only[xp,xg,uV]at sW;obtain⟨oS,oM,Om,On,GV,_,Ed,Dp,DZ,AX⟩:=sG 0 (by simp[ze]);simp only[ze,Sa,SM,RV,RW,RK]at Dp;subst Dp;obtain⟨Dn,e0⟩:=qO AX;subst e0;subst GV;obtain⟨sh,sg,pu1,Cq,A9,_,aS,oF,oR,lL⟩:=sG 1 (by simp[ze]);simp only[ze,Sa,SM,RV,RW,RK]at oF;subst oF;obtain⟨GN,e1⟩:=qO lL;subst e1;simp only[RK,Addr.mk.injEq,and_true]at A9;obtain⟨rfl,rfl⟩:=A9;have t0:w tb=OK (str [97,112,112]):=by simp[RE,sW]
 have t3:w (tb,3)=OK (.slice (oS,oM) 2 pc):=by simp[RE,sW,ze]
 have tP:=hp.room;have sI:=hp.ok;rw[zO]at tP hN;obtain⟨la,lc,rfl,_,_⟩:=AtNms.of hp.rl;have SX:Hid (∀w',No w w'->w' (tb,3)=OK (.slice (oS,oM) 2 pc)/\w' (oS,oM)=OK (.pointer (OK ⟨Dn,0,U⟩))/\w' (oS,oM+1)=OK (.pointer (OK ⟨GN,0,U⟩))):=by
  show ∀w',_->_;intro w' sA;exact⟨(sA.cell (sK w _ t3)).trans t3,(sA.cell Ed).trans DZ,(sA.cell aS).trans oR⟩
 have C0:=r9 (fun wz (hz:No w wz)=>ih F m ns (.pointer (OK ⟨Dn,0,U⟩)) (.slice la ns.length lc) wz (by omega) ⟨Rep.below hz (fun _ h=>h) AX,Rep.below hz (fun _ h=>h) hp.rl,sI.1,hp.n15,by omega⟩);have C1:=r9 (fun wz (hz:No w wz)=>ih F n ns (.pointer (OK ⟨GN,0,U⟩)) (.slice la ns.length lc) wz (by omega) ⟨Rep.below hz (fun _ h=>h) lL,Rep.below hz (fun _ h=>h) hp.rl,sI.2,hp.n15,by omega⟩);have HN:=r9 hp.n15;clear hp sG AZ sW sI hN ih AX DZ Ed lL oR aS;go_enter Tt,Th;go_wp2_with fail
 refine rB fun sP=>?_;refine tC [0,1,2,3,4,5,6,8,9,10,11,12,13,14] sP ?_;iterate 14 (refine tl (fun w' sL=>SX.out w' sL) ?_)
 refine tz ?_;(refine on 7 ?_;intro o ho K' hK;simp at ho;subst ho;go_simp);go_at_call 25;(with_reducible refine(C0.out _ sP).mono ?_);rintro en v0 ⟨x0,rfl,s8,Br,Cs⟩;have iN:Hid (No w v0):=sP.trans s8;have IX:Hid ((typeOf ns m=U->x0=.pointer U)/\(∀k,typeOf ns m=OK k->Rep (fun i=>F i\/w<=i) v0 (jk k) x0)):=⟨Br,fun k h=>(Cs k h).weak fun i h=>by rcases h with h|h;exact .inl h;exact .inr (h)⟩;have Oe:=r9 s8;clear s8 Br Cs;(refine hK.out _ _ (fun _=>iN.out) ?_;clear hK K';try simp only[pQ,pN,pZ,pS]);have D_:=iN.out;(refine on 15 ?_;intro o ho K' hK;simp at ho;subst ho;go_simp);go_at_call 25;(with_reducible refine(C1.out _ iN.out).mono ?_);rintro en v1 ⟨x1,rfl,sX,tK,tH⟩;have sn:Hid (No w v1):=zzT iN.out sX;have IW:Hid ((typeOf ns n=U->x1=.pointer U)/\(∀k,typeOf ns n=OK k->Rep (fun i=>F i\/w<=i) v1 (jk k) x1)):=⟨tK,fun k h=>(tH k h).weak fun i h=>by rcases h with h|h;exact .inl h;exact .inr (sU iN.out.size h)⟩;have ES:=r9 sX;clear sX tK tH;(refine hK.out _ _ (fun _=>sn.out) ?_;clear hK K';try simp only[pQ,pN,pZ,pS]);have IN:=sn.out;refine tC [16,17] IN ?_;iterate 2 (refine tx ?_)
 refine tz ?_;refine zX (by kernel_rfl) (RQ ?_) _;clear t3 C0 C1;cases hm:typeOf ns m with
 | none =>
   obtain rfl:=IX.out.1 hm;have HQ:=r9 (show typeOf ns (.app m n)=U by rw[typeOf,hm];rfl);clear hm;go_wp2_with fail
   go_ret;exact kH.no HQ.out sn.out
 | some a =>
   have lp:=Rep.below (F':=fun i=>F i\/w<=i) ES.out (fun _ h=>h) (IX.out.2 a hm);obtain⟨ab,ak,e,_,EO,Fl⟩:=zh lp;subst e;cases hn:typeOf ns n with
   | none =>
     obtain rfl:=IW.out.1 hn;have HQ:=r9 (show typeOf ns (.app m n)=U by rw[typeOf,hm,hn];rfl);clear hm hn lp EO Fl;go_wp2_with fail
     go_ret;exact kH.no HQ.out sn.out
   | some b =>
     have aJ:=IW.out.2 b hn;obtain⟨bb,_,e,_⟩:=zh aJ;subst e;have iE:=qK m ns a HN.out hm;have AM:=qK n ns b HN.out hn;have q0:v1 ab=ak:=by simp[RE,EO]
     obtain⟨aa,ac,rfl,M2,_,IJ⟩:=zH Fl;have NT:=zZ EO;cases t6:a.args with
     | nil =>
       rw[t6]at q0;have HQ:=r9 (show typeOf ns (.app m n)=U by rw[typeOf,hm,hn,RF,RF,t6]);clear hm hn lp EO Fl IJ aJ t6 M2;go_wp2_with fail
       go_ret;exact kH.no HQ.out sn.out
     | cons c cs =>
       rw[t6]at q0 Fl IJ M2;obtain⟨D0,FD,u,d1,e,_,hkw2,F3,lJ,iK⟩:=IJ 0 (by simp);subst e;simp only[qh,RV,RK]at F3;subst F3;obtain⟨cb,_,e,_⟩:=zh iK;subst e;have hc1':v1 (D0,FD)=OK (.pointer (OK ⟨cb,0,U⟩)):=lJ;have Ad:zU c<=15:=fM iE c (by rw[t6];simp);have Ir:zU (.mk cs)<=15:=by have:=cM t6;omega
       have lD:cs.length<=14:=by have:=un iE;rw[t6]at this;simp at this;omega
       have CS:=r9 (nX _ c b _ _ v1 iK aJ Ad AM);by_cases he:zS c=zS b
       ·have e0:(zS c == zS b)=true:=by rw[beq_iff_eq];exact he
        rw[e0]at CS;have HT:=r9 (show typeOf ns (.app m n)=OK (.mk cs) by rw[typeOf,hm,hn,RF,RF,t6];exact if_pos he);have HS:=r9 Fl;have J4:cs.length+1<=ac:=by simpa using M2
        have KEY:∀(v2:World) (ra:Option Addr) (rc:Nat),No w v2->Rep (fun i=>F i\/w<=i) v2 (.sl 33 1 cs.length (qh cs)) (.slice ra cs.length rc)->
         Rep (fun i=>F i\/w<=i) (v2.alloc (.cells #[.slice ra cs.length rc] 39)) (jk (.mk cs)) (.pointer (OK ⟨v2,0,U⟩)):=fun v2 ra rc h hr=>
         bx (.inr h.size) (zW _ _) (Rep.below ((sQ _ _).alloc (sZ _) _) (fun _ h=>h) hr)
        have HK:=r9 KEY;have hA:¬(15:Int)<(zU (.mk cs):Int):=by omega
        have H15:=r9 Ir;clear hm hn lp EO Fl IJ aJ t6 he e0 lJ iK iE AM Ir Ad KEY M2;go_wp2_with fail
        (with_reducible refine CS.out.mono ?_);rintro en v2 ⟨rfl,sY⟩
        have q0':=(sY.cell (p:=ab) NT).trans q0;have sw:=r9 (zzT sn.out sY);have Rq:=r9 (Rep.below (F':=fun i=>F i\/w<=i) sY (fun _ h=>h) HS.out);clear sY q0 hc1';by_cases hac1:ac=1
        focus
         subst hac1;have aP:cs.length=0:=by omega
         obtain rfl:=List.eq_nil_of_length_eq_zero aP;have lq:Rep (fun i=>F i\/w<=i) v2 (.sl 33 1 ([]:List Ty).length (qh [])) (.slice (D0,FD) ([]:List Ty).length 0):=zv.2 ⟨rfl,_,_,rfl,sZ _,fun h=>by simp at h,.inl rfl⟩;have lO:Rep (fun i=>F i\/w<=i) (v2.alloc (.cells #[.slice (D0,FD) 0 0] 39)) (jk (.mk [])) (.pointer (OK ⟨v2,0,U⟩)):=HK.out v2 _ _ sw.out lq;have CA:=r9 (uB _ _ 15 (.mk []) H15.out (by unfold Lim;omega) _ lO);have HR:=r9 lO;clear lq lO aP
        rotate_left
        focus
         have lq:Rep (fun i=>F i\/w<=i) v2 (.sl 33 1 cs.length (qh cs)) (.slice (D0,FD+1) cs.length (ac-1)):=eP (d:=jk c) Rq.out;have CA:=r9 (uB _ _ 15 (.mk cs) H15.out (by unfold Lim;omega) _ (HK.out v2 _ _ sw.out lq));have HR:=r9 (HK.out v2 _ _ sw.out lq);clear lq
        all_goals
         go_wp2_with fail
         (with_reducible refine CA.out.mono ?_);rintro en w3 ⟨rfl,e⟩
         subst w3;go_wp2_with fail
         go_ret;exact kH.yes HT.out (sw.out.alloc sw.out.size _) HR.out
       ·have e0:(zS c == zS b)=false:=by rw[beq_eq_false_iff_ne];exact he
        rw[e0]at CS;have HT:=r9 (show typeOf ns (.app m n)=U by rw[typeOf,hm,hn,RF,RF,t6];exact if_neg he);clear hm hn lp EO Fl IJ aJ t6 he e0 lJ iK iE AM Ir Ad;go_wp2_with fail
        (with_reducible refine CS.out.mono ?_);rintro en v2 ⟨rfl,sY⟩
        have sw:=r9 (zzT sn.out sY);clear sY;go_wp2_with fail
        go_ret;exact kH.no HT.out sw.out
theorem typed_ite (N:Nat)(ih:b6 N)(F:Nat->Prop)(l m n:Tm)(ns:List Nm)(tv lv:Value)(w:World)(hN:zO (.ite l m n)<=N+1)(hp:TyPre F (.ite l m n) ns tv lv w):Calls RG 25 #[tv,lv] w (kH F w (typeOf ns (.ite l m n))):=by
 obtain⟨tb,kv,slv,rfl,_,sW,_,_,AZ⟩:=jt hp.rt;obtain⟨pa,pc,rfl,_,_,sG⟩:=zH AZ;simp only[xp,xg,ifW]at sW;obtain⟨oS,oM,Om,On,GV,_,Ed,Dp,DZ,AX⟩:=sG 0 (by simp[ze]);simp only[ze,Sa,SM,RV,RW,RK]at Dp;subst Dp;obtain⟨Dn,e0⟩:=qO AX;subst e0;subst GV;obtain⟨sh,sg,pu1,Cq,A9,_,aS,oF,oR,lL⟩:=sG 1 (by simp[ze]);simp only[ze,Sa,SM,RV,RW,RK]at oF;subst oF;obtain⟨GN,e1⟩:=qO lL;subst e1;simp only[RK,Addr.mk.injEq,and_true]at A9;obtain⟨rfl,rfl⟩:=A9;obtain⟨L0,LY,pu2,Cp,A8,_,Do,A7,A_,Ak⟩:=sG 2 (by simp[ze]);simp only[ze,Sa,SM,RV,RW,RK]at A7;subst A7;obtain⟨Oh,e2⟩:=qO Ak;subst e2;simp only[RK,Addr.mk.injEq,and_true]at A8;obtain⟨rfl,rfl⟩:=A8;have t0:w tb=OK (str [105,102]):=by simp[RE,sW]
 have t3:w (tb,3)=OK (.slice (oS,oM) 3 pc):=by simp[RE,sW,ze]
 have tP:=hp.room;have sI:=hp.ok;rw[zO]at tP hN;obtain⟨la,lc,rfl,_,_⟩:=AtNms.of hp.rl;have SX:Hid (∀w',No w w'->w' (tb,3)=OK (.slice (oS,oM) 3 pc)/\w' (oS,oM)=OK (.pointer (OK ⟨Dn,0,U⟩))/\w' (oS,oM+1)=OK (.pointer (OK ⟨GN,0,U⟩))/\w' (oS,oM+2)=OK (.pointer (OK ⟨Oh,0,U⟩))):=by
  show ∀w',_->_;intro w' sA;exact⟨(sA.cell (sK w _ t3)).trans t3,(sA.cell Ed).trans DZ,(sA.cell aS).trans oR,(sA.cell Do).trans A_⟩
 have C0:=r9 (fun wz (hz:No w wz)=>ih F l ns (.pointer (OK ⟨Dn,0,U⟩)) (.slice la ns.length lc) wz (by omega) ⟨Rep.below hz (fun _ h=>h) AX,Rep.below hz (fun _ h=>h) hp.rl,sI.1,hp.n15,by omega⟩);have C1:=r9 (fun wz (hz:No w wz)=>ih F m ns (.pointer (OK ⟨GN,0,U⟩)) (.slice la ns.length lc) wz (by omega) ⟨Rep.below hz (fun _ h=>h) lL,Rep.below hz (fun _ h=>h) hp.rl,sI.2.1,hp.n15,by omega⟩);have C2:=r9 (fun wz (hz:No w wz)=>ih F n ns (.pointer (OK ⟨Oh,0,U⟩)) (.slice la ns.length lc) wz (by omega) ⟨Rep.below hz (fun _ h=>h) Ak,Rep.below hz (fun _ h=>h) hp.rl,sI.2.2,hp.n15,by omega⟩);have HN:=r9 hp.n15;clear hp sG AZ sW sI hN ih AX DZ Ed lL oR aS Ak A_ Do;go_enter Tt,Th;go_wp2_with fail
 refine rB fun sP=>?_;refine tC [0,1,2,3,4,5,6,8,9,10,11,12,13,14,16,17,18,19,20,21,22] sP ?_;iterate 21 (refine tl (fun w' sL=>SX.out w' sL) ?_)
 refine tz ?_;(refine on 7 ?_;intro o ho K' hK;simp at ho;subst ho;go_simp);go_at_call 25;(with_reducible refine(C0.out _ sP).mono ?_);rintro en v0 ⟨x0,rfl,s8,Br,Cs⟩;have iN:Hid (No w v0):=sP.trans s8;have IX:Hid ((typeOf ns l=U->x0=.pointer U)/\(∀k,typeOf ns l=OK k->Rep (fun i=>F i\/w<=i) v0 (jk k) x0)):=⟨Br,fun k h=>(Cs k h).weak fun i h=>by rcases h with h|h;exact .inl h;exact .inr (h)⟩;have Oe:=r9 s8;clear s8 Br Cs;(refine hK.out _ _ (fun _=>iN.out) ?_;clear hK K';try simp only[pQ,pN,pZ,pS]);have D_:=iN.out;(refine on 15 ?_;intro o ho K' hK;simp at ho;subst ho;go_simp);go_at_call 25;(with_reducible refine(C1.out _ iN.out).mono ?_);rintro en v1 ⟨x1,rfl,sX,tK,tH⟩;have sn:Hid (No w v1):=zzT iN.out sX;have IW:Hid ((typeOf ns m=U->x1=.pointer U)/\(∀k,typeOf ns m=OK k->Rep (fun i=>F i\/w<=i) v1 (jk k) x1)):=⟨tK,fun k h=>(tH k h).weak fun i h=>by rcases h with h|h;exact .inl h;exact .inr (sU iN.out.size h)⟩;have ES:=r9 sX;clear sX tK tH;(refine hK.out _ _ (fun _=>sn.out) ?_;clear hK K';try simp only[pQ,pN,pZ,pS]);have IN:=sn.out;(refine on 23 ?_;intro o ho K' hK;simp at ho;subst ho;go_simp);go_at_call 25;(with_reducible refine(C2.out _ sn.out).mono ?_);rintro en v2 ⟨x2,rfl,sY,lY,lE⟩;have sw:Hid (No w v2):=zzT sn.out sY;have Lf:Hid ((typeOf ns n=U->x2=.pointer U)/\(∀k,typeOf ns n=OK k->Rep (fun i=>F i\/w<=i) v2 (jk k) x2)):=⟨lY,fun k h=>(lE k h).weak fun i h=>by rcases h with h|h;exact .inl h;exact .inr (sU sn.out.size h)⟩;have GG:=r9 sY;clear sY lY lE;(refine hK.out _ _ (fun _=>sw.out) ?_;clear hK K';try simp only[pQ,pN,pZ,pS]);have M6:=sw.out;refine tC [24,25,26] M6 ?_;iterate 3 (refine tx ?_)
 refine tz ?_;refine zX (by kernel_rfl) (RQ ?_) _;clear t3 C0 C1 C2;cases hl:typeOf ns l with
 | none =>
   obtain rfl:=IX.out.1 hl;have HQ:=r9 (show typeOf ns (.ite l m n)=U by rw[typeOf,hl];rfl);clear hl;go_wp2_with fail
   go_ret;exact kH.no HQ.out sw.out
 | some a =>
   have lp:=Rep.below (F':=fun i=>F i\/w<=i) GG.out (fun _ h=>h) (Rep.below (F':=fun i=>F i\/w<=i) ES.out (fun _ h=>h) (IX.out.2 a hl));obtain⟨ab,ak,e,_,EO,Fl⟩:=zh lp;subst e;cases hm:typeOf ns m with
   | none =>
     obtain rfl:=IW.out.1 hm;have HQ:=r9 (show typeOf ns (.ite l m n)=U by rw[typeOf,hl,hm];rfl);clear hl hm lp EO Fl;go_wp2_with fail
     go_ret;exact kH.no HQ.out sw.out
   | some b =>
     have aJ:=Rep.below (F':=fun i=>F i\/w<=i) GG.out (fun _ h=>h) (IW.out.2 b hm);obtain⟨bb,_,e,_⟩:=zh aJ;subst e;cases hn:typeOf ns n with
     | none =>
       obtain rfl:=Lf.out.1 hn;have HQ:=r9 (show typeOf ns (.ite l m n)=U by rw[typeOf,hl,hm,hn];rfl);clear hl hm hn lp EO Fl aJ;go_wp2_with fail
       go_ret;exact kH.no HQ.out sw.out
     | some c =>
       have Ml:=Lf.out.2 c hn;obtain⟨cb,_,e,_⟩:=zh Ml;subst e;have AM:=qK m ns b HN.out hm;have Ad:=qK n ns c HN.out hn;have q0:v2 ab=ak:=by simp[RE,EO]
       obtain⟨aa,ac,rfl,_,_,_⟩:=zH Fl;cases t6:a.args with
       | cons d ds =>
         have hd:((((d::ds).length:Nat):Int) == 0)=false:=by rw[beq_eq_false_iff_ne];simp;omega
         rw[t6]at q0;generalize (d::ds).length=L at *;have HQ:=r9 (show typeOf ns (.ite l m n)=U by rw[typeOf,hl,hm,hn,RF,RF,RF,if_neg (by rw[t6];simp)]);clear hl hm hn lp EO Fl aJ Ml t6;go_wp2_with fail
         go_ret;exact kH.no HQ.out sw.out
       | nil =>
         rw[t6]at q0;have CS:=r9 (nX _ b c _ _ v2 aJ Ml AM Ad);have CA:=r9 (fun wz (h:No v2 wz)=>uB _ wz 15 b AM (by unfold Lim;omega) _ (Rep.below (F':=fun i=>F i\/w<=i) h (fun _ h=>h) aJ));have HR:=r9 aJ;by_cases he:zS b=zS c
         ·have e0:(zS b == zS c)=true:=by rw[beq_iff_eq];exact he
          rw[e0]at CS;have HT:=r9 (show typeOf ns (.ite l m n)=OK b by rw[typeOf,hl,hm,hn,RF,RF,RF,if_pos ⟨t6,he⟩]);have hA:¬(15:Int)<(zU b:Int):=by omega
          clear hl hm hn lp EO Fl aJ Ml t6 he e0 AM Ad;go_wp2_with fail
          (with_reducible refine CS.out.mono ?_);rintro en w3 ⟨rfl,sE⟩
          have af:=r9 (zzT sw.out sE);have HR3:=r9 (Rep.below (F':=fun i=>F i\/w<=i) sE (fun _ h=>h) HR.out);have CA3:=r9 (CA.out w3 sE);clear sE;go_wp2_with fail
          (with_reducible refine CA3.out.mono ?_);rintro en w4 ⟨rfl,e⟩
          subst w4;go_wp2_with fail
          go_ret;exact kH.yes HT.out af.out HR3.out
         ·have e0:(zS b == zS c)=false:=by rw[beq_eq_false_iff_ne];exact he
          rw[e0]at CS;have HT:=r9 (show typeOf ns (.ite l m n)=U by rw[typeOf,hl,hm,hn,RF,RF,RF,if_neg (fun h=>he h.2)]);clear hl hm hn lp EO Fl aJ Ml t6 he e0 AM Ad;go_wp2_with fail
          (with_reducible refine CS.out.mono ?_);rintro en w3 ⟨rfl,sE⟩
          have af:=r9 (zzT sw.out sE);clear sE;go_wp2_with fail
          go_ret;exact kH.no HT.out af.out
theorem eE (N:Nat):b6 N:=by
 induction N with
 |zero=>exact fun F t ns tv lv w h=>by have:=nJ t;omega
 | succ N ih =>
   intro F t ns tv lv w h hp;cases t with
   |nm x=>exact typed_nm F x ns tv lv w hp
   |wd u=>exact typed_wd F u ns tv lv w hp
   |lam x k t=>exact typed_lam N ih F x k t ns tv lv w h hp
   |app m n=>exact typed_app N ih F m n ns tv lv w h hp
   |ite l m n=>exact typed_ite N ih F l m n ns tv lv w h hp
theorem decNat (n:Nat):dec n=Sk n:=by
 induction n using Nat.strongRecOn with
 | _ n ih =>
   by_cases h:n<10
   ·rw[vM h,Sk,dif_pos h];rfl
   ·rw[ve h,Sk,dif_neg h,ih (n / 10) (Nat.div_lt_self (by omega) (by omega))];rfl
theorem itoaNat (i:Nat):Tb (i:Int)=dec i:=by
 rw[decNat,Tb,if_neg (by omega)];rfl
theorem lvBs_of:∀xs:List Bd,(∀b∈xs,lvB b)->cu xs
 |[],_=>by rw[cu];trivial
 |b::bs,h=>by rw[cu];exact⟨h b (by simp),lvBs_of bs fun x hx=>h x (by simp[hx])⟩
theorem fit_lv (n:Nat):∀(b:Bd) (h:List Ty),zG b<=n->qB h b->(∀t∈h,zU t<=15)->h.length+15*n<=10000->lvB b:=by
 induction n with
 |zero=>intro b h hs;have:=kQ b;omega
 | succ n ih =>
   intro b h hs hf ha hl;cases b with
   |leaf c=>rw[lvB];trivial
   | ask v ss y no =>
     rw[qB]at hf;obtain⟨t,ht,f1,f2,f3⟩:=hf;rw[zG]at hs;have hy:=kQ y;have hn:=kQ no;have hv:=(List.getElem?_eq_some_iff.1 ht).1;have Bc:=ha t (RX ht);rw[lvB];refine⟨by omega,lvBs_of ss fun b hb=>?_,ih y h (by omega) f2 ha (by omega),ih no h (by omega) f3 ha (by omega)⟩;have tV:=uZ hb;obtain⟨k,hk⟩:=VG.1 hb;obtain⟨x,hx,hxf⟩:=gt _ _ f1 k b hk;simp only[kx,S5,RP]at hx;obtain⟨a,D9,rfl⟩:=hx;have iE:=(zo Bc).1 a (RX D9);have As:=zo iE;refine ih b (h++a.args) (by omega) hxf (fun t ht=>?_) (by rw[RL];omega);rcases Si.1 ht with h|h
     ·exact ha t h
     ·exact As.1 t h
theorem Good.lv {t:Ty}{b:Bd}(h:Good t b):lvB b:=
 fit_lv 200 b t.args h.size h.fit (zo h.atoms).1 (by have:=(zo h.atoms).2;omega)
theorem xM:∀bs:List Bd,VH [32] (bs.map kZ)=kT bs
 |[]=>rfl
 | b::bs=>by
   have:=xM bs;simp only[VH,Sa,List.flatten_cons]at this ⊢;rw[this,kT]
theorem textB_join (v:Nat)(ss:List Bd)(y n:Bd):kZ (.ask v ss y n)=[40]++Ws (dec v::(ss++[y,n]).map kZ) [32]++[41]:=by
 rw[Vw,xM,vg,kZ,kT,kT,kT];simp
def ml (b:Bd):Prop:=∀(F:Nat->Prop) (w:World) (v:Value),uC w->Rep F w (kM b) v->
 Calls RG 15 #[v] w fun en w'=>en=.returned (str (kZ b))/\No w w'
theorem Tryz.infoStrA:(RG.info? 9).map (fun i=>(i.zero,i.size,i.bytes))=OK (OK (str []),1,16):=by kernel_rfl
theorem Own.strings {w:World}{e:TypeId}{v:Value}{n:Nat}{ts:List Bs}(h:Own w e 1 v n (ts.map str))(hn:0<n) :
 ∃g cap,v=.slice (OK ⟨g,0,U⟩) n cap/\n<=cap/\g<(w:Nat)/\ts.length=n/\∀(j:Nat) (x:ByteArray),(ts.map fun t=>(⟨t.toArray⟩:ByteArray))[j]?=OK x->w (g,0+j)=OK (.string x):=by
 have hl:=h.1;rcases h.2 with ⟨_,h0⟩|⟨g,cap,cur,rfl,_,hg,og,_,aP,ht⟩
 ·omega
 ·refine⟨g,cap,rfl,og,zZ hg,by simpa using hl,fun j x hj=>?_⟩;rw[S5,RP]at hj;obtain⟨t,ht1,rfl⟩:=hj;have h1:(ts.map str)[j]?=str t:=by rw[S5,ht1];rfl
  rw[<- ht,Su]at h1;split at h1
  ·rw[Nat.zero_add];simp only[RE,hg];simpa using h1
  ·simp at h1
structure TInv (lv:Nat)(ps:List Bd)(w w2 w4:World)(k:Nat)(v:Value)(wr:World):Prop where
 own:Own wr 9 1 v (k+1) ((dec lv::(ps.take k).map kZ).map str)
 bel:No w wr
 but:But (· = w2) w4 wr
 fr:∀g,v.ownBlock=OK g->g=(w2:Nat)\/(w4:Nat)<=g
theorem text_step (b:Bd)(hl:zG b<=100000)(iT:lvB b)(ih:∀t,zG t<zG b->lvB t->ml t):ml b:=by
 intro F w v hg hv;have IH:=r9 ih;clear ih;cases b with
 | leaf c =>
   obtain⟨a0,sl,rfl,_,sW,_⟩:=xu hv;have r0:w a0=OK (str [c]):=by simp[RE,sW]
   have CL:=r9 (ur F w c _ hv);clear sW hv;go_enter Xd,WJ;go_wp2_with fail
   (with_reducible refine CL.out.mono ?_);rintro en w3 ⟨rfl,rfl⟩
   go_wp2_with fail
   go_ret;exact⟨by rw[kZ];rfl,sQ _ _⟩
 | ask lv ss y no =>
   obtain⟨a0,sl,yv,nv,rfl,_,sW,_⟩:=uL hv;have r1:w (a0,1)=OK (.int RD (lv:Nat)):=by simp[RE,sW]
   have IK:=zZ sW;have CL:=r9 (yx F w lv ss y no _ hv);have AF:=iT;rw[lvB]at AF;have hlv1:=AF.1;have C1:Calls RG 28 #[(lv:Int)] w fun en w'=>en=.returned (str (dec lv))/\No w w':=by
    have:=rZ (lv:Nat) w hg (by omega) (by omega);rwa [itoaNat]at this
   have C1:=r9 C1;have HP:=r9 (r_ hv (r_ hg (r_ iT hl)));clear hv hg iT hl sW AF;go_enter Xd,WJ;go_wp2_with fail
   (with_reducible refine CL.out.mono ?_);rintro en w1 ⟨rfl,e⟩
   subst w1;go_wp2_with fail
   (with_reducible refine C1.out.mono ?_);rintro en w2 ⟨rfl,sY⟩
   have iJ:No w (w2.alloc (.cells #[str (dec lv)] 9)):=sY.alloc sY.size _;have iP:=sY.size;have hvA:Rep (fun i=>F i/\i<w) (w2.alloc (.cells #[str (dec lv)] 9)) (kM (.ask lv ss y no)) (.pointer (OK ⟨a0,0,U⟩)):=Rep.below iJ (fun _ h=>h) (Rep.low HP.out.1);have CP:=r9 (ed _ _ _ _ hvA (by have:=HP.out.2.2.2;unfold Lim;omega));have hp:kr (.ask lv ss y no)=ss++[y,no]:=rfl;unfold b7 at CP;rw[hp]at CP;have tV:zI (ss++[y,no])+1=zG (.ask lv ss y no):=by rw[jp,zG,zI,zI,zI];omega
   have ah:∀b∈ss++[y,no],lvB b:=by
    have:=HP.out.2.2.1;rw[lvB]at this;intro b hb;rcases Si.1 hb with h|h
    ·obtain⟨k,hk⟩:=VG.1 h;exact mA _ this.2.1 k b hk
    ·simp at h;rcases h with rfl|rfl
     ·exact this.2.2.1
     ·exact this.2.2.2
   have KQ:=textB_join lv ss y no;have AZ:kT (ss++[y,no])=VH [32] ((ss++[y,no]).map kZ):=(xM _).symm;have PK:=ye (ss++[y,no]) (lvBs_of _ ah);have Ql:(dec lv).length<=5:=vP 4 lv (by omega);have hb100:=HP.out.2.2.2;have KG:=Own.litAt (w:=w2) (e:=9) (size:=1) #[str (dec lv)] 1 _ rfl (by decide) rfl;generalize hpp:ss++[y,no]=ps at *;have HQ:=r9 (r_ tV (r_ ah (r_ KQ (r_ AZ (r_ PK (r_ iJ KG))))));clear tV ah KQ AZ PK iJ hvA sY KG hp hpp;go_wp2_with fail
   (with_reducible refine CP.out.mono ?_);rintro en w4 ⟨pv,rfl,sO,hp4⟩
   obtain⟨pa,pc,e,_,_,sG⟩:=zH hp4;subst e;have L3:=sO.size;rw[zK]at L3;have NA:=HQ.out.1;have Pq:=qI ps;have BW:=r9 (r_ sO sG);clear sO hp4 sG NA;have Aa:ps.length<=100000:=by have:=HQ.out.1;omega
   clear Pq;go_wp2_with fail
   go_loopw [3,22] (fun o i wr=>∃k:Nat,k<=ps.length/\i=.int RD k/\TInv lv ps w w2 w4 k o wr) (fun _ i _=>ps.length-(intOf i).toNat)
   case atStart=>
    refine⟨0,R6 _,rfl,?_,HQ.out.2.2.2.2.2.1.trans (BW.out.1.mono (by rw[zK];omega)),But.refl _ _,fun g hg=>.inl ?_⟩
    ·exact HQ.out.2.2.2.2.2.2.keep fun g o hg hh=>by rw[BW.out.1.block g (zZ hh)];exact hh
    ·simp[RM]at hg;omega
   case round=>
    rename_i wr;obtain⟨k,hk,rfl,sN⟩:=hrel;obtain⟨sa,sc,e⟩:=sN.own.slice;subst e;have HI:=r9 sN;clear sN;by_cases sC:k<ps.length
    ·obtain⟨ba,oa,u,d,ea,GD,MW,hd,hu,hr⟩:=BW.out.2 k sC;subst ea;rw[yC,RP]at hd;obtain⟨t,ht,rfl⟩:=hd;obtain⟨ta,eu⟩:=zg hr;subst eu;have hne:ba≠w2:=by
      rcases GD with h|h
      ·have:=h.2;omega
      ·rw[zK]at h;omega
     have hc:wr (ba,oa+k)=OK (.pointer (OK ⟨ta,0,U⟩)):=(HI.out.but.cell MW hne).trans hu;have o_:Rep (fun _=>True) wr (kM t) (.pointer (OK ⟨ta,0,U⟩)):=by
      refine(Rep.keep fun b o hf hh=>⟨trivial,?_⟩).1 _ _ hr;rw[HI.out.but.block b (zZ hh) (fun e=>?_)]
      ·exact hh
      ·have e:b=w2:=e;rcases hf with h|h
       ·have:=h.2;omega
       ·rw[zK]at h;omega
     have aF:=RX ht;have FG:zG t<zG (.ask lv ss y no):=by have:=uZ aF;have:=HQ.out.1;omega
     have IH':=r9 (IH.out t FG (HQ.out.2.1 t aF) _ wr _ (HP.out.2.1.below HI.out.bel) o_);have HT:=r9 ht;clear ht hu hr o_ aF;go_wp2_with fail
     (with_reducible refine IH'.out.mono ?_);rintro en w5 ⟨rfl,sx⟩
     have DW:=r9 sx;clear sx;go_wp2_with (at_builtin;refine zF rfl _ _ 22 rfl 9 (str []) 1 16 Tryz.underlying22 Tryz.infoStrA rfl (by decide) (.slice sa (k+1) sc) (k+1) ((dec lv::(ps.take k).map kZ).map str) rfl ?c1 _ 1 [str (kZ t)] rfl ?c2 ?c3 ?c4 ?_)
     case c1=>exact(HI.out.own.keep fun g o hg hh=>by rw[DW.out.block g (zZ hh)];exact hh).alloc _
     case c2=>exact zz.lit1 #[str (kZ t)] rfl (by simp[R4,str]) _ (by simp)
     case c3=>unfold maxLen;omega
     case c4=>omega
     intro a7 c7 w7 sj sH sS;have FE:=DW.out.size;have OA:=HI.out.bel.size;have Oz:=HI.out.but.size;have hN:TInv lv ps w w2 w4 (k+1) (.slice a7 (k+1+1) c7) w7:=by
      have KX:∀g,(RI sa (k+1) sc).ownBlock=OK g->(w:Nat)<=g/\(g=(w2:Nat)\/(w4:Nat)<=g):=fun g hg=>by
       have:=HI.out.fr g hg;exact⟨by omega,this⟩
      refine⟨?_,?_,?_,fun g hg=>?_⟩
      ·have:=sj;simpa[Sd,HT.out,List.map_take] using this
      ·exact((HI.out.bel.trans (DW.out.mono OA)).alloc (by omega) _).trans (sH.toBelow (by rw[zK];omega) fun i hi e=>by have:=KX i e;omega)
      ·refine But.trans' ((HI.out.but.trans (But.ofBelow DW.out)).alloc _) sH fun i hi e=>?_;have h1:=(KX i e).2;rcases h1 with h|h
       ·exact h
       ·omega
      ·rcases sS g hg with h|h
       ·exact(KX g h).2
       ·exact .inr (by omega)
     have HN:=r9 hN;clear hN sj sH sS;go_wp2_with fail
     go_roundw
     case rel=>exact⟨k+1,by omega,by go_num,HN.out⟩
     case measure=>simp[intOf];omega
    ·obtain rfl:k=ps.length:=by omega
     have ho:=HI.out.own;rw[R8]at ho;obtain⟨g,cap,e,aj,hglt,hlen,Iu⟩:=ho.strings (by omega);simp only[Value.slice.injEq]at e;obtain⟨rfl,_,rfl⟩:=e;have oY:((dec lv::ps.map kZ).map fun t=>(⟨t.toArray⟩:ByteArray)).length=ps.length+1:=by simp
     have hxm:(((dec lv::ps.map kZ).map fun t=>(⟨t.toArray⟩:ByteArray)).map (·.data.toList))=dec lv::ps.map kZ:=by simp[Function.comp_def]
     have Mh:(⟨#[32]⟩:ByteArray).data.toList=[32]:=rfl
     have CJ:=Tryz.strings_Join g 0 sc ((dec lv::ps.map kZ).map fun t=>(⟨t.toArray⟩:ByteArray)) ⟨#[32]⟩ wr Iu hglt (by rw [oY];omega) (by rw [oY];omega) (by
      rw [hxm,Mh,Vw,RL,<- HQ.out.2.2.2.1];have:=HQ.out.2.2.2.2.1;have:=HQ.out.1;omega)
     rw[oY,hxm,Mh]at CJ;have CJ:=r9 CJ;have HJ:=r9 HQ.out.2.2.1;have Je:(Ws (dec lv::ps.map kZ) [32]).length<=2000000:=by
      rw[Vw,RL,<- HQ.out.2.2.2.1];have:=HQ.out.2.2.2.2.1;have:=HQ.out.1;omega
     clear ho Iu oY hxm Mh;generalize hjn:Ws (dec lv::ps.map kZ) [32]=jn at *;go_wp2_with fail
     (with_reducible refine CJ.out.mono ?_);rintro en w8 ⟨rfl,aw⟩
     have HB8:=r9 (zzT HI.out.bel aw);clear aw;go_wp2_with fail
     go_ret;refine⟨?_,HB8.out⟩;rw[HJ.out];have e1:=str_add [40] jn;have e2:=str_add ([40]++jn) [41];show Ending.returned (.string ((⟨([40]:Bs).toArray⟩++⟨jn.toArray⟩)++⟨([41]:Bs).toArray⟩))=_;rw[e1,e2]
theorem text_any (n:Nat):∀b,zG b<=n->n<=100000->lvB b->ml b:=by
 induction n with
 |zero=>intro b h _;have:=kQ b;omega
 |succ n ih=>exact fun b h hn iT=>text_step b (by omega) iT (fun t h' Ar=>ih t (by omega) (by omega) Ar)
structure gY (w:World)(P:Nat)(o:Value->Obj)(e:TypeId)(sz k:Nat)(cs:List DV)(sv:Value)(us:List Value)(wr:World):Prop where
 below:Below P w wr
 blk:wr.heap[P]?=OK (o sv)
 own:Own wr e sz sv k us
 rep:zY (fun i=>P<i/\sv.ownBlock≠OK i) wr cs us
 fr:∀g,sv.ownBlock=OK g->P<g
theorem gY.start {w:World}{P:Nat}{o:Value->Obj}{e:TypeId}{sz:Nat}(h:w.heap[P]?=OK (o ())):gY w P o e sz 0 [] () [] w:=
 ⟨sQ _ _,h,Sf _ _ _ _,by rw[zE],fun g hg=>by simp[RM]at hg⟩
theorem gY.slice {w:World}{P:Nat}{o:Value->Obj}{e:TypeId}{sz k:Nat}{cs:List DV}{sv:Value}{us:List Value}{wr:World}(h:gY w P o e sz k cs sv us wr):∃a c,sv=.slice a k c:=h.own.slice
theorem gY.next {w:World}{P:Nat}{o:Value->Obj}{e:TypeId}{sz k:Nat}{cs:List DV}{sv:Value}{us:List Value}{wr:World}(h:gY w P o e sz k cs sv us wr){w6 w7 w8:World}{ob:Obj}{ds:List DV}{news:List Value}{sv':Value}(sM:No wr w6)(iU:zY (fun i=>wr<=i) w6 ds news)(sj:Own w7 e sz sv' (k+1) (us++news))(sH:But (fun b=>sv.ownBlock=OK b) (w6.alloc ob) w7)(sS:∀g,sv'.ownBlock=OK g->sv.ownBlock=OK g\/g=(w6.alloc ob).heap.size)(h8:w8.heap[P]?=OK (o sv'))(aw:But (fun b=>b=P) w7 w8):gY w P o e sz (k+1) (cs++ds) sv' (us++news) w8:=by
 have hz6:=sM.size;have Ny:=sH.size;rw[zK]at Ny;have M9:=zZ h.blk;have Dg:∀i,sv.ownBlock=OK i->P<i/\i<(wr:Nat):=fun i e=>⟨h.fr i e,h.own.lt e⟩;have past:∀(i:Nat) (x:Obj),i≠P->sv.ownBlock≠OK i->w6.heap[i]?=OK x->w8.heap[i]?=OK x:=fun i x h1 h2 hx=>by
  have hl:=zZ hx;rw[aw.block i (by omega) h1,sH.block i (by rw[zK];omega) h2,Below.heap_alloc _ _ _ hl];exact hx
 have tS:∀g,sv'.ownBlock=OK g->sv.ownBlock=OK g\/(w6:Nat)<g:=fun g hg=>by
  rcases sS g hg with e|e
  ·exact .inl e
  ·rw[zK]at e;exact .inr (by omega)
 refine⟨?_,h8,sj.keep fun g x hg hx=>?_,zY.append ?_ ?_,fun g hg=>?_⟩
 ·have h1:Below P w (w6.alloc ob):=(h.below.trans (sM.mono (Xe M9))).alloc (by omega) _;have h2:Below P w w7:=h1.trans (sH.toBelow (by rw[zK];omega) fun i hi e=>by have:=Dg i e;omega);exact h2.trans (aw.toBelow (by omega) fun i hi e=>by omega)
 ·rw [aw.block g (zZ hx) (fun e=>by rcases tS g hg with e' | e';· have:=Dg g e';omega
                                    ·omega)];exact hx
 ·have hk:∀i x,(P<i/\sv.ownBlock≠OK i)->wr.heap[i]?=OK x->(P<i/\sv'.ownBlock≠OK i)/\w8.heap[i]?=OK x:=fun i x hi hx=>by
   refine⟨⟨hi.1,fun e2=>?_⟩,past i x (by omega) hi.2 (by rw[sM.block i (zZ hx)];exact hx)⟩;rcases tS i e2 with e'|e'
   ·exact hi.2 e'
   ·have:=zZ hx;omega
  exact(Rep.keep hk).2 _ _ h.rep
 ·have hk:∀i x,(wr:Nat)<=i->w6.heap[i]?=OK x->(P<i/\sv'.ownBlock≠OK i)/\w8.heap[i]?=OK x:=fun i x hi hx=>by
   refine⟨⟨by omega,fun e2=>?_⟩,past i x (by omega) (fun e2=>by have:=Dg i e2;omega) hx⟩;rcases tS i e2 with e'|e'
   ·have:=Dg i e';omega
   ·have:=zZ hx;omega
  exact(Rep.keep hk).2 _ _ iU
 ·rcases tS g hg with e'|e'
  ·exact h.fr g e'
  ·omega
theorem gY.own6 {w:World}{P:Nat}{o:Value->Obj}{e:TypeId}{sz k:Nat}{cs:List DV}{sv:Value}{us:List Value}{wr:World}(h:gY w P o e sz k cs sv us wr){w6:World}(sM:No wr w6)(ob:Obj):Own (w6.alloc ob) e sz sv k us:=
 (h.own.keep (w':=w6) fun g _ _ hx=>by rw[sM.block g (zZ hx)];exact hx).alloc ob
theorem gY.not {w:World}{P:Nat}{o:Value->Obj}{e:TypeId}{sz k:Nat}{cs:List DV}{sv:Value}{us:List Value}{wr:World}(h:gY w P o e sz k cs sv us wr):¬sv.ownBlock=P:=fun e=>by have:=h.fr P e;omega
theorem gY.sl {w:World}{P:Nat}{o:Value->Obj}{e:TypeId}{sz k:Nat}{cs:List DV}{sv:Value}{us:List Value}{wr:World}(h:gY w P o e sz k cs sv us wr):Rep (fun i=>P<i) wr (.sl e sz k cs) sv:=
 h.own.rep (fun g hg=>h.fr g hg) ((Rep.keep fun _ _ hi hx=>⟨hi.1,hx⟩).2 _ _ h.rep)
theorem uH (w:World)(P f:Nat)(u:Value):But (fun b=>b=P) w (w.setCell (P,f) u):=(But.refl (fun b=>b=P) w).setCell (p:=(P,f)) (.inl rfl) u
theorem gY.cell7 {w:World}{P:Nat}{o:Value->Obj}{e:TypeId}{sz k:Nat}{cs:List DV}{sv:Value}{us:List Value}{wr:World}(h:gY w P o e sz k cs sv us wr){w6 w7:World}{ob:Obj}(sM:No wr w6)(sH:But (fun b=>sv.ownBlock=OK b) (w6.alloc ob) w7) :
 w7.heap[P]?=OK (o sv):=by
 have M9:=zZ h.blk;have:=sM.size;rw[sH.block P (by rw[zK];omega) h.not,Below.heap_alloc _ _ _ (by omega),sM.block P M9];exact h.blk
theorem etas_take {ts:List Ty}{k:Nat}{t:Ty}(h:ts[k]?=OK t)(v n:Nat):uw (ts.take (k+1)) v n=uw (ts.take k) v n++[eta t (v+k) n]:=by
 induction ts generalizing k v with
 |nil=>simp at h
 | cons a ts ih =>
   cases k with
   |zero=>simp at h;subst h;simp[uw]
   | succ k =>
     simp only[RW]at h;simp only[List.take_succ_cons,uw,R5];rw[ih h,show v+1+k=v+(k+1) from by omega]
theorem arg_atoms {t a:Ty}{k:Nat}(h:t.args[k]?=OK a):1+zU a<=zU t:=by
 have key:∀(ts:List Ty) (k:Nat),ts[k]?=OK a->1+zU a<=zc ts:=by
  intro ts
  induction ts with
  |nil=>intro k h;simp at h
  | cons x xs ih =>
    intro k h;rw[zc];cases k with
    |zero=>simp at h;subst h;omega
    |succ k=>have:=ih k (by simpa using h);omega
 cases t with
 |mk ts=>rw[zU];have:=key ts k h;omega
theorem gx {B b:Nat}{w:World}{c:UInt8}(h:w.heap[b]?=OK (.cells #[str [c],.int RD 0,(),.pointer U,.pointer U] 71 (0,0)))(hB:B<=b):Rep (fun i=>B<=i) w (kM (.leaf c)) (.pointer (OK ⟨b,0,U⟩)):=by
 rw[kM,jx];refine⟨_,_,rfl,hB,h,?_⟩;exact zQ.2 ⟨_,_,rfl,zC.2 rfl,zQ.2 ⟨_,_,rfl,zC.2 rfl,zQ.2 ⟨_,_,rfl,zv.2 ⟨rfl,U,0,rfl,sZ _,fun _=>rfl,.inl rfl⟩,zQ.2 ⟨_,_,rfl,zC.2 rfl,zQ.2 ⟨_,_,rfl,zC.2 rfl,zE.2 rfl⟩⟩⟩⟩⟩
def wk (v:Nat)(yv nv sv:Value):Obj:=.cells #[str [],(v:Int),sv,yv,nv] 71 (0,0)
theorem copyOf_any (m:Nat):∀(t:Ty),zU t<=m->zU t<=15->∀(F:Nat->Prop) (kv:Value) (v n:Nat) (w:World),Rep F w (jk t) kv->v<=1000000->n+16*zU t<=1000000->
 Calls RG 80 #[kv,(v:Int),(n:Int)] w fun en w'=>∃b,en=.returned (.pointer (OK ⟨b,0,U⟩))/\No w w'/\Rep (fun i=>w<=i) w' (kM (eta t v n)) (.pointer (OK ⟨b,0,U⟩)):=by
 induction m with
 |zero=>intro t h;cases t;rw[zU]at h;omega
 |succ m ih=>
 intro t hm sT F kv v n w hk hv hn;have IH:=r9 ih;obtain⟨kb,ks,e,hkF,ic,Bv⟩:=zh hk;subst e;obtain⟨ka,kc,e,_,_,DD⟩:=zH Bv;subst e;have MB:=(zo sT).2;have sG:=r9 (zo sT).1;have il:=zZ ic;have Fc:w kb=OK (.slice ka t.args.length kc):=by simp[RE,ic]
 have HA:=r9 DD;obtain⟨W,hW⟩:=zzN (((w.alloc (.cells #[str [116],.int RD 0,(),.pointer U,.pointer U] 71)).alloc (.cells #[str [102],.int RD 0,(),.pointer U,.pointer U] 71)).alloc (.cells #[str [],(v:Int),(),w,(w+1:Nat)] 71));have iV:(W:Nat)=w+3:=by rw[<- hW];simp only[zK]
 have sF:No w W:=by rw[<- hW];exact(((sQ _ _).alloc (sZ _) _).alloc (by simp only[zK];omega) _).alloc (by simp only[zK];omega) _
 have bT:W.heap[(w:Nat)]?=OK (.cells #[str [116],.int RD 0,(),.pointer U,.pointer U] 71 (0,0)):=by rw[<- hW];exact zJ (zJ (zW _ _))
 have bF:W.heap[(w:Nat)+1]?=OK (.cells #[str [102],.int RD 0,(),.pointer U,.pointer U] 71 (0,0)):=by
  rw[<- hW];refine zJ ?_;have:=zW (w.alloc (.cells #[str [116],.int RD 0,(),.pointer U,.pointer U] 71)) (.cells #[str [102],.int RD 0,(),.pointer U,.pointer U] 71);rwa [zK]at this
 have bO:W.heap[(w:Nat)+2]?=OK (wk v (.pointer (OK ⟨w,0,U⟩)) (.pointer (OK ⟨w+1,0,U⟩)) ()):=by
  rw[<- hW];have:=zW ((w.alloc (.cells #[str [116],.int RD 0,(),.pointer U,.pointer U] 71)).alloc (.cells #[str [102],.int RD 0,(),.pointer U,.pointer U] 71)) (.cells #[str [],(v:Int),(),w,(w+1:Nat)] 71);simp only[zK]at this;exact this
 have HW:=r9 (r_ hW (r_ iV (r_ sF (r_ bT (r_ bF bO)))));clear hW iV sF bT bF bO Bv ic DD ih hk;go_enter Tryz.func80,Tryz.ntmps80;go_upto_region 2 with (fail)
 rw[HW.out.1];have hk0W:W kb=OK (.slice ka t.args.length kc):=(HW.out.2.2.1.cell il).trans Fc;go_wp2_with fail
 go_loopw [22] (fun i wr=>∃(k:Nat) (sv:Value) (us:List Value),k<=t.args.length/\i=.int RD k/\gY W ((w:Nat)+2) (wk v (.pointer (OK ⟨w,0,U⟩)) (.pointer (OK ⟨w+1,0,U⟩))) 34 1 k (qH (uw (t.args.take k) n (n+t.args.length))) sv us wr) (fun i _=>t.args.length-(intOf i).toNat)
 case atStart=>exact⟨0,_,_,R6 _,rfl,by simpa[uw,qH] using gY.start HW.out.2.2.2.2.2⟩
 case round=>
  rename_i wr;obtain⟨k,sv,us,hk,rfl,sN⟩:=hrel;obtain⟨sa,sc,e⟩:=sN.slice;subst e;have sW:wr.heap[(w:Nat)+2]?=OK (.cells #[str [],(v:Int),.slice sa k sc,w,(w+1:Nat)] 71 (0,0)):=sN.blk;have iV:=HW.out.2.1;have tY:No w wr:=HW.out.2.2.1.trans (sN.below.mono (by omega));obtain⟨y0,y1,y2,y3,y4,yf⟩:=p9 sW;have Cf:wr kb=OK (.slice ka t.args.length kc):=(tY.cell il).trans Fc;have HI:=r9 (r_ sN (r_ sW tY));clear sN sW tY;by_cases sC:k<t.args.length
  ·have tB:(k:Int)<(t.args.length:Int):=by omega
   obtain⟨D0,FD,u2,d2,e,Lb,Kr,K4,oI,tq⟩:=HA.out k sC;subst e;rw[yH,RP]at K4;obtain⟨a,ha,rfl⟩:=K4;obtain⟨kab,s2,rfl,_,_,_⟩:=zh tq;have D9:zU a<=15:=sG.out a (RX ha);have As:1+zU a<=zU t:=arg_atoms ha;have q2:wr (D0,FD+k)=OK (.pointer (OK ⟨kab,0,U⟩)):=(HI.out.2.2.cell Kr).trans oI;have CC:=IH.out a (by omega) D9 F (.pointer (OK ⟨kab,0,U⟩)) (n+k) (n+t.args.length) wr.drew ((Rep.below HI.out.2.2 (fun _ h=>h) tq).drew) (by omega) (by omega);rw[S_,S_]at CC;have CC:=r9 CC;have lM:=etas_take ha n (n+t.args.length);have HK:=r9 (r_ ha lM);clear ha tq lM oI;have Lh:=r9 (r_ (show IntKind.i64.wrap ((n:Int)+(k:Int))=(n:Int)+(k:Int) from IntWalk.i64_in _ (by omega)) (show IntKind.i64.wrap ((n:Int)+(t.args.length:Int))=(n:Int)+(t.args.length:Int) from IntWalk.i64_in _ (by omega)));have SX:Hid (∀w',But (fun i=>(RI sa k sc).ownBlock=OK i) wr w'->w' ((w:Nat)+2,2)=OK (.slice sa k sc)/\w' kb=OK (.slice (D0,FD) t.args.length kc)):=by
    show ∀w',_->_;intro w' sA;exact⟨(sA.cell (sK wr _ y2) HI.out.1.not).trans y2,(sA.cell (sK wr _ Cf) (fun e=>by have h1:=HI.out.1.fr _ e;have h1:w+2<kb:=h1;omega)).trans Cf⟩
   have oP:k+1<=maxLen:=by unfold maxLen;omega
   have aI:(k+1)*8<=140737488355328:=by omega
   clear y0 y1 y3 y4 yf;go_wp2_with fail
   refine rS (fun w'=>But (fun i=>(RI sa k sc).ownBlock=OK i) wr w') (fun i=>i == 21) ((But.refl _ wr).drew) fun sP=>?_;refine tk [0,1,2,3,4,5,6,7,8,9,10,11,12,13,14] sP ?_;(intro d hd;simp[tkD]at hd;subst hd;simp only[tks,pQ,pZ,pS]);iterate 15 (refine⟨?_,?_,?_⟩;rotate_left;· (intro oi ho;simp at ho;subst ho;refine Or.inl ⟨by rfl,fun w' sL=>?_⟩;obtain⟨e0,e1⟩:=SX.out w' sL;have lF:=Lh.out.1;go_simp;try with_reducible rfl))
   refine tC [15] sP ?_;refine tl (fun w' sL=>Lh.out.2) ?_;refine tz ?_;(refine on 16 ?_;intro o ho K' hK;simp at ho;subst ho;go_simp);go_at_call 80;(with_reducible refine CC.out.mono ?_);rintro Fu w6 ⟨vb,rfl,sM,iU⟩;have aL:No wr w6:=(Below.drew (sQ _ _)).trans sM;have aK:Hid (But (fun i=>(RI sa k sc).ownBlock=OK i) wr w6):=But.ofBelow aL;have tM:=HI.out.1.own6 aL (.cells #[vb] 34);have H6:=r9 (r_ aL iU);clear sM iU aL;(refine hK.out _ _ (fun _=>aK.out) ?_;clear hK K';try simp only[pQ,pN,pZ,pS]);refine oC 17 (aK.out.alloc _) ?_;(refine on 18 ?_;intro o ho K' hK;simp at ho;subst ho);refine zL (by rfl) _ _ _ (by rfl) 34 (.pointer U) 1 8 Tc Tryz.infoB rfl (by decide) (.slice sa k sc) k us (by rfl) tM _ 1 [.pointer (OK ⟨vb,0,U⟩)] (by rfl) (zz.lit1 #[.pointer (OK ⟨vb,0,U⟩)] rfl (by simp[R4]) _ (by rfl)) oP aI ?_;intro a' c' w7 sj sH sS;(refine hK.out _ _ (fun _=>(aK.out.alloc _).trans sH) ?_;clear hK K';try simp only[pQ,pN,pZ,pS]);have aB:=HI.out.1.cell7 H6.out.1 sH;have i9:w7 ((w:Nat)+2,2)=OK (.slice sa k sc)/\w7.frozen? ((w:Nat)+2,2)=false:=by rw[wk]at aB;exact⟨by simp[RE,aB],by simp[RO,aB]⟩
   obtain⟨CU,ll⟩:=i9;have Dd:=r9 aB;clear aB;refine oC 19 ((aK.out.alloc _).trans sH) ?_;refine oC 20 ((aK.out.alloc _).trans sH) ?_;refine oB 21 (fun h=>by simp at h) ?_;refine zX (by kernel_rfl) (RQ ?_) _;have hX:=HI.out.1.next (w8:=w7.setCell ((w:Nat)+2,2) (.slice a' (k+1) c')) H6.out.1 (zY.one H6.out.2) sj sH sS (by rw[zT Dd.out];rfl) (uH _ _ _ _);have ia:qH (uw (t.args.take k) n (n+t.args.length))++[kM (eta a (n+k) (n+t.args.length))]=qH (uw (t.args.take (k+1)) n (n+t.args.length)):=by rw[HK.out.2,pr]
   rw[ia]at hX;have HN:=r9 hX;clear hX ia sj sH sS sP tM CU ll;go_wp2_with fail
   go_roundw
   case rel=>exact⟨k+1,_,_,by omega,by go_num,HN.out⟩
   case measure=>simp[intOf];omega
  ·obtain rfl:k=t.args.length:=by omega
   clear y0 y1 y2 y3 y4 yf;go_wp2_with fail
   go_ret;refine⟨w+2,rfl,HI.out.2.2,?_⟩;have tt:=HI.out.1.sl;rw[R8]at tt;rw[eta_eq,kM,wD,jx];have bT:=(HI.out.1.below.block w (by omega)).trans HW.out.2.2.2.1;have bF:=(HI.out.1.below.block ((w:Nat)+1) (by omega)).trans HW.out.2.2.2.2.1;refine⟨_,_,rfl,by show (w:Nat)<=w+2;omega,HI.out.2.1,?_⟩;refine zQ.2 ⟨_,_,rfl,zC.2 rfl,zQ.2 ⟨_,_,rfl,zC.2 rfl,zQ.2 ⟨_,_,rfl,tt.weak fun i (h:w+2<i)=>by show w<=i;omega,zQ.2 ⟨_,_,rfl,gx bT (sZ _),zQ.2 ⟨_,_,rfl,gx bF (by omega),zE.2 rfl⟩⟩⟩⟩⟩
structure jl (F0:Nat->Prop)(w:World)(P:Nat)(o:Value->Obj)(e:TypeId)(sz k:Nat)(cs:List DV)(sv:Value)(us:List Value)(wr:World):Prop where
 below:Below P w wr
 blk:wr.heap[P]?=OK (o sv)
 own:Own wr e sz sv k us
 rep:zY (fun i=>(F0 i\/P<i)/\sv.ownBlock≠OK i) wr cs us
 fr:∀g,sv.ownBlock=OK g->P<g
theorem jl.start {F0:Nat->Prop}{w:World}{P:Nat}{o:Value->Obj}{e:TypeId}{sz:Nat}(h:w.heap[P]?=OK (o ())):jl F0 w P o e sz 0 [] () [] w:=
 ⟨sQ _ _,h,Sf _ _ _ _,by rw[zE],fun g hg=>by simp[RM]at hg⟩
theorem jl.slice {F0:Nat->Prop}{w:World}{P:Nat}{o:Value->Obj}{e:TypeId}{sz k:Nat}{cs:List DV}{sv:Value}{us:List Value}{wr:World}(h:jl F0 w P o e sz k cs sv us wr):∃a c,sv=.slice a k c:=h.own.slice
theorem jl.next {F0:Nat->Prop}{w:World}{P:Nat}{o:Value->Obj}{e:TypeId}{sz k:Nat}{cs:List DV}{sv:Value}{us:List Value}{wr:World}(h:jl F0 w P o e sz k cs sv us wr)(hF0:∀i,F0 i->i<P){w6 w7 w8:World}{ob:Obj}{ds:List DV}{news:List Value}{sv':Value}(sM:No wr w6)(iU:zY (fun i=>F0 i\/(wr:Nat)<=i) w6 ds news)(sj:Own w7 e sz sv' (k+1) (us++news))(sH:But (fun b=>sv.ownBlock=OK b) (w6.alloc ob) w7)(sS:∀g,sv'.ownBlock=OK g->sv.ownBlock=OK g\/g=(w6.alloc ob).heap.size)(h8:w8.heap[P]?=OK (o sv'))(aw:But (fun b=>b=P) w7 w8):jl F0 w P o e sz (k+1) (cs++ds) sv' (us++news) w8:=by
 have hz6:=sM.size;have Ny:=sH.size;rw[zK]at Ny;have M9:=zZ h.blk;have Dg:∀i,sv.ownBlock=OK i->P<i/\i<(wr:Nat):=fun i e=>⟨h.fr i e,h.own.lt e⟩;have past:∀(i:Nat) (x:Obj),i≠P->sv.ownBlock≠OK i->w6.heap[i]?=OK x->w8.heap[i]?=OK x:=fun i x h1 h2 hx=>by
  have hl:=zZ hx;rw[aw.block i (by omega) h1,sH.block i (by rw[zK];omega) h2,Below.heap_alloc _ _ _ hl];exact hx
 have tS:∀g,sv'.ownBlock=OK g->sv.ownBlock=OK g\/(w6:Nat)<g:=fun g hg=>by
  rcases sS g hg with e|e
  ·exact .inl e
  ·rw[zK]at e;exact .inr (by omega)
 refine⟨?_,h8,sj.keep fun g x hg hx=>?_,zY.append ?_ ?_,fun g hg=>?_⟩
 ·have h1:Below P w (w6.alloc ob):=(h.below.trans (sM.mono (Xe M9))).alloc (by omega) _;have h2:Below P w w7:=h1.trans (sH.toBelow (by rw[zK];omega) fun i hi e=>by have:=Dg i e;omega);exact h2.trans (aw.toBelow (by omega) fun i hi e=>by omega)
 ·rw [aw.block g (zZ hx) (fun e=>by rcases tS g hg with e' | e';· have:=Dg g e';omega
                                    ·omega)];exact hx
 ·have hk:∀i x,((F0 i\/P<i)/\sv.ownBlock≠OK i)->wr.heap[i]?=OK x->((F0 i\/P<i)/\sv'.ownBlock≠OK i)/\w8.heap[i]?=OK x:=fun i x hi hx=>by
   refine⟨⟨hi.1,fun e2=>?_⟩,past i x (by rcases hi.1 with h|h;have:=hF0 i h;omega;omega) hi.2 (by rw[sM.block i (zZ hx)];exact hx)⟩;rcases tS i e2 with e'|e'
   ·exact hi.2 e'
   ·have:=zZ hx;omega
  exact(Rep.keep hk).2 _ _ h.rep
 ·have hk:∀i x,(F0 i\/(wr:Nat)<=i)->w6.heap[i]?=OK x->((F0 i\/P<i)/\sv'.ownBlock≠OK i)/\w8.heap[i]?=OK x:=fun i x hi0 hx=>by
   have hi:F0 i/\i<P\/wr<=i:=hi0.elim (fun h=>.inl ⟨h,hF0 i h⟩) .inr;refine⟨⟨hi0.elim .inl (fun h=>.inr (by omega)),fun e2=>?_⟩,past i x (by rcases hi with h|h;have:=h.2;omega;omega) (fun e2=>by have:=Dg i e2;rcases hi with h|h;have:=h.2;omega;omega) hx⟩;rcases tS i e2 with e'|e'
   ·have:=Dg i e';rcases hi with h|h;have:=h.2;omega;omega
   ·have:=zZ hx;omega
  exact(Rep.keep hk).2 _ _ iU
 ·rcases tS g hg with e'|e'
  ·exact h.fr g e'
  ·omega
theorem jl.own6 {F0:Nat->Prop}{w:World}{P:Nat}{o:Value->Obj}{e:TypeId}{sz k:Nat}{cs:List DV}{sv:Value}{us:List Value}{wr:World}(h:jl F0 w P o e sz k cs sv us wr){w6:World}(sM:No wr w6)(ob:Obj):Own (w6.alloc ob) e sz sv k us:=
 (h.own.keep (w':=w6) fun g _ _ hx=>by rw[sM.block g (zZ hx)];exact hx).alloc ob
theorem jl.not {F0:Nat->Prop}{w:World}{P:Nat}{o:Value->Obj}{e:TypeId}{sz k:Nat}{cs:List DV}{sv:Value}{us:List Value}{wr:World}(h:jl F0 w P o e sz k cs sv us wr):¬sv.ownBlock=P:=fun e=>by have:=h.fr P e;omega
theorem jl.sl {F0:Nat->Prop}{w:World}{P:Nat}{o:Value->Obj}{e:TypeId}{sz k:Nat}{cs:List DV}{sv:Value}{us:List Value}{wr:World}(h:jl F0 w P o e sz k cs sv us wr):Rep (fun i=>F0 i\/P<i) wr (.sl e sz k cs) sv:=
 h.own.rep (fun g hg=>.inr (h.fr g hg)) ((Rep.keep fun _ _ hi hx=>⟨hi.1,hx⟩).2 _ _ h.rep)
theorem jl.cell7 {F0:Nat->Prop}{w:World}{P:Nat}{o:Value->Obj}{e:TypeId}{sz k:Nat}{cs:List DV}{sv:Value}{us:List Value}{wr:World}(h:jl F0 w P o e sz k cs sv us wr){w6 w7:World}{ob:Obj}(sM:No wr w6)(sH:But (fun b=>sv.ownBlock=OK b) (w6.alloc ob) w7) :
 w7.heap[P]?=OK (o sv):=by
 have M9:=zZ h.blk;have:=sM.size;rw[sH.block P (by rw[zK];omega) h.not,Below.heap_alloc _ _ _ (by omega),sM.block P M9];exact h.blk
def PtrPost (F:Nat->Prop)(w:World)(b:Bd)(en:Ending)(w':World):Prop:=
 ∃p,en=.returned (.pointer (OK ⟨p,0,U⟩))/\No w w'/\Rep (fun i=>F i\/w<=i) w' (kM b) (.pointer (OK ⟨p,0,U⟩))
theorem ask_new {F:Nat->Prop}{w:World}{v:Nat}{ss:List Bd}{y n:Bd}{b:Nat}{sv yv nv:Value}(hb:F b)(hc:w.heap[b]?=OK (.cells #[str [],(v:Int),sv,yv,nv] 71 (0,0)))(hs:Rep F w (.sl 34 1 ss.length (qH ss)) sv)(hy:Rep F w (kM y) yv)(hn:Rep F w (kM n) nv):Rep F w (kM (.ask v ss y n)) (.pointer (OK ⟨b,0,U⟩)):=by
 rw[kM,jx];exact⟨_,_,rfl,hb,hc,zQ.2 ⟨_,_,rfl,zC.2 rfl,zQ.2 ⟨_,_,rfl,zC.2 rfl,zQ.2 ⟨_,_,rfl,hs,zQ.2 ⟨_,_,rfl,hy,zQ.2 ⟨_,_,rfl,hn,zE.2 rfl⟩⟩⟩⟩⟩⟩
theorem fits2_any (F:Nat->Prop)(w:World)(b:Bd)(v:Value)(hv:Rep F w (kM b) v)(hn:zG b<=100000) :
 Calls RG 57 #[v] w fun en w'=>en=.returned (.bool (decide (zG b<=200/\kq b<=100)))/\No w w':=by
 obtain⟨vb,rfl⟩:=zg hv;have hL:Lim 100000:=by unfold Lim;omega
 have C1:=r9 (size_any 100000 b hn hL F w _ hv);go_enter Tryz.func57,Tryz.ntmps57;go_wp2_with fail
 (with_reducible refine C1.out.mono ?_)
 rintro en w1 ⟨rfl,sX⟩;have C2:=r9 (depth_any 100000 b hn hL F w1 _ (Rep.below sX (fun _ h=>h) hv));have HB:=r9 sX;clear sX;by_cases lT:zG b<=200
 ·have h1:decide ((zG b:Int)<=200)=true:=decide_eq_true (by omega);go_wp2_with fail
  (with_reducible refine C2.out.mono ?_);rintro en w2 ⟨rfl,sY⟩
  have hb:=zzT HB.out sY;clear sY;by_cases AQ:kq b<=100
  focus
   have h2:decide ((kq b:Int)<=100)=true:=decide_eq_true (by omega);have HE:=r9 (r_ (show decide (zG b<=200/\kq b<=100)=true from decide_eq_true ⟨lT,AQ⟩) hb);clear hb
  rotate_left
  focus
   have h2:decide ((kq b:Int)<=100)=false:=decide_eq_false (by omega);have HE:=r9 (r_ (show decide (zG b<=200/\kq b<=100)=false from decide_eq_false (by omega)) hb);clear hb
  all_goals
   go_wp2_with fail
   go_ret;rw[HE.out.1];exact⟨rfl,HE.out.2⟩
 ·have h1:decide ((zG b:Int)<=200)=false:=decide_eq_false (by omega);have HE:=r9 (show decide (zG b<=200/\kq b<=100)=false from decide_eq_false (by omega));go_wp2_with fail
  go_ret;rw[HE.out];exact⟨rfl,HB.out⟩
theorem kindsOf_any (F:Nat->Prop)(ns:List Nm)(lv:Value)(w:World)(hn:ns.length<=1000)(hr:Rep F w (.sl 118 2 ns.length (jb ns)) lv) :
 Calls RG 82 #[lv] w fun en w'=>∃a c,en=.returned (.slice a ns.length c)/\No w w'/\Rep (fun i=>F i\/w<=i) w' (.sl 33 1 ns.length (qh (kinds ns))) (.slice a ns.length c):=by
 obtain⟨la,lc,rfl,_,sG⟩:=AtNms.of hr;have AT:=r9 sG;clear sG hr;go_enter Tryz.func82,Tryz.ntmps82;go_wp2_with fail
 go_loopw [3,8] (fun ov i wr=>∃k:Nat,k<=ns.length/\i=.int RD k/\∃a c us,ov=.slice a k c/\Own wr 33 1 (.slice a k c) k us/\zY F w (qh (kinds (ns.take k))) us/\No w wr/\(∀g,(RI a k c).ownBlock=OK g->(w:Nat)<=g)) (fun _ i _=>ns.length-(intOf i).toNat)
 case atStart=>exact⟨0,R6 _,rfl,U,0,[],rfl,Sf _ _ _ _,by simp[kinds,qh,zE],sQ _ _,fun g h=>by simp[RM]at h⟩
 case round=>
  rename_i wr;obtain⟨k,hk,rfl,a,c,us,rfl,ho,Ek,hb,hf⟩:=hrel;have HO:=r9 ho;have HF:=r9 hf;have HB:=r9 hb;have HU:=r9 Ek;clear ho hf hb Ek;by_cases sC:k<ns.length
  ·have tB:(k:Int)<(ns.length:Int):=by omega
   obtain⟨b,o,x,t,kb,e,tY,hp,h1,h2,tq⟩:=AT.out k sC;subst e;have q0:=(HB.out.cell (p:=(b,o+k*2)) tY).trans h1;have q1:=(HB.out.cell (p:=(b,o+k*2+1)) tY).trans h2;have HP:=r9 (r_ hp tq);clear hp tq h1 h2;go_wp2_with (at_builtin;refine zF rfl _ _ 37 rfl 33 (.pointer U) 1 8 Tryz.underlying37 Tryz.infoK rfl (by decide) (.slice a k c) k us rfl ?c1 _ 1 [.pointer (OK ⟨kb,0,U⟩)] rfl ?c2 ?c3 ?c4 ?_)
   case c1=>exact(HO.out.alloc _).alloc _
   case c2=>exact zz.lit1 #[.pointer (OK ⟨kb,0,U⟩)] rfl (by simp[R4]) _ (by simp)
   case c3=>unfold maxLen;omega
   case c4=>omega
   intro a' c' w7 sj sH sS;have tV:(w:Nat)<=wr:=HB.out.size;have iJ:No w ((wr.alloc (.cells #[x,kb] 118)).alloc (.cells #[kb] 33)):=(HB.out.alloc HB.out.size _).alloc (by rw[zK];omega) _;have tJ:No w w7:=iJ.trans (sH.toBelow (by rw[zK,zK];omega) fun i hi e=>by have:=HF.out i e;omega);have iA:∀g,(RI a' (k+1) c').ownBlock=OK g->(w:Nat)<=g:=by
    intro g h;rcases sS g h with h|h
    ·exact HF.out g h
    ·omega
   have hu7:zY F w (qh (kinds (ns.take (k+1)))) (us++[.pointer (OK ⟨kb,0,U⟩)]):=by
    have e:kinds (ns.take (k+1))=kinds (ns.take k)++[t]:=by
     rw[Sd,HP.out.1];simp[kinds]
    rw[e,d8];exact HU.out.append (zQ.2 ⟨_,_,rfl,HP.out.2,zE.2 rfl⟩)
   have HA:=r9 (r_ sj (r_ tJ (r_ iA hu7)));clear sj tJ iA sH sS hu7 iJ;go_wp2_with fail
   go_roundw
   case rel=>exact⟨k+1,by omega,by go_num,a',c',_,rfl,HA.out.1,HA.out.2.2.2,HA.out.2.1,HA.out.2.2.1⟩
   case measure=>simp[intOf];omega
  ·obtain rfl:k=ns.length:=by omega
   go_wp2_with fail
   refine bodyPost_ret (v:=.slice a ns.length c) (by simp[results,Tryz.results82,go_sem]) rfl ?_;have hU:=HU.out;rw[R8]at hU;exact⟨a,c,rfl,HB.out,HO.out.rep (fun g hg=>.inr (HF.out g hg)) (zY.below HB.out (fun _ h=>.inl h) hU)⟩
def AnsSaid (N:Nat):Prop:=∀(F:Nat->Prop) (b y n:Bd) (bv yv nv:Value) (w:World),zG b<=N->wfB b->Rep F w (kM b) bv->Rep F w (kM y) yv->Rep F w (kM n) nv->
 Calls RG 84 #[bv,yv,nv] w (PtrPost F w (qP b y n))
theorem ans_step (N:Nat)(ih:AnsSaid N):AnsSaid (N+1):=by
 intro F b y n bv yv nv w tV An hb hy hn;obtain⟨yb,rfl⟩:=zg hy;obtain⟨nb,rfl⟩:=zg hn;cases b with
 | leaf c =>
   obtain⟨a0,sl,rfl,_,sW,_⟩:=xu hb;have r0:w a0=OK (str [c]):=by simp[RE,sW]
   rw[wfB]at An;have HY:=r9 hy;have HN:=r9 hn;have HB:=r9 hb;clear sW ih hy hn hb;rcases An with rfl|rfl|rfl
   ·go_enter U8,UW;go_wp2_with fail
    go_ret;exact⟨_,rfl,sQ _ _,by rw[qP];simpa using HY.out.weak fun _ h=>.inl h⟩
   ·go_enter U8,UW;go_wp2_with fail
    go_ret;exact⟨_,rfl,sQ _ _,by rw[qP];simpa using HN.out.weak fun _ h=>.inl h⟩
   ·go_enter U8,UW;go_wp2_with fail
    go_ret;exact⟨_,rfl,sQ _ _,by rw[qP];simpa using HB.out.weak fun _ h=>.inl h⟩
 | ask v ss yy nn =>
   obtain⟨a0,sl,y0,n0,rfl,_,sW,Cd,Cs,Br⟩:=uL hb;obtain⟨sa,sc,rfl,_,_,_⟩:=zH Cd;obtain⟨yp,rfl⟩:=zg Cs;obtain⟨np,rfl⟩:=zg Br;have r0:w a0=OK (str []):=by simp[RE,sW]
   have r1:w (a0,1)=OK (.int RD (v:Nat)):=by simp[RE,sW]
   have r2:w (a0,2)=OK (.slice sa ss.length sc):=by simp[RE,sW]
   have r3:w (a0,3)=OK (.pointer (OK ⟨yp,0,U⟩)):=by simp[RE,sW]
   have r4:w (a0,4)=OK (.pointer (OK ⟨np,0,U⟩)):=by simp[RE,sW]
   have IK:=zZ sW;have SX:Hid (∀w',No w w'->w' (a0,1)=OK (.int RD (v:Nat))/\w' (a0,2)=OK (.slice sa ss.length sc)/\w' (a0,3)=OK (.pointer (OK ⟨yp,0,U⟩))/\w' (a0,4)=OK (.pointer (OK ⟨np,0,U⟩))):=by
    show ∀w',_->_;intro w' h;exact⟨(h.cell IK).trans r1,(h.cell IK).trans r2,(h.cell IK).trans r3,(h.cell IK).trans r4⟩
   rw[zG]at tV;rw[wfB]at An;have C0:=r9 (fun wz (h:No w wz)=>ih F yy y n _ _ _ wz (by omega) An.2.1 (Rep.below h (fun _ h=>h) Cs) (Rep.below h (fun _ h=>h) hy) (Rep.below h (fun _ h=>h) hn));have C1:=r9 (fun wz (h:No w wz)=>ih F nn y n _ _ _ wz (by omega) An.2.2 (Rep.below h (fun _ h=>h) Br) (Rep.below h (fun _ h=>h) hy) (Rep.below h (fun _ h=>h) hn));have HS:=r9 Cd;clear ih sW Cd Cs Br hb hy hn An r1 r2 r3 r4;go_enter U8,UW;go_wp2_with fail
   refine rB fun sP=>?_;refine tC [0,1,2,3,4,5,6,7,8,9,10,11,12,13,15,16,17,18,19,20] sP ?_;iterate 20 (refine tl (fun w' sL=>SX.out w' sL) ?_)
   refine tz ?_;(refine on 14 ?_;intro o ho K' hK;simp at ho;subst ho;go_simp);go_at_call 84;(with_reducible refine(C0.out _ sP).mono ?_);rintro en v0 ⟨p0,rfl,s8,Hs⟩;have iN:Hid (No w v0):=sP.trans s8;have HR0:Hid (Rep (fun i=>F i\/w<=i) v0 (kM (qP yy y n)) (.pointer (OK ⟨p0,0,U⟩))):=Hs.weak fun i h=>by rcases h with h|h;exact .inl h;exact .inr (h)
   have Oe:=r9 s8;clear s8 Hs;(refine hK.out _ _ (fun _=>iN.out) ?_;clear hK K';try simp only[pQ,pN,pZ,pS]);have hS14:=iN.out;(refine on 21 ?_;intro o ho K' hK;simp at ho;subst ho;go_simp);go_at_call 84;(with_reducible refine(C1.out _ iN.out).mono ?_);rintro en v1 ⟨p1,rfl,sX,aV⟩;have sn:Hid (No w v1):=zzT iN.out sX;have Lj:Hid (Rep (fun i=>F i\/w<=i) v1 (kM (qP nn y n)) (.pointer (OK ⟨p1,0,U⟩))):=aV.weak fun i h=>by rcases h with h|h;exact .inl h;exact .inr (sU iN.out.size h)
   have ES:=r9 sX;clear sX aV;(refine hK.out _ _ (fun _=>sn.out) ?_;clear hK K';try simp only[pQ,pN,pZ,pS]);have hS21:=sn.out;refine tC [22] hS21 ?_;refine tx ?_;refine tz ?_;refine oC 23 (sn.out.alloc sn.out.size _) ?_;refine oC 24 (sn.out.alloc sn.out.size _) ?_;refine zX (by kernel_rfl) (RQ ?_) _;go_wp2_with fail
   go_ret;refine⟨v1,rfl,sn.out.alloc sn.out.size _,?_⟩;rw[qP];have k1:∀i x,(F i\/(w:Nat)<=i)->v1.heap[i]?=OK x->(F i\/(w:Nat)<=i)/\(v1.alloc (.cells #[str [],(v:Int),.slice sa ss.length sc,p0,p1] 71)).heap[i]?=OK x:=fun i x h hx=>⟨h,zJ hx⟩;exact ask_new (.inr sn.out.size) (zW _ _) ((Rep.keep k1).1 _ _ (Rep.below sn.out (fun _ h=>.inl h) HS.out)) ((Rep.keep k1).1 _ _ (Rep.below ES.out (fun _ h=>h) HR0.out)) ((Rep.keep k1).1 _ _ Lj.out)
theorem answered_any (N:Nat):AnsSaid N:=by
 induction N with
 |zero=>exact fun F b y n bv yv nv w h=>by have:=kQ b;omega
 |succ N ih=>exact ans_step N ih
theorem um (n k:Nat):∀ss:List Bd,zt ss n k=ss.map fun b=>kV b n k
 |[]=>by rw[zt];rfl
 |b::bs=>by rw[zt,um n k bs];rfl
theorem vQ {ss:List Bd}{j:Nat}{s:Bd}(h:ss[j]?=OK s)(n k:Nat):zt (ss.take (j+1)) n k=zt (ss.take j) n k++[kV s n k]:=by
 rw[um,um,Sd,h];simp
theorem dz:∀(bs:List Bd),cu bs->∀(k:Nat) (b:Bd),bs[k]?=OK b->lvB b
 |[],_,k,b,h=>by simp at h
 |p::ps,ho,0,b,h=>by simp at h;subst h;rw[cu]at ho;exact ho.1
 |p::ps,ho,k+1,b,h=>by rw[cu]at ho;exact dz ps ho.2 k b (by simpa using h)
def RaSaid (N:Nat):Prop:=∀(F:Nat->Prop) (b:Bd) (n k:Nat) (bv:Value) (w:World),zG b<=N->zG b<=1000000->lvB b->n<=10000->k<=10000->Rep F w (kM b) bv->
 Calls RG 83 #[bv,(n:Int),(k:Int)] w (PtrPost F w (kV b n k))
theorem ra_step (N:Nat)(ih:RaSaid N):RaSaid (N+1):=by
 intro F b n k bv w hN hM iT hn hk hb;cases b with
 | leaf c =>
   obtain⟨bb,rfl⟩:=zg hb;have CL:=r9 (ur F w c _ hb);have HB:=r9 hb;clear hb ih;go_enter Xf,WK;go_wp2_with fail
   (with_reducible refine CL.out.mono ?_);rintro en w1 ⟨rfl,e⟩
   subst w1;go_wp2_with fail
   go_ret;exact⟨_,rfl,sQ _ _,by rw[kV];exact HB.out.weak fun _ h=>.inl h⟩
 | ask v ss yy nn =>
   obtain⟨a0,sl,y0,n0,rfl,_,sW,Cd,Cs,Br⟩:=uL hb;obtain⟨sa,sc,rfl,_,_,QH⟩:=zH Cd;obtain⟨yp,rfl⟩:=zg Cs;obtain⟨np,rfl⟩:=zg Br;have r1:w (a0,1)=OK (.int RD (v:Nat)):=by simp[RE,sW]
   have r2:w (a0,2)=OK (.slice sa ss.length sc):=by simp[RE,sW]
   have r3:w (a0,3)=OK (.pointer (OK ⟨yp,0,U⟩)):=by simp[RE,sW]
   have r4:w (a0,4)=OK (.pointer (OK ⟨np,0,U⟩)):=by simp[RE,sW]
   have IK:=zZ sW;have SX:Hid (∀w',No w w'->w' (a0,1)=OK (.int RD (v:Nat))/\w' (a0,3)=OK (.pointer (OK ⟨yp,0,U⟩))/\w' (a0,4)=OK (.pointer (OK ⟨np,0,U⟩))):=by
    show ∀w',_->_;intro w' h;exact⟨(h.cell IK).trans r1,(h.cell IK).trans r3,(h.cell IK).trans r4⟩
   rw[zG]at hN hM;rw[lvB]at iT;have CL:=r9 (yx F w v ss yy nn _ hb);have C0:=r9 (fun wz (h:No w wz)=>ih F yy n k _ wz (by omega) (by omega) iT.2.2.1 hn hk (Rep.below h (fun _ h=>h) Cs));have C1:=r9 (fun wz (h:No w wz)=>ih F nn n k _ wz (by omega) (by omega) iT.2.2.2 hn hk (Rep.below h (fun _ h=>h) Br));have HS:=r9 QH;have HQ:=r9 (r_ hN (r_ hM iT));have IH:=r9 ih;have hvb:v<=10000:=iT.1;have tt:ss.length<=1000000:=by have:=qI ss;omega
   clear ih sW Cd Cs Br hb r1 r3 r4 QH hN hM iT;go_enter Xf,WK;go_wp2_with fail
   (with_reducible refine CL.out.mono ?_);rintro en w1 ⟨rfl,e⟩
   subst w1;go_wp2_with fail
   refine rB fun sP=>?_;refine tC [0,1,2,3,4,5,6,7,8,9,11,12,13,14,15,16] sP ?_;iterate 16 (refine tl (fun w' sL=>SX.out w' sL) ?_)
   refine tz ?_;(refine on 10 ?_;intro o ho K' hK;simp at ho;subst ho;go_simp);go_at_call 83;(with_reducible refine(C0.out _ sP).mono ?_);rintro en v0 ⟨p0,rfl,s8,Hs⟩;have iN:Hid (No w v0):=sP.trans s8;have HR0:Hid (Rep (fun i=>F i\/w<=i) v0 (kM (kV yy n k)) (.pointer (OK ⟨p0,0,U⟩))):=Hs.weak fun i h=>by rcases h with h|h;exact .inl h;exact .inr (h)
   have Oe:=r9 s8;clear s8 Hs;(refine hK.out _ _ (fun _=>iN.out) ?_;clear hK K';try simp only[pQ,pN,pZ,pS]);have M8:=iN.out;(refine on 17 ?_;intro o ho K' hK;simp at ho;subst ho;go_simp);go_at_call 83;(with_reducible refine(C1.out _ iN.out).mono ?_);rintro en v1 ⟨p1,rfl,sX,aV⟩;have sn:Hid (No w v1):=zzT iN.out sX;have Lj:Hid (Rep (fun i=>F i\/w<=i) v1 (kM (kV nn n k)) (.pointer (OK ⟨p1,0,U⟩))):=aV.weak fun i h=>by rcases h with h|h;exact .inl h;exact .inr (sU iN.out.size h)
   have ES:=r9 sX;clear sX aV;(refine hK.out _ _ (fun _=>sn.out) ?_;clear hK K';try simp only[pQ,pN,pZ,pS]);have J6:=sn.out;refine tC [18] J6 ?_;refine tx ?_;refine tz ?_;refine oC 19 (sn.out.alloc sn.out.size _) ?_;refine oC 20 (sn.out.alloc sn.out.size _) ?_;refine zX (by kernel_rfl) (RQ ?_) _;have blkP:(v1.alloc (.cells #[str [],(v:Int),(),p0,p1] 71)).heap[(v1:Nat)]?=OK (.cells #[str [],(v:Int),(),p0,p1] 71 (0,0)):=zW _ _;have Fj:Below v1 v1 (v1.alloc (.cells #[str [],(v:Int),(),p0,p1] 71)):=(sQ _ _).alloc (sZ _) _;obtain⟨V,hV⟩:=zzN (v1.alloc (.cells #[str [],(v:Int),(),p0,p1] 71));rw[hV]at blkP Fj ⊢;obtain⟨P,hP⟩:=zzN (v1.heap.size);rw[hP]at blkP Fj ⊢;have Kp:w<=P:=by rw[<- hP];exact sn.out.size
   have Rr:=r9 (Rep.below (F':=fun i=>F i\/w<=i) ES.out (fun _ h=>h) HR0.out);clear hV HR0 ES Oe CL C0 C1;obtain⟨z0,z1,z2,z3,z4,zf⟩:=p9 blkP;have EV:=zf 1;clear zf;have HP:=r9 (r_ blkP Fj);clear blkP Fj;by_cases hv:n<=v
   ·have hvI:(n:Int)<=(v:Int):=by omega
    have lG:IntKind.i64.wrap ((v:Int)+(k:Int))=(v:Int)+(k:Int):=IntWalk.i64_in _ (by omega);go_upto_region 6 with (fail)
    obtain⟨W,hW⟩:=zzN (V.setCell (P,1) (.int RD ((v:Int)+(k:Int))));rw[hW];have QP:W.heap[P]?=OK (wk (v+k) (.pointer (OK ⟨p0,0,U⟩)) (.pointer (OK ⟨p1,0,U⟩)) ()):=by
     rw[<- hW];rw[zT HP.out.1,wk,S_];rfl
    have L6:Below P v1 W:=by rw[<- hW];exact HP.out.2.setCell (p:=⟨P,1,U⟩) (sZ _) _
    have L5:No w W:=sn.out.trans (L6.mono Kp);have q2:=(L5.cell (p:=⟨a0,2,U⟩) IK).trans r2;have HW:=r9 (r_ QP (r_ L6 L5));clear hW QP L6 L5 z0 z1 z2 z3 z4 EV r2;go_wp2_with fail
    go_loopw [53] (fun i wr=>∃(j:Nat) (sv:Value) (us:List Value),j<=ss.length/\i=.int RD j/\jl (fun i=>F i/\i<w) W P (wk (v+k) (.pointer (OK ⟨p0,0,U⟩)) (.pointer (OK ⟨p1,0,U⟩))) 34 1 j (qH (zt (ss.take j) n k)) sv us wr) (fun i _=>ss.length-(intOf i).toNat)
    case atStart=>exact⟨0,_,_,R6 _,rfl,by simpa[zt,qH] using jl.start HW.out.1⟩
    case round=>
     rename_i wr;obtain⟨j,sv,us,hj,rfl,sN⟩:=hrel;obtain⟨ga,gc,e⟩:=sN.slice;subst e;have sW:wr.heap[P]?=OK (.cells #[str [],.int RD ((v+k:Nat):Int),.slice ga j gc,p0,p1] 71 (0,0)):=sN.blk;have tY:No w wr:=HW.out.2.2.trans (sN.below.mono Kp);obtain⟨y0,y1,y2,y3,y4,yf⟩:=p9 sW;have HI:=r9 (r_ sN (r_ sW tY));clear sN sW tY;clear y0 y1 y3 y4 yf q2;by_cases sC:j<ss.length
     ·have tB:(j:Int)<(ss.length:Int):=by omega
      obtain⟨sb,so,su,sd,e,_,OQ,BZ,Cu,Hd⟩:=HS.out j sC;subst e;rw[yC,RP]at BZ;obtain⟨s,hs,rfl⟩:=BZ;obtain⟨sp,rfl⟩:=zg Hd;have OP:=uZ (RX hs);have q3:wr (sb,so+j)=OK (.pointer (OK ⟨sp,0,U⟩)):=(HI.out.2.2.cell (p:=(sb,so+j)) OQ).trans Cu;have Hc:Rep (fun i=>F i/\i<w) w (kM s) (.pointer (OK ⟨sp,0,U⟩)):=(Rep.keep fun i x h hx=>⟨⟨h,zZ hx⟩,hx⟩).1 _ _ Hd;have CC:=r9 (IH.out (fun i=>F i/\i<w) s n k (.pointer (OK ⟨sp,0,U⟩)) wr.drew (by have:=HQ.out.1;omega) (by have:=HQ.out.2.1;omega) (dz ss HQ.out.2.2.2.1 j s hs) hn hk (Rep.below HI.out.2.2 (fun _ h=>h) Hc).drew);have HK:=r9 (vQ hs n k);have SY:Hid (∀w',But (fun i=>(RI ga j gc).ownBlock=OK i) wr w'->w' (P,2)=OK (.slice ga j gc)/\True):=by
       show ∀w',_->_;intro w' sA;exact⟨(sA.cell (sK wr _ y2) HI.out.1.not).trans y2,trivial⟩
      have oP:j+1<=maxLen:=by unfold maxLen;omega
      have aI:(j+1)*8<=140737488355328:=by omega
      clear Hd Hc hs Cu;go_wp2_with fail
      refine rS (fun w'=>But (fun i=>(RI ga j gc).ownBlock=OK i) wr w') (fun i=>i == 13) ((But.refl _ wr).drew) fun sP=>?_;refine tC [0,1,2,3,4,5,6,7] sP ?_;iterate 8 (refine tl (fun w' sL=>SY.out w' sL) ?_)
      refine tz ?_;(refine on 8 ?_;intro o ho K' hK;simp at ho;subst ho;go_simp);go_at_call 83;(with_reducible refine CC.out.mono ?_);rintro Fu w6 ⟨vb,rfl,sM,iU⟩;have aL:No wr w6:=(Below.drew (sQ _ _)).trans sM;have aK:Hid (But (fun i=>(RI ga j gc).ownBlock=OK i) wr w6):=But.ofBelow aL;have tM:=HI.out.1.own6 aL (.cells #[vb] 34);have H6:=r9 (r_ aL iU);clear sM iU aL;(refine hK.out _ _ (fun _=>aK.out) ?_;clear hK K';try simp only[pQ,pN,pZ,pS]);refine oC 9 (aK.out.alloc _) ?_;(refine on 10 ?_;intro o ho K' hK;simp at ho;subst ho);refine zL (by rfl) _ _ _ (by rfl) 34 (.pointer U) 1 8 Tc Tryz.infoB rfl (by decide) (.slice ga j gc) j us (by rfl) tM _ 1 [.pointer (OK ⟨vb,0,U⟩)] (by rfl) (zz.lit1 #[.pointer (OK ⟨vb,0,U⟩)] rfl (by simp[R4]) _ (by rfl)) oP aI ?_;intro a' c' w7 sj sH sS;(refine hK.out _ _ (fun _=>(aK.out.alloc _).trans sH) ?_;clear hK K';try simp only[pQ,pN,pZ,pS]);have aB:=HI.out.1.cell7 H6.out.1 sH;have i9:w7 (P,2)=OK (.slice ga j gc)/\w7.frozen? (P,2)=false:=by rw[wk]at aB;exact⟨by simp[RE,aB],by simp[RO,aB]⟩
      obtain⟨CU,ll⟩:=i9;have Dd:=r9 aB;clear aB;refine oC 11 ((aK.out.alloc _).trans sH) ?_;refine oC 12 ((aK.out.alloc _).trans sH) ?_;refine oB 13 (fun h=>by simp at h) ?_;refine zX (by kernel_rfl) (RQ ?_) _;have hX:=HI.out.1.next (fun i h=>sV h.2 Kp) (w8:=w7.setCell (P,2) (.slice a' (j+1) c')) H6.out.1 (zY.one H6.out.2) sj sH sS (by rw[zT Dd.out];rfl) (uH _ _ _ _);have ia:qH (zt (ss.take j) n k)++[kM (kV s n k)]=qH (zt (ss.take (j+1)) n k):=by rw[HK.out,pr]
      rw[ia]at hX;have HN:=r9 hX;clear hX ia sj sH sS sP tM CU ll;go_wp2_with fail
      go_roundw
      case rel=>exact⟨j+1,_,_,by omega,by go_num,HN.out⟩
      case measure=>simp[intOf];omega
     ·obtain rfl:j=ss.length:=by omega
      clear y2;go_wp2_with fail
      go_ret;refine⟨P,rfl,HI.out.2.2,?_⟩;have tt:=HI.out.1.sl;rw[R8]at tt;have E4:Below P v1 wr:=HW.out.2.1.trans HI.out.1.below;rw[<- hP]at E4;have hL:(zt ss n k).length=ss.length:=by rw[um];simp
      rw[kV,if_pos hv];refine ask_new (.inr Kp) HI.out.2.1 ?_ (Rep.below E4 (fun _ h=>h) Rr.out) (Rep.below E4 (fun _ h=>h) Lj.out);rw[hL];exact tt.weak fun i h=>by rcases h with h|h;exact .inl h.1;exact .inr (by omega)
   ·have hvI:¬(n:Int)<=(v:Int):=by omega
    go_upto_region 6 with (fail)
    obtain⟨W,hW⟩:=zzN (V);rw[hW];have QP:W.heap[P]?=OK (wk (v) (.pointer (OK ⟨p0,0,U⟩)) (.pointer (OK ⟨p1,0,U⟩)) ()):=by
     rw[<- hW];exact HP.out.1
    have L6:Below P v1 W:=by rw[<- hW];exact HP.out.2
    have L5:No w W:=sn.out.trans (L6.mono Kp);have q2:=(L5.cell (p:=⟨a0,2,U⟩) IK).trans r2;have HW:=r9 (r_ QP (r_ L6 L5));clear hW QP L6 L5 z0 z1 z2 z3 z4 EV r2;go_wp2_with fail
    go_loopw [53] (fun i wr=>∃(j:Nat) (sv:Value) (us:List Value),j<=ss.length/\i=.int RD j/\jl (fun i=>F i/\i<w) W P (wk (v) (.pointer (OK ⟨p0,0,U⟩)) (.pointer (OK ⟨p1,0,U⟩))) 34 1 j (qH (zt (ss.take j) n k)) sv us wr) (fun i _=>ss.length-(intOf i).toNat)
    case atStart=>exact⟨0,_,_,R6 _,rfl,by simpa[zt,qH] using jl.start HW.out.1⟩
    case round=>
     rename_i wr;obtain⟨j,sv,us,hj,rfl,sN⟩:=hrel;obtain⟨ga,gc,e⟩:=sN.slice;subst e;have sW:wr.heap[P]?=OK (.cells #[str [],.int RD ((v:Nat):Int),.slice ga j gc,p0,p1] 71 (0,0)):=sN.blk;have tY:No w wr:=HW.out.2.2.trans (sN.below.mono Kp);obtain⟨y0,y1,y2,y3,y4,yf⟩:=p9 sW;have HI:=r9 (r_ sN (r_ sW tY));clear sN sW tY;clear y0 y1 y3 y4 yf q2;by_cases sC:j<ss.length
     ·have tB:(j:Int)<(ss.length:Int):=by omega
      obtain⟨sb,so,su,sd,e,_,OQ,BZ,Cu,Hd⟩:=HS.out j sC;subst e;rw[yC,RP]at BZ;obtain⟨s,hs,rfl⟩:=BZ;obtain⟨sp,rfl⟩:=zg Hd;have OP:=uZ (RX hs);have q3:wr (sb,so+j)=OK (.pointer (OK ⟨sp,0,U⟩)):=(HI.out.2.2.cell (p:=(sb,so+j)) OQ).trans Cu;have Hc:Rep (fun i=>F i/\i<w) w (kM s) (.pointer (OK ⟨sp,0,U⟩)):=(Rep.keep fun i x h hx=>⟨⟨h,zZ hx⟩,hx⟩).1 _ _ Hd;have CC:=r9 (IH.out (fun i=>F i/\i<w) s n k (.pointer (OK ⟨sp,0,U⟩)) wr.drew (by have:=HQ.out.1;omega) (by have:=HQ.out.2.1;omega) (dz ss HQ.out.2.2.2.1 j s hs) hn hk (Rep.below HI.out.2.2 (fun _ h=>h) Hc).drew);have HK:=r9 (vQ hs n k);have SY:Hid (∀w',But (fun i=>(RI ga j gc).ownBlock=OK i) wr w'->w' (P,2)=OK (.slice ga j gc)/\True):=by
       show ∀w',_->_;intro w' sA;exact⟨(sA.cell (sK wr _ y2) HI.out.1.not).trans y2,trivial⟩
      have oP:j+1<=maxLen:=by unfold maxLen;omega
      have aI:(j+1)*8<=140737488355328:=by omega
      clear Hd Hc hs Cu;go_wp2_with fail
      refine rS (fun w'=>But (fun i=>(RI ga j gc).ownBlock=OK i) wr w') (fun i=>i == 13) ((But.refl _ wr).drew) fun sP=>?_;refine tC [0,1,2,3,4,5,6,7] sP ?_;iterate 8 (refine tl (fun w' sL=>SY.out w' sL) ?_)
      refine tz ?_;(refine on 8 ?_;intro o ho K' hK;simp at ho;subst ho;go_simp);go_at_call 83;(with_reducible refine CC.out.mono ?_);rintro Fu w6 ⟨vb,rfl,sM,iU⟩;have aL:No wr w6:=(Below.drew (sQ _ _)).trans sM;have aK:Hid (But (fun i=>(RI ga j gc).ownBlock=OK i) wr w6):=But.ofBelow aL;have tM:=HI.out.1.own6 aL (.cells #[vb] 34);have H6:=r9 (r_ aL iU);clear sM iU aL;(refine hK.out _ _ (fun _=>aK.out) ?_;clear hK K';try simp only[pQ,pN,pZ,pS]);refine oC 9 (aK.out.alloc _) ?_;(refine on 10 ?_;intro o ho K' hK;simp at ho;subst ho);refine zL (by rfl) _ _ _ (by rfl) 34 (.pointer U) 1 8 Tc Tryz.infoB rfl (by decide) (.slice ga j gc) j us (by rfl) tM _ 1 [.pointer (OK ⟨vb,0,U⟩)] (by rfl) (zz.lit1 #[.pointer (OK ⟨vb,0,U⟩)] rfl (by simp[R4]) _ (by rfl)) oP aI ?_;intro a' c' w7 sj sH sS;(refine hK.out _ _ (fun _=>(aK.out.alloc _).trans sH) ?_;clear hK K';try simp only[pQ,pN,pZ,pS]);have aB:=HI.out.1.cell7 H6.out.1 sH;have i9:w7 (P,2)=OK (.slice ga j gc)/\w7.frozen? (P,2)=false:=by rw[wk]at aB;exact⟨by simp[RE,aB],by simp[RO,aB]⟩
      obtain⟨CU,ll⟩:=i9;have Dd:=r9 aB;clear aB;refine oC 11 ((aK.out.alloc _).trans sH) ?_;refine oC 12 ((aK.out.alloc _).trans sH) ?_;refine oB 13 (fun h=>by simp at h) ?_;refine zX (by kernel_rfl) (RQ ?_) _;have hX:=HI.out.1.next (fun i h=>sV h.2 Kp) (w8:=w7.setCell (P,2) (.slice a' (j+1) c')) H6.out.1 (zY.one H6.out.2) sj sH sS (by rw[zT Dd.out];rfl) (uH _ _ _ _);have ia:qH (zt (ss.take j) n k)++[kM (kV s n k)]=qH (zt (ss.take (j+1)) n k):=by rw[HK.out,pr]
      rw[ia]at hX;have HN:=r9 hX;clear hX ia sj sH sS sP tM CU ll;go_wp2_with fail
      go_roundw
      case rel=>exact⟨j+1,_,_,by omega,by go_num,HN.out⟩
      case measure=>simp[intOf];omega
     ·obtain rfl:j=ss.length:=by omega
      clear y2;go_wp2_with fail
      go_ret;refine⟨P,rfl,HI.out.2.2,?_⟩;have tt:=HI.out.1.sl;rw[R8]at tt;have E4:Below P v1 wr:=HW.out.2.1.trans HI.out.1.below;rw[<- hP]at E4;have hL:(zt ss n k).length=ss.length:=by rw[um];simp
      rw[kV,if_neg hv];refine ask_new (.inr Kp) HI.out.2.1 ?_ (Rep.below E4 (fun _ h=>h) Rr.out) (Rep.below E4 (fun _ h=>h) Lj.out);rw[hL];exact tt.weak fun i h=>by rcases h with h|h;exact .inl h.1;exact .inr (by omega)
theorem raised_any (N:Nat):RaSaid N:=by
 induction N with
 |zero=>exact fun F b n k bv w h=>by have:=kQ b;omega
 |succ N ih=>exact ra_step N ih
def zd (ns:List Nm):Tm->Ty×Bool
 | .nm x=>match (jh ns x).bind fun i=>ns[i]?.map Prod.snd with
   |some k=>(k,true)
   |none=>(.mk [],false)
 |.wd _=>(.mk [],true)
 |.lam x k t=>(zi k (zd (ns++[(x,k)]) t).1,(zd (ns++[(x,k)]) t).2 && decide (zU (zi k (zd (ns++[(x,k)]) t).1)<=15))
 | .app m n=>if (zd ns m).2=false\/(zd ns n).2=false then ((zd ns m).1,false) else match (zd ns m).1.args with
   |[]=>((zd ns m).1,false)
   |c::cs=>if zS c=zS (zd ns n).1 then (.mk cs,true) else ((zd ns m).1,false)
 |.ite l m n=>((zd ns m).1,(zd ns l).2 && (zd ns m).2 && (zd ns n).2 && decide ((zd ns l).1.args=[]) && decide (zS (zd ns m).1=zS (zd ns n).1))
theorem yW:∀(t:Tm) (ns:List Nm),kJ t=true->typeOf ns t=if (zd ns t).2=true then OK (zd ns t).1 else U
 | .nm x,ns,_=>by
   rw[typeOf,zd];cases (jh ns x).bind fun i=>ns[i]?.map Prod.snd <;> rfl
 |.wd w,ns,_=>by rw[typeOf,zd];rfl
 | .lam x k t,ns,h=>by
   rw[kJ,R3,decide_eq_true_eq]at h;rw[typeOf,if_neg (by omega),yW t _ h.2,zd];cases (zd (ns++[(x,k)]) t).2 with
   |false=>rfl
   | true =>
     simp only[if_true,RF,UR,decide_eq_true_eq];by_cases sT:zU (zi k (zd (ns++[(x,k)]) t).1)<=15
     ·rw[if_neg (by omega),if_pos sT]
     ·rw[if_pos (by omega),if_neg sT]
 | .app m n,ns,h=>by
   rw[kJ,R3]at h;rw[typeOf,yW m ns h.1,yW n ns h.2,zd];cases hm:(zd ns m).2 with
   |false=>simp
   | true =>
     cases hn:(zd ns n).2 with
     |false=>simp
     | true =>
       simp only[if_true,RF,Bool.true_eq_false,or_self,if_false];cases ha:(zd ns m).1.args with
       |nil=>rfl
       | cons c cs =>
         simp only;by_cases he:zS c=zS (zd ns n).1
         ·rw[if_pos he,if_pos he];rfl
         ·rw[if_neg he,if_neg he];rfl
 | .ite l m n,ns,h=>by
   rw[kJ,R3,R3]at h;rw[typeOf,yW l ns h.1.1,yW m ns h.1.2,yW n ns h.2,zd];cases hl:(zd ns l).2 with
   |false=>simp
   | true =>
     cases hm:(zd ns m).2 with
     |false=>simp
     | true =>
       cases hn:(zd ns n).2 with
       |false=>simp
       | true =>
         simp only[if_true,RF,UR,R3,decide_eq_true_eq]
theorem yu {t:Tm}{ns:List Nm}(hs:kJ t=true)(h:(zd ns t).2=true):typeOf ns t=OK (zd ns t).1:=by
 rw[yW t ns hs,if_pos h]
theorem kindR_of {t:Tm}{ns:List Nm}{k:Ty}(h:typeOf ns t=k):zd ns t=(k,true):=by
 have hs:=xZ t ns k h;rw[yW t ns hs]at h;split at h
 ·rename_i hq;exact Prod.ext (RZ h) hq
 ·simp at h
theorem bS:∀(t:Tm) (ns:List Nm),(∀a∈kinds ns,a.args.length<=15)->kJ t=true->(zd ns t).1.args.length<=15+zO t
 | .nm x,ns,hn,_=>by
   rw[zd];cases hq:(jh ns x).bind fun i=>ns[i]?.map Prod.snd with
   |none=>simp[Ty.args]
   | some k =>
     rw[RH]at hq;obtain⟨i,_,h2⟩:=hq;rw[RP]at h2;obtain⟨⟨y,a⟩,h3,rfl⟩:=h2;have:=hn a (RX (yY h3));simp only;omega
 |.wd w,ns,_,_=>by rw[zd];simp[Ty.args]
 | .lam x k t,ns,hn,h=>by
   rw[kJ,R3,decide_eq_true_eq]at h
   have:=bS t (ns++[(x,k)]) (fun a ha=>by
    rw[jz]at ha;rcases Si.1 ha with ha|ha
    ·exact hn a ha
    ·simp at ha;subst ha;have:=kW a.args;have:=kI a;omega) h.2
   have e:(zi k (zd (ns++[(x,k)]) t).1).args.length=(zd (ns++[(x,k)]) t).1.args.length+1:=rfl;rw[zd,zO];simp only;rw[e];omega
 | .app m n,ns,hn,h=>by
   rw[kJ,R3]at h;have h1:=bS m ns hn h.1;rw[zd,zO];split
   ·simp only;omega
   ·cases ha:(zd ns m).1.args with
    |nil=>simp only[ha];simp
    | cons c cs =>
      rw[ha]at h1;simp only[RU]at h1;simp only;split
      ·simp only[Ty.args];omega
      ·rw[ha];simp only[RU];omega
 | .ite l m n,ns,hn,h=>by
   rw[kJ,R3,R3]at h;have h1:=bS m ns hn h.1.2;rw[zd,zO];simp only;omega
mutual
theorem xU:∀(b:Bd) (n k:Nat),zG (kV b n k)=zG b
 |.leaf c,n,k=>by rw[kV]
 |.ask v ss y no,n,k=>by rw[kV,zG,zG,dB ss n k,xU y n k,xU no n k]
theorem dB:∀(bs:List Bd) (n k:Nat),zI (zt bs n k)=zI bs
 |[],n,k=>by rw[zt]
 |b::bs,n,k=>by rw[zt,zI,zI,xU b n k,dB bs n k]
end
theorem wC:∀(b y n:Bd),zG (qP b y n)<=zG b*(zG y+zG n)
 | .leaf c,y,n=>by
   have hy:=kQ y;have hn:=kQ n;have e:zG (.leaf c)=1:=by rw[zG]
   rw[e,Nat.one_mul,qP];split
   ·omega
   ·split
    ·omega
    ·rw[e];omega
 | .ask v ss a c,y,n=>by
   have hy:=kQ y;have h1:=wC a y n;have h2:=wC c y n;rw[qP,zG,zG];have h3:1+zI ss<=(1+zI ss)*(zG y+zG n):=Nat.le_mul_of_pos_right _ (by omega);have e:(1+(zI ss+(zG a+zG c)))*(zG y+zG n)=(1+zI ss)*(zG y+zG n)+zG a*(zG y+zG n)+zG c*(zG y+zG n):=by rw[<- Uo,<- Uo];congr 1;omega
   omega
theorem dG {b:Bd}(h:zG b<=200):yZ b=b:=by unfold yZ;rw[if_pos h]
theorem become_small {b:Bd}{env:List Mn}{n:Nat}{c:Bd}(h:vx b env n=c):zG c<=200:=by
 unfold vx at h;cases hv:ev 20000 20000 b env n [] with
 |none=>rw[hv]at h;simp at h
 | some x =>
   obtain⟨o,l⟩:=x;rw[hv]at h;simp only at h;split at h
   ·rename_i hs;obtain rfl:=RZ h;exact hs.1
   ·simp at h
theorem vY:∀(t:Tm) (ns:List Nm) (b:Bd),zq ns t=b->zG b<=200
 | .nm x,ns,b,h=>by
   rw[zq,RH]at h;obtain⟨i,_,h⟩:=h;rw[RH]at h;obtain⟨p,_,h⟩:=h;obtain⟨rfl,hs⟩:=pR h;exact hs
 | .wd w,ns,b,h=>by
   rw[zq]at h;obtain rfl:=RZ h;simp[zG]
 |.lam x k t,ns,b,h=>by rw[zq]at h;exact vY t _ b h
 | .app m n,ns,b,h=>by
   rw[zq,RH]at h;obtain⟨p,_,h⟩:=h;rw[RH]at h;obtain⟨q,_,h⟩:=h;rw[RH]at h;obtain⟨t,_,h⟩:=h;split at h
   ·simp at h
   ·exact become_small h
 | .ite l m n,ns,b,h=>by
   rw[zq,RH]at h;obtain⟨p,_,h⟩:=h;rw[RH]at h;obtain⟨q,_,h⟩:=h;rw[RH]at h;obtain⟨r,_,h⟩:=h;rw[RH]at h;obtain⟨t,_,h⟩:=h;obtain⟨rfl,hs⟩:=pR h;exact hs
def kz (ns:List Nm):Tm->Option Bd
 |.nm x=>(jh ns x).bind fun i=>ns[i]?.map fun p=>eta p.2 i ns.length
 |.wd w=>OK (.leaf (w.headD 0))
 |.lam x k t=>zq (ns++[(x,k)]) t
 |.app m n=>zq ns (.app m n)
 |.ite l m n=>(zq ns l).bind fun a=>(zq ns m).bind fun b=>(zq ns n).bind fun c=>(typeOf ns m).bind fun t=>OK (qP (kV a ns.length t.args.length) b c)
theorem c_ {o:Option Bd}(h:∀b,o=OK b->zG b<=200):o.bind yZ=o:=by
 cases o with
 |none=>rfl
 |some b=>rw[RF,dG (h b rfl)]
theorem mean_meant (t:Tm)(ns:List Nm):zq ns t=(kz ns t).bind yZ:=by
 cases t with
 | nm x =>
   rw[zq,kz];cases jh ns x with
   |none=>rfl
   | some i =>
     rw[RF,RF];cases ns[i]? <;> rfl
 |wd w=>rw[zq,kz,c_ (fun b h=>by obtain rfl:=RZ h;simp[zG])]
 |lam x k t=>rw[kz,c_ (fun b h=>vY _ _ b h),zq]
 |app m n=>rw[kz,c_ (fun b h=>vY _ _ b h)]
 | ite l m n =>
   rw[zq,kz];cases zq ns l with
   |none=>rfl
   | some a =>
     cases zq ns m with
     |none=>rfl
     | some b =>
       cases zq ns n with
       |none=>rfl
       | some c =>
         cases typeOf ns m <;> rfl
theorem meant_size (t:Tm)(ns:List Nm)(b:Bd)(hn:∀a∈kinds ns,zU a<=15)(h:kz ns t=b):zG b<=100000:=by
 cases t with
 | nm x =>
   rw[kz,RH]at h;obtain⟨i,_,h⟩:=h;rw[RP]at h;obtain⟨⟨y,k⟩,hp,rfl⟩:=h;have:=(rG k i ns.length).1;have:=hn k (RX (yY hp));simp only;omega
 |wd w=>rw[kz]at h;obtain rfl:=RZ h;simp[zG]
 |lam x k t=>rw[kz]at h;have:=vY _ _ b h;omega
 |app m n=>rw[kz]at h;have:=vY _ _ b h;omega
 | ite l m n =>
   rw[kz,RH]at h;obtain⟨p,hp,h⟩:=h;rw[RH]at h;obtain⟨q,hq,h⟩:=h;rw[RH]at h;obtain⟨r,hr,h⟩:=h;rw[RH]at h;obtain⟨t,_,h⟩:=h;obtain rfl:=RZ h;have h1:=vY _ _ _ hp;have h2:=vY _ _ _ hq;have h3:=vY _ _ _ hr;have h4:=wC (kV p ns.length t.args.length) q r;rw[xU]at h4;have h5:zG p*(zG q+zG r)<=200*400:=Nat.mul_le_mul h1 (by omega);omega
theorem small_fits {b:Bd}:decide (zG b<=200/\kq b<=100)=decide (zG b<=200):=by
 by_cases h:zG b<=200
 ·rw[decide_eq_true ⟨h,rC h⟩,decide_eq_true h]
 ·rw[decide_eq_false (fun hx=>h hx.1),decide_eq_false h]
end Go.Proofs.YtnfenijemllkbaaGreatDoor

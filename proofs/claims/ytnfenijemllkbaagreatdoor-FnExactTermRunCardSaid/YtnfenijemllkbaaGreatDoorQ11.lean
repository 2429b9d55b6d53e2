/- Walks. -/
import Derived.Test.YtnfenijemllkbaaGreatDoorQ3
import Derived.Test.YtnfenijemllkbaaGreatDoorQ9
set_option linter.unusedVariables false
set_option linter.unusedSimpArgs false
set_option maxHeartbeats 4000000
set_option maxRecDepth 100000
open Option renaming none->U
open Option renaming some->OK
open Bool renaming true->OX
open Bool renaming false->RC
open Bool renaming and_eq_true->R3,not_false->Wi,not_true->Wt
open Go.Addr.mk renaming injEq->So
open Go.NoPanic renaming normal->RQ
open Go.Proofs.Tryz renaming func34->UD,ntmps34->Um,prog->RG,results34->Sg
open Go.Value.slice renaming injEq->RT
open Go.World renaming cell?->RE,frozen?->RO
open List renaming drop->Uq,getElem?_cons_succ->RW,getElem?_cons_zero->RV,getElem?_map->S5,length_append->RL,mem_append->Si,setIfInBounds_toArray->R_,set_cons_succ->Sm,set_cons_zero->Sl
open List.cons renaming injEq->RY
open Option renaming map_eq_some_iff->RP
open Option.some renaming inj->RZ,injEq->RK
open Or renaming inl->Vr,inr->Vq
namespace Go.Proofs.YtnfenijemllkbaaGreatDoor
open Go.RowKit
def uS (F:Nat->Prop)(w:World)(k:Ty)(q:Bool)(en:Ending)(w':World):Prop:=
 ∃a c,en=.returned (.tuple #[.agg #[.slice a k.args.length c],.bool q])/\No w w'/\Rep (fun i=>F i\/w<=i) w' (ki k) (.slice a k.args.length c)
structure gG (F:Nat->Prop)(t:Tm)(ns:List Nm)(nv tv s pv:Value)(w:World):Prop where
 old:∀i,F i->i<(w:Nat)
 rt:zY F w (vV (kg t)) [s,pv]
 rn:Rep F w (.sl 9 1 ns.length (ns.map fun p=>DV.val (str p.1))) nv
 rk:Rep F w (.sl 47 1 ns.length (qu (kinds ns))) tv
 ok:xA t
 sm:kJ t=OX
 nm:∀p∈ns,qi p.1=OX
 n15:∀a∈kinds ns,zU a<=15
 room:ns.length+zO t<=100
def KdSaid (N:Nat):Prop:=∀(F:Nat->Prop) (t:Tm) (ns:List Nm) (nv tv s pv:Value) (w:World),zO t<=N->gG F t ns nv tv s pv w->
 Calls RG 34 #[.agg #[nv,tv],.agg #[s,pv]] w (uS F w (zd ns t).1 (zd ns t).2)
theorem xN (w:World)(A B C:Obj):No w (((w.alloc A).alloc B).alloc C)/\(((w.alloc A).alloc B).alloc C).heap.size=w+1+1+1/\(((w.alloc A).alloc B).alloc C).heap[(w:Nat)]?=OK A/\(((w.alloc A).alloc B).alloc C).heap[(w:Nat)+1]?=OK B/\(((w.alloc A).alloc B).alloc C).heap[(w:Nat)+1+1]?=OK C:=by
 refine⟨(((sQ _ _).alloc (sZ _) _).alloc (by rw[zK];omega) _).alloc (by rw[zK,zK];omega) _,by rw[zK,zK,zK],zJ (zJ (zW _ _)),?_,?_⟩
 ·have h:=zW (w.alloc A) B;rw[zK]at h;exact zJ h
 ·have h:=zW ((w.alloc A).alloc B) C;rwa [zK,zK]at h
theorem vF {F:Nat->Prop}{w W0 Z W:World}{k:Ty}{q:Bool}{a:Option Addr}{c:Nat}(hF:∀i,F i->i<(w:Nat))(h0:No w W0)(hz:(W0:Nat)=w+1+1+1)(hb:No W0 Z)(hr:Rep (fun i=>F i\/(W0:Nat)<=i) Z (ki k) (.slice a k.args.length c))(sF:∀B w0,Below B w0 Z->B<=(w:Nat)+1+1->Below B w0 W)(tZ:∀i x,i≠(w:Nat)+1+1->Z.heap[i]?=OK x->W.heap[i]?=OK x):uS F w k q (.returned (.tuple #[.agg #[.slice a k.args.length c],.bool q])) W:=
 ⟨a,c,rfl,sF _ _ (zzT h0 hb) (by omega),(Rep.keep fun i x hi hx=>⟨hi.elim .inl (fun h=>.inr (by omega)),tZ i x (by rcases hi with h|h;have:=hF i h;omega;omega) hx⟩).1 _ _ hr⟩
theorem zu {w:World}{b c o:Nat}{u v:Value}(h:w b=u)(hb:b≠c):(w.setCell (c,o) v) b=u:=
 (World.cell?_of_block (sJ _ _ _ _ (by simpa using hb))).trans h
def FoundR (ns:List Nm)(x:Bs)(k:Nat):Prop:=jh ns x=qT ns x k
theorem kd_nm (F:Nat->Prop)(x:Bs)(ns:List Nm)(nv tv s pv:Value)(w:World)(hp:gG F (.nm x) ns nv tv s pv w):Calls RG 34 #[.agg #[nv,tv],.agg #[s,pv]] w (uS F w (zd ns (.nm x)).1 (zd ns (.nm x)).2):=by
 have hold:=hp.old;obtain⟨na,nc,rfl,_,_,iC⟩:=zH hp.rn;obtain⟨ka,kc,rfl,_,_,iD⟩:=zH hp.rk;have tQ:=hp.rt;rw[kg]at tQ;obtain⟨qa,qc,e,sy⟩:=q_ tQ;simp only[qE,jB,RY,and_true]at e sy;obtain⟨rfl,rfl⟩:=e;have AA:x≠[]:=(xG hp.ok).1;have hxt:(x == [116])=RC:=by rw[beq_eq_false_iff_ne];rintro rfl;have h:=hp.ok;exact absurd (show qi [116]=OX from h) (by decide)
 have hxf:(x == [102])=RC:=by rw[beq_eq_false_iff_ne];rintro rfl;have h:=hp.ok;exact absurd (show qi [102]=OX from h) (by decide)
 have hxu:(x == [117])=RC:=by rw[beq_eq_false_iff_ne];rintro rfl;have h:=hp.ok;exact absurd (show qi [117]=OX from h) (by decide)
 obtain⟨W0,tW⟩:=zzM (((w.alloc (.cells #[.slice na ns.length nc,.slice ka ns.length kc] 57)).alloc (.cells #[x,.slice qa 0 qc] 44)).alloc (.cells #[()] 47));obtain⟨s8,z0,bA,bB,bC⟩:=xN w (.cells #[.slice na ns.length nc,.slice ka ns.length kc] 57) (.cells #[x,.slice qa 0 qc] 44) (.cells #[()] 47);rw[<- tW]at s8 z0 bA bB bC;have e0:W0 w=OK (.slice na ns.length nc):=by simp[RE,bA]
 have e1:W0 (w,1)=OK (.slice ka ns.length kc):=by simp[RE,bA]
 have t0:W0 (w+1:Nat)=str x:=by simp[RE,bB]
 have H0:=r9 (r_ s8 (r_ z0 bC));have hne:(x != [])=OX:=by rw[bne_iff_ne];exact AA
 have FT:(!x.isEmpty)=OX:=by cases x with | nil=>exact absurd rfl AA | cons a b=>rfl
 have Cx:x.isEmpty=RC:=by cases x with | nil=>exact absurd rfl AA | cons a b=>rfl
 have AN:=r9 iC;have AK:=r9 iD;have Ce:ns.length<=100:=by have:=hp.room;omega
 have HP:=r9 hp;clear iC iD s8 z0 bA bB bC hp;go_enter UD,Um;go_wp2_with fail
 rw[<- tW];clear tW
 go_loopw [6] (fun i wz=>∃(k:Nat) (wr:World),wr=wz/\k<=ns.length/\i=.int .i64 ((k:Int)-1)/\FoundR ns x k/\No W0 wr) (fun i _=>(intOf i+1).toNat)
 case atStart=>exact⟨ns.length,_,rfl,sZ _,rfl,rfl,sQ _ _⟩
 case round=>
  obtain⟨k,wr,ewr,hk,rfl,hf,lH⟩:=hrel;subst ewr;have e0':=(lH.cell (sK W0 _ e0)).trans e0;have N8:=(lH.cell (sK W0 _ e1)).trans e1;have Kl:=(lH.cell (sK W0 _ t0)).trans t0;have BR:wr.heap[(w:Nat)+1+1]?=OK (.cells #[()] 47 (0,0)):=(lH.block _ (zZ H0.out.2.2)).trans H0.out.2.2;have Ec:=r9 BR;have HB:=r9 lH;have sw:=r9 (zzT H0.out.1 lH);have iX:wr.frozen? (w+1+1:Nat)=RC:=by simp only[RO,BR];rfl
  have AW:wr (w+1+1:Nat)=OK (.slice U 0 0):=by simp only[RE,BR];rfl
  clear lH e0 e1 t0 BR;cases k with
  | zero =>
    have hz:((0:Nat):Int)-1 = -1:=rfl;rw[hz];have HN:=r9 (show jh ns x=U from hf);clear hf hz;have HE:=r9 (show zd ns (.nm x)=(.mk [],RC) by rw[zd,HN.out];rfl);have iu:wr.drew.frozen? (w+1+1:Nat)=RC:=iX;have BM:wr.drew (w+1+1:Nat)=OK (.slice U 0 0):=AW;go_wp2_with fail
    refine rS (fun w'=>w' (w+1:Nat)=str x) (fun _=>RC) Kl fun sP=>?_;refine tC [0,1,2,3,4,5,6,7,8,9,10,11,12,13] sP ?_;iterate 14 (refine tl (fun w' sL=>sL) ?_)
    refine tz ?_;(refine on 14 ?_;intro o ho K' hK;simp at ho;subst ho;go_simp);(refine hK.out _ _ (fun _=>zu sP (by omega)) ?_;clear hK K';try simp only[pQ,pN,pZ,pS]);(refine on 15 ?_;intro o ho K' hK;simp at ho;subst ho;go_simp);(refine hK.out _ _ (fun _=>zu sP (by omega)) ?_;clear hK K';try simp only[pQ,pN,pZ,pS]);refine zX (by kernel_rfl) (RQ ?_) _;go_wp2_with fail
    obtain⟨W,hW,s0,sF,tZ⟩:=qX (Ec.out) ();rw[<- hW];refine bodyPost_ret (v:=.tuple #[.agg #[()],.bool RC]) (by simp[results,Sg,go_sem,s0]) rfl ?_;rw[HE.out];exact vF (k:=.mk []) HP.out.old H0.out.1 H0.out.2.1 HB.out (zv.2 ⟨rfl,U,0,rfl,sZ _,fun _=>rfl,.inl rfl⟩) (fun B w0 h hB=>(sF B w0 h hB).drew) tZ
  | succ j =>
    have hj:j<ns.length:=by omega
    rw[show ((j+1:Nat):Int)-1=(j:Int) from by omega];obtain⟨nb,no,nu,nd,e,_,I9,Gw,og,A0⟩:=AN.out j hj;subst e;rw[S5,RP]at Gw;obtain⟨⟨y,t⟩,hy,rfl⟩:=Gw;rw[zC]at A0;subst A0;have q0:wr (nb,no+j)=str y:=(sw.out.cell (p:=(nb,no+j)) I9).trans og;have hjI:(j:Int)<(ns.length:Int):=by omega
    have sf:qT ns x (j+1)=if y=x then OK j else qT ns x j:=by
     rw[qT,hy];simp
    by_cases BQ:y=x
    ·subst BQ;have q:(y == y)=OX:=by simp
     have HS:=r9 (show jh ns y=OK j by rw[show jh ns y=qT ns y (j+1) from hf,sf,if_pos rfl]);obtain⟨kb,ko,ku,kd,e,_,il,Ey,D6,Cf⟩:=AK.out j hj;subst e;rw[vU,RP]at Ey;obtain⟨t2,Me,rfl⟩:=Ey;have et:t2=t:=by rw[yY hy]at Me;exact(RZ Me).symm
     subst et;obtain⟨xa,xc,rfl⟩:=za Cf;have q1:wr (kb,ko+j)=OK (.slice xa t2.args.length xc):=(sw.out.cell (p:=(kb,ko+j)) il).trans D6;have HK:=r9 Cf;have HE:=r9 (show zd ns (.nm y)=(t2,OX) by rw[zd,HS.out,Option.bind_some,hy];rfl);clear hf sf hy og D6 Cf Me;go_wp2_with fail
     go_region
     go_wp2_with fail
     obtain⟨W,hW,s0,sF,tZ⟩:=qX (Ec.out) (.slice xa t2.args.length xc);rw[<- hW];refine bodyPost_ret (v:=.tuple #[.agg #[.slice xa t2.args.length xc],.bool OX]) (by simp[results,Sg,go_sem,s0]) rfl ?_;rw[HE.out];exact vF HP.out.old H0.out.1 H0.out.2.1 HB.out (Rep.below sw.out (fun _ h=>.inl h) HK.out) (fun B w0 h hB=>(sF B w0 h hB).drew) tZ
    ·have q:(y == x)=RC:=by rw[beq_eq_false_iff_ne];exact BQ
     have HS:=r9 (show jh ns x=qT ns x j by rw[show jh ns x=qT ns x (j+1) from hf,sf,if_neg BQ]);clear hf sf hy BQ og;go_wp2_with fail
     go_region
     go_wp2_with fail
     go_round
     case rel=>exact⟨j,_,rfl,by omega,by go_num,HS.out,HB.out.drew⟩
     case measure=>simp only[intOf];omega
theorem kd_wd (F:Nat->Prop)(x:Bs)(ns:List Nm)(nv tv s pv:Value)(w:World)(hp:gG F (.wd x) ns nv tv s pv w):Calls RG 34 #[.agg #[nv,tv],.agg #[s,pv]] w (uS F w (zd ns (.wd x)).1 (zd ns (.wd x)).2):=by
 have hold:=hp.old;obtain⟨na,nc,rfl,_,_,iC⟩:=zH hp.rn;obtain⟨ka,kc,rfl,_,_,iD⟩:=zH hp.rk;have tQ:=hp.rt;rw[kg]at tQ;obtain⟨qa,qc,e,sy⟩:=q_ tQ;simp only[qE,jB,RY,and_true]at e sy;obtain⟨rfl,rfl⟩:=e;have AA:x≠[]:=(pG hp.ok).1;have Jc:x=[116]\/x=[102]\/x=[117]:=by
  have h:js x=OX:=hp.ok;simp only[js,Bool.or_eq_true,beq_iff_eq]at h;rcases h with (h|h)|h
  ·exact .inl h
  ·exact .inr (.inl h)
  ·exact .inr (.inr h)
 obtain⟨W0,tW⟩:=zzM (((w.alloc (.cells #[.slice na ns.length nc,.slice ka ns.length kc] 57)).alloc (.cells #[x,.slice qa 0 qc] 44)).alloc (.cells #[()] 47));obtain⟨s8,z0,bA,bB,bC⟩:=xN w (.cells #[.slice na ns.length nc,.slice ka ns.length kc] 57) (.cells #[x,.slice qa 0 qc] 44) (.cells #[()] 47);rw[<- tW]at s8 z0 bA bB bC;have e0:W0 w=OK (.slice na ns.length nc):=by simp[RE,bA]
 have e1:W0 (w,1)=OK (.slice ka ns.length kc):=by simp[RE,bA]
 have t0:W0 (w+1:Nat)=str x:=by simp[RE,bB]
 have H0:=r9 (r_ s8 (r_ z0 bC));have hne:(x != [])=OX:=by rw[bne_iff_ne];exact AA
 have FT:(!x.isEmpty)=OX:=by cases x with | nil=>exact absurd rfl AA | cons a b=>rfl
 have Cx:x.isEmpty=RC:=by cases x with | nil=>exact absurd rfl AA | cons a b=>rfl
 have AN:=r9 iC;have AK:=r9 iD;have Ce:ns.length<=100:=by have:=hp.room;omega
 have HP:=r9 hp;clear iC iD s8 z0 bA bB bC hp;go_enter UD,Um;go_wp2_with fail
 rw[<- tW];clear tW
 go_loopw [6] (fun i wz=>∃(k:Nat) (wr:World),wr=wz/\k<=ns.length/\i=.int .i64 ((k:Int)-1)/\FoundR ns x k/\No W0 wr) (fun i _=>(intOf i+1).toNat)
 case atStart=>exact⟨ns.length,_,rfl,sZ _,rfl,rfl,sQ _ _⟩
 case round=>
  obtain⟨k,wr,ewr,hk,rfl,hf,lH⟩:=hrel;subst ewr;have e0':=(lH.cell (sK W0 _ e0)).trans e0;have N8:=(lH.cell (sK W0 _ e1)).trans e1;have Kl:=(lH.cell (sK W0 _ t0)).trans t0;have BR:wr.heap[(w:Nat)+1+1]?=OK (.cells #[()] 47 (0,0)):=(lH.block _ (zZ H0.out.2.2)).trans H0.out.2.2;have Ec:=r9 BR;have HB:=r9 lH;have sw:=r9 (zzT H0.out.1 lH);have iX:wr.frozen? (w+1+1:Nat)=RC:=by simp only[RO,BR];rfl
  have AW:wr (w+1+1:Nat)=OK (.slice U 0 0):=by simp only[RE,BR];rfl
  clear lH e0 e1 t0 BR;cases k with
  | zero =>
    have hz:((0:Nat):Int)-1 = -1:=rfl;rw[hz];have HN:=r9 (show jh ns x=U from hf);clear hf hz;have HE:=r9 (show zd ns (.wd x)=(.mk [],OX) by rw[zd]);clear AA hne FT Cx HN;rcases Jc with rfl|rfl|rfl
    focus
     have iu:wr.drew.frozen? (w+1+1:Nat)=RC:=iX;have BM:wr.drew (w+1+1:Nat)=OK (.slice U 0 0):=AW;go_wp2_with fail
     refine rS (fun w'=>w' (w+1:Nat)=OK (str [116])) (fun _=>RC) Kl fun sP=>?_;refine tk [0,1,2,3,4,5,6,7,8,9,10,11,12,13] sP ?_;(intro d hd;simp[tkD]at hd;subst hd;simp only[tks,pQ,pZ,pS]);iterate 14 (refine⟨?_,?_,?_⟩;rotate_left;· (intro oi ho;simp at ho;subst ho;first | (refine Vq ⟨by rfl,?_⟩;with_reducible rfl) | (refine Vr ⟨by rfl,fun w' sL=>?_⟩;have e2:=sL;go_simp;try with_reducible rfl)))
    rotate_left
    focus
     have iu:wr.drew.frozen? (w+1+1:Nat)=RC:=iX;have BM:wr.drew (w+1+1:Nat)=OK (.slice U 0 0):=AW;go_wp2_with fail
     refine rS (fun w'=>w' (w+1:Nat)=OK (str [102])) (fun _=>RC) Kl fun sP=>?_;refine tk [0,1,2,3,4,5,6,7,8,9,10,11,12,13] sP ?_;(intro d hd;simp[tkD]at hd;subst hd;simp only[tks,pQ,pZ,pS]);iterate 14 (refine⟨?_,?_,?_⟩;rotate_left;· (intro oi ho;simp at ho;subst ho;first | (refine Vq ⟨by rfl,?_⟩;with_reducible rfl) | (refine Vr ⟨by rfl,fun w' sL=>?_⟩;have e2:=sL;go_simp;try with_reducible rfl)))
    rotate_left
    focus
     have iu:wr.drew.frozen? (w+1+1:Nat)=RC:=iX;have BM:wr.drew (w+1+1:Nat)=OK (.slice U 0 0):=AW;go_wp2_with fail
     refine rS (fun w'=>w' (w+1:Nat)=OK (str [117])) (fun _=>RC) Kl fun sP=>?_;refine tC [0,1,2,3,4,5,6,7,8,9,10,11,12,13] sP ?_;iterate 14 (refine tl (fun w' sL=>sL) ?_)
     refine tz ?_
    all_goals
     (refine on 14 ?_;intro o ho K' hK;simp at ho;subst ho;go_simp);(refine hK.out _ _ (fun _=>zu sP (by omega)) ?_;clear hK K';try simp only[pQ,pN,pZ,pS]);(refine on 15 ?_;intro o ho K' hK;simp at ho;subst ho;go_simp);(refine hK.out _ _ (fun _=>zu sP (by omega)) ?_;clear hK K';try simp only[pQ,pN,pZ,pS]);refine zX (by kernel_rfl) (RQ ?_) _
     go_wp2_with fail
     obtain⟨W,hW,s0,sF,tZ⟩:=qX (Ec.out) ();rw[<- hW];refine bodyPost_ret (v:=.tuple #[.agg #[()],.bool OX]) (by simp[results,Sg,go_sem,s0]) rfl ?_;rw[HE.out];exact vF (k:=.mk []) HP.out.old H0.out.1 H0.out.2.1 HB.out (zv.2 ⟨rfl,U,0,rfl,sZ _,fun _=>rfl,.inl rfl⟩) (fun B w0 h hB=>(sF B w0 h hB).drew) tZ
  | succ j =>
    have hj:j<ns.length:=by omega
    rw[show ((j+1:Nat):Int)-1=(j:Int) from by omega];obtain⟨nb,no,nu,nd,e,_,I9,Gw,og,A0⟩:=AN.out j hj;subst e;rw[S5,RP]at Gw;obtain⟨⟨y,t⟩,hy,rfl⟩:=Gw;rw[zC]at A0;subst A0;have q0:wr (nb,no+j)=str y:=(sw.out.cell (p:=(nb,no+j)) I9).trans og;have hjI:(j:Int)<(ns.length:Int):=by omega
    have sf:qT ns x (j+1)=if y=x then OK j else qT ns x j:=by
     rw[qT,hy];simp
    have BQ:y≠x:=by
     rintro rfl;have h1:=HP.out.nm (y,t) (List.mem_of_getElem? hy);have h2:=fK (show js y=OX from HP.out.ok);rw[show qi y=OX from h1]at h2;exact absurd h2 (by decide)
    have q:(y == x)=RC:=by rw[beq_eq_false_iff_ne];exact BQ
    have HS:=r9 (show jh ns x=qT ns x j by rw[show jh ns x=qT ns x (j+1) from hf,sf,if_neg BQ]);clear hf sf hy BQ og;go_wp2_with fail
    go_region
    go_wp2_with fail
    go_round
    case rel=>exact⟨j,_,rfl,by omega,by go_num,HS.out,HB.out.drew⟩
    case measure=>simp only[intOf];omega
theorem zY.get1 {F:Nat->Prop}{w:World}{d:DV}{v:Value}(h:zY F w [d] [v]):Rep F w d v:=by
 obtain⟨_,_,e,h1,_⟩:=zQ.1 h;simp only[RY]at e;rw[e.1];exact h1
theorem Rep_sl1_tailR {F:Nat->Prop}{w:World}{e:TypeId}{n b o cap:Nat}{d:DV}{ds:List DV}(h:Rep F w (.sl e 1 (n+1) (d::ds)) (.slice (b,o) (n+1) cap)) :
 Rep F w (.sl e 1 n ds) (.slice (b,o+1) n (cap-1)):=by
 rw[zv]at h ⊢;obtain⟨hl,a,c,e1,hn,hz,h⟩:=h;simp only[RT]at e1;obtain⟨rfl,_,rfl⟩:=e1;refine⟨by simpa using hl,_,_,rfl,by omega,fun h=>by simp at h,.inr ?_⟩;rcases h with h0|⟨b',o',cs,fr,e2,hb,aP,hr⟩
 ·omega
 simp only[RK,So,and_true]at e2;obtain⟨rfl,rfl⟩:=e2;refine⟨_,_,cs,fr,rfl,hb,aP,?_⟩;have h2:=hr;rw[zQ]at h2;obtain⟨v,vs,e3,_,h4⟩:=h2;have:vs=List.take (n*1) (Uq (o+1) cs.toList):=by
  have h5:=congrArg (Uq 1) e3;rw[List.drop_take,List.drop_drop]at h5;simpa using h5.symm
 rw[<- this];exact h4
theorem encS_tail {F:Nat->Prop}{w:World}{c:Ty}{cs:List Ty}{b o cap:Nat}(h:Rep F w (.sl 47 1 (cs.length+1) (qu (c::cs))) (.slice (b,o) (cs.length+1) cap)):Rep F w (ki (.mk cs)) (.slice (b,o+1) cs.length (cap-1)):=by
 rw[jJ];exact Rep_sl1_tailR (d:=ki c) h
theorem kd_app (N:Nat)(ih:KdSaid N)(F:Nat->Prop)(m n:Tm)(ns:List Nm)(nv tv s pv:Value)(w:World)(hN:zO (.app m n)<=N+1)(hp:gG F (.app m n) ns nv tv s pv w):Calls RG 34 #[.agg #[nv,tv],.agg #[s,pv]] w (uS F w (zd ns (.app m n)).1 (zd ns (.app m n)).2):=by
 have hold:=hp.old;obtain⟨na,nc,rfl,_,_,iC⟩:=zH hp.rn;obtain⟨ka,kc,rfl,_,_,iD⟩:=zH hp.rk;have tQ:=hp.rt;rw[kg]at tQ;obtain⟨qa,qc,e,sy⟩:=q_ tQ;simp only[qE,jB,RY,and_true]at e sy;obtain⟨rfl,rfl⟩:=e;obtain⟨_,_,e,sG⟩:=yR.of sy;simp only[RT,true_and]at e;obtain⟨rfl,rfl⟩:=e;obtain⟨sh,sg,s1,a1,n1,c1,d1,A9,aS,oF,oR,Cq,lL,FB,GT⟩:=sG 1 (by simp);simp only[RV,RW,RK]at oF;subst oF;subst A9;obtain⟨L0,LY,s2,a2,n2,c2,d2,A8,Do,A7,A_,Cp,Ak,GP,GS⟩:=sG 2 (by simp);simp only[RV,RW,RK]at A7;subst A7;simp only[RK,So,and_true]at A8;obtain⟨rfl,rfl⟩:=A8;have tP:=hp.room;have sI:=hp.ok;have aA:=hp.sm;rw[zO]at tP hN;rw[kJ]at aA;simp only[R3]at aA;obtain⟨W0,tW⟩:=zzM (((w.alloc (.cells #[.slice na ns.length nc,.slice ka ns.length kc] 57)).alloc (.cells #[str [],.slice (sh,sg) 3 qc] 44)).alloc (.cells #[()] 47));obtain⟨s8,z0,bA,bB,bC⟩:=xN w (.cells #[.slice na ns.length nc,.slice ka ns.length kc] 57) (.cells #[str [],.slice (sh,sg) 3 qc] 44) (.cells #[()] 47);rw[<- tW]at s8 z0 bA bB bC;have CH:=r9 (show Calls RG 37 #[.agg #[str [],.slice (sh,sg) 3 qc]] W0 (fun en w'=>en=.returned (str (xH (kg (.app m n))))/\No W0 w') from ux (kg (.app m n)) (uW _ hp.ok) F W0 _ _ (zY.below s8 (fun _ h=>h) hp.rt));have IQ:xH (kg (.app m n))=[97,112,112]:=by rw[kg];rfl
 rw[IQ]at CH;have H0:=r9 (r_ s8 (r_ z0 (r_ bA bC)));obtain⟨km,qm,Ew⟩:∃k q,zd ns m=(k,q):=⟨_,_,rfl⟩;have Cm:Hid (∀wz,No w wz->Calls RG 34 #[.agg #[.slice na ns.length nc,.slice ka ns.length kc],.agg #[s1,.slice a1 n1 c1]] wz (uS F wz km qm)):=by
  show ∀wz,_->_;intro wz hz;have h:=ih F m ns _ _ _ _ wz (by omega) ⟨fun i h=>sV (hp.old i h) hz.size,zY.below hz (fun _ h=>h) lL,Rep.below hz (fun _ h=>h) hp.rn,Rep.below hz (fun _ h=>h) hp.rk,sI.1,aA.1,hp.nm,hp.n15,by omega⟩;rw[Ew]at h;exact h
 obtain⟨kn,qn,B6⟩:∃k q,zd ns n=(k,q):=⟨_,_,rfl⟩;have Cn:Hid (∀wz,No w wz->Calls RG 34 #[.agg #[.slice na ns.length nc,.slice ka ns.length kc],.agg #[s2,.slice a2 n2 c2]] wz (uS F wz kn qn)):=by
  show ∀wz,_->_;intro wz hz;have h:=ih F n ns _ _ _ _ wz (by omega) ⟨fun i h=>sV (hp.old i h) hz.size,zY.below hz (fun _ h=>h) Ak,Rep.below hz (fun _ h=>h) hp.rn,Rep.below hz (fun _ h=>h) hp.rk,sI.2,aA.2,hp.nm,hp.n15,by omega⟩;rw[B6]at h;exact h
 have e0:W0 w=OK (.slice na ns.length nc):=by simp[RE,bA]
 have e1:W0 (w,1)=OK (.slice ka ns.length kc):=by simp[RE,bA]
 have SX:Hid (∀w',No W0 w'->w' w=OK (.slice na ns.length nc)/\w' (w,1)=OK (.slice ka ns.length kc)/\w' (sh,sg+2)=str s1/\w' (sh,sg+3)=OK (.slice a1 n1 c1)/\w' (sh,sg+4)=str s2/\w' (sh,sg+5)=OK (.slice a2 n2 c2)):=by
  show ∀w',_->_;intro w' sA;have tE:=zzT s8 sA;exact⟨(sA.cell (sK W0 _ e0)).trans e0,(sA.cell (sK W0 _ e1)).trans e1,(tE.cell (p:=(sh,sg+2)) aS).trans oR,(tE.cell (p:=(sh,sg+3)) aS).trans Cq,(tE.cell (p:=(sh,sg+4)) aS).trans A_,(tE.cell (p:=(sh,sg+5)) aS).trans Cp⟩
 have HP:=r9 (r_ hp (r_ sI aA));clear iC iD sy sG tQ hp sI aA ih hN s8 z0 bA bB bC e0 e1 lL oR Cq FB GT Ak A_ Cp GP GS;clear aS;clear Do;go_enter UD,Um;go_wp2_with fail
 rw[<- tW];clear tW;(with_reducible refine CH.out.mono ?_);rintro en w1 ⟨rfl,sX⟩;have H1:=r9 (r_ sX (zzT H0.out.1 sX));clear sX CH;go_wp2_with fail
 have Ns:=H1;have CRm:=r9 (fun wz (hz:No w1 wz)=>Cm.out wz (H1.out.2.trans (hz.mono (H1.out.2).size)));have Na:Hid (∀i,F i->i<(w1:Nat)):=fun i h=>sV (HP.out.1.old i h) (H1.out.2).size;refine je (X:=Nat×Option Addr×Nat) (fun a x=>((((((((((a.put (OK 105) (.agg #[.slice na ns.length nc,.slice ka ns.length kc])).put (OK 106) (.slice (sh,sg) 3 qc)).put (OK 107) (.pointer (OK ⟨sh,sg+2,U⟩))).put (OK 108) (.agg #[s1,.slice a1 n1 c1])).put (OK 109) (.tuple #[.agg #[.slice x.2.1 km.args.length x.2.2],.bool qm])).put (OK 104) (.tuple #[.agg #[.slice x.2.1 km.args.length x.2.2],.bool qm])).put (OK 110) (.agg #[.slice x.2.1 km.args.length x.2.2])).put (OK 111) (.bool qm)).put (OK 13) (.pointer (OK ⟨x.1,0,U⟩))).put (OK 14) (.bool qm))) (fun x w'=>z8 F w1 x.1 (.cells #[.slice x.2.1 km.args.length x.2.2] 47 (0,0)) [ki km] [.slice x.2.1 km.args.length x.2.2] w') ?_ ?_
 ·refine rB fun sP=>?_;refine tC [0,1,2,3] sP ?_;iterate 4 (refine tl (fun w' sL=>SX.out w' (H1.out.1.trans (sL.mono (H1.out.1).size))) ?_)
  refine tz ?_;refine qU 4 8 (by kernel_rfl) ?_ ?_
  ·(intro o4 ho K' hK;simp at ho;subst ho);go_simp
   go_at_call 34;(with_reducible refine(CRm.out w1.drew sP).mono ?_);rintro en y1 ⟨xx,yy,rfl,hb,hr⟩;have sD:No w1 y1:=sP.trans hb;(refine hK.out _ _ (fun _=>sD) ?_;clear hK K';try simp only[pQ,pN,pZ,pS]);refine tC [5,6,7] sD ?_;iterate 3 (refine tx ?_)
   refine tz ?_;refine oC 8 (sD.alloc (sD).size _) ?_;have bz:(y1.alloc (.cells #[()] 47)).heap[(y1:Nat)]?=OK (.cells #[()] 47 (0,0)):=zW _ _;obtain⟨oe,od⟩:=yc1 bz;refine oC 9 (sD.alloc sD.size _) ?_;refine oC 10 (sD.alloc sD.size _) ?_;refine zX (by kernel_rfl) (RQ ?_) _;exact⟨rfl,⟨y1,xx,yy⟩,by rfl,z8.fresh sD (zY.one hr)⟩
  ·(intro o8 ho K' hK;simp at ho;subst ho);go_simp
   (refine hK.out _ _ (fun _=>sP.alloc (sZ _) _) ?_;clear hK K';try simp only[pQ,pN,pZ,pS]);(refine on 4 ?_;intro o ho K' hK;simp at ho;subst ho;go_simp);go_at_call 34
   have aG:No w1 (w1.alloc (.cells #[()] 47)).drew:=sP.alloc (sZ _) _;(with_reducible refine(CRm.out _ aG).mono ?_);rintro en y1 ⟨xx,yy,rfl,hb,hr⟩;have sD:No w1 y1:=zzT aG hb;(refine hK.out _ _ (fun _=>sD) ?_;clear hK K';try simp only[pQ,pN,pZ,pS]);refine tC [5,6,7] sD ?_;iterate 3 (refine tx ?_)
   refine tz ?_;have bz:y1.heap[(w1:Nat)]?=OK (.cells #[()] 47 (0,0)):=(hb.block _ (show _<_ from by simp)).trans (zW w1 (.cells #[()] 47));obtain⟨oe,od⟩:=yc1 bz;refine oC 9 ((sD.setCell (p:=w1) (sZ _) _)) ?_;refine oC 10 ((sD.setCell (p:=w1) (sZ _) _)) ?_;refine zX (by kernel_rfl) (RQ ?_) _;exact⟨rfl,⟨w1,xx,yy⟩,by rfl,z8.first Na.out aG (by simp) hb (zY.one hr) (but1 _ _ _) (by rw[zj bz];rfl)⟩
 rintro⟨gm,xm,ym⟩ zm hR;have Rm:Hid (z8 F w1 gm (.cells #[.slice xm km.args.length ym] 47 (0,0)) [ki km] [.slice xm km.args.length ym] zm):=hR;have ij:Hid (No W0 zm/\No w zm):=⟨H1.out.1.trans (Rm.out.below.mono (H1.out.1).size),H1.out.2.trans (Rm.out.below.mono (H1.out.2).size)⟩;clear hR CRm;simp only[Act.put,R_,Sl,Sm];go_wp2_with fail
 have Nr:=ij;have CRn:=r9 (fun wz (hz:No zm wz)=>Cn.out wz (ij.out.2.trans (hz.mono (ij.out.2).size)));have M_:Hid (∀i,F i->i<(zm:Nat)):=fun i h=>sV (HP.out.1.old i h) (ij.out.2).size;refine je (X:=Nat×Option Addr×Nat) (fun a x=>((((((((((a.put (OK 113) (.agg #[.slice na ns.length nc,.slice ka ns.length kc])).put (OK 114) (.slice (sh,sg) 3 qc)).put (OK 115) (.pointer (OK ⟨sh,sg+4,U⟩))).put (OK 116) (.agg #[s2,.slice a2 n2 c2])).put (OK 117) (.tuple #[.agg #[.slice x.2.1 kn.args.length x.2.2],.bool qn])).put (OK 112) (.tuple #[.agg #[.slice x.2.1 kn.args.length x.2.2],.bool qn])).put (OK 118) (.agg #[.slice x.2.1 kn.args.length x.2.2])).put (OK 119) (.bool qn)).put (OK 15) (.pointer (OK ⟨x.1,0,U⟩))).put (OK 16) (.bool qn))) (fun x w'=>z8 F zm x.1 (.cells #[.slice x.2.1 kn.args.length x.2.2] 47 (0,0)) [ki kn] [.slice x.2.1 kn.args.length x.2.2] w') ?_ ?_
 ·refine rB fun sP=>?_;refine tC [0,1,2,3] sP ?_;iterate 4 (refine tl (fun w' sL=>SX.out w' (ij.out.1.trans (sL.mono (ij.out.1).size))) ?_)
  refine tz ?_;refine qU 4 8 (by kernel_rfl) ?_ ?_
  ·(intro o4 ho K' hK;simp at ho;subst ho);go_simp
   go_at_call 34;(with_reducible refine(CRn.out zm.drew sP).mono ?_);rintro en y1 ⟨xx,yy,rfl,hb,hr⟩;have sD:No zm y1:=sP.trans hb;(refine hK.out _ _ (fun _=>sD) ?_;clear hK K';try simp only[pQ,pN,pZ,pS]);refine tC [5,6,7] sD ?_;iterate 3 (refine tx ?_)
   refine tz ?_;refine oC 8 (sD.alloc (sD).size _) ?_;have bz:(y1.alloc (.cells #[()] 47)).heap[(y1:Nat)]?=OK (.cells #[()] 47 (0,0)):=zW _ _;obtain⟨oe,od⟩:=yc1 bz;refine oC 9 (sD.alloc sD.size _) ?_;refine oC 10 (sD.alloc sD.size _) ?_;refine zX (by kernel_rfl) (RQ ?_) _;exact⟨rfl,⟨y1,xx,yy⟩,by rfl,z8.fresh sD (zY.one hr)⟩
  ·(intro o8 ho K' hK;simp at ho;subst ho);go_simp
   (refine hK.out _ _ (fun _=>sP.alloc (sZ _) _) ?_;clear hK K';try simp only[pQ,pN,pZ,pS]);(refine on 4 ?_;intro o ho K' hK;simp at ho;subst ho;go_simp);go_at_call 34
   have aG:No zm (zm.alloc (.cells #[()] 47)).drew:=sP.alloc (sZ _) _;(with_reducible refine(CRn.out _ aG).mono ?_);rintro en y1 ⟨xx,yy,rfl,hb,hr⟩;have sD:No zm y1:=zzT aG hb;(refine hK.out _ _ (fun _=>sD) ?_;clear hK K';try simp only[pQ,pN,pZ,pS]);refine tC [5,6,7] sD ?_;iterate 3 (refine tx ?_)
   refine tz ?_;have bz:y1.heap[(zm:Nat)]?=OK (.cells #[()] 47 (0,0)):=(hb.block _ (show _<_ from by simp)).trans (zW zm (.cells #[()] 47));obtain⟨oe,od⟩:=yc1 bz;refine oC 9 ((sD.setCell (p:=zm) (sZ _) _)) ?_;refine oC 10 ((sD.setCell (p:=zm) (sZ _) _)) ?_;refine zX (by kernel_rfl) (RQ ?_) _;exact⟨rfl,⟨zm,xx,yy⟩,by rfl,z8.first M_.out aG (by simp) hb (zY.one hr) (but1 _ _ _) (by rw[zj bz];rfl)⟩
 rintro⟨gn,xn,yn⟩ zn hR;have Rn:Hid (z8 F zm gn (.cells #[.slice xn kn.args.length yn] 47 (0,0)) [ki kn] [.slice xn kn.args.length yn] zn):=hR;have lW:Hid (No W0 zn/\No w zn):=⟨ij.out.1.trans (Rn.out.below.mono (ij.out.1).size),ij.out.2.trans (Rn.out.below.mono (ij.out.2).size)⟩;clear hR CRn;simp only[Act.put,R_,Sl,Sm];go_wp2_with fail
 have bm:zn gm=OK (.slice xm km.args.length ym):=(Rn.out.below.cell (sK _ _ (Rm.out.cell0))).trans (Rm.out.cell0);have Tm:Hid (Rep (fun i=>F i\/W0<=i) zn (ki km) (.slice xm km.args.length ym)):=Rep.below (F':=fun i=>F i\/W0<=i) Rn.out.below (fun _ h=>h) ((zY.get1 Rm.out.rep).weak (G:=fun i=>F i\/W0<=i) (fun i h=>h.1.elim .inl (fun h=>.inr (sU (Ns.out.1).size h))));have bn:zn gn=OK (.slice xn kn.args.length yn):=Rn.out.cell0;have Tn:Hid (Rep (fun i=>F i\/W0<=i) zn (ki kn) (.slice xn kn.args.length yn)):=(zY.get1 Rn.out.rep).weak (G:=fun i=>F i\/W0<=i) (fun i h=>h.1.elim .inl (fun h=>.inr (sU (Nr.out.1).size h)));have BR:Hid (zn.heap[(w:Nat)+1+1]?=OK (.cells #[()] 47 (0,0))):=(lW.out.1.block _ (zZ H0.out.2.2.2)).trans H0.out.2.2.2;have iX:zn.frozen? (w+1+1:Nat)=RC:=by simp only[RO,BR.out];rfl
 have AW:zn (w+1+1:Nat)=OK (.slice U 0 0):=by simp only[RE,BR.out];rfl
 have HE:=r9 (show zd ns (.app m n)=if qm=false\/qn=false then (km,false) else match km.args with
  |[]=>(km,RC)
  | c::cs=>if zS c=zS kn then (.mk cs,true) else (km,false) by rw [zd,Ew,B6];rfl)
 have Kb:=r9 (r_ Ew B6);clear Ew B6 Cm Cn;cases qm with
 | false =>
   go_region
   go_wp2_with fail
   have aM:=r9 (show zd ns (.app m n)=(km,RC) by rw[HE.out];simp);obtain⟨W,hW,s0,sF,tZ⟩:=qX (BR.out) (.slice xm km.args.length ym);rw[<- hW];refine bodyPost_ret (v:=.tuple #[.agg #[.slice xm km.args.length ym],.bool RC]) (by simp[results,Sg,go_sem,s0]) rfl ?_;rw[aM.out];exact vF (k:=km) HP.out.1.old H0.out.1 H0.out.2.1 lW.out.1 Tm.out (fun B w0 h hB=>(sF B w0 h hB).drew) tZ
 | true =>
   cases qn with
   | false =>
     go_region
     go_wp2_with fail
     have aM:=r9 (show zd ns (.app m n)=(km,RC) by rw[HE.out];simp);obtain⟨W,hW,s0,sF,tZ⟩:=qX (BR.out) (.slice xm km.args.length ym);rw[<- hW];refine bodyPost_ret (v:=.tuple #[.agg #[.slice xm km.args.length ym],.bool RC]) (by simp[results,Sg,go_sem,s0]) rfl ?_;rw[aM.out];exact vF (k:=km) HP.out.1.old H0.out.1 H0.out.2.1 lW.out.1 Tm.out (fun B w0 h hB=>(sF B w0 h hB).drew) tZ
   | true =>
     have Gp:=r9 (show zd ns (.app m n)=match km.args with
      |[]=>(km,RC)
      | c::cs=>if zS c=zS kn then (.mk cs,true) else (km,false) by rw [HE.out];simp)
     have hr:=Tm.out;rw[jJ]at hr;obtain⟨_,_,e,Nz,_,sG⟩:=zH hr;simp only[RT,true_and]at e;obtain⟨rfl,rfl⟩:=e;have FV:=qK m ns km HP.out.1.n15 (by have:=yu (t:=m) (ns:=ns) HP.out.2.2.1 (by rw[Kb.out.1]);rwa [Kb.out.1]at this);have Ib:=qK n ns kn HP.out.1.n15 (by have:=yu (t:=n) (ns:=ns) HP.out.2.2.2 (by rw[Kb.out.2]);rwa [Kb.out.2]at this);have Np:=r9 hr;cases t6:km.args with
     | nil =>
       have I5:(((km.args.length:Nat):Int) == 0)=OX:=by rw[t6];rfl
       have aM:=r9 (show zd ns (.app m n)=(km,RC) by rw[Gp.out,t6]);clear hr sG t6 Nz;generalize hL:km.args.length=L at *
       go_region
       go_wp2_with fail
       subst hL;obtain⟨W,hW,s0,sF,tZ⟩:=qX (BR.out) (.slice xm km.args.length ym);rw[<- hW];refine bodyPost_ret (v:=.tuple #[.agg #[.slice xm km.args.length ym],.bool RC]) (by simp[results,Sg,go_sem,s0]) rfl ?_;rw[aM.out];exact vF (k:=km) HP.out.1.old H0.out.1 H0.out.2.1 lW.out.1 Tm.out (fun B w0 h hB=>(sF B w0 h hB).drew) tZ
     | cons c cs =>
       obtain⟨ab,ao,au,ad,ea,_,NT,had,M2,har⟩:=sG 0 (by rw[t6];simp);subst ea;rw[t6]at had Nz;simp only[qu,RV,RK]at had;subst had;obtain⟨ca,cc,rfl⟩:=za har;have Ad:zU c<=15:=fM FV c (by rw[t6];simp);have I5:(((km.args.length:Nat):Int) == 0)=RC:=by rw[t6,beq_eq_false_iff_ne];simp;omega
       have lU:(0:Int)<((km.args.length:Nat):Int):=by rw[t6];simp
       have iP:0<km.args.length:=by rw[t6];simp
       have J4:zn (ab,ao)=OK (.slice ca c.args.length cc):=M2;have Kg:=r9 (fun wz (h:No zn wz)=>uK 15 c Ad (by omega) _ wz _ (Rep.below (F':=fun i=>F i\/W0<=i) h (fun _ h=>h) har));have EU:=r9 (fun wz (h:No zn wz)=>uK 15 kn Ib (by omega) _ wz _ (Rep.below (F':=fun i=>F i\/W0<=i) h (fun _ h=>h) Tn.out));have SY:Hid (∀w',No zn w'->w' gm=OK (.slice (ab,ao) km.args.length ym)/\w' gn=OK (.slice xn kn.args.length yn)/\w' (ab,ao)=OK (.slice ca c.args.length cc)):=by
        show ∀w',_->_;intro w' h;exact⟨(h.cell (sK _ _ bm)).trans bm,(h.cell (sK _ _ bn)).trans bn,(h.cell (sK _ _ J4)).trans J4⟩
       have lD:cs.length<=14:=by have:=un FV;rw[t6]at this;simp at this;omega
       have HTS:=r9 t6;have HE3:=r9 (show zd ns (.app m n)=if zS c=zS kn then (.mk cs,OX) else (km,RC) by rw[Gp.out,t6]);have hyl':cs.length+1<=ym:=by simpa using Nz
       have hLc:=r9 (show km.args.length=cs.length+1 by rw[t6];rfl);clear hr sG t6 Nz M2 J4 har Ad FV Ib Gp HE;by_cases Di:zS c=zS kn
       ·have q0:(zS c != zS kn)=RC:=by rw[Di];simp
        have aM:=r9 (show zd ns (.app m n)=(.mk cs,OX) by rw[HE3.out,if_pos Di]);clear Di;obtain⟨X1,IL⟩:=zzM (zS c);obtain⟨X2,ia⟩:=zzM (zS kn);rw[<- IL]at Kg q0;rw[<- ia]at EU q0;have q1:(X1 == X2)=OX:=by first | (rw[beq_iff_eq];simpa using q0) | (rw[beq_eq_false_iff_ne];simpa using q0)
        have q2:(!(X1 == X2)) = !true:=by rw[q1]
        simp only[Wt,Wi]at q2;clear IL ia;refine rB fun sP=>?_;refine tC [0,1,2,3,4,5,6,7,8,9,10,11,12,13,14,15,16,18] sP ?_;iterate 18 (refine tl (fun w' sL=>SY.out w' sL) ?_)
        refine tz ?_;(refine on 17 ?_;intro o ho K' hK;simp at ho;subst ho;go_simp);go_at_call 19;(with_reducible refine(Kg.out _ sP).mono ?_);rintro en v1 ⟨rfl,hb⟩;have i7:Hid (No zn v1):=sP.trans hb;clear hb;(refine hK.out _ _ (fun _=>i7.out) ?_;clear hK K';try simp only[pQ,pN,pZ,pS]);have J6:=i7.out;(refine on 19 ?_;intro o ho K' hK;simp at ho;subst ho;go_simp);go_at_call 19;(with_reducible refine(EU.out _ i7.out).mono ?_);rintro en v2 ⟨rfl,hb⟩;have oD:Hid (No zn v2):=zzT i7.out hb;clear hb;(refine hK.out _ _ (fun _=>oD.out) ?_;clear hK K';try simp only[pQ,pN,pZ,pS]);have M7:=oD.out;refine tC [20,21] M7 ?_;iterate 2 (refine tx ?_)
        refine tz ?_;refine zX (by kernel_rfl) (RQ ?_) _;obtain⟨e0,e1,e2⟩:=SY.out v2 oD.out;have A6:Hid (v2.heap[(w:Nat)+1+1]?=OK (.cells #[()] 47 (0,0))):=(oD.out.block _ (zZ BR.out)).trans BR.out;have lA:v2.frozen? (w+1+1:Nat)=RC:=by simp only[RO,A6.out];rfl
        have Co:v2 (w+1+1:Nat)=OK (.slice U 0 0):=by simp only[RE,A6.out];rfl
        have EQ:Hid (No W0 v2):=zzT lW.out.1 oD.out;have T2:Hid (Rep (fun i=>F i\/W0<=i) v2 (ki km) (.slice (ab,ao) km.args.length ym)):=Rep.below oD.out (fun _ h=>h) Tm.out;clear iX AW bm bn;have HT:Hid (Rep (fun i=>F i\/W0<=i) v2 (.sl 47 1 (cs.length+1) (qu (c::cs))) (.slice (ab,ao) (cs.length+1) ym)):=by
         have h:=T2.out;rw[jJ,HTS.out]at h;exact h
        rw[hLc.out]at e0;clear I5 lU;by_cases tH:ym=1
        ·subst tH;have aP:cs.length=0:=by omega
         obtain rfl:=List.eq_nil_of_length_eq_zero aP;clear aP hyl' lD;go_wp2_with fail
         obtain⟨W,hW,s0,sF,tZ⟩:=qX (A6.out) (.slice (ab,ao) 0 0);rw[<- hW];refine bodyPost_ret (v:=.tuple #[.agg #[.slice (ab,ao) 0 0],.bool OX]) (by simp[results,Sg,go_sem,s0]) rfl ?_;rw[aM.out];exact vF (k:=.mk []) HP.out.1.old H0.out.1 H0.out.2.1 EQ.out (zv.2 ⟨rfl,_,_,rfl,sZ _,fun h=>by simp at h,.inl rfl⟩) sF tZ
        ·go_wp2_with fail
         obtain⟨W,hW,s0,sF,tZ⟩:=qX (A6.out) (.slice (ab,ao+1) cs.length (ym-1));rw[<- hW];refine bodyPost_ret (v:=.tuple #[.agg #[.slice (ab,ao+1) cs.length (ym-1)],.bool OX]) (by simp[results,Sg,go_sem,s0]) rfl ?_;rw[aM.out];exact vF (k:=.mk cs) HP.out.1.old H0.out.1 H0.out.2.1 EQ.out (encS_tail HT.out) sF tZ
       ·have q0:(zS c != zS kn)=OX:=by rw[bne_iff_ne];exact Di
        have aM:=r9 (show zd ns (.app m n)=(km,RC) by rw[HE3.out,if_neg Di]);clear Di;obtain⟨X1,IL⟩:=zzM (zS c);obtain⟨X2,ia⟩:=zzM (zS kn);rw[<- IL]at Kg q0;rw[<- ia]at EU q0;have q1:(X1 == X2)=RC:=by first | (rw[beq_iff_eq];simpa using q0) | (rw[beq_eq_false_iff_ne];simpa using q0)
        have q2:(!(X1 == X2)) = !false:=by rw[q1]
        simp only[Wt,Wi]at q2;clear IL ia;refine rB fun sP=>?_;refine tC [0,1,2,3,4,5,6,7,8,9,10,11,12,13,14,15,16,18] sP ?_;iterate 18 (refine tl (fun w' sL=>SY.out w' sL) ?_)
        refine tz ?_;(refine on 17 ?_;intro o ho K' hK;simp at ho;subst ho;go_simp);go_at_call 19;(with_reducible refine(Kg.out _ sP).mono ?_);rintro en v1 ⟨rfl,hb⟩;have i7:Hid (No zn v1):=sP.trans hb;clear hb;(refine hK.out _ _ (fun _=>i7.out) ?_;clear hK K';try simp only[pQ,pN,pZ,pS]);have J6:=i7.out;(refine on 19 ?_;intro o ho K' hK;simp at ho;subst ho;go_simp);go_at_call 19;(with_reducible refine(EU.out _ i7.out).mono ?_);rintro en v2 ⟨rfl,hb⟩;have oD:Hid (No zn v2):=zzT i7.out hb;clear hb;(refine hK.out _ _ (fun _=>oD.out) ?_;clear hK K';try simp only[pQ,pN,pZ,pS]);have M7:=oD.out;refine tC [20,21] M7 ?_;iterate 2 (refine tx ?_)
        refine tz ?_;refine zX (by kernel_rfl) (RQ ?_) _;obtain⟨e0,e1,e2⟩:=SY.out v2 oD.out;have A6:Hid (v2.heap[(w:Nat)+1+1]?=OK (.cells #[()] 47 (0,0))):=(oD.out.block _ (zZ BR.out)).trans BR.out;have lA:v2.frozen? (w+1+1:Nat)=RC:=by simp only[RO,A6.out];rfl
        have Co:v2 (w+1+1:Nat)=OK (.slice U 0 0):=by simp only[RE,A6.out];rfl
        have EQ:Hid (No W0 v2):=zzT lW.out.1 oD.out;have T2:Hid (Rep (fun i=>F i\/W0<=i) v2 (ki km) (.slice (ab,ao) km.args.length ym)):=Rep.below oD.out (fun _ h=>h) Tm.out;clear iX AW bm bn;clear I5 lU;go_wp2_with fail
        obtain⟨W,hW,s0,sF,tZ⟩:=qX (A6.out) (.slice (ab,ao) km.args.length ym);rw[<- hW];refine bodyPost_ret (v:=.tuple #[.agg #[.slice (ab,ao) km.args.length ym],.bool RC]) (by simp[results,Sg,go_sem,s0]) rfl ?_;rw[aM.out];exact vF (k:=km) HP.out.1.old H0.out.1 H0.out.2.1 EQ.out T2.out sF tZ
theorem kd_ite (N:Nat)(ih:KdSaid N)(F:Nat->Prop)(l m n:Tm)(ns:List Nm)(nv tv s pv:Value)(w:World)(hN:zO (.ite l m n)<=N+1)(hp:gG F (.ite l m n) ns nv tv s pv w):Calls RG 34 #[.agg #[nv,tv],.agg #[s,pv]] w (uS F w (zd ns (.ite l m n)).1 (zd ns (.ite l m n)).2):=by
 have hold:=hp.old;obtain⟨na,nc,rfl,_,_,iC⟩:=zH hp.rn;obtain⟨ka,kc,rfl,_,_,iD⟩:=zH hp.rk;have tQ:=hp.rt;rw[kg]at tQ;obtain⟨qa,qc,e,sy⟩:=q_ tQ;simp only[qE,jB,RY,and_true]at e sy;obtain⟨rfl,rfl⟩:=e;obtain⟨_,_,e,sG⟩:=yR.of sy;simp only[RT,true_and]at e;obtain⟨rfl,rfl⟩:=e;obtain⟨sh,sg,s1,a1,n1,c1,d1,A9,aS,oF,oR,Cq,lL,FB,GT⟩:=sG 1 (by simp);simp only[RV,RW,RK]at oF;subst oF;subst A9;obtain⟨L0,LY,s2,a2,n2,c2,d2,A8,Do,A7,A_,Cp,Ak,GP,GS⟩:=sG 2 (by simp);simp only[RV,RW,RK]at A7;subst A7;simp only[RK,So,and_true]at A8;obtain⟨rfl,rfl⟩:=A8;obtain⟨pb3,po3,s3,a3,n3,c3,d3,GU,LW,GR,FC,GW,GQ,LX,LZ⟩:=sG 3 (by simp);simp only[RV,RW,RK]at GR;subst GR;simp only[RK,So,and_true]at GU;obtain⟨rfl,rfl⟩:=GU;have tP:=hp.room;have sI:=hp.ok;have aA:=hp.sm;rw[zO]at tP hN;rw[kJ]at aA;simp only[R3]at aA;obtain⟨W0,tW⟩:=zzM (((w.alloc (.cells #[.slice na ns.length nc,.slice ka ns.length kc] 57)).alloc (.cells #[str [],.slice (sh,sg) 4 qc] 44)).alloc (.cells #[()] 47));obtain⟨s8,z0,bA,bB,bC⟩:=xN w (.cells #[.slice na ns.length nc,.slice ka ns.length kc] 57) (.cells #[str [],.slice (sh,sg) 4 qc] 44) (.cells #[()] 47);rw[<- tW]at s8 z0 bA bB bC;have CH:=r9 (show Calls RG 37 #[.agg #[str [],.slice (sh,sg) 4 qc]] W0 (fun en w'=>en=.returned (str (xH (kg (.ite l m n))))/\No W0 w') from ux (kg (.ite l m n)) (uW _ hp.ok) F W0 _ _ (zY.below s8 (fun _ h=>h) hp.rt));have IQ:xH (kg (.ite l m n))=[105,102]:=by rw[kg];rfl
 rw[IQ]at CH;have H0:=r9 (r_ s8 (r_ z0 (r_ bA bC)));obtain⟨kl,ql,AG⟩:∃k q,zd ns l=(k,q):=⟨_,_,rfl⟩;have Cl:Hid (∀wz,No w wz->Calls RG 34 #[.agg #[.slice na ns.length nc,.slice ka ns.length kc],.agg #[s1,.slice a1 n1 c1]] wz (uS F wz kl ql)):=by
  show ∀wz,_->_;intro wz hz;have h:=ih F l ns _ _ _ _ wz (by omega) ⟨fun i h=>sV (hp.old i h) hz.size,zY.below hz (fun _ h=>h) lL,Rep.below hz (fun _ h=>h) hp.rn,Rep.below hz (fun _ h=>h) hp.rk,sI.1,aA.1.1,hp.nm,hp.n15,by omega⟩;rw[AG]at h;exact h
 obtain⟨km,qm,Ew⟩:∃k q,zd ns m=(k,q):=⟨_,_,rfl⟩;have Cm:Hid (∀wz,No w wz->Calls RG 34 #[.agg #[.slice na ns.length nc,.slice ka ns.length kc],.agg #[s2,.slice a2 n2 c2]] wz (uS F wz km qm)):=by
  show ∀wz,_->_;intro wz hz;have h:=ih F m ns _ _ _ _ wz (by omega) ⟨fun i h=>sV (hp.old i h) hz.size,zY.below hz (fun _ h=>h) Ak,Rep.below hz (fun _ h=>h) hp.rn,Rep.below hz (fun _ h=>h) hp.rk,sI.2.1,aA.1.2,hp.nm,hp.n15,by omega⟩;rw[Ew]at h;exact h
 obtain⟨kn,qn,B6⟩:∃k q,zd ns n=(k,q):=⟨_,_,rfl⟩;have Cn:Hid (∀wz,No w wz->Calls RG 34 #[.agg #[.slice na ns.length nc,.slice ka ns.length kc],.agg #[s3,.slice a3 n3 c3]] wz (uS F wz kn qn)):=by
  show ∀wz,_->_;intro wz hz;have h:=ih F n ns _ _ _ _ wz (by omega) ⟨fun i h=>sV (hp.old i h) hz.size,zY.below hz (fun _ h=>h) GQ,Rep.below hz (fun _ h=>h) hp.rn,Rep.below hz (fun _ h=>h) hp.rk,sI.2.2,aA.2,hp.nm,hp.n15,by omega⟩;rw[B6]at h;exact h
 have e0:W0 w=OK (.slice na ns.length nc):=by simp[RE,bA]
 have e1:W0 (w,1)=OK (.slice ka ns.length kc):=by simp[RE,bA]
 have SX:Hid (∀w',No W0 w'->w' w=OK (.slice na ns.length nc)/\w' (w,1)=OK (.slice ka ns.length kc)/\w' (sh,sg+2)=str s1/\w' (sh,sg+3)=OK (.slice a1 n1 c1)/\w' (sh,sg+4)=str s2/\w' (sh,sg+5)=OK (.slice a2 n2 c2)/\w' (sh,sg+6)=str s3/\w' (sh,sg+7)=OK (.slice a3 n3 c3)):=by
  show ∀w',_->_;intro w' sA;have tE:=zzT s8 sA;exact⟨(sA.cell (sK W0 _ e0)).trans e0,(sA.cell (sK W0 _ e1)).trans e1,(tE.cell (p:=(sh,sg+2)) aS).trans oR,(tE.cell (p:=(sh,sg+3)) aS).trans Cq,(tE.cell (p:=(sh,sg+4)) aS).trans A_,(tE.cell (p:=(sh,sg+5)) aS).trans Cp,(tE.cell (p:=(sh,sg+6)) aS).trans FC,(tE.cell (p:=(sh,sg+7)) aS).trans GW⟩
 have HP:=r9 (r_ hp (r_ sI aA));clear iC iD sy sG tQ hp sI aA ih hN s8 z0 bA bB bC e0 e1 lL oR Cq FB GT Ak A_ Cp GP GS GQ FC GW LX LZ;clear aS;clear Do;clear LW;go_enter UD,Um;go_wp2_with fail
 rw[<- tW];clear tW;(with_reducible refine CH.out.mono ?_);rintro en w1 ⟨rfl,sX⟩;have H1:=r9 (r_ sX (zzT H0.out.1 sX));clear sX CH;go_wp2_with fail
 have HLl:=H1;have CRl:=r9 (fun wz (hz:No w1 wz)=>Cl.out wz (H1.out.2.trans (hz.mono (H1.out.2).size)));have N2:Hid (∀i,F i->i<(w1:Nat)):=fun i h=>sV (HP.out.1.old i h) (H1.out.2).size;refine je (X:=Nat×Option Addr×Nat) (fun a x=>((((((((((a.put (OK 148) (.agg #[.slice na ns.length nc,.slice ka ns.length kc])).put (OK 149) (.slice (sh,sg) 4 qc)).put (OK 150) (.pointer (OK ⟨sh,sg+2,U⟩))).put (OK 151) (.agg #[s1,.slice a1 n1 c1])).put (OK 152) (.tuple #[.agg #[.slice x.2.1 kl.args.length x.2.2],.bool ql])).put (OK 147) (.tuple #[.agg #[.slice x.2.1 kl.args.length x.2.2],.bool ql])).put (OK 153) (.agg #[.slice x.2.1 kl.args.length x.2.2])).put (OK 154) (.bool ql)).put (OK 17) (.pointer (OK ⟨x.1,0,U⟩))).put (OK 18) (.bool ql))) (fun x w'=>z8 F w1 x.1 (.cells #[.slice x.2.1 kl.args.length x.2.2] 47 (0,0)) [ki kl] [.slice x.2.1 kl.args.length x.2.2] w') ?_ ?_
 ·refine rB fun sP=>?_;refine tC [0,1,2,3] sP ?_;iterate 4 (refine tl (fun w' sL=>SX.out w' (H1.out.1.trans (sL.mono (H1.out.1).size))) ?_)
  refine tz ?_;refine qU 4 8 (by kernel_rfl) ?_ ?_
  ·(intro o4 ho K' hK;simp at ho;subst ho);go_simp
   go_at_call 34;(with_reducible refine(CRl.out w1.drew sP).mono ?_);rintro en y1 ⟨xx,yy,rfl,hb,hr⟩;have sD:No w1 y1:=sP.trans hb;(refine hK.out _ _ (fun _=>sD) ?_;clear hK K';try simp only[pQ,pN,pZ,pS]);refine tC [5,6,7] sD ?_;iterate 3 (refine tx ?_)
   refine tz ?_;refine oC 8 (sD.alloc (sD).size _) ?_;have bz:(y1.alloc (.cells #[()] 47)).heap[(y1:Nat)]?=OK (.cells #[()] 47 (0,0)):=zW _ _;obtain⟨oe,od⟩:=yc1 bz;refine oC 9 (sD.alloc sD.size _) ?_;refine oC 10 (sD.alloc sD.size _) ?_;refine zX (by kernel_rfl) (RQ ?_) _;exact⟨rfl,⟨y1,xx,yy⟩,by rfl,z8.fresh sD (zY.one hr)⟩
  ·(intro o8 ho K' hK;simp at ho;subst ho);go_simp
   (refine hK.out _ _ (fun _=>sP.alloc (sZ _) _) ?_;clear hK K';try simp only[pQ,pN,pZ,pS]);(refine on 4 ?_;intro o ho K' hK;simp at ho;subst ho;go_simp);go_at_call 34
   have aG:No w1 (w1.alloc (.cells #[()] 47)).drew:=sP.alloc (sZ _) _;(with_reducible refine(CRl.out _ aG).mono ?_);rintro en y1 ⟨xx,yy,rfl,hb,hr⟩;have sD:No w1 y1:=zzT aG hb;(refine hK.out _ _ (fun _=>sD) ?_;clear hK K';try simp only[pQ,pN,pZ,pS]);refine tC [5,6,7] sD ?_;iterate 3 (refine tx ?_)
   refine tz ?_;have bz:y1.heap[(w1:Nat)]?=OK (.cells #[()] 47 (0,0)):=(hb.block _ (show _<_ from by simp)).trans (zW w1 (.cells #[()] 47));obtain⟨oe,od⟩:=yc1 bz;refine oC 9 ((sD.setCell (p:=w1) (sZ _) _)) ?_;refine oC 10 ((sD.setCell (p:=w1) (sZ _) _)) ?_;refine zX (by kernel_rfl) (RQ ?_) _;exact⟨rfl,⟨w1,xx,yy⟩,by rfl,z8.first N2.out aG (by simp) hb (zY.one hr) (but1 _ _ _) (by rw[zj bz];rfl)⟩
 rintro⟨gl,xl,yl⟩ zl hR;have Rl:Hid (z8 F w1 gl (.cells #[.slice xl kl.args.length yl] 47 (0,0)) [ki kl] [.slice xl kl.args.length yl] zl):=hR;have BV:Hid (No W0 zl/\No w zl):=⟨H1.out.1.trans (Rl.out.below.mono (H1.out.1).size),H1.out.2.trans (Rl.out.below.mono (H1.out.2).size)⟩;clear hR CRl;simp only[Act.put,R_,Sl,Sm];go_wp2_with fail
 have Ns:=BV;have CRm:=r9 (fun wz (hz:No zl wz)=>Cm.out wz (BV.out.2.trans (hz.mono (BV.out.2).size)));have Na:Hid (∀i,F i->i<(zl:Nat)):=fun i h=>sV (HP.out.1.old i h) (BV.out.2).size;refine je (X:=Nat×Option Addr×Nat) (fun a x=>((((((((((a.put (OK 156) (.agg #[.slice na ns.length nc,.slice ka ns.length kc])).put (OK 157) (.slice (sh,sg) 4 qc)).put (OK 158) (.pointer (OK ⟨sh,sg+4,U⟩))).put (OK 159) (.agg #[s2,.slice a2 n2 c2])).put (OK 160) (.tuple #[.agg #[.slice x.2.1 km.args.length x.2.2],.bool qm])).put (OK 155) (.tuple #[.agg #[.slice x.2.1 km.args.length x.2.2],.bool qm])).put (OK 161) (.agg #[.slice x.2.1 km.args.length x.2.2])).put (OK 162) (.bool qm)).put (OK 19) (.pointer (OK ⟨x.1,0,U⟩))).put (OK 20) (.bool qm))) (fun x w'=>z8 F zl x.1 (.cells #[.slice x.2.1 km.args.length x.2.2] 47 (0,0)) [ki km] [.slice x.2.1 km.args.length x.2.2] w') ?_ ?_
 ·refine rB fun sP=>?_;refine tC [0,1,2,3] sP ?_;iterate 4 (refine tl (fun w' sL=>SX.out w' (BV.out.1.trans (sL.mono (BV.out.1).size))) ?_)
  refine tz ?_;refine qU 4 8 (by kernel_rfl) ?_ ?_
  ·(intro o4 ho K' hK;simp at ho;subst ho);go_simp
   go_at_call 34;(with_reducible refine(CRm.out zl.drew sP).mono ?_);rintro en y1 ⟨xx,yy,rfl,hb,hr⟩;have sD:No zl y1:=sP.trans hb;(refine hK.out _ _ (fun _=>sD) ?_;clear hK K';try simp only[pQ,pN,pZ,pS]);refine tC [5,6,7] sD ?_;iterate 3 (refine tx ?_)
   refine tz ?_;refine oC 8 (sD.alloc (sD).size _) ?_;have bz:(y1.alloc (.cells #[()] 47)).heap[(y1:Nat)]?=OK (.cells #[()] 47 (0,0)):=zW _ _;obtain⟨oe,od⟩:=yc1 bz;refine oC 9 (sD.alloc sD.size _) ?_;refine oC 10 (sD.alloc sD.size _) ?_;refine zX (by kernel_rfl) (RQ ?_) _;exact⟨rfl,⟨y1,xx,yy⟩,by rfl,z8.fresh sD (zY.one hr)⟩
  ·(intro o8 ho K' hK;simp at ho;subst ho);go_simp
   (refine hK.out _ _ (fun _=>sP.alloc (sZ _) _) ?_;clear hK K';try simp only[pQ,pN,pZ,pS]);(refine on 4 ?_;intro o ho K' hK;simp at ho;subst ho;go_simp);go_at_call 34
   have aG:No zl (zl.alloc (.cells #[()] 47)).drew:=sP.alloc (sZ _) _;(with_reducible refine(CRm.out _ aG).mono ?_);rintro en y1 ⟨xx,yy,rfl,hb,hr⟩;have sD:No zl y1:=zzT aG hb;(refine hK.out _ _ (fun _=>sD) ?_;clear hK K';try simp only[pQ,pN,pZ,pS]);refine tC [5,6,7] sD ?_;iterate 3 (refine tx ?_)
   refine tz ?_;have bz:y1.heap[(zl:Nat)]?=OK (.cells #[()] 47 (0,0)):=(hb.block _ (show _<_ from by simp)).trans (zW zl (.cells #[()] 47));obtain⟨oe,od⟩:=yc1 bz;refine oC 9 ((sD.setCell (p:=zl) (sZ _) _)) ?_;refine oC 10 ((sD.setCell (p:=zl) (sZ _) _)) ?_;refine zX (by kernel_rfl) (RQ ?_) _;exact⟨rfl,⟨zl,xx,yy⟩,by rfl,z8.first Na.out aG (by simp) hb (zY.one hr) (but1 _ _ _) (by rw[zj bz];rfl)⟩
 rintro⟨gm,xm,ym⟩ zm hR;have Rm:Hid (z8 F zl gm (.cells #[.slice xm km.args.length ym] 47 (0,0)) [ki km] [.slice xm km.args.length ym] zm):=hR;have ij:Hid (No W0 zm/\No w zm):=⟨BV.out.1.trans (Rm.out.below.mono (BV.out.1).size),BV.out.2.trans (Rm.out.below.mono (BV.out.2).size)⟩;clear hR CRm;simp only[Act.put,R_,Sl,Sm];go_wp2_with fail
 have Nr:=ij;have CRn:=r9 (fun wz (hz:No zm wz)=>Cn.out wz (ij.out.2.trans (hz.mono (ij.out.2).size)));have M_:Hid (∀i,F i->i<(zm:Nat)):=fun i h=>sV (HP.out.1.old i h) (ij.out.2).size;refine je (X:=Nat×Option Addr×Nat) (fun a x=>((((((((((a.put (OK 164) (.agg #[.slice na ns.length nc,.slice ka ns.length kc])).put (OK 165) (.slice (sh,sg) 4 qc)).put (OK 166) (.pointer (OK ⟨sh,sg+6,U⟩))).put (OK 167) (.agg #[s3,.slice a3 n3 c3])).put (OK 168) (.tuple #[.agg #[.slice x.2.1 kn.args.length x.2.2],.bool qn])).put (OK 163) (.tuple #[.agg #[.slice x.2.1 kn.args.length x.2.2],.bool qn])).put (OK 169) (.agg #[.slice x.2.1 kn.args.length x.2.2])).put (OK 170) (.bool qn)).put (OK 21) (.pointer (OK ⟨x.1,0,U⟩))).put (OK 22) (.bool qn))) (fun x w'=>z8 F zm x.1 (.cells #[.slice x.2.1 kn.args.length x.2.2] 47 (0,0)) [ki kn] [.slice x.2.1 kn.args.length x.2.2] w') ?_ ?_
 ·refine rB fun sP=>?_;refine tC [0,1,2,3] sP ?_;iterate 4 (refine tl (fun w' sL=>SX.out w' (ij.out.1.trans (sL.mono (ij.out.1).size))) ?_)
  refine tz ?_;refine qU 4 8 (by kernel_rfl) ?_ ?_
  ·(intro o4 ho K' hK;simp at ho;subst ho);go_simp
   go_at_call 34;(with_reducible refine(CRn.out zm.drew sP).mono ?_);rintro en y1 ⟨xx,yy,rfl,hb,hr⟩;have sD:No zm y1:=sP.trans hb;(refine hK.out _ _ (fun _=>sD) ?_;clear hK K';try simp only[pQ,pN,pZ,pS]);refine tC [5,6,7] sD ?_;iterate 3 (refine tx ?_)
   refine tz ?_;refine oC 8 (sD.alloc (sD).size _) ?_;have bz:(y1.alloc (.cells #[()] 47)).heap[(y1:Nat)]?=OK (.cells #[()] 47 (0,0)):=zW _ _;obtain⟨oe,od⟩:=yc1 bz;refine oC 9 (sD.alloc sD.size _) ?_;refine oC 10 (sD.alloc sD.size _) ?_;refine zX (by kernel_rfl) (RQ ?_) _;exact⟨rfl,⟨y1,xx,yy⟩,by rfl,z8.fresh sD (zY.one hr)⟩
  ·(intro o8 ho K' hK;simp at ho;subst ho);go_simp
   (refine hK.out _ _ (fun _=>sP.alloc (sZ _) _) ?_;clear hK K';try simp only[pQ,pN,pZ,pS]);(refine on 4 ?_;intro o ho K' hK;simp at ho;subst ho;go_simp);go_at_call 34
   have aG:No zm (zm.alloc (.cells #[()] 47)).drew:=sP.alloc (sZ _) _;(with_reducible refine(CRn.out _ aG).mono ?_);rintro en y1 ⟨xx,yy,rfl,hb,hr⟩;have sD:No zm y1:=zzT aG hb;(refine hK.out _ _ (fun _=>sD) ?_;clear hK K';try simp only[pQ,pN,pZ,pS]);refine tC [5,6,7] sD ?_;iterate 3 (refine tx ?_)
   refine tz ?_;have bz:y1.heap[(zm:Nat)]?=OK (.cells #[()] 47 (0,0)):=(hb.block _ (show _<_ from by simp)).trans (zW zm (.cells #[()] 47));obtain⟨oe,od⟩:=yc1 bz;refine oC 9 ((sD.setCell (p:=zm) (sZ _) _)) ?_;refine oC 10 ((sD.setCell (p:=zm) (sZ _) _)) ?_;refine zX (by kernel_rfl) (RQ ?_) _;exact⟨rfl,⟨zm,xx,yy⟩,by rfl,z8.first M_.out aG (by simp) hb (zY.one hr) (but1 _ _ _) (by rw[zj bz];rfl)⟩
 rintro⟨gn,xn,yn⟩ zn hR;have Rn:Hid (z8 F zm gn (.cells #[.slice xn kn.args.length yn] 47 (0,0)) [ki kn] [.slice xn kn.args.length yn] zn):=hR;have lW:Hid (No W0 zn/\No w zn):=⟨ij.out.1.trans (Rn.out.below.mono (ij.out.1).size),ij.out.2.trans (Rn.out.below.mono (ij.out.2).size)⟩;clear hR CRn;simp only[Act.put,R_,Sl,Sm];go_wp2_with fail
 have bl:zn gl=OK (.slice xl kl.args.length yl):=(Rn.out.below.cell (sK _ _ ((Rm.out.below.cell (sK _ _ (Rl.out.cell0))).trans (Rl.out.cell0)))).trans ((Rm.out.below.cell (sK _ _ (Rl.out.cell0))).trans (Rl.out.cell0));have Tl:Hid (Rep (fun i=>F i\/W0<=i) zn (ki kl) (.slice xl kl.args.length yl)):=Rep.below (F':=fun i=>F i\/W0<=i) Rn.out.below (fun _ h=>h) (Rep.below (F':=fun i=>F i\/W0<=i) Rm.out.below (fun _ h=>h) ((zY.get1 Rl.out.rep).weak (G:=fun i=>F i\/W0<=i) (fun i h=>h.1.elim .inl (fun h=>.inr (sU (HLl.out.1).size h)))));have bm:zn gm=OK (.slice xm km.args.length ym):=(Rn.out.below.cell (sK _ _ (Rm.out.cell0))).trans (Rm.out.cell0);have Tm:Hid (Rep (fun i=>F i\/W0<=i) zn (ki km) (.slice xm km.args.length ym)):=Rep.below (F':=fun i=>F i\/W0<=i) Rn.out.below (fun _ h=>h) ((zY.get1 Rm.out.rep).weak (G:=fun i=>F i\/W0<=i) (fun i h=>h.1.elim .inl (fun h=>.inr (sU (Ns.out.1).size h))));have bn:zn gn=OK (.slice xn kn.args.length yn):=Rn.out.cell0;have Tn:Hid (Rep (fun i=>F i\/W0<=i) zn (ki kn) (.slice xn kn.args.length yn)):=(zY.get1 Rn.out.rep).weak (G:=fun i=>F i\/W0<=i) (fun i h=>h.1.elim .inl (fun h=>.inr (sU (Nr.out.1).size h)));have BR:Hid (zn.heap[(w:Nat)+1+1]?=OK (.cells #[()] 47 (0,0))):=(lW.out.1.block _ (zZ H0.out.2.2.2)).trans H0.out.2.2.2;have iX:zn.frozen? (w+1+1:Nat)=RC:=by simp only[RO,BR.out];rfl
 have AW:zn (w+1+1:Nat)=OK (.slice U 0 0):=by simp only[RE,BR.out];rfl
 have HE:=r9 (show zd ns (.ite l m n)=(km,ql && qm && qn && decide (kl.args=[]) && decide (zS km=zS kn)) by rw[zd,AG,Ew,B6]);have Kb:=r9 (r_ AG (r_ Ew B6));have rg:∀g,(W0:Nat)<=g->g≠(w:Nat)+1+1:=fun g h e=>by have:=H0.out.2.1;omega
 have nl:gl≠w+1+1:=rg _ (sU H1.out.1.size Rl.out.new);have nm:gm≠w+1+1:=rg _ (sU BV.out.1.size Rm.out.new);have nn:gn≠w+1+1:=rg _ (sU ij.out.1.size Rn.out.new);have iu:zn.drew.frozen? (w+1+1:Nat)=RC:=iX;have BM:zn.drew (w+1+1:Nat)=OK (.slice U 0 0):=AW;have SBL:Hid (∀w',No zn w'->w' gl=OK (.slice xl kl.args.length yl)/\w' gm=OK (.slice xm km.args.length ym)/\w' gn=OK (.slice xn kn.args.length yn)):=by
  show ∀w',_->_;intro w' h;exact⟨(h.cell (sK _ _ bl)).trans bl,(h.cell (sK _ _ bm)).trans bm,(h.cell (sK _ _ bn)).trans bn⟩
 clear AG Ew B6 Cl Cm Cn rg bl bm bn;cases ql with
 | false =>
   have aM:=r9 (show zd ns (.ite l m n)=(km,RC) by rw[HE.out];simp);refine rS (fun w'=>w' gl=OK (.slice xl kl.args.length yl)/\w' gm=OK (.slice xm km.args.length ym)/\w' gn=OK (.slice xn kn.args.length yn)) (fun _=>RC) (SBL.out zn.drew (Below.drew (sQ _ _))) fun sP=>?_;refine tk [0,1,2,3,4,5,6,7,8,9,10,11,12,13,14,15,16,17,18,19,20] sP ?_;(intro d hd;simp[tkD]at hd;subst hd;simp only[tks,pQ,pZ,pS]);iterate 21 (refine⟨?_,?_,?_⟩;rotate_left;· (intro oi ho;simp at ho;subst ho;first | (refine Vq ⟨by rfl,?_⟩;with_reducible rfl) | (refine Vr ⟨by rfl,fun w' sL=>?_⟩;obtain⟨e0,e1,e2⟩:=sL;go_simp;try with_reducible rfl)))
   refine oC 21 (⟨zu (sP).1 nl,zu (sP).2.1 nm,zu (sP).2.2 nn⟩) ?_;refine oC 22 (⟨zu (sP).1 nl,zu (sP).2.1 nm,zu (sP).2.2 nn⟩) ?_;refine zX (by kernel_rfl) (RQ ?_) _;go_wp2_with fail
   obtain⟨W,hW,s0,sF,tZ⟩:=qX (BR.out) (.slice xm km.args.length ym);rw[<- hW];refine bodyPost_ret (v:=.tuple #[.agg #[.slice xm km.args.length ym],.bool RC]) (by simp[results,Sg,go_sem,s0]) rfl ?_;rw[aM.out];exact vF (k:=km) HP.out.1.old H0.out.1 H0.out.2.1 lW.out.1 Tm.out (fun B w0 h hB=>(sF B w0 h hB).drew) tZ
 | true =>
   cases qm with
   | false =>
     have aM:=r9 (show zd ns (.ite l m n)=(km,RC) by rw[HE.out];simp);refine rS (fun w'=>w' gl=OK (.slice xl kl.args.length yl)/\w' gm=OK (.slice xm km.args.length ym)/\w' gn=OK (.slice xn kn.args.length yn)) (fun _=>RC) (SBL.out zn.drew (Below.drew (sQ _ _))) fun sP=>?_;refine tk [0,1,2,3,4,5,6,7,8,9,10,11,12,13,14,15,16,17,18,19,20] sP ?_;(intro d hd;simp[tkD]at hd;subst hd;simp only[tks,pQ,pZ,pS]);iterate 21 (refine⟨?_,?_,?_⟩;rotate_left;· (intro oi ho;simp at ho;subst ho;first | (refine Vq ⟨by rfl,?_⟩;with_reducible rfl) | (refine Vr ⟨by rfl,fun w' sL=>?_⟩;obtain⟨e0,e1,e2⟩:=sL;go_simp;try with_reducible rfl)))
     refine oC 21 (⟨zu (sP).1 nl,zu (sP).2.1 nm,zu (sP).2.2 nn⟩) ?_;refine oC 22 (⟨zu (sP).1 nl,zu (sP).2.1 nm,zu (sP).2.2 nn⟩) ?_;refine zX (by kernel_rfl) (RQ ?_) _;go_wp2_with fail
     obtain⟨W,hW,s0,sF,tZ⟩:=qX (BR.out) (.slice xm km.args.length ym);rw[<- hW];refine bodyPost_ret (v:=.tuple #[.agg #[.slice xm km.args.length ym],.bool RC]) (by simp[results,Sg,go_sem,s0]) rfl ?_;rw[aM.out];exact vF (k:=km) HP.out.1.old H0.out.1 H0.out.2.1 lW.out.1 Tm.out (fun B w0 h hB=>(sF B w0 h hB).drew) tZ
   | true =>
     cases qn with
     | false =>
       have aM:=r9 (show zd ns (.ite l m n)=(km,RC) by rw[HE.out];simp);refine rS (fun w'=>w' gl=OK (.slice xl kl.args.length yl)/\w' gm=OK (.slice xm km.args.length ym)/\w' gn=OK (.slice xn kn.args.length yn)) (fun _=>RC) (SBL.out zn.drew (Below.drew (sQ _ _))) fun sP=>?_;refine tk [0,1,2,3,4,5,6,7,8,9,10,11,12,13,14,15,16,17,18,19,20] sP ?_;(intro d hd;simp[tkD]at hd;subst hd;simp only[tks,pQ,pZ,pS]);iterate 21 (refine⟨?_,?_,?_⟩;rotate_left;· (intro oi ho;simp at ho;subst ho;first | (refine Vq ⟨by rfl,?_⟩;with_reducible rfl) | (refine Vr ⟨by rfl,fun w' sL=>?_⟩;obtain⟨e0,e1,e2⟩:=sL;go_simp;try with_reducible rfl)))
       refine oC 21 (⟨zu (sP).1 nl,zu (sP).2.1 nm,zu (sP).2.2 nn⟩) ?_;refine oC 22 (⟨zu (sP).1 nl,zu (sP).2.1 nm,zu (sP).2.2 nn⟩) ?_;refine zX (by kernel_rfl) (RQ ?_) _;go_wp2_with fail
       obtain⟨W,hW,s0,sF,tZ⟩:=qX (BR.out) (.slice xm km.args.length ym);rw[<- hW];refine bodyPost_ret (v:=.tuple #[.agg #[.slice xm km.args.length ym],.bool RC]) (by simp[results,Sg,go_sem,s0]) rfl ?_;rw[aM.out];exact vF (k:=km) HP.out.1.old H0.out.1 H0.out.2.1 lW.out.1 Tm.out (fun B w0 h hB=>(sF B w0 h hB).drew) tZ
     | true =>
       have FV:=qK m ns km HP.out.1.n15 (by have:=yu (t:=m) (ns:=ns) HP.out.2.2.1.2 (by rw[Kb.out.2.1]);rwa [Kb.out.2.1]at this);have Ib:=qK n ns kn HP.out.1.n15 (by have:=yu (t:=n) (ns:=ns) HP.out.2.2.2 (by rw[Kb.out.2.2]);rwa [Kb.out.2.2]at this);by_cases iS:kl.args=[]
       ·have I5:(((kl.args.length:Nat):Int) == 0)=OX:=by rw[iS];rfl
        have Gp:=r9 (show zd ns (.ite l m n)=(km,decide (zS km=zS kn)) by rw[HE.out,iS];simp);have Kg:=r9 (fun wz (h:No zn wz)=>uK 15 km FV (by omega) _ wz _ (Rep.below (F':=fun i=>F i\/W0<=i) h (fun _ h=>h) Tm.out));have EU:=r9 (fun wz (h:No zn wz)=>uK 15 kn Ib (by omega) _ wz _ (Rep.below (F':=fun i=>F i\/W0<=i) h (fun _ h=>h) Tn.out));clear iS FV Ib;by_cases Di:zS km=zS kn
        focus
         have aM:=r9 (show zd ns (.ite l m n)=(km,OX) by rw[Gp.out,decide_eq_true Di]);have q1:(zS km == zS kn)=OX:=by rw[beq_iff_eq];exact Di
         clear Di;obtain⟨X1,IL⟩:=zzM (zS km);obtain⟨X2,ia⟩:=zzM (zS kn);rw[<- IL]at Kg q1;rw[<- ia]at EU q1;clear IL ia iu BM;refine rS (fun w'=>w' gl=OK (.slice xl kl.args.length yl)/\w' gm=OK (.slice xm km.args.length ym)/\w' gn=OK (.slice xn kn.args.length yn)) (fun _=>RC) (SBL.out zn.drew (Below.drew (sQ _ _))) fun sP=>?_;refine tC [0,1,2,3,4,5,6,7,8,9,10,11,12,13,14,15,17] sP ?_;iterate 17 (refine tl (fun w' sL=>sL) ?_)
         refine tz ?_;(refine on 16 ?_;intro o ho K' hK;simp at ho;subst ho;go_simp);go_at_call 19;(with_reducible refine(Kg.out _ (Below.drew (sQ zn zn))).mono ?_);rintro en v1 ⟨rfl,hb⟩;have i7:Hid (No zn v1):=(Below.drew (sQ zn zn)).trans hb;clear hb;(refine hK.out _ _ (fun _=>SBL.out v1 i7.out) ?_;clear hK K';try simp only[pQ,pN,pZ,pS]);have hS16:=SBL.out v1 i7.out;(refine on 18 ?_;intro o ho K' hK;simp at ho;subst ho;go_simp);go_at_call 19;(with_reducible refine(EU.out _ i7.out).mono ?_);rintro en v2 ⟨rfl,hb⟩;have oD:Hid (No zn v2):=zzT i7.out hb;clear hb;(refine hK.out _ _ (fun _=>SBL.out v2 oD.out) ?_;clear hK K';try simp only[pQ,pN,pZ,pS]);have Ge:=SBL.out v2 oD.out;have A6:Hid (v2.heap[(w:Nat)+1+1]?=OK (.cells #[()] 47 (0,0))):=(oD.out.block _ (zZ BR.out)).trans BR.out;have lA:v2.frozen? (w+1+1:Nat)=RC:=by simp only[RO,A6.out];rfl
         have Co:v2 (w+1+1:Nat)=OK (.slice U 0 0):=by simp only[RE,A6.out];rfl
         have lK:=SBL.out v2 oD.out;refine tC [19,20] Ge ?_;iterate 2 (refine tx ?_)
         refine tz ?_;refine oC 21 (⟨zu (lK).1 nl,zu (lK).2.1 nm,zu (lK).2.2 nn⟩) ?_;refine oC 22 (⟨zu (lK).1 nl,zu (lK).2.1 nm,zu (lK).2.2 nn⟩) ?_;refine zX (by kernel_rfl) (RQ ?_) _;have EQ:Hid (No W0 v2):=zzT lW.out.1 oD.out;have T2:Hid (Rep (fun i=>F i\/W0<=i) v2 (ki km) (.slice xm km.args.length ym)):=Rep.below oD.out (fun _ h=>h) Tm.out;go_wp2_with fail
         obtain⟨W,hW,s0,sF,tZ⟩:=qX (A6.out) (.slice xm km.args.length ym);rw[<- hW];refine bodyPost_ret (v:=.tuple #[.agg #[.slice xm km.args.length ym],.bool OX]) (by simp[results,Sg,go_sem,s0]) rfl ?_
        rotate_left
        focus
         have aM:=r9 (show zd ns (.ite l m n)=(km,RC) by rw[Gp.out,decide_eq_false Di]);have q1:(zS km == zS kn)=RC:=by rw[beq_eq_false_iff_ne];exact Di
         clear Di;obtain⟨X1,IL⟩:=zzM (zS km);obtain⟨X2,ia⟩:=zzM (zS kn);rw[<- IL]at Kg q1;rw[<- ia]at EU q1;clear IL ia iu BM;refine rS (fun w'=>w' gl=OK (.slice xl kl.args.length yl)/\w' gm=OK (.slice xm km.args.length ym)/\w' gn=OK (.slice xn kn.args.length yn)) (fun _=>RC) (SBL.out zn.drew (Below.drew (sQ _ _))) fun sP=>?_;refine tC [0,1,2,3,4,5,6,7,8,9,10,11,12,13,14,15,17] sP ?_;iterate 17 (refine tl (fun w' sL=>sL) ?_)
         refine tz ?_;(refine on 16 ?_;intro o ho K' hK;simp at ho;subst ho;go_simp);go_at_call 19;(with_reducible refine(Kg.out _ (Below.drew (sQ zn zn))).mono ?_);rintro en v1 ⟨rfl,hb⟩;have i7:Hid (No zn v1):=(Below.drew (sQ zn zn)).trans hb;clear hb;(refine hK.out _ _ (fun _=>SBL.out v1 i7.out) ?_;clear hK K';try simp only[pQ,pN,pZ,pS]);have hS16:=SBL.out v1 i7.out;(refine on 18 ?_;intro o ho K' hK;simp at ho;subst ho;go_simp);go_at_call 19;(with_reducible refine(EU.out _ i7.out).mono ?_);rintro en v2 ⟨rfl,hb⟩;have oD:Hid (No zn v2):=zzT i7.out hb;clear hb;(refine hK.out _ _ (fun _=>SBL.out v2 oD.out) ?_;clear hK K';try simp only[pQ,pN,pZ,pS]);have Ge:=SBL.out v2 oD.out;have A6:Hid (v2.heap[(w:Nat)+1+1]?=OK (.cells #[()] 47 (0,0))):=(oD.out.block _ (zZ BR.out)).trans BR.out;have lA:v2.frozen? (w+1+1:Nat)=RC:=by simp only[RO,A6.out];rfl
         have Co:v2 (w+1+1:Nat)=OK (.slice U 0 0):=by simp only[RE,A6.out];rfl
         have lK:=SBL.out v2 oD.out;refine tC [19,20] Ge ?_;iterate 2 (refine tx ?_)
         refine tz ?_;refine oC 21 (⟨zu (lK).1 nl,zu (lK).2.1 nm,zu (lK).2.2 nn⟩) ?_;refine oC 22 (⟨zu (lK).1 nl,zu (lK).2.1 nm,zu (lK).2.2 nn⟩) ?_;refine zX (by kernel_rfl) (RQ ?_) _;have EQ:Hid (No W0 v2):=zzT lW.out.1 oD.out;have T2:Hid (Rep (fun i=>F i\/W0<=i) v2 (ki km) (.slice xm km.args.length ym)):=Rep.below oD.out (fun _ h=>h) Tm.out;go_wp2_with fail
         obtain⟨W,hW,s0,sF,tZ⟩:=qX (A6.out) (.slice xm km.args.length ym);rw[<- hW];refine bodyPost_ret (v:=.tuple #[.agg #[.slice xm km.args.length ym],.bool RC]) (by simp[results,Sg,go_sem,s0]) rfl ?_
        all_goals
         rw[aM.out];exact vF (k:=km) HP.out.1.old H0.out.1 H0.out.2.1 EQ.out T2.out sF tZ
       ·have I5:(((kl.args.length:Nat):Int) == 0)=RC:=by
         rw[beq_eq_false_iff_ne];cases hc:kl.args with
         |nil=>exact absurd hc iS
         |cons a b=>simp;omega
        have Gp:=r9 iS;clear iS;have aM:=r9 (show zd ns (.ite l m n)=(km,RC) by rw[HE.out,decide_eq_false Gp.out];simp);refine rS (fun w'=>w' gl=OK (.slice xl kl.args.length yl)/\w' gm=OK (.slice xm km.args.length ym)/\w' gn=OK (.slice xn kn.args.length yn)) (fun _=>RC) (SBL.out zn.drew (Below.drew (sQ _ _))) fun sP=>?_;refine tk [0,1,2,3,4,5,6,7,8,9,10,11,12,13,14,15,16,17,18,19,20] sP ?_;(intro d hd;simp[tkD]at hd;subst hd;simp only[tks,pQ,pZ,pS]);iterate 21 (refine⟨?_,?_,?_⟩;rotate_left;· (intro oi ho;simp at ho;subst ho;first | (refine Vq ⟨by rfl,?_⟩;with_reducible rfl) | (refine Vr ⟨by rfl,fun w' sL=>?_⟩;obtain⟨e0,e1,e2⟩:=sL;go_simp;try with_reducible rfl)))
        refine oC 21 (⟨zu (sP).1 nl,zu (sP).2.1 nm,zu (sP).2.2 nn⟩) ?_;refine oC 22 (⟨zu (sP).1 nl,zu (sP).2.1 nm,zu (sP).2.2 nn⟩) ?_;refine zX (by kernel_rfl) (RQ ?_) _;go_wp2_with fail
        obtain⟨W,hW,s0,sF,tZ⟩:=qX (BR.out) (.slice xm km.args.length ym);rw[<- hW];refine bodyPost_ret (v:=.tuple #[.agg #[.slice xm km.args.length ym],.bool RC]) (by simp[results,Sg,go_sem,s0]) rfl ?_;rw[aM.out];exact vF (k:=km) HP.out.1.old H0.out.1 H0.out.2.1 lW.out.1 Tm.out (fun B w0 h hB=>(sF B w0 h hB).drew) tZ
theorem withNames (F:Nat->Prop)(ns:List Nm)(x:Bs)(k:Ty)(nv tv:Value)(ta:Option Addr)(tc:Nat)(w:World)(rn:Rep F w (.sl 9 1 ns.length (ns.map fun p=>DV.val (str p.1))) nv)(rk:Rep F w (.sl 47 1 ns.length (qu (kinds ns))) tv)(ra:Rep F w (ki k) (.slice ta k.args.length tc))(hn:ns.length<=1000) :
 Calls RG 39 #[.agg #[nv,tv],x,.agg #[.slice ta k.args.length tc]] w fun en w'=>∃a5 c5 a6 c6,en=.returned (.agg #[.slice a5 (ns.length+1) c5,.slice a6 (ns.length+1) c6])/\No w w' /\
  Rep (fun i=>F i\/w<=i) w' (.sl 9 1 (ns++[(x,k)]).length ((ns++[(x,k)]).map fun p=>DV.val (str p.1))) (.slice a5 (ns.length+1) c5)/\Rep (fun i=>F i\/w<=i) w' (.sl 47 1 (ns++[(x,k)]).length (qu (kinds (ns++[(x,k)])))) (.slice a6 (ns.length+1) c6):=by
 obtain ⟨xs,iG,hsx⟩:=zz.ofRep rn (fun us hu u hm=>by
  obtain⟨j,hj⟩:=List.mem_iff_getElem?.1 hm;have Je:=(List.getElem?_eq_some_iff.1 hj).1;have hlen:=hu.length;rw[List.length_map]at hlen;have hd:(ns.map fun p=>DV.val (str p.1))[j]?=OK (.val (str (ns[j]'(by omega)).1)):=by rw[S5,List.getElem?_eq_getElem (by omega)];rfl
  obtain⟨v,hv,hr⟩:=zY.at hu hd;rw[hj]at hv;obtain rfl:=RZ hv;rw[zC]at hr;subst hr
  simp [str,Value.oneCell'])
 obtain⟨ys,hys,hsy⟩:=zz.ofRep rk (uA _);refine(l5With_any ns.length ns.length nv tv xs ys x ta k.args.length tc w hsx hsy (by omega) (by omega)).mono ?_;rintro en w' ⟨a5,c5,a6,c6,rfl,hb,lh,FS,li,F1⟩;refine⟨a5,c5,a6,c6,rfl,hb,?_,?_⟩
 ·rw[RL,List.map_append];exact lh.rep (fun g hg=>.inr (li g hg)) ((zY.below hb (fun _ h=>.inl h) iG).append (zQ.2 ⟨_,_,rfl,zC.2 rfl,zE.2 rfl⟩))
 ·rw[RL,jz,dl];refine FS.rep (fun g hg=>.inr (F1 g hg)) ((zY.below hb (fun _ h=>.inl h) hys).append ?_);rw[qu,qu];exact zQ.2 ⟨_,_,rfl,Rep.below hb (fun _ h=>.inl h) ra,zE.2 rfl⟩
theorem kd_lam (N:Nat)(ih:KdSaid N)(F:Nat->Prop)(x:Bs)(k:Ty)(t:Tm)(ns:List Nm)(nv tv s pv:Value)(w:World)(hN:zO (.lam x k t)<=N+1)(hp:gG F (.lam x k t) ns nv tv s pv w):Calls RG 34 #[.agg #[nv,tv],.agg #[s,pv]] w (uS F w (zd ns (.lam x k t)).1 (zd ns (.lam x k t)).2):=by
 have hold:=hp.old;obtain⟨na,nc,rfl,_,_,iC⟩:=zH hp.rn;obtain⟨ka,kc,rfl,_,_,iD⟩:=zH hp.rk;have tQ:=hp.rt;rw[kg]at tQ;obtain⟨qa,qc,e,sy⟩:=q_ tQ;simp only[qE,jB,RY,and_true]at e sy;obtain⟨rfl,rfl⟩:=e;obtain⟨_,_,e,sG⟩:=yR.of sy;simp only[RT,true_and]at e;obtain⟨rfl,rfl⟩:=e;obtain⟨sh,sg,s1,a1,n1,c1,d1,A9,aS,oF,oR,Cq,lL,FB,GT⟩:=sG 1 (by simp);simp only[RV,RW,RK]at oF;subst oF;subst A9;obtain⟨L0,LY,s2,a2,n2,c2,d2,A8,Do,A7,A_,Cp,Ak,GP,GS⟩:=sG 2 (by simp);simp only[RV,RW,RK]at A7;subst A7;simp only[RK,So,and_true]at A8;obtain⟨rfl,rfl⟩:=A8;obtain⟨pb3,po3,s3,a3,n3,c3,d3,GU,LW,GR,FC,GW,GQ,LX,LZ⟩:=sG 3 (by simp);simp only[RV,RW,RK]at GR;subst GR;simp only[RK,So,and_true]at GU;obtain⟨rfl,rfl⟩:=GU;simp only[qE]at FB;subst FB;have tP:=hp.room;have sI:=hp.ok;have aA:=hp.sm;have hak:=qA k;rw[zO]at tP hN;rw[kJ,R3,decide_eq_true_eq]at aA;obtain⟨W0,tW⟩:=zzM (((w.alloc (.cells #[.slice na ns.length nc,.slice ka ns.length kc] 57)).alloc (.cells #[str [],.slice (sh,sg) 4 qc] 44)).alloc (.cells #[()] 47));obtain⟨s8,z0,bA,bB,bC⟩:=xN w (.cells #[.slice na ns.length nc,.slice ka ns.length kc] 57) (.cells #[str [],.slice (sh,sg) 4 qc] 44) (.cells #[()] 47);rw[<- tW]at s8 z0 bA bB bC;have CH:=r9 (show Calls RG 37 #[.agg #[str [],.slice (sh,sg) 4 qc]] W0 (fun en w'=>en=.returned (str (xH (kg (.lam s1 k t))))/\No W0 w') from ux (kg (.lam s1 k t)) (uW _ hp.ok) F W0 _ _ (zY.below s8 (fun _ h=>h) hp.rt));have IQ:xH (kg (.lam s1 k t))=[108,97,109]:=by rw[kg];rfl
 rw[IQ]at CH;have H0:=r9 (r_ s8 (r_ z0 (r_ bA bC)));have e0:W0 w=OK (.slice na ns.length nc):=by simp[RE,bA]
 have e1:W0 (w,1)=OK (.slice ka ns.length kc):=by simp[RE,bA]
 have SX:Hid (∀w',No W0 w'->w' w=OK (.slice na ns.length nc)/\w' (w,1)=OK (.slice ka ns.length kc)/\w' (sh,sg+2)=str s1/\w' (sh,sg+4)=str s2/\w' (sh,sg+5)=OK (.slice a2 n2 c2)/\w' (sh,sg+6)=str s3/\w' (sh,sg+7)=OK (.slice a3 n3 c3)):=by
  show ∀w',_->_;intro w' sA;have tE:=zzT s8 sA;exact⟨(sA.cell (sK W0 _ e0)).trans e0,(sA.cell (sK W0 _ e1)).trans e1,(tE.cell (p:=(sh,sg+2)) aS).trans oR,(tE.cell (p:=(sh,sg+4)) aS).trans A_,(tE.cell (p:=(sh,sg+5)) aS).trans Cp,(tE.cell (p:=(sh,sg+6)) aS).trans FC,(tE.cell (p:=(sh,sg+7)) aS).trans GW⟩
 have Id:=jY 15 k aA.1;have CX:Hid (∀wz,No w wz->Calls RG 38 #[.agg #[s2,.slice a2 n2 c2]] wz fun en w'=>en=.returned (str (zS k))/\No wz w'):=by
  show ∀wz,_->_;intro wz hz;have h:=ch (zy (trT k)).length (trT k) (sZ _) (show _<=_ by rw[v8];omega) (cz k) F wz _ _ (zY.below hz (fun _ h=>h) Ak);rw[v8]at h;exact h
 have CY:Hid (∀wz,Calls RG 22 #[str (zS k)] wz fun en w'=>∃ta tc,en=.returned (.tuple #[.agg #[.slice ta k.args.length tc],.bool OX])/\No wz w'/\Rep (wz<=·) w' (ki k) (.slice ta k.args.length tc)):=by
  show ∀wz,_;intro wz;refine(x5 (zS k) (show _<=_ by omega) wz).mono ?_;rintro en w' ⟨v,rfl,hb,hr⟩;rw[vh aA.1]at hr ⊢;obtain⟨ta,tc,rfl⟩:=za hr;exact⟨ta,tc,rfl,hb,hr⟩
 obtain⟨X,hX⟩:=zzM (zS k);rw[<- hX]at CX CY;have HP:=r9 (r_ hp (r_ sI (r_ aA (r_ GQ hN))));have IH:=r9 ih;have hlen:ns.length<=99:=by omega
 clear iC iD sy sG tQ hp sI aA ih hN s8 z0 bA bB bC e0 e1 lL oR Cq GT Ak A_ Cp GP GS GQ FC GW LX LZ aS Do LW hX Id;go_enter UD,Um;go_wp2_with fail
 rw[<- tW];clear tW;(with_reducible refine CH.out.mono ?_);rintro en w1 ⟨rfl,sX⟩;have H1:=r9 (r_ sX (zzT H0.out.1 sX));have RB:=r9 (CX.out w1 H1.out.2);obtain⟨e0,e1,f1,f2,h2,f3,h3⟩:=SX.out w1 H1.out.1;clear sX CH CX e0 e1 f1 f3 h3;go_wp2_with fail
 (with_reducible refine RB.out.mono ?_);rintro en w2 ⟨rfl,sY⟩
 have H2:=r9 (r_ (zzT H1.out.1 sY) (zzT H1.out.2 sY));clear sY f2 h2 RB;go_wp2_with fail
 (with_reducible refine(CY.out w2).mono ?_);rintro en w3 ⟨ta,tc,rfl,sE,lO⟩
 have H3:=r9 (r_ (zzT H2.out.1 sE) (r_ (zzT H2.out.2 sE) (lO.weak (G:=fun i=>F i\/W0<=i) (fun i h=>.inr (sU H2.out.1.size h)))));clear sE lO CY;go_wp2_with fail
 obtain⟨V,hV⟩:=zzN (w3.alloc (.cells #[.slice ta k.args.length tc] 47));rw[hV];have Fj:No w3 V:=by rw[<- hV];exact(sQ _ _).alloc (sZ _) _
 obtain⟨ga,P_⟩:=zzN (w3.heap.size);have Ld:V ga=OK (.slice ta k.args.length tc):=by rw[<- hV,<- P_];simp
 have HV:=r9 (r_ (zzT H3.out.1 Fj) (zzT H3.out.2.1 Fj));have TA:Hid (Rep (fun i=>i<V/\(F i\/W0<=i)) V (ki k) (.slice ta k.args.length tc)):=(Rep.keep fun i x h hx=>⟨⟨zZ hx,h⟩,hx⟩).1 _ _ (Rep.below (F':=fun i=>F i\/W0<=i) Fj (fun _ h=>h) H3.out.2.2);rw[P_];have SV:Hid (∀w',No V w'->w' w=OK (.slice na ns.length nc)/\w' (w,1)=OK (.slice ka ns.length kc)/\w' (sh,sg+2)=str s1/\w' (sh,sg+6)=str s3/\w' (sh,sg+7)=OK (.slice a3 n3 c3)/\w' ga=OK (.slice ta k.args.length tc)):=by
  show ∀w',_->_;intro w' h;obtain⟨e0,e1,f1,_,_,f3,h3⟩:=SX.out w' (zzT HV.out.1 h);exact⟨e0,e1,f1,f3,h3,(h.cell (sK _ _ Ld)).trans Ld⟩
 have oldV:Hid (∀i,F i->i<(V:Nat)):=fun i h=>sV (HP.out.1.old i h) HV.out.2.size;have CW:=r9 (fun wz (hz:No V wz)=>withNames (fun i=>i<V/\(F i\/W0<=i)) ns s1 k (.slice na ns.length nc) (.slice ka ns.length kc) ta tc wz ((Rep.keep fun i x (h:F i) hx=>⟨⟨oldV.out i h,.inl h⟩,hx⟩).1 _ _ (Rep.below (F':=F) (zzT HV.out.2 hz) (fun _ h=>h) HP.out.1.rn)) ((Rep.keep fun i x (h:F i) hx=>⟨⟨oldV.out i h,.inl h⟩,hx⟩).1 _ _ (Rep.below (F':=F) (zzT HV.out.2 hz) (fun _ h=>h) HP.out.1.rk)) (Rep.below (F':=fun i=>i<V/\(F i\/W0<=i)) hz (fun _ h=>h) TA.out) (by omega));obtain⟨kt,qt,Fa⟩:∃a b,zd (ns++[(s1,k)]) t=(a,b):=⟨_,_,rfl⟩
 have CZ:Hid (∀ (B:Nat) (A1:World) (a5 a6:Option Addr) (c5 c6:Nat),V<=B->Below V V A1 ->
  Rep (fun i=>((i<V/\(F i\/W0<=i))\/B<=i)/\i<A1) A1 (.sl 9 1 (ns++[(s1,k)]).length ((ns++[(s1,k)]).map fun p=>DV.val (str p.1))) (.slice a5 (ns.length+1) c5)->
  Rep (fun i=>((i<(V:Nat)/\(F i\/(W0:Nat)<=i))\/B<=i)/\i<(A1:Nat)) A1 (.sl 47 1 (ns++[(s1,k)]).length (qu (kinds (ns++[(s1,k)])))) (.slice a6 (ns.length+1) c6)->∀(E:Nat->Prop),(∀i,F i->E i)->(∀i,(((i<(V:Nat)/\(F i\/(W0:Nat)<=i))\/B<=i)/\i<(A1:Nat))->∀x,A1.heap[i]?=OK x->E i)->(∀i,E i->i<(A1:Nat))->
  Calls RG 34 #[.agg #[.slice a5 (ns.length+1) c5,.slice a6 (ns.length+1) c6],.agg #[s3,.slice a3 n3 c3]] A1 (uS E A1 kt qt)):=by
  show ∀_,_;intro B A1 a5 a6 c5 c6 hB hz h5 h6 E hFE hE hEl;have G3:=zzT HV.out.2 hz
  have h:=IH.out E t (ns++[(s1,k)]) _ _ _ _ A1 (by have:=HP.out.2.2.2.2;omega) ⟨hEl,zY.below G3 hFE HP.out.2.2.2.1,(Rep.keep fun i x hi hx=>⟨hE i hi x hx,hx⟩).1 _ _ h5,(Rep.keep fun i x hi hx=>⟨hE i hi x hx,hx⟩).1 _ _ h6,HP.out.2.1.2,HP.out.2.2.1.2,(fun p hm=>by
   rcases Si.1 hm with hm|hm
   ·exact HP.out.1.nm p hm
   ·simp at hm;subst hm;exact HP.out.2.1.1),(fun a ha=>by
   rw[jz]at ha;rcases Si.1 ha with ha|ha
   ·exact HP.out.1.n15 a ha
   ·simp at ha;subst ha;exact HP.out.2.2.1.1),by rw [RL];simp;omega⟩
  rw[Fa]at h;exact h
 have CK2:Hid (∀ (A1:World) (a5 a6:Option Addr) (c5 c6 y:Nat),Below V V A1->y<=A1->V<=y ->
  Rep (fun i=>((i<V/\(F i\/W0<=i))\/V<=i)/\i<y) A1 (.sl 9 1 (ns++[(s1,k)]).length ((ns++[(s1,k)]).map fun p=>DV.val (str p.1))) (.slice a5 (ns.length+1) c5)->
  Rep (fun i=>((i<V/\(F i\/W0<=i))\/V<=i)/\i<y) A1 (.sl 47 1 (ns++[(s1,k)]).length (qu (kinds (ns++[(s1,k)])))) (.slice a6 (ns.length+1) c6)->
  Calls RG 34 #[.agg #[.slice a5 (ns.length+1) c5,.slice a6 (ns.length+1) c6],.agg #[s3,.slice a3 n3 c3]] A1 (uS (fun i=>((i<V/\(F i\/W0<=i))\/V<=i)/\i<y) A1 kt qt)):=by
  show ∀_,_;intro A1 a5 a6 c5 c6 y hz hy hVy h5 h6;have G3:=zzT HV.out.2 hz
  have h:=IH.out (fun i=>((i<V/\(F i\/W0<=i))\/V<=i)/\i<y) t (ns++[(s1,k)]) _ _ _ _ A1 (by have:=HP.out.2.2.2.2;omega) ⟨fun i h=>by have:=h.2;omega,zY.below G3 (fun i h=>⟨.inl ⟨oldV.out i h,.inl h⟩,sV (oldV.out i h) hVy⟩) HP.out.2.2.2.1,h5,h6,HP.out.2.1.2,HP.out.2.2.1.2,(fun p hm=>by
   rcases Si.1 hm with hm|hm
   ·exact HP.out.1.nm p hm
   ·simp at hm;subst hm;exact HP.out.2.1.1),(fun a ha=>by
   rw[jz]at ha;rcases Si.1 ha with ha|ha
   ·exact HP.out.1.n15 a ha
   ·simp at ha;subst ha;exact HP.out.2.2.1.1),by rw [RL];simp;omega⟩
  rw[Fa]at h;exact h
 have HKT:=r9 Fa;clear Fa H1 H2 H3 Fj hV IH SX;refine je (X:=Nat×Option Addr×Nat×Option Addr×Nat×Option Addr×Nat) (fun a x=>((((((((((((((((a.put (OK 76) (.agg #[.slice na ns.length nc,.slice ka ns.length kc])).put (OK 77) (.slice (sh,sg) 4 qc)).put (OK 78) (.pointer (OK ⟨sh,sg+2,U⟩))).put (OK 79) (.pointer (OK ⟨sh,sg+2,U⟩))).put (OK 80) (str s1)).put (OK 81) (.agg #[.slice ta k.args.length tc])).put (OK 82) (.agg #[.slice x.2.1 (ns.length+1) x.2.2.1,.slice x.2.2.2.1 (ns.length+1) x.2.2.2.2.1])).put (OK 83) (.slice (sh,sg) 4 qc)).put (OK 84) (.pointer (OK ⟨sh,sg+6,U⟩))).put (OK 85) (.agg #[s3,.slice a3 n3 c3])).put (OK 86) (.tuple #[.agg #[.slice x.2.2.2.2.2.1 kt.args.length x.2.2.2.2.2.2],.bool qt])).put (OK 75) (.tuple #[.agg #[.slice x.2.2.2.2.2.1 kt.args.length x.2.2.2.2.2.2],.bool qt])).put (OK 87) (.agg #[.slice x.2.2.2.2.2.1 kt.args.length x.2.2.2.2.2.2])).put (OK 88) (.bool qt)).put (OK 10) (.pointer (OK ⟨x.1,0,U⟩))).put (OK 11) (.bool qt))) (fun x w'=>z8 (fun i=>i<V/\(F i\/W0<=i)) V x.1 (.cells #[.slice x.2.2.2.2.2.1 kt.args.length x.2.2.2.2.2.2] 47 (0,0)) [ki kt] [.slice x.2.2.2.2.2.1 kt.args.length x.2.2.2.2.2.2] w') ?_ ?_
 ·refine rB fun sP=>?_;refine tC [0,1,2,3,4,5,7,8,9] sP ?_;iterate 9 (refine tl (fun w' sL=>SV.out w' sL) ?_)
  refine tz ?_;refine qU 6 14 (by kernel_rfl) ?_ ?_
  ·(intro o6 ho K' hK;simp at ho;subst ho);go_simp
   go_at_call 39;(with_reducible refine(CW.out _ sP).mono ?_);rintro en y1 ⟨aq,cq,ar,cr,rfl,tY,NF,NE⟩;have sD:No V y1:=sP.trans (tY.mono (sP).size);(refine hK.out _ _ (fun _=>sD) ?_;clear hK K';try simp only[pQ,pN,pZ,pS]);refine qU 10 14 (by kernel_rfl) ?_ ?_
   ·have Em:Rep (fun i=>((i<V/\(F i\/W0<=i))\/V<=i)/\i<y1) y1 (.sl 9 1 (ns++[(s1,k)]).length ((ns++[(s1,k)]).map fun p=>DV.val (str p.1))) (.slice aq (ns.length+1) cq):=(Rep.keep fun i x hi hx=>⟨⟨hi,zZ hx⟩,hx⟩).1 _ _ NF;have El:Rep (fun i=>((i<V/\(F i\/W0<=i))\/V<=i)/\i<y1) y1 (.sl 47 1 (ns++[(s1,k)]).length (qu (kinds (ns++[(s1,k)])))) (.slice ar (ns.length+1) cr):=(Rep.keep fun i x hi hx=>⟨⟨hi,zZ hx⟩,hx⟩).1 _ _ NE;have Gr:=CZ.out V y1 aq ar cq cr (sZ _) sD Em El (fun i=>((i<V/\(F i\/W0<=i))\/V<=i)/\i<y1) (fun i h=>⟨.inl ⟨oldV.out i h,.inl h⟩,sV (oldV.out i h) sD.size⟩) (fun i h _ _=>h) (fun i h=>h.2);(intro o10 ho K' hK;simp at ho;subst ho);go_simp;go_at_call 34;(with_reducible refine Gr.mono ?_);rintro en y2 ⟨xx,yy,rfl,AI,tq⟩;have io:No V y2:=zzT sD AI;(refine hK.out _ _ (fun _=>io) ?_;clear hK K';try simp only[pQ,pN,pZ,pS]);refine tC [11,12,13] io ?_;iterate 3 (refine tx ?_)
    refine tz ?_;refine oC 14 (io.alloc io.size _) ?_;refine oC 15 (io.alloc io.size _) ?_;refine oC 16 (io.alloc io.size _) ?_;refine zX (by kernel_rfl) (RQ ?_) _;exact⟨rfl,⟨y2,aq,cq,ar,cr,xx,yy⟩,by rfl,z8.fresh io (zY.one (tq.weak fun i h=>by rcases h with h|h;exact h.1;exact .inr (sU sD.size h)))⟩
   ·(intro o14 ho K' hK;simp at ho;subst ho);go_simp
    (refine hK.out _ _ (fun _=>sD.alloc sD.size _) ?_;clear hK K';try simp only[pQ,pN,pZ,pS]);have hA:No V (y1.alloc (.cells #[()] 47)):=sD.alloc sD.size _
    have lz:(y1.alloc (.cells #[()] 47)).heap.size=y1+1:=by simp
    have Nh:(y1.alloc (.cells #[()] 47)).heap[(y1:Nat)]?=OK (.cells #[()] 47 (0,0)):=zW _ _;refine jU 10 (by kernel_rfl) ?_;have Em:Rep (fun i=>((i<V/\(F i\/W0<=i))\/V<=i)/\i<y1) (y1.alloc (.cells #[()] 47)) (.sl 9 1 (ns++[(s1,k)]).length ((ns++[(s1,k)]).map fun p=>DV.val (str p.1))) (.slice aq (ns.length+1) cq):=(Rep.keep fun i x hi hx=>⟨⟨hi,zZ hx⟩,zJ hx⟩).1 _ _ NF;have El:Rep (fun i=>((i<V/\(F i\/W0<=i))\/V<=i)/\i<y1) (y1.alloc (.cells #[()] 47)) (.sl 47 1 (ns++[(s1,k)]).length (qu (kinds (ns++[(s1,k)])))) (.slice ar (ns.length+1) cr):=(Rep.keep fun i x hi hx=>⟨⟨hi,zZ hx⟩,zJ hx⟩).1 _ _ NE;have Gr:=CK2.out (y1.alloc (.cells #[()] 47)) aq ar cq cr y1 hA (by rw[lz];omega) sD.size Em El;(intro o10 ho K' hK;simp at ho;subst ho);go_simp;go_at_call 34;(with_reducible refine Gr.mono ?_);rintro en y2 ⟨xx,yy,rfl,AI,tq⟩;have io:No V y2:=zzT hA AI;have bz:y2.heap[(y1:Nat)]?=OK (.cells #[()] 47 (0,0)):=(AI.block _ (by rw[lz];omega)).trans Nh;(refine hK.out _ _ (fun _=>io) ?_;clear hK K';try simp only[pQ,pN,pZ,pS]);refine tC [11,12,13] io ?_;iterate 3 (refine tx ?_)
    refine tz ?_;have oe:(y2) y1=OK (.slice U 0 0):=by simp only[RE,bz];rfl
    have od:(y2).frozen? y1=RC:=by simp only[RO,bz];rfl
    refine oC 15 ((io.setCell (p:=y1) sD.size _)) ?_;refine oC 16 ((io.setCell (p:=y1) sD.size _)) ?_;refine zX (by kernel_rfl) (RQ ?_) _
    exact ⟨rfl,⟨y1,aq,cq,ar,cr,xx,yy⟩,by rfl,io.setCell (p:=y1) sD.size _,sD.size,(by rw [zj bz];rfl),(Rep.keep fun i x hi hx=>by
     have hne:i≠y1:=by rcases hi with h|h;have:=h.2;omega;rw[lz]at h;omega
     exact ⟨⟨by rcases hi with h | h;exact h.1;exact .inr (sU hA.size h),hne⟩,by rw [(but1 _ _ _).block i (zZ hx) hne];exact hx⟩).2 _ _ (zY.one tq)⟩
  ·(intro o14 ho K' hK;simp at ho;subst ho);go_simp
   (refine hK.out _ _ (fun _=>sP.alloc (sZ _) _) ?_;clear hK K';try simp only[pQ,pN,pZ,pS]);have hA:No V (V.alloc (.cells #[()] 47)).drew:=sP.alloc (sZ _) _
   have lz:(V.alloc (.cells #[()] 47)).drew.heap.size=V+1:=by simp
   (refine on 6 ?_;intro o ho K' hK;simp at ho;subst ho;go_simp);go_at_call 39
   (with_reducible refine(CW.out _ hA).mono ?_);rintro en y1 ⟨aq,cq,ar,cr,rfl,tY,NF,NE⟩
   have sD:No V y1:=hA.trans (tY.mono (hA).size);have Nh:y1.heap[(V:Nat)]?=OK (.cells #[()] 47 (0,0)):=(tY.block _ (by rw[lz];omega)).trans (zW V (.cells #[()] 47));(refine hK.out _ _ (fun _=>sD) ?_;clear hK K';try simp only[pQ,pN,pZ,pS]);refine jU 10 (by kernel_rfl) ?_;have Em:Rep (fun i=>((i<V/\(F i\/W0<=i))\/V+1<=i)/\i<y1) y1 (.sl 9 1 (ns++[(s1,k)]).length ((ns++[(s1,k)]).map fun p=>DV.val (str p.1))) (.slice aq (ns.length+1) cq):=(Rep.keep fun i x hi hx=>⟨⟨hi.elim .inl (fun h=>.inr (by rw[lz]at h;exact h)),zZ hx⟩,hx⟩).1 _ _ NF;have El:Rep (fun i=>((i<V/\(F i\/W0<=i))\/V+1<=i)/\i<y1) y1 (.sl 47 1 (ns++[(s1,k)]).length (qu (kinds (ns++[(s1,k)])))) (.slice ar (ns.length+1) cr):=(Rep.keep fun i x hi hx=>⟨⟨hi.elim .inl (fun h=>.inr (by rw[lz]at h;exact h)),zZ hx⟩,hx⟩).1 _ _ NE;have Gr:=CZ.out ((V:Nat)+1) y1 aq ar cq cr (by omega) sD Em El (fun i=>((i<V/\(F i\/W0<=i))\/V+1<=i)/\i<y1) (fun i h=>⟨.inl ⟨oldV.out i h,.inl h⟩,sV (oldV.out i h) sD.size⟩) (fun i h _ _=>h) (fun i h=>h.2);(intro o10 ho K' hK;simp at ho;subst ho);go_simp;go_at_call 34;(with_reducible refine Gr.mono ?_);rintro en y2 ⟨xx,yy,rfl,AI,tq⟩;have io:No V y2:=zzT sD AI;have ly1:(V:Nat)+1<=(y1:Nat):=by have:=tY.size;rw[lz]at this;exact this
   have bz:y2.heap[(V:Nat)]?=OK (.cells #[()] 47 (0,0)):=(AI.block _ (by omega)).trans Nh;(refine hK.out _ _ (fun _=>io) ?_;clear hK K';try simp only[pQ,pN,pZ,pS]);refine tC [11,12,13] io ?_;iterate 3 (refine tx ?_)
   refine tz ?_;have oe:(y2) V=OK (.slice U 0 0):=by simp only[RE,bz];rfl
   have od:(y2).frozen? V=RC:=by simp only[RO,bz];rfl
   refine oC 15 ((io.setCell (p:=V) (sZ _) _)) ?_;refine oC 16 ((io.setCell (p:=V) (sZ _) _)) ?_;refine zX (by kernel_rfl) (RQ ?_) _
   exact ⟨rfl,⟨V,aq,cq,ar,cr,xx,yy⟩,by rfl,io.setCell (p:=V) (sZ _) _,sZ _,(by rw [zj bz];rfl),(Rep.keep fun i x hi hx=>by
    have hne:i≠V:=by rcases hi with h|h;rcases h.1 with h1|h1;have:=h1.1;omega;omega;omega
    exact ⟨⟨by rcases hi with h | h;rcases h.1 with h1 | h1;exact .inl h1;exact .inr (by omega);exact .inr (by omega),hne⟩,by rw [(but1 _ _ _).block i (zZ hx) hne];exact hx⟩).2 _ _ (zY.one tq)⟩
 rintro⟨gg,aq,cq,ar,cr,xx,yy⟩ z hR;have R:Hid (z8 (fun i=>i<V/\(F i\/W0<=i)) V gg (.cells #[.slice xx kt.args.length yy] 47 (0,0)) [ki kt] [.slice xx kt.args.length yy] z):=hR;have HZ:Hid (No W0 z/\No w z):=⟨zzT HV.out.1 R.out.below,zzT HV.out.2 R.out.below⟩;have g0:z gg=OK (.slice xx kt.args.length yy):=R.out.cell0;have a8:z ga=OK (.slice ta k.args.length tc):=(R.out.below.cell (sK _ _ Ld)).trans Ld;have TT:Hid (Rep (fun i=>F i\/W0<=i) z (ki kt) (.slice xx kt.args.length yy)):=(zY.get1 R.out.rep).weak fun i h=>by rcases h.1 with h|h;exact h.2;exact .inr (sU HV.out.1.size h)
 have TA2:Hid (Rep (fun i=>F i\/W0<=i) z (ki k) (.slice ta k.args.length tc)):=(Rep.below (F':=fun i=>i<V/\(F i\/W0<=i)) R.out.below (fun _ h=>h) TA.out).weak fun i h=>h.2;have hktl:kt.args.length<=200:=by
  have h:=bS t (ns++[(s1,k)]) (fun a ha=>by
   rw[jz]at ha;rcases Si.1 ha with ha|ha
   ·have:=un (HP.out.1.n15 a ha);omega
   ·simp at ha;subst ha;have:=un HP.out.2.2.1.1;omega) HP.out.2.2.1.2
  rw[HKT.out]at h;simp only at h;omega
 have hrS:=TT.out;rw[jJ]at hrS;obtain⟨news,aZ,aD⟩:=zz.ofRep hrS (uA _);have HN:=r9 aZ;have HSR:=r9 aD;have HE:=r9 (show zd ns (.lam s1 k t)=(zi k kt,qt && decide (zU (zi k kt)<=15)) by rw[zd,HKT.out]);have g0':(z.alloc (.cells #[.slice ta k.args.length tc] 47)) gg=OK (.slice xx kt.args.length yy):=zV g0;clear hR CW CZ CK2 SV hrS aZ aD Ld;simp only[Act.put,R_,Sl,Sm];go_wp2_with (at_builtin;refine zF rfl _ _ 45 rfl 47 (.agg #[()]) 1 24 Tryz.underlying45 Tryz.infoS rfl (by decide) _ 1 [.slice ta k.args.length tc] rfl ?c1 _ kt.args.length news rfl ?c2 ?c3 ?c4 ?_)
 case c1=>exact Own.litAt #[.slice ta k.args.length tc] 1 _ (by simp) (by decide) rfl
 case c2=>exact HSR.out.alloc _
 case c3=>unfold maxLen;omega
 case c4=>omega
 intro a' c' w' ho hb hg;have Fh:No z w':=((sQ _ _).alloc (sZ _) _).trans (hb.toBelow (by simp) fun i hi e=>by simp[Value.ownBlock]at e;omega);have Bx:∀g,(Value.slice a' (1+kt.args.length) c').ownBlock=OK g->(z:Nat)<=g:=fun g h=>by
  rcases hg g h with e|e
  ·simp[Value.ownBlock]at e;omega
  ·rw[e];simp
 have tV:=HZ.out.1.size;have HA:Hid (Rep (fun i=>F i\/W0<=i) w' (ki (zi k kt)) (.slice a' (1+kt.args.length) c')):=by
  show Rep _ _ _ _;rw[jJ,show (zi k kt).args.length=1+kt.args.length from by simp[zi,Ty.args,Nat.add_comm]];refine ho.rep (fun g h=>.inr (sU tV (Bx g h))) ?_;show zY _ _ (ki k::qu kt.args) _;exact zQ.2 ⟨_,_,rfl,Rep.below Fh (fun _ h=>h) TA2.out,zY.below Fh (fun _ h=>h) HN.out⟩
 have HW':Hid (No W0 w'):=zzT HZ.out.1 Fh;clear ho hb hg Fh Bx g0 g0' a8;go_wp2_with fail
 obtain⟨Y,hY⟩:=zzN (w'.alloc (.cells #[.slice a' (1+kt.args.length) c'] 47));rw[hY];have Gc:No w' Y:=by rw[<- hY];exact(sQ _ _).alloc (sZ _) _
 obtain⟨gO,hgO⟩:=zzN (w'.heap.size);have o0:Y gO=OK (.slice a' (1+kt.args.length) c'):=by rw[<- hY,<- hgO];simp
 rw[hgO];have hlo:W0<=gO:=by rw[<- hgO];exact HW'.out.size
 have Dm:Hid (No W0 Y):=zzT HW'.out Gc;have HYA:Hid (Rep (fun i=>F i\/W0<=i) Y (ki (zi k kt)) (.slice a' (1+kt.args.length) c')):=Rep.below Gc (fun _ h=>h) HA.out;have BR:Hid (Y.heap[(w:Nat)+1+1]?=OK (.cells #[()] 47 (0,0))):=(Dm.out.block _ (zZ H0.out.2.2.2)).trans H0.out.2.2.2;have iu:Y.drew.frozen? (w+1+1:Nat)=RC:=by show Y.frozen? _=_;simp only[RO,BR.out];rfl
 have BM:Y.drew (w+1+1:Nat)=OK (.slice U 0 0):=by show Y.cell? _=_;simp only[RE,BR.out];rfl
 have Nx:gO≠w+1+1:=by have:=H0.out.2.1;omega
 have eL:1+kt.args.length=(zi k kt).args.length:=by simp[zi,Ty.args,Nat.add_comm]
 have HEL:=r9 eL;clear hY Gc hgO HA HW' eL;have Nj:Hid (Rep (fun i=>F i\/W0<=i) Y (ki (zi k kt)) (.slice a' (zi k kt).args.length c')):=by
  have h:=HYA.out;rw[HEL.out]at h;exact h
 cases qt with
 | false =>
   have aM:=r9 (show zd ns (.lam s1 k t)=(zi k kt,RC) by rw[HE.out];rfl);refine rS (fun w'=>w' gO=OK (.slice a' (1+kt.args.length) c')) (fun _=>RC) o0 fun sP=>?_;refine tk [0,1,2,3,4,5,6] sP ?_;(intro d hd;simp[tkD]at hd;subst hd;simp only[tks,pQ,pZ,pS]);iterate 7 (refine⟨?_,?_,?_⟩;rotate_left;· (intro oi ho;simp at ho;subst ho;first | (refine Vq ⟨by rfl,?_⟩;with_reducible rfl) | (refine Vr ⟨by rfl,fun w' sL=>?_⟩;have e0:=sL;go_simp;try with_reducible rfl)))
   refine oC 7 (zu sP Nx) ?_;refine oC 8 (zu sP Nx) ?_;refine zX (by kernel_rfl) (RQ ?_) _;go_wp2_with fail
   obtain⟨W,hW,s0,sF,tZ⟩:=qX (BR.out) (.slice a' (1+kt.args.length) c');rw[<- hW];refine bodyPost_ret (v:=.tuple #[.agg #[.slice a' (1+kt.args.length) c'],.bool RC]) (by simp[results,Sg,go_sem,s0]) rfl ?_;rw[aM.out,HEL.out];exact vF (k:=zi k kt) HP.out.1.old H0.out.1 H0.out.2.1 Dm.out Nj.out (fun B w0 h hB=>(sF B w0 h hB).drew) tZ
 | true =>
   have Bc:=qK t (ns++[(s1,k)]) kt (fun a ha=>by
    rw[jz]at ha;rcases Si.1 ha with ha|ha
    ·exact HP.out.1.n15 a ha
    ·simp at ha;subst ha;exact HP.out.2.2.1.1) (by have:=yu (t:=t) (ns:=ns++[(s1,k)]) HP.out.2.2.1.2 (by rw [HKT.out]);rwa [HKT.out] at this)
   have D9:zU (zi k kt)<=1000:=by have h1:=HP.out.2.2.1.1;have:=xj k kt;omega
   have CS:=r9 (fun wz (h:No Y wz)=>n9 1000 (zi k kt) D9 (by unfold Lim;omega) _ wz _ (Rep.below (F':=fun i=>F i\/W0<=i) h (fun _ h=>h) HYA.out));clear iu BM;by_cases sT:zU (zi k kt)<=15
   focus
    have aM:=r9 (show zd ns (.lam s1 k t)=(zi k kt,OX) by rw[HE.out,decide_eq_true sT];rfl);have h1:decide (((zU (zi k kt):Nat):Int)<=15)=OX:=decide_eq_true (by omega);clear sT D9 Bc;obtain⟨A,hA⟩:=zzM (zU (zi k kt));rw[<- hA]at h1 CS;clear hA;refine rS (fun w'=>w' gO=OK (.slice a' (1+kt.args.length) c')) (fun _=>RC) o0 fun sP=>?_;refine tC [0,1,2,3] sP ?_;iterate 4 (refine tl (fun w' sL=>sL) ?_)
    refine tz ?_;(refine on 4 ?_;intro o ho K' hK;simp at ho;subst ho;go_simp);go_at_call 46;(with_reducible refine(CS.out _ (Below.drew (sQ Y Y))).mono ?_);rintro en v1 ⟨rfl,hb⟩;have i7:Hid (No Y v1):=(Below.drew (sQ Y Y)).trans hb;clear hb;(refine hK.out _ _ (fun _=>(i7.out.cell (sK _ _ o0)).trans o0) ?_;clear hK K';try simp only[pQ,pN,pZ,pS]);have hS4:=(i7.out.cell (sK _ _ o0)).trans o0;have A6:Hid (v1.heap[(w:Nat)+1+1]?=OK (.cells #[()] 47 (0,0))):=(i7.out.block _ (zZ BR.out)).trans BR.out;have lA:v1.frozen? (w+1+1:Nat)=RC:=by simp only[RO,A6.out];rfl
    have Co:v1 (w+1+1:Nat)=OK (.slice U 0 0):=by simp only[RE,A6.out];rfl
    have lK:=(i7.out.cell (sK _ _ o0)).trans o0;refine tC [5,6] hS4 ?_;iterate 2 (refine tx ?_)
    refine tz ?_;refine oC 7 (zu lK Nx) ?_;refine oC 8 (zu lK Nx) ?_;refine zX (by kernel_rfl) (RQ ?_) _;have EQ:Hid (No W0 v1):=zzT Dm.out i7.out;have T2:Hid (Rep (fun i=>F i\/W0<=i) v1 (ki (zi k kt)) (.slice a' (zi k kt).args.length c')):=Rep.below i7.out (fun _ h=>h) Nj.out;go_wp2_with fail
    obtain⟨W,hW,s0,sF,tZ⟩:=qX (A6.out) (.slice a' (1+kt.args.length) c');rw[<- hW];refine bodyPost_ret (v:=.tuple #[.agg #[.slice a' (1+kt.args.length) c'],.bool OX]) (by simp[results,Sg,go_sem,s0]) rfl ?_
   rotate_left
   focus
    have aM:=r9 (show zd ns (.lam s1 k t)=(zi k kt,RC) by rw[HE.out,decide_eq_false sT];rfl);have h1:decide (((zU (zi k kt):Nat):Int)<=15)=RC:=decide_eq_false (by omega);clear sT D9 Bc;obtain⟨A,hA⟩:=zzM (zU (zi k kt));rw[<- hA]at h1 CS;clear hA;refine rS (fun w'=>w' gO=OK (.slice a' (1+kt.args.length) c')) (fun _=>RC) o0 fun sP=>?_;refine tC [0,1,2,3] sP ?_;iterate 4 (refine tl (fun w' sL=>sL) ?_)
    refine tz ?_;(refine on 4 ?_;intro o ho K' hK;simp at ho;subst ho;go_simp);go_at_call 46;(with_reducible refine(CS.out _ (Below.drew (sQ Y Y))).mono ?_);rintro en v1 ⟨rfl,hb⟩;have i7:Hid (No Y v1):=(Below.drew (sQ Y Y)).trans hb;clear hb;(refine hK.out _ _ (fun _=>(i7.out.cell (sK _ _ o0)).trans o0) ?_;clear hK K';try simp only[pQ,pN,pZ,pS]);have hS4:=(i7.out.cell (sK _ _ o0)).trans o0;have A6:Hid (v1.heap[(w:Nat)+1+1]?=OK (.cells #[()] 47 (0,0))):=(i7.out.block _ (zZ BR.out)).trans BR.out;have lA:v1.frozen? (w+1+1:Nat)=RC:=by simp only[RO,A6.out];rfl
    have Co:v1 (w+1+1:Nat)=OK (.slice U 0 0):=by simp only[RE,A6.out];rfl
    have lK:=(i7.out.cell (sK _ _ o0)).trans o0;refine tC [5,6] hS4 ?_;iterate 2 (refine tx ?_)
    refine tz ?_;refine oC 7 (zu lK Nx) ?_;refine oC 8 (zu lK Nx) ?_;refine zX (by kernel_rfl) (RQ ?_) _;have EQ:Hid (No W0 v1):=zzT Dm.out i7.out;have T2:Hid (Rep (fun i=>F i\/W0<=i) v1 (ki (zi k kt)) (.slice a' (zi k kt).args.length c')):=Rep.below i7.out (fun _ h=>h) Nj.out;go_wp2_with fail
    obtain⟨W,hW,s0,sF,tZ⟩:=qX (A6.out) (.slice a' (1+kt.args.length) c');rw[<- hW];refine bodyPost_ret (v:=.tuple #[.agg #[.slice a' (1+kt.args.length) c'],.bool RC]) (by simp[results,Sg,go_sem,s0]) rfl ?_
   all_goals
    rw[aM.out,HEL.out];exact vF (k:=zi k kt) HP.out.1.old H0.out.1 H0.out.2.1 EQ.out T2.out sF tZ
theorem cd (N:Nat):KdSaid N:=by
 induction N with
 |zero=>exact fun F t ns nv tv s pv w h=>by cases t <;> simp only[zO]at h <;> omega
 | succ N ih =>
   intro F t ns nv tv s pv w h hp;cases t with
   |nm x=>exact kd_nm F x ns nv tv s pv w hp
   |wd u=>exact kd_wd F u ns nv tv s pv w hp
   |lam x k t=>exact kd_lam N ih F x k t ns nv tv s pv w h hp
   |app m n=>exact kd_app N ih F m n ns nv tv s pv w h hp
   |ite l m n=>exact kd_ite N ih F l m n ns nv tv s pv w h hp
end Go.Proofs.YtnfenijemllkbaaGreatDoor

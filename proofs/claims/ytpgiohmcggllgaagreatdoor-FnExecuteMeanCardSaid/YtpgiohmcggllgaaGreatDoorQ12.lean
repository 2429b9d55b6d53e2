/- Walks. -/
import Derived.Test.YtpgiohmcggllgaaGreatDoorQ3
import Derived.Test.YtpgiohmcggllgaaGreatDoorQ10
set_option linter.unusedVariables false
set_option linter.unusedSimpArgs false
set_option maxHeartbeats 4000000
set_option maxRecDepth 100000
open Bool renaming and_eq_true->Oa,not_false->Sv,not_true->SI
open Go.Addr.mk renaming injEq->OI
open Go.NoPanic renaming normal->N0
open Go.Proofs.Tryz renaming func36->QL,ntmps36->Qv,prog->KD,results36->Ot
open Go.Value.slice renaming injEq->N_
open Go.World renaming cell?->GD,frozen?->N4
open List renaming drop->QA,getElem?_cons_succ->N8,getElem?_cons_zero->N9,getElem?_map->OY,length_append->NZ,mem_append->Oy,setIfInBounds_toArray->Ok,set_cons_succ->OA,set_cons_zero->Oz
open List.cons renaming injEq->Od
open Option renaming map_eq_some_iff->N3
open Option.some renaming inj->Ob,injEq->N1
open Or renaming inl->RL,inr->RK
namespace Go.Proofs.YtpgiohmcggllgaaGreatDoor
open Go.RowKit
def uF (F:Nat->Prop) (w:World) (k:Ty) (q:Bool) (en:Ending) (w':World):Prop :=
 ∃ a c,en=.returned (.tuple #[.agg #[.slice a k.args.length c],.bool q])/\Below w.heap.size w w'/\Rep (fun i=>F i\/w.heap.size<=i) w' (ke k) (.slice a k.args.length c)
structure pI (F:Nat->Prop) (t:Tm) (ns:List Nm) (nv tv s pv:Value) (w:World):Prop where
 old:∀ i,F i->i<w.heap.size
 rt:zW F w (vK (kx t)) [s,pv]
 rn:Rep F w (.sl 9 1 ns.length (ns.map fun p=>DV.val (str p.1))) nv
 rk:Rep F w (.sl 42 1 ns.length (qA (kinds ns))) tv
 ok:xY t
 sm:kP t=true
 nm:∀ p∈ns,qv p.1=true
 n15:∀ a∈kinds ns,zJ a<=15
 room:ns.length+zT t<=100
def KdSaid (N:Nat):Prop:=∀ (F:Nat->Prop) (t:Tm) (ns:List Nm) (nv tv s pv:Value) (w:World),zT t<=N->pI F t ns nv tv s pv w ->
 Calls KD 36 #[.agg #[nv,tv],.agg #[s,pv]] w (uF F w (zt ns t).1 (zt ns t).2)
theorem xW (w:World) (A B C:Obj):Below w.heap.size w (((w.alloc A).alloc B).alloc C)/\(((w.alloc A).alloc B).alloc C).heap.size=w.heap.size+1+1+1/\(((w.alloc A).alloc B).alloc C).heap[w.heap.size]? = some A/\(((w.alloc A).alloc B).alloc C).heap[w.heap.size+1]? = some B/\(((w.alloc A).alloc B).alloc C).heap[w.heap.size+1+1]? = some C:=by
 refine ⟨(((mw _ _).alloc (my _) _).alloc (by rw [zK];omega) _).alloc (by rw [zK,zK];omega) _,by rw [zK,zK,zK],zU (zU (zG _ _)),?_,?_⟩
 ·have h:=zG (w.alloc A) B;rw [zK] at h;exact zU h
 ·have h:=zG ((w.alloc A).alloc B) C;rwa [zK,zK] at h
theorem vP {F:Nat->Prop} {w W0 Z W:World} {k:Ty} {q:Bool} {a:Option Addr} {c:Nat} (hF:∀ i,F i->i<w.heap.size) (h0:Below w.heap.size w W0) (hz:W0.heap.size=w.heap.size+1+1+1) (hb:Below W0.heap.size W0 Z) (hr:Rep (fun i=>F i\/W0.heap.size<=i) Z (ke k) (.slice a k.args.length c))
 (nV:∀ B w0,Below B w0 Z->B<=w.heap.size+1+1->Below B w0 W) (nT:∀ i x,i≠w.heap.size+1+1->Z.heap[i]? = some x->W.heap[i]? = some x):uF F w k q (.returned (.tuple #[.agg #[.slice a k.args.length c],.bool q])) W :=
 ⟨a,c,rfl,nV _ _ (zzT h0 hb) (by omega),(Rep.keep fun i x hi hx=>⟨hi.elim .inl (fun h=>.inr (by omega)),nT i x (by rcases hi with h | h;have:=hF i h;omega;omega) hx⟩).1 _ _ hr⟩
theorem zx {w:World} {b c o:Nat} {u v:Value} (h:w.cell? ⟨b,0,none⟩=some u) (hb:b≠c):(w.setCell ⟨c,o,none⟩ v).cell? ⟨b,0,none⟩=some u :=
 (World.cell?_of_block (mp _ _ _ _ (by simpa using hb))).trans h
def FoundR (ns:List Nm) (x:Bs) (k:Nat):Prop:=jw ns x=qS ns x k
theorem kd_nm (F:Nat->Prop) (x:Bs) (ns:List Nm) (nv tv s pv:Value) (w:World) (hp:pI F (.nm x) ns nv tv s pv w):Calls KD 36 #[.agg #[nv,tv],.agg #[s,pv]] w (uF F w (zt ns (.nm x)).1 (zt ns (.nm x)).2):=by
 have hold:=hp.old;obtain ⟨na,nc,rfl,_,_,sV⟩:=zP hp.rn;obtain ⟨ka,kc,rfl,_,_,sM⟩:=zP hp.rk;have rU:=hp.rt;rw [kx] at rU;obtain ⟨qa,qc,e,nD⟩:=qd rU;simp only [qP,jX,Od,and_true] at e nD;obtain ⟨rfl,rfl⟩:=e;have ir:x≠[]:=(y9 hp.ok).1;have hxt:(x == [116])=false:=by rw [beq_eq_false_iff_ne];rintro rfl;have h:=hp.ok;exact absurd (show qv [116]=true from h) (by decide)
 have hxf:(x == [102])=false:=by rw [beq_eq_false_iff_ne];rintro rfl;have h:=hp.ok;exact absurd (show qv [102]=true from h) (by decide)
 have hxu:(x == [117])=false:=by rw [beq_eq_false_iff_ne];rintro rfl;have h:=hp.ok;exact absurd (show qv [117]=true from h) (by decide)
 obtain ⟨W0,nO⟩:=zzM (((w.alloc (.cells #[.slice na ns.length nc,.slice ka ns.length kc] 52)).alloc (.cells #[str x,.slice qa 0 qc] 39)).alloc (.cells #[.slice none 0 0] 42));obtain ⟨nN,z0,bA,bB,bC⟩:=xW w (.cells #[.slice na ns.length nc,.slice ka ns.length kc] 52) (.cells #[str x,.slice qa 0 qc] 39) (.cells #[.slice none 0 0] 42);rw [<- nO] at nN z0 bA bB bC;have e0:W0.cell? ⟨w.heap.size,0,none⟩=some (.slice na ns.length nc):=by simp [GD,bA]
 have e1:W0.cell? ⟨w.heap.size,1,none⟩=some (.slice ka ns.length kc):=by simp [GD,bA]
 have t0:W0.cell? ⟨w.heap.size+1,0,none⟩=some (str x):=by simp [GD,bB]
 have H0:=mj (mu nN (mu z0 bC));have hne:(x != [])=true:=by rw [bne_iff_ne];exact ir
 have Dn:(!x.isEmpty)=true:=by cases x with | nil=>exact absurd rfl ir | cons a b=>rfl
 have o_:x.isEmpty=false:=by cases x with | nil=>exact absurd rfl ir | cons a b=>rfl
 have AN:=mj sV;have AK:=mj sM;have ia:ns.length<=100:=by have:=hp.room;omega
 have HP:=mj hp;clear sV sM nN z0 bA bB bC hp;go_enter QL,Qv;go_wp2_with fail
 rw [<- nO];clear nO
 go_loopw [6] (fun i wz=>∃ (k:Nat) (wr:World),wr=wz/\k<=ns.length/\i=.int .i64 ((k:Int)-1)/\FoundR ns x k/\Below W0.heap.size W0 wr) (fun i _=>(intOf i+1).toNat)
 case atStart=>exact ⟨ns.length,_,rfl,my _,rfl,rfl,mw _ _⟩
 case round =>
  obtain ⟨k,wr,ewr,hk,rfl,hf,tS⟩:=hrel;subst ewr;have e0':=(tS.cell (mx W0 _ e0)).trans e0;have e1':=(tS.cell (mx W0 _ e1)).trans e1;have Gy:=(tS.cell (mx W0 _ t0)).trans t0;have BR:wr.heap[w.heap.size+1+1]? = some (.cells #[.slice none 0 0] 42 (0,0)):=(tS.block _ (zZ H0.out.2.2)).trans H0.out.2.2;have Da:=mj BR;have HB:=mj tS;have nF:=mj (zzT H0.out.1 tS);have sG:wr.frozen? ⟨w.heap.size+1+1,0,none⟩=false:=by simp only [N4,BR];rfl
  have i6:wr.cell? ⟨w.heap.size+1+1,0,none⟩=some (.slice none 0 0):=by simp only [GD,BR];rfl
  clear tS e0 e1 t0 BR;cases k with
  | zero =>
    have hz:((0:Nat):Int)-1 = -1:=rfl;rw [hz];have HN:=mj (show jw ns x=none from hf);clear hf hz;have HE:=mj (show zt ns (.nm x)=(.mk [],false) by rw [zt,HN.out];rfl);have tZ:wr.drew.frozen? ⟨w.heap.size+1+1,0,none⟩=false:=sG;have lu:wr.drew.cell? ⟨w.heap.size+1+1,0,none⟩=some (.slice none 0 0):=i6;go_wp2_with fail
    refine wp_region_noPanic ?_;refine zB (fun w'=>w'.cell? ⟨w.heap.size+1,0,none⟩=some (str x)) (fun _=>false) (by kernel_rfl) ?_;have mt:(fun w'=>w'.cell? ⟨w.heap.size+1,0,none⟩=some (str x)) wr.drew:=Gy;refine tC [0,1,2,3,4,5,6,7,8,9,10,11,12,13] mt ?_;iterate 14 (refine tl (fun w' nP=>nP) ?_)
    refine tz ?_;(refine on 14 ?_;intro o ho K' hK;simp at ho;subst ho;go_simp);(refine hK.out _ _ (fun _=>zx mt (by omega)) ?_;clear hK K';try simp only [pQ,pN,pZ,pS]);(refine on 15 ?_;intro o ho K' hK;simp at ho;subst ho;go_simp);(refine hK.out _ _ (fun _=>zx mt (by omega)) ?_;clear hK K';try simp only [pQ,pN,pZ,pS]);refine zY (by kernel_rfl) (N0 ?_) _;go_wp2_with fail
    obtain ⟨W,hW,s0,nV,nT⟩:=qY (Da.out) (.slice none 0 0);rw [<- hW];refine bodyPost_ret (v:=.tuple #[.agg #[.slice none 0 0],.bool false]) (by simp [results,Ot,go_sem,s0]) rfl ?_;rw [HE.out];exact vP (k:=.mk []) HP.out.old H0.out.1 H0.out.2.1 HB.out (zg.2 ⟨rfl,none,0,rfl,my _,fun _=>rfl,.inl rfl⟩) (fun B w0 h hB=>(nV B w0 h hB).drew) nT
  | succ j =>
    have hj:j<ns.length:=by omega
    rw [show ((j+1:Nat):Int)-1=(j:Int) from by omega];obtain ⟨nb,no,nu,nd,e,_,IN,DM,lh,i9⟩:=AN.out j hj;subst e;rw [OY,N3] at DM;obtain ⟨⟨y,t⟩,hy,rfl⟩:=DM;rw [zH] at i9;subst i9;have q0:wr.cell? ⟨nb,no+j,none⟩=some (str y):=(nF.out.cell (p:=⟨nb,no+j,none⟩) IN).trans lh;have L_:(j:Int)<(ns.length:Int):=by omega
    have nA:qS ns x (j+1)=if y=x then some j else qS ns x j:=by
     rw [qS,hy];simp
    by_cases lx:y=x
    ·subst lx;have q:(y == y)=true:=by simp
     have HS:=mj (show jw ns y=some j by rw [show jw ns y=qS ns y (j+1) from hf,nA,if_pos rfl]);obtain ⟨kb,ko,ku,kd,e,_,tH,Aq,Dr,oT⟩:=AK.out j hj;subst e;rw [v_,N3] at Aq;obtain ⟨t2,Ix,rfl⟩:=Aq;have et:t2=t:=by rw [yZ hy] at Ix;exact (Ob Ix).symm
     subst et;obtain ⟨xa,xc,rfl⟩:=kU oT;have q1:wr.cell? ⟨kb,ko+j,none⟩=some (.slice xa t2.args.length xc):=(nF.out.cell (p:=⟨kb,ko+j,none⟩) tH).trans Dr;have HK:=mj oT;have HE:=mj (show zt ns (.nm y)=(t2,true) by rw [zt,HS.out,Option.bind_some,hy];rfl);clear hf nA hy lh Dr oT Ix;go_wp2_with fail
     go_region
     go_wp2_with fail
     obtain ⟨W,hW,s0,nV,nT⟩:=qY (Da.out) (.slice xa t2.args.length xc);rw [<- hW];refine bodyPost_ret (v:=.tuple #[.agg #[.slice xa t2.args.length xc],.bool true]) (by simp [results,Ot,go_sem,s0]) rfl ?_;rw [HE.out];exact vP HP.out.old H0.out.1 H0.out.2.1 HB.out (Rep.below nF.out (fun _ h=>.inl h) HK.out) (fun B w0 h hB=>(nV B w0 h hB).drew) nT
    ·have q:(y == x)=false:=by rw [beq_eq_false_iff_ne];exact lx
     have HS:=mj (show jw ns x=qS ns x j by rw [show jw ns x=qS ns x (j+1) from hf,nA,if_neg lx]);clear hf nA hy lx lh;go_wp2_with fail
     go_region
     go_wp2_with fail
     go_round
     case rel=>exact ⟨j,_,rfl,by omega,by go_num,HS.out,HB.out.drew⟩
     case measure=>simp only [intOf];omega
theorem kd_wd (F:Nat->Prop) (x:Bs) (ns:List Nm) (nv tv s pv:Value) (w:World) (hp:pI F (.wd x) ns nv tv s pv w):Calls KD 36 #[.agg #[nv,tv],.agg #[s,pv]] w (uF F w (zt ns (.wd x)).1 (zt ns (.wd x)).2):=by
 have hold:=hp.old;obtain ⟨na,nc,rfl,_,_,sV⟩:=zP hp.rn;obtain ⟨ka,kc,rfl,_,_,sM⟩:=zP hp.rk;have rU:=hp.rt;rw [kx] at rU;obtain ⟨qa,qc,e,nD⟩:=qd rU;simp only [qP,jX,Od,and_true] at e nD;obtain ⟨rfl,rfl⟩:=e;have ir:x≠[]:=(wL hp.ok).1;have IU:x=[116]\/x=[102]\/x=[117]:=by
  have h:jO x=true:=hp.ok;simp only [jO,Bool.or_eq_true,beq_iff_eq] at h;rcases h with (h | h) | h
  ·exact .inl h
  ·exact .inr (.inl h)
  ·exact .inr (.inr h)
 obtain ⟨W0,nO⟩:=zzM (((w.alloc (.cells #[.slice na ns.length nc,.slice ka ns.length kc] 52)).alloc (.cells #[str x,.slice qa 0 qc] 39)).alloc (.cells #[.slice none 0 0] 42));obtain ⟨nN,z0,bA,bB,bC⟩:=xW w (.cells #[.slice na ns.length nc,.slice ka ns.length kc] 52) (.cells #[str x,.slice qa 0 qc] 39) (.cells #[.slice none 0 0] 42);rw [<- nO] at nN z0 bA bB bC;have e0:W0.cell? ⟨w.heap.size,0,none⟩=some (.slice na ns.length nc):=by simp [GD,bA]
 have e1:W0.cell? ⟨w.heap.size,1,none⟩=some (.slice ka ns.length kc):=by simp [GD,bA]
 have t0:W0.cell? ⟨w.heap.size+1,0,none⟩=some (str x):=by simp [GD,bB]
 have H0:=mj (mu nN (mu z0 bC));have hne:(x != [])=true:=by rw [bne_iff_ne];exact ir
 have Dn:(!x.isEmpty)=true:=by cases x with | nil=>exact absurd rfl ir | cons a b=>rfl
 have o_:x.isEmpty=false:=by cases x with | nil=>exact absurd rfl ir | cons a b=>rfl
 have AN:=mj sV;have AK:=mj sM;have ia:ns.length<=100:=by have:=hp.room;omega
 have HP:=mj hp;clear sV sM nN z0 bA bB bC hp;go_enter QL,Qv;go_wp2_with fail
 rw [<- nO];clear nO
 go_loopw [6] (fun i wz=>∃ (k:Nat) (wr:World),wr=wz/\k<=ns.length/\i=.int .i64 ((k:Int)-1)/\FoundR ns x k/\Below W0.heap.size W0 wr) (fun i _=>(intOf i+1).toNat)
 case atStart=>exact ⟨ns.length,_,rfl,my _,rfl,rfl,mw _ _⟩
 case round =>
  obtain ⟨k,wr,ewr,hk,rfl,hf,tS⟩:=hrel;subst ewr;have e0':=(tS.cell (mx W0 _ e0)).trans e0;have e1':=(tS.cell (mx W0 _ e1)).trans e1;have Gy:=(tS.cell (mx W0 _ t0)).trans t0;have BR:wr.heap[w.heap.size+1+1]? = some (.cells #[.slice none 0 0] 42 (0,0)):=(tS.block _ (zZ H0.out.2.2)).trans H0.out.2.2;have Da:=mj BR;have HB:=mj tS;have nF:=mj (zzT H0.out.1 tS);have sG:wr.frozen? ⟨w.heap.size+1+1,0,none⟩=false:=by simp only [N4,BR];rfl
  have i6:wr.cell? ⟨w.heap.size+1+1,0,none⟩=some (.slice none 0 0):=by simp only [GD,BR];rfl
  clear tS e0 e1 t0 BR;cases k with
  | zero =>
    have hz:((0:Nat):Int)-1 = -1:=rfl;rw [hz];have HN:=mj (show jw ns x=none from hf);clear hf hz;have HE:=mj (show zt ns (.wd x)=(.mk [],true) by rw [zt]);clear ir hne Dn o_ HN;rcases IU with rfl | rfl | rfl
    focus
     have tZ:wr.drew.frozen? ⟨w.heap.size+1+1,0,none⟩=false:=sG;have lu:wr.drew.cell? ⟨w.heap.size+1+1,0,none⟩=some (.slice none 0 0):=i6;go_wp2_with fail
     refine wp_region_noPanic ?_;refine zB (fun w'=>w'.cell? ⟨w.heap.size+1,0,none⟩=some (str [116])) (fun _=>false) (by kernel_rfl) ?_;have mt:(fun w'=>w'.cell? ⟨w.heap.size+1,0,none⟩=some (str [116])) wr.drew:=Gy;refine tk [0,1,2,3,4,5,6,7,8,9,10,11,12,13] mt ?_;(intro d hd;simp [tkD] at hd;subst hd;simp only [tks,pQ,pZ,pS]);iterate 14 (refine ⟨?_,?_,?_⟩;rotate_left;· (intro oi ho;simp at ho;subst ho;first | (refine RK ⟨by rfl,?_⟩;with_reducible rfl) | (refine RL ⟨by rfl,fun w' nP=>?_⟩;have e2:=nP;go_simp;try with_reducible rfl)))
    rotate_left
    focus
     have tZ:wr.drew.frozen? ⟨w.heap.size+1+1,0,none⟩=false:=sG;have lu:wr.drew.cell? ⟨w.heap.size+1+1,0,none⟩=some (.slice none 0 0):=i6;go_wp2_with fail
     refine wp_region_noPanic ?_;refine zB (fun w'=>w'.cell? ⟨w.heap.size+1,0,none⟩=some (str [102])) (fun _=>false) (by kernel_rfl) ?_;have mt:(fun w'=>w'.cell? ⟨w.heap.size+1,0,none⟩=some (str [102])) wr.drew:=Gy;refine tk [0,1,2,3,4,5,6,7,8,9,10,11,12,13] mt ?_;(intro d hd;simp [tkD] at hd;subst hd;simp only [tks,pQ,pZ,pS]);iterate 14 (refine ⟨?_,?_,?_⟩;rotate_left;· (intro oi ho;simp at ho;subst ho;first | (refine RK ⟨by rfl,?_⟩;with_reducible rfl) | (refine RL ⟨by rfl,fun w' nP=>?_⟩;have e2:=nP;go_simp;try with_reducible rfl)))
    rotate_left
    focus
     have tZ:wr.drew.frozen? ⟨w.heap.size+1+1,0,none⟩=false:=sG;have lu:wr.drew.cell? ⟨w.heap.size+1+1,0,none⟩=some (.slice none 0 0):=i6;go_wp2_with fail
     refine wp_region_noPanic ?_;refine zB (fun w'=>w'.cell? ⟨w.heap.size+1,0,none⟩=some (str [117])) (fun _=>false) (by kernel_rfl) ?_;have mt:(fun w'=>w'.cell? ⟨w.heap.size+1,0,none⟩=some (str [117])) wr.drew:=Gy;refine tC [0,1,2,3,4,5,6,7,8,9,10,11,12,13] mt ?_;iterate 14 (refine tl (fun w' nP=>nP) ?_)
     refine tz ?_
    all_goals
     (refine on 14 ?_;intro o ho K' hK;simp at ho;subst ho;go_simp);(refine hK.out _ _ (fun _=>zx mt (by omega)) ?_;clear hK K';try simp only [pQ,pN,pZ,pS]);(refine on 15 ?_;intro o ho K' hK;simp at ho;subst ho;go_simp);(refine hK.out _ _ (fun _=>zx mt (by omega)) ?_;clear hK K';try simp only [pQ,pN,pZ,pS]);refine zY (by kernel_rfl) (N0 ?_) _
     go_wp2_with fail
     obtain ⟨W,hW,s0,nV,nT⟩:=qY (Da.out) (.slice none 0 0);rw [<- hW];refine bodyPost_ret (v:=.tuple #[.agg #[.slice none 0 0],.bool true]) (by simp [results,Ot,go_sem,s0]) rfl ?_;rw [HE.out];exact vP (k:=.mk []) HP.out.old H0.out.1 H0.out.2.1 HB.out (zg.2 ⟨rfl,none,0,rfl,my _,fun _=>rfl,.inl rfl⟩) (fun B w0 h hB=>(nV B w0 h hB).drew) nT
  | succ j =>
    have hj:j<ns.length:=by omega
    rw [show ((j+1:Nat):Int)-1=(j:Int) from by omega];obtain ⟨nb,no,nu,nd,e,_,IN,DM,lh,i9⟩:=AN.out j hj;subst e;rw [OY,N3] at DM;obtain ⟨⟨y,t⟩,hy,rfl⟩:=DM;rw [zH] at i9;subst i9;have q0:wr.cell? ⟨nb,no+j,none⟩=some (str y):=(nF.out.cell (p:=⟨nb,no+j,none⟩) IN).trans lh;have L_:(j:Int)<(ns.length:Int):=by omega
    have nA:qS ns x (j+1)=if y=x then some j else qS ns x j:=by
     rw [qS,hy];simp
    have lx:y≠x:=by
     rintro rfl;have h1:=HP.out.nm (y,t) (List.mem_of_getElem? hy);have h2:=dd (show jO y=true from HP.out.ok);rw [show qv y=true from h1] at h2;exact absurd h2 (by decide)
    have q:(y == x)=false:=by rw [beq_eq_false_iff_ne];exact lx
    have HS:=mj (show jw ns x=qS ns x j by rw [show jw ns x=qS ns x (j+1) from hf,nA,if_neg lx]);clear hf nA hy lx lh;go_wp2_with fail
    go_region
    go_wp2_with fail
    go_round
    case rel=>exact ⟨j,_,rfl,by omega,by go_num,HS.out,HB.out.drew⟩
    case measure=>simp only [intOf];omega
theorem zW.get1 {F:Nat->Prop} {w:World} {d:DV} {v:Value} (h:zW F w [d] [v]):Rep F w d v:=by
 obtain ⟨_,_,e,h1,_⟩:=zQ.1 h;simp only [Od] at e;rw [e.1];exact h1
theorem Rep_sl1_tailR {F:Nat->Prop} {w:World} {e:TypeId} {n b o cap:Nat} {d:DV} {ds:List DV} (h:Rep F w (.sl e 1 (n+1) (d::ds)) (.slice (some ⟨b,o,none⟩) (n+1) cap)) :
 Rep F w (.sl e 1 n ds) (.slice (some ⟨b,o+1,none⟩) n (cap-1)):=by
 rw [zg] at h ⊢;obtain ⟨hl,a,c,e1,hn,hz,h⟩:=h;simp only [N_] at e1;obtain ⟨rfl,_,rfl⟩:=e1;refine ⟨by simpa using hl,_,_,rfl,by omega,fun h=>by simp at h,.inr ?_⟩;rcases h with h0 | ⟨b',o',cs,fr,e2,hb,hcs,hr⟩
 ·omega
 simp only [N1,OI,and_true] at e2;obtain ⟨rfl,rfl⟩:=e2;refine ⟨_,_,cs,fr,rfl,hb,hcs,?_⟩;have h2:=hr;rw [zQ] at h2;obtain ⟨v,vs,e3,_,h4⟩:=h2;have:vs=List.take (n*1) (QA (o+1) cs.toList):=by
  have h5:=congrArg (QA 1) e3;rw [List.drop_take,List.drop_drop] at h5;simpa using h5.symm
 rw [<- this];exact h4
theorem encS_tail {F:Nat->Prop} {w:World} {c:Ty} {cs:List Ty} {b o cap:Nat} (h:Rep F w (.sl 42 1 (cs.length+1) (qA (c::cs))) (.slice (some ⟨b,o,none⟩) (cs.length+1) cap)):Rep F w (ke (.mk cs)) (.slice (some ⟨b,o+1,none⟩) cs.length (cap-1)):=by
 rw [q_];exact Rep_sl1_tailR (d:=ke c) h
theorem kd_app (N:Nat) (ih:KdSaid N) (F:Nat->Prop) (m n:Tm) (ns:List Nm) (nv tv s pv:Value) (w:World) (hN:zT (.app m n)<=N+1) (hp:pI F (.app m n) ns nv tv s pv w):Calls KD 36 #[.agg #[nv,tv],.agg #[s,pv]] w (uF F w (zt ns (.app m n)).1 (zt ns (.app m n)).2):=by
 have hold:=hp.old;obtain ⟨na,nc,rfl,_,_,sV⟩:=zP hp.rn;obtain ⟨ka,kc,rfl,_,_,sM⟩:=zP hp.rk;have rU:=hp.rt;rw [kx] at rU;obtain ⟨qa,qc,e,nD⟩:=qd rU;simp only [qP,jX,Od,and_true] at e nD;obtain ⟨rfl,rfl⟩:=e;obtain ⟨_,_,e,ml⟩:=yB.of nD;simp only [N_,true_and] at e;obtain ⟨rfl,rfl⟩:=e;obtain ⟨nB,nH,s1,a1,n1,c1,d1,lJ,sK,aI,az,ox,aV,Dd,D4⟩:=ml 1 (by simp);simp only [N9,N8,N1] at aI;subst aI;subst lJ;obtain ⟨Ip,In,s2,a2,n2,c2,d2,lQ,Ay,lK,lV,oy,iL,D0,D3⟩:=ml 2 (by simp);simp only [N9,N8,N1] at lK;subst lK;simp only [N1,OI,and_true] at lQ;obtain ⟨rfl,rfl⟩:=lQ;have nz:=hp.room;have nC:=hp.ok;have sU:=hp.sm;rw [zT] at nz hN;rw [kP] at sU;simp only [Oa] at sU;obtain ⟨W0,nO⟩:=zzM (((w.alloc (.cells #[.slice na ns.length nc,.slice ka ns.length kc] 52)).alloc (.cells #[str [],.slice (some ⟨nB,nH,none⟩) 3 qc] 39)).alloc (.cells #[.slice none 0 0] 42));obtain ⟨nN,z0,bA,bB,bC⟩:=xW w (.cells #[.slice na ns.length nc,.slice ka ns.length kc] 52) (.cells #[str [],.slice (some ⟨nB,nH,none⟩) 3 qc] 39) (.cells #[.slice none 0 0] 42);rw [<- nO] at nN z0 bA bB bC;have CH:=mj (show Calls KD 39 #[.agg #[str [],.slice (some ⟨nB,nH,none⟩) 3 qc]] W0 (fun en w'=>en=.returned (str (xZ (kx (.app m n))))/\Below W0.heap.size W0 w') from uu (kx (.app m n)) (uY _ hp.ok) F W0 _ _ (zW.below nN (fun _ h=>h) hp.rt));have EZ:xZ (kx (.app m n))=[97,112,112]:=by rw [kx];rfl
 rw [EZ] at CH;have H0:=mj (mu nN (mu z0 (mu bA bC)));obtain ⟨km,qm,BM⟩:∃ k q,zt ns m=(k,q):=⟨_,_,rfl⟩;have Cm:Hid (∀ wz,Below w.heap.size w wz->Calls KD 36 #[.agg #[.slice na ns.length nc,.slice ka ns.length kc],.agg #[str s1,.slice a1 n1 c1]] wz (uF F wz km qm)):=by
  show ∀ wz,_->_;intro wz hz;have h:=ih F m ns _ _ _ _ wz (by omega) ⟨fun i h=>mg (hp.old i h) hz.size,zW.below hz (fun _ h=>h) aV,Rep.below hz (fun _ h=>h) hp.rn,Rep.below hz (fun _ h=>h) hp.rk,nC.1,sU.1,hp.nm,hp.n15,by omega⟩;rw [BM] at h;exact h
 obtain ⟨kn,qn,oU⟩:∃ k q,zt ns n=(k,q):=⟨_,_,rfl⟩;have Cn:Hid (∀ wz,Below w.heap.size w wz->Calls KD 36 #[.agg #[.slice na ns.length nc,.slice ka ns.length kc],.agg #[str s2,.slice a2 n2 c2]] wz (uF F wz kn qn)):=by
  show ∀ wz,_->_;intro wz hz;have h:=ih F n ns _ _ _ _ wz (by omega) ⟨fun i h=>mg (hp.old i h) hz.size,zW.below hz (fun _ h=>h) iL,Rep.below hz (fun _ h=>h) hp.rn,Rep.below hz (fun _ h=>h) hp.rk,nC.2,sU.2,hp.nm,hp.n15,by omega⟩;rw [oU] at h;exact h
 have e0:W0.cell? ⟨w.heap.size,0,none⟩=some (.slice na ns.length nc):=by simp [GD,bA]
 have e1:W0.cell? ⟨w.heap.size,1,none⟩=some (.slice ka ns.length kc):=by simp [GD,bA]
 have SX:Hid (∀ w',Below W0.heap.size W0 w'->w'.cell? ⟨w.heap.size,0,none⟩=some (.slice na ns.length nc)/\w'.cell? ⟨w.heap.size,1,none⟩=some (.slice ka ns.length kc)/\w'.cell? ⟨nB,nH+2,none⟩=some (str s1)/\w'.cell? ⟨nB,nH+3,none⟩=some (.slice a1 n1 c1)/\w'.cell? ⟨nB,nH+4,none⟩=some (str s2)/\w'.cell? ⟨nB,nH+5,none⟩=some (.slice a2 n2 c2)):=by
  show ∀ w',_->_;intro w' nW;have ne:=zzT nN nW;exact ⟨(nW.cell (mx W0 _ e0)).trans e0,(nW.cell (mx W0 _ e1)).trans e1,(ne.cell (p:=⟨nB,nH+2,none⟩) sK).trans az,(ne.cell (p:=⟨nB,nH+3,none⟩) sK).trans ox,(ne.cell (p:=⟨nB,nH+4,none⟩) sK).trans lV,(ne.cell (p:=⟨nB,nH+5,none⟩) sK).trans oy⟩
 have HP:=mj (mu hp (mu nC sU));clear sV sM nD ml rU hp nC sU ih hN nN z0 bA bB bC e0 e1 aV az ox Dd D4 iL lV oy D0 D3;clear sK;clear Ay;go_enter QL,Qv;go_wp2_with fail
 rw [<- nO];clear nO;(with_reducible refine CH.out.mono ?_);rintro en w1 ⟨rfl,mi⟩;have H1:=mj (mu mi (zzT H0.out.1 mi));clear mi CH;go_wp2_with fail
 have JB:=H1;have CRm:=mj (fun wz (hz:Below w1.heap.size w1 wz)=>Cm.out wz (H1.out.2.trans (hz.mono (H1.out.2).size)));have Jo:Hid (∀ i,F i->i<w1.heap.size):=fun i h=>mg (HP.out.1.old i h) (H1.out.2).size;refine jr (X:=Nat×Option Addr×Nat) (fun a x=>((((((((((a.put (some 105) (.agg #[.slice na ns.length nc,.slice ka ns.length kc])).put (some 106) (.slice (some ⟨nB,nH,none⟩) 3 qc)).put (some 107) (.pointer (some ⟨nB,nH+2,none⟩))).put (some 108) (.agg #[str s1,.slice a1 n1 c1])).put (some 109) (.tuple #[.agg #[.slice x.2.1 km.args.length x.2.2],.bool qm])).put (some 104) (.tuple #[.agg #[.slice x.2.1 km.args.length x.2.2],.bool qm])).put (some 110) (.agg #[.slice x.2.1 km.args.length x.2.2])).put (some 111) (.bool qm)).put (some 13) (.pointer (some ⟨x.1,0,none⟩))).put (some 14) (.bool qm))) (fun x w'=>kK F w1 x.1 (.cells #[.slice x.2.1 km.args.length x.2.2] 42 (0,0)) [ke km] [.slice x.2.1 km.args.length x.2.2] w') ?_ ?_
 ·refine wp_region_noPanic ?_;refine zB (fun w'=>Below w1.heap.size w1 w') (fun _=>false) (by kernel_rfl) ?_;have mt:(fun w'=>Below w1.heap.size w1 w') w1.drew:=Below.drew (mw _ _);refine tC [0,1,2,3] mt ?_;iterate 4 (refine tl (fun w' nP=>SX.out w' (H1.out.1.trans (nP.mono (H1.out.1).size))) ?_)
  refine tz ?_;refine qJ 4 8 (by kernel_rfl) ?_ ?_
  ·(intro o4 ho K' hK;simp at ho;subst ho);go_simp
   go_at_call 36;(with_reducible refine (CRm.out w1.drew mt).mono ?_);rintro en y1 ⟨xx,yy,rfl,hb,hr⟩;have mn:Below w1.heap.size w1 y1:=mt.trans hb;(refine hK.out _ _ (fun _=>mn) ?_;clear hK K';try simp only [pQ,pN,pZ,pS]);refine tC [5,6,7] mn ?_;iterate 3 (refine tx ?_)
   refine tz ?_;refine oC 8 (mn.alloc (mn).size _) ?_;have bz:(y1.alloc (.cells #[.slice none 0 0] 42)).heap[y1.heap.size]? = some (.cells #[.slice none 0 0] 42 (0,0)):=zG _ _;obtain ⟨iW,iX⟩:=yc1 bz;refine oC 9 (mn.alloc mn.size _) ?_;refine oC 10 (mn.alloc mn.size _) ?_;refine zY (by kernel_rfl) (N0 ?_) _;exact ⟨rfl,⟨y1.heap.size,xx,yy⟩,by rfl,kK.fresh mn (zW.one hr)⟩
  ·(intro o8 ho K' hK;simp at ho;subst ho);go_simp
   (refine hK.out _ _ (fun _=>mt.alloc (my _) _) ?_;clear hK K';try simp only [pQ,pN,pZ,pS]);(refine on 4 ?_;intro o ho K' hK;simp at ho;subst ho;go_simp);go_at_call 36
   have rS:Below w1.heap.size w1 (w1.alloc (.cells #[.slice none 0 0] 42)).drew:=mt.alloc (my _) _;(with_reducible refine (CRm.out _ rS).mono ?_);rintro en y1 ⟨xx,yy,rfl,hb,hr⟩;have mn:Below w1.heap.size w1 y1:=zzT rS hb;(refine hK.out _ _ (fun _=>mn) ?_;clear hK K';try simp only [pQ,pN,pZ,pS]);refine tC [5,6,7] mn ?_;iterate 3 (refine tx ?_)
   refine tz ?_;have bz:y1.heap[w1.heap.size]? = some (.cells #[.slice none 0 0] 42 (0,0)):=(hb.block _ (show _<_ from by simp)).trans (zG w1 (.cells #[.slice none 0 0] 42));obtain ⟨iW,iX⟩:=yc1 bz;refine oC 9 ((mn.setCell (p:=⟨w1.heap.size,0,none⟩) (my _) _)) ?_;refine oC 10 ((mn.setCell (p:=⟨w1.heap.size,0,none⟩) (my _) _)) ?_;refine zY (by kernel_rfl) (N0 ?_) _;exact ⟨rfl,⟨w1.heap.size,xx,yy⟩,by rfl,kK.first Jo.out rS (by simp) hb (zW.one hr) (but1 _ _ _) (by rw [zO bz];rfl)⟩
 rintro ⟨gm,xm,ym⟩ zm hR;have Rm:Hid (kK F w1 gm (.cells #[.slice xm km.args.length ym] 42 (0,0)) [ke km] [.slice xm km.args.length ym] zm):=hR;have s_:Hid (Below W0.heap.size W0 zm/\Below w.heap.size w zm):=⟨H1.out.1.trans (Rm.out.below.mono (H1.out.1).size),H1.out.2.trans (Rm.out.below.mono (H1.out.2).size)⟩;clear hR CRm;simp only [Act.put,Ok,Oz,OA];go_wp2_with fail
 have JA:=s_;have CRn:=mj (fun wz (hz:Below zm.heap.size zm wz)=>Cn.out wz (s_.out.2.trans (hz.mono (s_.out.2).size)));have FB:Hid (∀ i,F i->i<zm.heap.size):=fun i h=>mg (HP.out.1.old i h) (s_.out.2).size;refine jr (X:=Nat×Option Addr×Nat) (fun a x=>((((((((((a.put (some 113) (.agg #[.slice na ns.length nc,.slice ka ns.length kc])).put (some 114) (.slice (some ⟨nB,nH,none⟩) 3 qc)).put (some 115) (.pointer (some ⟨nB,nH+4,none⟩))).put (some 116) (.agg #[str s2,.slice a2 n2 c2])).put (some 117) (.tuple #[.agg #[.slice x.2.1 kn.args.length x.2.2],.bool qn])).put (some 112) (.tuple #[.agg #[.slice x.2.1 kn.args.length x.2.2],.bool qn])).put (some 118) (.agg #[.slice x.2.1 kn.args.length x.2.2])).put (some 119) (.bool qn)).put (some 15) (.pointer (some ⟨x.1,0,none⟩))).put (some 16) (.bool qn))) (fun x w'=>kK F zm x.1 (.cells #[.slice x.2.1 kn.args.length x.2.2] 42 (0,0)) [ke kn] [.slice x.2.1 kn.args.length x.2.2] w') ?_ ?_
 ·refine wp_region_noPanic ?_;refine zB (fun w'=>Below zm.heap.size zm w') (fun _=>false) (by kernel_rfl) ?_;have mt:(fun w'=>Below zm.heap.size zm w') zm.drew:=Below.drew (mw _ _);refine tC [0,1,2,3] mt ?_;iterate 4 (refine tl (fun w' nP=>SX.out w' (s_.out.1.trans (nP.mono (s_.out.1).size))) ?_)
  refine tz ?_;refine qJ 4 8 (by kernel_rfl) ?_ ?_
  ·(intro o4 ho K' hK;simp at ho;subst ho);go_simp
   go_at_call 36;(with_reducible refine (CRn.out zm.drew mt).mono ?_);rintro en y1 ⟨xx,yy,rfl,hb,hr⟩;have mn:Below zm.heap.size zm y1:=mt.trans hb;(refine hK.out _ _ (fun _=>mn) ?_;clear hK K';try simp only [pQ,pN,pZ,pS]);refine tC [5,6,7] mn ?_;iterate 3 (refine tx ?_)
   refine tz ?_;refine oC 8 (mn.alloc (mn).size _) ?_;have bz:(y1.alloc (.cells #[.slice none 0 0] 42)).heap[y1.heap.size]? = some (.cells #[.slice none 0 0] 42 (0,0)):=zG _ _;obtain ⟨iW,iX⟩:=yc1 bz;refine oC 9 (mn.alloc mn.size _) ?_;refine oC 10 (mn.alloc mn.size _) ?_;refine zY (by kernel_rfl) (N0 ?_) _;exact ⟨rfl,⟨y1.heap.size,xx,yy⟩,by rfl,kK.fresh mn (zW.one hr)⟩
  ·(intro o8 ho K' hK;simp at ho;subst ho);go_simp
   (refine hK.out _ _ (fun _=>mt.alloc (my _) _) ?_;clear hK K';try simp only [pQ,pN,pZ,pS]);(refine on 4 ?_;intro o ho K' hK;simp at ho;subst ho;go_simp);go_at_call 36
   have rS:Below zm.heap.size zm (zm.alloc (.cells #[.slice none 0 0] 42)).drew:=mt.alloc (my _) _;(with_reducible refine (CRn.out _ rS).mono ?_);rintro en y1 ⟨xx,yy,rfl,hb,hr⟩;have mn:Below zm.heap.size zm y1:=zzT rS hb;(refine hK.out _ _ (fun _=>mn) ?_;clear hK K';try simp only [pQ,pN,pZ,pS]);refine tC [5,6,7] mn ?_;iterate 3 (refine tx ?_)
   refine tz ?_;have bz:y1.heap[zm.heap.size]? = some (.cells #[.slice none 0 0] 42 (0,0)):=(hb.block _ (show _<_ from by simp)).trans (zG zm (.cells #[.slice none 0 0] 42));obtain ⟨iW,iX⟩:=yc1 bz;refine oC 9 ((mn.setCell (p:=⟨zm.heap.size,0,none⟩) (my _) _)) ?_;refine oC 10 ((mn.setCell (p:=⟨zm.heap.size,0,none⟩) (my _) _)) ?_;refine zY (by kernel_rfl) (N0 ?_) _;exact ⟨rfl,⟨zm.heap.size,xx,yy⟩,by rfl,kK.first FB.out rS (by simp) hb (zW.one hr) (but1 _ _ _) (by rw [zO bz];rfl)⟩
 rintro ⟨gn,xn,yn⟩ zn hR;have Rn:Hid (kK F zm gn (.cells #[.slice xn kn.args.length yn] 42 (0,0)) [ke kn] [.slice xn kn.args.length yn] zn):=hR;have tA:Hid (Below W0.heap.size W0 zn/\Below w.heap.size w zn):=⟨s_.out.1.trans (Rn.out.below.mono (s_.out.1).size),s_.out.2.trans (Rn.out.below.mono (s_.out.2).size)⟩;clear hR CRn;simp only [Act.put,Ok,Oz,OA];go_wp2_with fail
 have bm:zn.cell? ⟨gm,0,none⟩=some (.slice xm km.args.length ym):=(Rn.out.below.cell (mx _ _ (Rm.out.cell0))).trans (Rm.out.cell0);have Tm:Hid (Rep (fun i=>F i\/W0.heap.size<=i) zn (ke km) (.slice xm km.args.length ym)):=Rep.below (F':=fun i=>F i\/W0.heap.size<=i) Rn.out.below (fun _ h=>h) ((zW.get1 Rm.out.rep).weak (G:=fun i=>F i\/W0.heap.size<=i) (fun i h=>h.1.elim .inl (fun h=>.inr (mh (JB.out.1).size h))));have bn:zn.cell? ⟨gn,0,none⟩=some (.slice xn kn.args.length yn):=Rn.out.cell0;have Tn:Hid (Rep (fun i=>F i\/W0.heap.size<=i) zn (ke kn) (.slice xn kn.args.length yn)):=(zW.get1 Rn.out.rep).weak (G:=fun i=>F i\/W0.heap.size<=i) (fun i h=>h.1.elim .inl (fun h=>.inr (mh (JA.out.1).size h)));have BR:Hid (zn.heap[w.heap.size+1+1]? = some (.cells #[.slice none 0 0] 42 (0,0))):=(tA.out.1.block _ (zZ H0.out.2.2.2)).trans H0.out.2.2.2;have sG:zn.frozen? ⟨w.heap.size+1+1,0,none⟩=false:=by simp only [N4,BR.out];rfl
 have i6:zn.cell? ⟨w.heap.size+1+1,0,none⟩=some (.slice none 0 0):=by simp only [GD,BR.out];rfl
 have HE:=mj (show zt ns (.app m n)=if qm=false\/qn=false then (km,false) else match km.args with
  | []=>(km,false)
  | c::cs=>if zN c=zN kn then (.mk cs,true) else (km,false) by rw [zt,BM,oU];rfl)
 have Gr:=mj (mu BM oU);clear BM oU Cm Cn;cases qm with
 | false =>
   go_region
   go_wp2_with fail
   have rx:=mj (show zt ns (.app m n)=(km,false) by rw [HE.out];simp);obtain ⟨W,hW,s0,nV,nT⟩:=qY (BR.out) (.slice xm km.args.length ym);rw [<- hW];refine bodyPost_ret (v:=.tuple #[.agg #[.slice xm km.args.length ym],.bool false]) (by simp [results,Ot,go_sem,s0]) rfl ?_;rw [rx.out];exact vP (k:=km) HP.out.1.old H0.out.1 H0.out.2.1 tA.out.1 Tm.out (fun B w0 h hB=>(nV B w0 h hB).drew) nT
 | true =>
   cases qn with
   | false =>
     go_region
     go_wp2_with fail
     have rx:=mj (show zt ns (.app m n)=(km,false) by rw [HE.out];simp);obtain ⟨W,hW,s0,nV,nT⟩:=qY (BR.out) (.slice xm km.args.length ym);rw [<- hW];refine bodyPost_ret (v:=.tuple #[.agg #[.slice xm km.args.length ym],.bool false]) (by simp [results,Ot,go_sem,s0]) rfl ?_;rw [rx.out];exact vP (k:=km) HP.out.1.old H0.out.1 H0.out.2.1 tA.out.1 Tm.out (fun B w0 h hB=>(nV B w0 h hB).drew) nT
   | true =>
     have DH:=mj (show zt ns (.app m n)=match km.args with
      | []=>(km,false)
      | c::cs=>if zN c=zN kn then (.mk cs,true) else (km,false) by rw [HE.out];simp)
     have hr:=Tm.out;rw [q_] at hr;obtain ⟨_,_,e,JN,_,ml⟩:=zP hr;simp only [N_,true_and] at e;obtain ⟨rfl,rfl⟩:=e;have Dp:=qV m ns km HP.out.1.n15 (by have:=yO (t:=m) (ns:=ns) HP.out.2.2.1 (by rw [Gr.out.1]);rwa [Gr.out.1] at this);have Ev:=qV n ns kn HP.out.1.n15 (by have:=yO (t:=n) (ns:=ns) HP.out.2.2.2 (by rw [Gr.out.2]);rwa [Gr.out.2] at this);have HRR:=mj hr;cases rC:km.args with
     | nil =>
       have Bw:(((km.args.length:Nat):Int) == 0)=true:=by rw [rC];rfl
       have rx:=mj (show zt ns (.app m n)=(km,false) by rw [DH.out,rC]);clear hr ml rC JN;generalize hL:km.args.length=L at *
       go_region
       go_wp2_with fail
       subst hL;obtain ⟨W,hW,s0,nV,nT⟩:=qY (BR.out) (.slice xm km.args.length ym);rw [<- hW];refine bodyPost_ret (v:=.tuple #[.agg #[.slice xm km.args.length ym],.bool false]) (by simp [results,Ot,go_sem,s0]) rfl ?_;rw [rx.out];exact vP (k:=km) HP.out.1.old H0.out.1 H0.out.2.1 tA.out.1 Tm.out (fun B w0 h hB=>(nV B w0 h hB).drew) nT
     | cons c cs =>
       obtain ⟨ab,ao,au,ad,ea,_,J8,had,hac,har⟩:=ml 0 (by rw [rC];simp);subst ea;rw [rC] at had JN;simp only [qA,N9,N1] at had;subst had;obtain ⟨ca,cc,rfl⟩:=kU har;have iD:zJ c<=15:=eQ Dp c (by rw [rC];simp);have Bw:(((km.args.length:Nat):Int) == 0)=false:=by rw [rC,beq_eq_false_iff_ne];simp;omega
       have ln:(0:Int)<((km.args.length:Nat):Int):=by rw [rC];simp
       have sI:0<km.args.length:=by rw [rC];simp
       have Gi:zn.cell? ⟨ab,ao,none⟩=some (.slice ca c.args.length cc):=hac;have Gt:=mj (fun wz (h:Below zn.heap.size zn wz)=>uy 15 c iD (by omega) _ wz _ (Rep.below (F':=fun i=>F i\/W0.heap.size<=i) h (fun _ h=>h) har));have Aw:=mj (fun wz (h:Below zn.heap.size zn wz)=>uy 15 kn Ev (by omega) _ wz _ (Rep.below (F':=fun i=>F i\/W0.heap.size<=i) h (fun _ h=>h) Tn.out));have SY:Hid (∀ w',Below zn.heap.size zn w'->w'.cell? ⟨gm,0,none⟩=some (.slice (some ⟨ab,ao,none⟩) km.args.length ym)/\w'.cell? ⟨gn,0,none⟩=some (.slice xn kn.args.length yn)/\w'.cell? ⟨ab,ao,none⟩=some (.slice ca c.args.length cc)):=by
        show ∀ w',_->_;intro w' h;exact ⟨(h.cell (mx _ _ bm)).trans bm,(h.cell (mx _ _ bn)).trans bn,(h.cell (mx _ _ Gi)).trans Gi⟩
       have Bi:cs.length<=14:=by have:=um Dp;rw [rC] at this;simp at this;omega
       have Hj:=mj rC;have HE3:=mj (show zt ns (.app m n)=if zN c=zN kn then (.mk cs,true) else (km,false) by rw [DH.out,rC]);have hyl':cs.length+1<=ym:=by simpa using JN
       have hLc:=mj (show km.args.length=cs.length+1 by rw [rC];rfl);clear hr ml rC JN hac Gi har iD Dp Ev DH HE;by_cases Ar:zN c=zN kn
       ·have q0:(zN c != zN kn)=false:=by rw [Ar];simp
        have rx:=mj (show zt ns (.app m n)=(.mk cs,true) by rw [HE3.out,if_pos Ar]);clear Ar;obtain ⟨X1,EV⟩:=zzM (zN c);obtain ⟨X2,tP⟩:=zzM (zN kn);rw [<- EV] at Gt q0;rw [<- tP] at Aw q0;have q1:(X1 == X2)=true:=by first | (rw [beq_iff_eq];simpa using q0) | (rw [beq_eq_false_iff_ne];simpa using q0)
        have q2:(!(X1 == X2)) = !true:=by rw [q1]
        simp only [SI,Sv] at q2;clear EV tP;refine wp_region_noPanic ?_;refine zB (fun w'=>Below zn.heap.size zn w') (fun _=>false) (by kernel_rfl) ?_;have mt:(fun w'=>Below zn.heap.size zn w') zn.drew:=Below.drew (mw _ _);refine tC [0,1,2,3,4,5,6,7,8,9,10,11,12,13,14,15,16,18] mt ?_;iterate 18 (refine tl (fun w' nP=>SY.out w' nP) ?_)
        refine tz ?_;(refine on 17 ?_;intro o ho K' hK;simp at ho;subst ho;go_simp);go_at_call 48;(with_reducible refine (Gt.out _ mt).mono ?_);rintro en v1 ⟨rfl,hb⟩;have tR:Hid (Below zn.heap.size zn v1):=mt.trans hb;clear hb;(refine hK.out _ _ (fun _=>tR.out) ?_;clear hK K';try simp only [pQ,pN,pZ,pS]);have Gk:=tR.out;(refine on 19 ?_;intro o ho K' hK;simp at ho;subst ho;go_simp);go_at_call 48;(with_reducible refine (Aw.out _ tR.out).mono ?_);rintro en v2 ⟨rfl,hb⟩;have iN:Hid (Below zn.heap.size zn v2):=zzT tR.out hb;clear hb;(refine hK.out _ _ (fun _=>iN.out) ?_;clear hK K';try simp only [pQ,pN,pZ,pS]);have Jl:=iN.out;refine tC [20,21] Jl ?_;iterate 2 (refine tx ?_)
        refine tz ?_;refine zY (by kernel_rfl) (N0 ?_) _;obtain ⟨e0,e1,e2⟩:=SY.out v2 iN.out;have lZ:Hid (v2.heap[w.heap.size+1+1]? = some (.cells #[.slice none 0 0] 42 (0,0))):=(iN.out.block _ (zZ BR.out)).trans BR.out;have aJ:v2.frozen? ⟨w.heap.size+1+1,0,none⟩=false:=by simp only [N4,lZ.out];rfl
        have ou:v2.cell? ⟨w.heap.size+1+1,0,none⟩=some (.slice none 0 0):=by simp only [GD,lZ.out];rfl
        have ll:Hid (Below W0.heap.size W0 v2):=zzT tA.out.1 iN.out;have T2:Hid (Rep (fun i=>F i\/W0.heap.size<=i) v2 (ke km) (.slice (some ⟨ab,ao,none⟩) km.args.length ym)):=Rep.below iN.out (fun _ h=>h) Tm.out;clear sG i6 bm bn;have HT:Hid (Rep (fun i=>F i\/W0.heap.size<=i) v2 (.sl 42 1 (cs.length+1) (qA (c::cs))) (.slice (some ⟨ab,ao,none⟩) (cs.length+1) ym)):=by
         have h:=T2.out;rw [q_,Hj.out] at h;exact h
        rw [hLc.out] at e0;clear Bw ln;by_cases nf:ym=1
        ·subst nf;have hcs:cs.length=0:=by omega
         obtain rfl:=List.eq_nil_of_length_eq_zero hcs;clear hcs hyl' Bi;go_wp2_with fail
         obtain ⟨W,hW,s0,nV,nT⟩:=qY (lZ.out) (.slice (some ⟨ab,ao,none⟩) 0 0);rw [<- hW];refine bodyPost_ret (v:=.tuple #[.agg #[.slice (some ⟨ab,ao,none⟩) 0 0],.bool true]) (by simp [results,Ot,go_sem,s0]) rfl ?_;rw [rx.out];exact vP (k:=.mk []) HP.out.1.old H0.out.1 H0.out.2.1 ll.out (zg.2 ⟨rfl,_,_,rfl,my _,fun h=>by simp at h,.inl rfl⟩) nV nT
        ·go_wp2_with fail
         obtain ⟨W,hW,s0,nV,nT⟩:=qY (lZ.out) (.slice (some ⟨ab,ao+1,none⟩) cs.length (ym-1));rw [<- hW];refine bodyPost_ret (v:=.tuple #[.agg #[.slice (some ⟨ab,ao+1,none⟩) cs.length (ym-1)],.bool true]) (by simp [results,Ot,go_sem,s0]) rfl ?_;rw [rx.out];exact vP (k:=.mk cs) HP.out.1.old H0.out.1 H0.out.2.1 ll.out (encS_tail HT.out) nV nT
       ·have q0:(zN c != zN kn)=true:=by rw [bne_iff_ne];exact Ar
        have rx:=mj (show zt ns (.app m n)=(km,false) by rw [HE3.out,if_neg Ar]);clear Ar;obtain ⟨X1,EV⟩:=zzM (zN c);obtain ⟨X2,tP⟩:=zzM (zN kn);rw [<- EV] at Gt q0;rw [<- tP] at Aw q0;have q1:(X1 == X2)=false:=by first | (rw [beq_iff_eq];simpa using q0) | (rw [beq_eq_false_iff_ne];simpa using q0)
        have q2:(!(X1 == X2)) = !false:=by rw [q1]
        simp only [SI,Sv] at q2;clear EV tP;refine wp_region_noPanic ?_;refine zB (fun w'=>Below zn.heap.size zn w') (fun _=>false) (by kernel_rfl) ?_;have mt:(fun w'=>Below zn.heap.size zn w') zn.drew:=Below.drew (mw _ _);refine tC [0,1,2,3,4,5,6,7,8,9,10,11,12,13,14,15,16,18] mt ?_;iterate 18 (refine tl (fun w' nP=>SY.out w' nP) ?_)
        refine tz ?_;(refine on 17 ?_;intro o ho K' hK;simp at ho;subst ho;go_simp);go_at_call 48;(with_reducible refine (Gt.out _ mt).mono ?_);rintro en v1 ⟨rfl,hb⟩;have tR:Hid (Below zn.heap.size zn v1):=mt.trans hb;clear hb;(refine hK.out _ _ (fun _=>tR.out) ?_;clear hK K';try simp only [pQ,pN,pZ,pS]);have Gk:=tR.out;(refine on 19 ?_;intro o ho K' hK;simp at ho;subst ho;go_simp);go_at_call 48;(with_reducible refine (Aw.out _ tR.out).mono ?_);rintro en v2 ⟨rfl,hb⟩;have iN:Hid (Below zn.heap.size zn v2):=zzT tR.out hb;clear hb;(refine hK.out _ _ (fun _=>iN.out) ?_;clear hK K';try simp only [pQ,pN,pZ,pS]);have Jl:=iN.out;refine tC [20,21] Jl ?_;iterate 2 (refine tx ?_)
        refine tz ?_;refine zY (by kernel_rfl) (N0 ?_) _;obtain ⟨e0,e1,e2⟩:=SY.out v2 iN.out;have lZ:Hid (v2.heap[w.heap.size+1+1]? = some (.cells #[.slice none 0 0] 42 (0,0))):=(iN.out.block _ (zZ BR.out)).trans BR.out;have aJ:v2.frozen? ⟨w.heap.size+1+1,0,none⟩=false:=by simp only [N4,lZ.out];rfl
        have ou:v2.cell? ⟨w.heap.size+1+1,0,none⟩=some (.slice none 0 0):=by simp only [GD,lZ.out];rfl
        have ll:Hid (Below W0.heap.size W0 v2):=zzT tA.out.1 iN.out;have T2:Hid (Rep (fun i=>F i\/W0.heap.size<=i) v2 (ke km) (.slice (some ⟨ab,ao,none⟩) km.args.length ym)):=Rep.below iN.out (fun _ h=>h) Tm.out;clear sG i6 bm bn;clear Bw ln;go_wp2_with fail
        obtain ⟨W,hW,s0,nV,nT⟩:=qY (lZ.out) (.slice (some ⟨ab,ao,none⟩) km.args.length ym);rw [<- hW];refine bodyPost_ret (v:=.tuple #[.agg #[.slice (some ⟨ab,ao,none⟩) km.args.length ym],.bool false]) (by simp [results,Ot,go_sem,s0]) rfl ?_;rw [rx.out];exact vP (k:=km) HP.out.1.old H0.out.1 H0.out.2.1 ll.out T2.out nV nT
theorem kd_ite (N:Nat) (ih:KdSaid N) (F:Nat->Prop) (l m n:Tm) (ns:List Nm) (nv tv s pv:Value) (w:World) (hN:zT (.ite l m n)<=N+1) (hp:pI F (.ite l m n) ns nv tv s pv w):Calls KD 36 #[.agg #[nv,tv],.agg #[s,pv]] w (uF F w (zt ns (.ite l m n)).1 (zt ns (.ite l m n)).2):=by
 have hold:=hp.old;obtain ⟨na,nc,rfl,_,_,sV⟩:=zP hp.rn;obtain ⟨ka,kc,rfl,_,_,sM⟩:=zP hp.rk;have rU:=hp.rt;rw [kx] at rU;obtain ⟨qa,qc,e,nD⟩:=qd rU;simp only [qP,jX,Od,and_true] at e nD;obtain ⟨rfl,rfl⟩:=e;obtain ⟨_,_,e,ml⟩:=yB.of nD;simp only [N_,true_and] at e;obtain ⟨rfl,rfl⟩:=e;obtain ⟨nB,nH,s1,a1,n1,c1,d1,lJ,sK,aI,az,ox,aV,Dd,D4⟩:=ml 1 (by simp);simp only [N9,N8,N1] at aI;subst aI;subst lJ;obtain ⟨Ip,In,s2,a2,n2,c2,d2,lQ,Ay,lK,lV,oy,iL,D0,D3⟩:=ml 2 (by simp);simp only [N9,N8,N1] at lK;subst lK;simp only [N1,OI,and_true] at lQ;obtain ⟨rfl,rfl⟩:=lQ;obtain ⟨pb3,po3,s3,a3,n3,c3,d3,D5,Il,D2,D8,D7,D1,Im,Io⟩:=ml 3 (by simp);simp only [N9,N8,N1] at D2;subst D2;simp only [N1,OI,and_true] at D5;obtain ⟨rfl,rfl⟩:=D5;have nz:=hp.room;have nC:=hp.ok;have sU:=hp.sm;rw [zT] at nz hN;rw [kP] at sU;simp only [Oa] at sU;obtain ⟨W0,nO⟩:=zzM (((w.alloc (.cells #[.slice na ns.length nc,.slice ka ns.length kc] 52)).alloc (.cells #[str [],.slice (some ⟨nB,nH,none⟩) 4 qc] 39)).alloc (.cells #[.slice none 0 0] 42));obtain ⟨nN,z0,bA,bB,bC⟩:=xW w (.cells #[.slice na ns.length nc,.slice ka ns.length kc] 52) (.cells #[str [],.slice (some ⟨nB,nH,none⟩) 4 qc] 39) (.cells #[.slice none 0 0] 42);rw [<- nO] at nN z0 bA bB bC;have CH:=mj (show Calls KD 39 #[.agg #[str [],.slice (some ⟨nB,nH,none⟩) 4 qc]] W0 (fun en w'=>en=.returned (str (xZ (kx (.ite l m n))))/\Below W0.heap.size W0 w') from uu (kx (.ite l m n)) (uY _ hp.ok) F W0 _ _ (zW.below nN (fun _ h=>h) hp.rt));have EZ:xZ (kx (.ite l m n))=[105,102]:=by rw [kx];rfl
 rw [EZ] at CH;have H0:=mj (mu nN (mu z0 (mu bA bC)));obtain ⟨kl,ql,iu⟩:∃ k q,zt ns l=(k,q):=⟨_,_,rfl⟩;have Cl:Hid (∀ wz,Below w.heap.size w wz->Calls KD 36 #[.agg #[.slice na ns.length nc,.slice ka ns.length kc],.agg #[str s1,.slice a1 n1 c1]] wz (uF F wz kl ql)):=by
  show ∀ wz,_->_;intro wz hz;have h:=ih F l ns _ _ _ _ wz (by omega) ⟨fun i h=>mg (hp.old i h) hz.size,zW.below hz (fun _ h=>h) aV,Rep.below hz (fun _ h=>h) hp.rn,Rep.below hz (fun _ h=>h) hp.rk,nC.1,sU.1.1,hp.nm,hp.n15,by omega⟩;rw [iu] at h;exact h
 obtain ⟨km,qm,BM⟩:∃ k q,zt ns m=(k,q):=⟨_,_,rfl⟩;have Cm:Hid (∀ wz,Below w.heap.size w wz->Calls KD 36 #[.agg #[.slice na ns.length nc,.slice ka ns.length kc],.agg #[str s2,.slice a2 n2 c2]] wz (uF F wz km qm)):=by
  show ∀ wz,_->_;intro wz hz;have h:=ih F m ns _ _ _ _ wz (by omega) ⟨fun i h=>mg (hp.old i h) hz.size,zW.below hz (fun _ h=>h) iL,Rep.below hz (fun _ h=>h) hp.rn,Rep.below hz (fun _ h=>h) hp.rk,nC.2.1,sU.1.2,hp.nm,hp.n15,by omega⟩;rw [BM] at h;exact h
 obtain ⟨kn,qn,oU⟩:∃ k q,zt ns n=(k,q):=⟨_,_,rfl⟩;have Cn:Hid (∀ wz,Below w.heap.size w wz->Calls KD 36 #[.agg #[.slice na ns.length nc,.slice ka ns.length kc],.agg #[str s3,.slice a3 n3 c3]] wz (uF F wz kn qn)):=by
  show ∀ wz,_->_;intro wz hz;have h:=ih F n ns _ _ _ _ wz (by omega) ⟨fun i h=>mg (hp.old i h) hz.size,zW.below hz (fun _ h=>h) D1,Rep.below hz (fun _ h=>h) hp.rn,Rep.below hz (fun _ h=>h) hp.rk,nC.2.2,sU.2,hp.nm,hp.n15,by omega⟩;rw [oU] at h;exact h
 have e0:W0.cell? ⟨w.heap.size,0,none⟩=some (.slice na ns.length nc):=by simp [GD,bA]
 have e1:W0.cell? ⟨w.heap.size,1,none⟩=some (.slice ka ns.length kc):=by simp [GD,bA]
 have SX:Hid (∀ w',Below W0.heap.size W0 w'->w'.cell? ⟨w.heap.size,0,none⟩=some (.slice na ns.length nc)/\w'.cell? ⟨w.heap.size,1,none⟩=some (.slice ka ns.length kc)/\w'.cell? ⟨nB,nH+2,none⟩=some (str s1)/\w'.cell? ⟨nB,nH+3,none⟩=some (.slice a1 n1 c1)/\w'.cell? ⟨nB,nH+4,none⟩=some (str s2)/\w'.cell? ⟨nB,nH+5,none⟩=some (.slice a2 n2 c2)/\w'.cell? ⟨nB,nH+6,none⟩=some (str s3)/\w'.cell? ⟨nB,nH+7,none⟩=some (.slice a3 n3 c3)):=by
  show ∀ w',_->_;intro w' nW;have ne:=zzT nN nW;exact ⟨(nW.cell (mx W0 _ e0)).trans e0,(nW.cell (mx W0 _ e1)).trans e1,(ne.cell (p:=⟨nB,nH+2,none⟩) sK).trans az,(ne.cell (p:=⟨nB,nH+3,none⟩) sK).trans ox,(ne.cell (p:=⟨nB,nH+4,none⟩) sK).trans lV,(ne.cell (p:=⟨nB,nH+5,none⟩) sK).trans oy,(ne.cell (p:=⟨nB,nH+6,none⟩) sK).trans D8,(ne.cell (p:=⟨nB,nH+7,none⟩) sK).trans D7⟩
 have HP:=mj (mu hp (mu nC sU));clear sV sM nD ml rU hp nC sU ih hN nN z0 bA bB bC e0 e1 aV az ox Dd D4 iL lV oy D0 D3 D1 D8 D7 Im Io;clear sK;clear Ay;clear Il;go_enter QL,Qv;go_wp2_with fail
 rw [<- nO];clear nO;(with_reducible refine CH.out.mono ?_);rintro en w1 ⟨rfl,mi⟩;have H1:=mj (mu mi (zzT H0.out.1 mi));clear mi CH;go_wp2_with fail
 have HLl:=H1;have CRl:=mj (fun wz (hz:Below w1.heap.size w1 wz)=>Cl.out wz (H1.out.2.trans (hz.mono (H1.out.2).size)));have Kg:Hid (∀ i,F i->i<w1.heap.size):=fun i h=>mg (HP.out.1.old i h) (H1.out.2).size;refine jr (X:=Nat×Option Addr×Nat) (fun a x=>((((((((((a.put (some 148) (.agg #[.slice na ns.length nc,.slice ka ns.length kc])).put (some 149) (.slice (some ⟨nB,nH,none⟩) 4 qc)).put (some 150) (.pointer (some ⟨nB,nH+2,none⟩))).put (some 151) (.agg #[str s1,.slice a1 n1 c1])).put (some 152) (.tuple #[.agg #[.slice x.2.1 kl.args.length x.2.2],.bool ql])).put (some 147) (.tuple #[.agg #[.slice x.2.1 kl.args.length x.2.2],.bool ql])).put (some 153) (.agg #[.slice x.2.1 kl.args.length x.2.2])).put (some 154) (.bool ql)).put (some 17) (.pointer (some ⟨x.1,0,none⟩))).put (some 18) (.bool ql))) (fun x w'=>kK F w1 x.1 (.cells #[.slice x.2.1 kl.args.length x.2.2] 42 (0,0)) [ke kl] [.slice x.2.1 kl.args.length x.2.2] w') ?_ ?_
 ·refine wp_region_noPanic ?_;refine zB (fun w'=>Below w1.heap.size w1 w') (fun _=>false) (by kernel_rfl) ?_;have mt:(fun w'=>Below w1.heap.size w1 w') w1.drew:=Below.drew (mw _ _);refine tC [0,1,2,3] mt ?_;iterate 4 (refine tl (fun w' nP=>SX.out w' (H1.out.1.trans (nP.mono (H1.out.1).size))) ?_)
  refine tz ?_;refine qJ 4 8 (by kernel_rfl) ?_ ?_
  ·(intro o4 ho K' hK;simp at ho;subst ho);go_simp
   go_at_call 36;(with_reducible refine (CRl.out w1.drew mt).mono ?_);rintro en y1 ⟨xx,yy,rfl,hb,hr⟩;have mn:Below w1.heap.size w1 y1:=mt.trans hb;(refine hK.out _ _ (fun _=>mn) ?_;clear hK K';try simp only [pQ,pN,pZ,pS]);refine tC [5,6,7] mn ?_;iterate 3 (refine tx ?_)
   refine tz ?_;refine oC 8 (mn.alloc (mn).size _) ?_;have bz:(y1.alloc (.cells #[.slice none 0 0] 42)).heap[y1.heap.size]? = some (.cells #[.slice none 0 0] 42 (0,0)):=zG _ _;obtain ⟨iW,iX⟩:=yc1 bz;refine oC 9 (mn.alloc mn.size _) ?_;refine oC 10 (mn.alloc mn.size _) ?_;refine zY (by kernel_rfl) (N0 ?_) _;exact ⟨rfl,⟨y1.heap.size,xx,yy⟩,by rfl,kK.fresh mn (zW.one hr)⟩
  ·(intro o8 ho K' hK;simp at ho;subst ho);go_simp
   (refine hK.out _ _ (fun _=>mt.alloc (my _) _) ?_;clear hK K';try simp only [pQ,pN,pZ,pS]);(refine on 4 ?_;intro o ho K' hK;simp at ho;subst ho;go_simp);go_at_call 36
   have rS:Below w1.heap.size w1 (w1.alloc (.cells #[.slice none 0 0] 42)).drew:=mt.alloc (my _) _;(with_reducible refine (CRl.out _ rS).mono ?_);rintro en y1 ⟨xx,yy,rfl,hb,hr⟩;have mn:Below w1.heap.size w1 y1:=zzT rS hb;(refine hK.out _ _ (fun _=>mn) ?_;clear hK K';try simp only [pQ,pN,pZ,pS]);refine tC [5,6,7] mn ?_;iterate 3 (refine tx ?_)
   refine tz ?_;have bz:y1.heap[w1.heap.size]? = some (.cells #[.slice none 0 0] 42 (0,0)):=(hb.block _ (show _<_ from by simp)).trans (zG w1 (.cells #[.slice none 0 0] 42));obtain ⟨iW,iX⟩:=yc1 bz;refine oC 9 ((mn.setCell (p:=⟨w1.heap.size,0,none⟩) (my _) _)) ?_;refine oC 10 ((mn.setCell (p:=⟨w1.heap.size,0,none⟩) (my _) _)) ?_;refine zY (by kernel_rfl) (N0 ?_) _;exact ⟨rfl,⟨w1.heap.size,xx,yy⟩,by rfl,kK.first Kg.out rS (by simp) hb (zW.one hr) (but1 _ _ _) (by rw [zO bz];rfl)⟩
 rintro ⟨gl,xl,yl⟩ zl hR;have Rl:Hid (kK F w1 gl (.cells #[.slice xl kl.args.length yl] 42 (0,0)) [ke kl] [.slice xl kl.args.length yl] zl):=hR;have li:Hid (Below W0.heap.size W0 zl/\Below w.heap.size w zl):=⟨H1.out.1.trans (Rl.out.below.mono (H1.out.1).size),H1.out.2.trans (Rl.out.below.mono (H1.out.2).size)⟩;clear hR CRl;simp only [Act.put,Ok,Oz,OA];go_wp2_with fail
 have JB:=li;have CRm:=mj (fun wz (hz:Below zl.heap.size zl wz)=>Cm.out wz (li.out.2.trans (hz.mono (li.out.2).size)));have Jo:Hid (∀ i,F i->i<zl.heap.size):=fun i h=>mg (HP.out.1.old i h) (li.out.2).size;refine jr (X:=Nat×Option Addr×Nat) (fun a x=>((((((((((a.put (some 156) (.agg #[.slice na ns.length nc,.slice ka ns.length kc])).put (some 157) (.slice (some ⟨nB,nH,none⟩) 4 qc)).put (some 158) (.pointer (some ⟨nB,nH+4,none⟩))).put (some 159) (.agg #[str s2,.slice a2 n2 c2])).put (some 160) (.tuple #[.agg #[.slice x.2.1 km.args.length x.2.2],.bool qm])).put (some 155) (.tuple #[.agg #[.slice x.2.1 km.args.length x.2.2],.bool qm])).put (some 161) (.agg #[.slice x.2.1 km.args.length x.2.2])).put (some 162) (.bool qm)).put (some 19) (.pointer (some ⟨x.1,0,none⟩))).put (some 20) (.bool qm))) (fun x w'=>kK F zl x.1 (.cells #[.slice x.2.1 km.args.length x.2.2] 42 (0,0)) [ke km] [.slice x.2.1 km.args.length x.2.2] w') ?_ ?_
 ·refine wp_region_noPanic ?_;refine zB (fun w'=>Below zl.heap.size zl w') (fun _=>false) (by kernel_rfl) ?_;have mt:(fun w'=>Below zl.heap.size zl w') zl.drew:=Below.drew (mw _ _);refine tC [0,1,2,3] mt ?_;iterate 4 (refine tl (fun w' nP=>SX.out w' (li.out.1.trans (nP.mono (li.out.1).size))) ?_)
  refine tz ?_;refine qJ 4 8 (by kernel_rfl) ?_ ?_
  ·(intro o4 ho K' hK;simp at ho;subst ho);go_simp
   go_at_call 36;(with_reducible refine (CRm.out zl.drew mt).mono ?_);rintro en y1 ⟨xx,yy,rfl,hb,hr⟩;have mn:Below zl.heap.size zl y1:=mt.trans hb;(refine hK.out _ _ (fun _=>mn) ?_;clear hK K';try simp only [pQ,pN,pZ,pS]);refine tC [5,6,7] mn ?_;iterate 3 (refine tx ?_)
   refine tz ?_;refine oC 8 (mn.alloc (mn).size _) ?_;have bz:(y1.alloc (.cells #[.slice none 0 0] 42)).heap[y1.heap.size]? = some (.cells #[.slice none 0 0] 42 (0,0)):=zG _ _;obtain ⟨iW,iX⟩:=yc1 bz;refine oC 9 (mn.alloc mn.size _) ?_;refine oC 10 (mn.alloc mn.size _) ?_;refine zY (by kernel_rfl) (N0 ?_) _;exact ⟨rfl,⟨y1.heap.size,xx,yy⟩,by rfl,kK.fresh mn (zW.one hr)⟩
  ·(intro o8 ho K' hK;simp at ho;subst ho);go_simp
   (refine hK.out _ _ (fun _=>mt.alloc (my _) _) ?_;clear hK K';try simp only [pQ,pN,pZ,pS]);(refine on 4 ?_;intro o ho K' hK;simp at ho;subst ho;go_simp);go_at_call 36
   have rS:Below zl.heap.size zl (zl.alloc (.cells #[.slice none 0 0] 42)).drew:=mt.alloc (my _) _;(with_reducible refine (CRm.out _ rS).mono ?_);rintro en y1 ⟨xx,yy,rfl,hb,hr⟩;have mn:Below zl.heap.size zl y1:=zzT rS hb;(refine hK.out _ _ (fun _=>mn) ?_;clear hK K';try simp only [pQ,pN,pZ,pS]);refine tC [5,6,7] mn ?_;iterate 3 (refine tx ?_)
   refine tz ?_;have bz:y1.heap[zl.heap.size]? = some (.cells #[.slice none 0 0] 42 (0,0)):=(hb.block _ (show _<_ from by simp)).trans (zG zl (.cells #[.slice none 0 0] 42));obtain ⟨iW,iX⟩:=yc1 bz;refine oC 9 ((mn.setCell (p:=⟨zl.heap.size,0,none⟩) (my _) _)) ?_;refine oC 10 ((mn.setCell (p:=⟨zl.heap.size,0,none⟩) (my _) _)) ?_;refine zY (by kernel_rfl) (N0 ?_) _;exact ⟨rfl,⟨zl.heap.size,xx,yy⟩,by rfl,kK.first Jo.out rS (by simp) hb (zW.one hr) (but1 _ _ _) (by rw [zO bz];rfl)⟩
 rintro ⟨gm,xm,ym⟩ zm hR;have Rm:Hid (kK F zl gm (.cells #[.slice xm km.args.length ym] 42 (0,0)) [ke km] [.slice xm km.args.length ym] zm):=hR;have s_:Hid (Below W0.heap.size W0 zm/\Below w.heap.size w zm):=⟨li.out.1.trans (Rm.out.below.mono (li.out.1).size),li.out.2.trans (Rm.out.below.mono (li.out.2).size)⟩;clear hR CRm;simp only [Act.put,Ok,Oz,OA];go_wp2_with fail
 have JA:=s_;have CRn:=mj (fun wz (hz:Below zm.heap.size zm wz)=>Cn.out wz (s_.out.2.trans (hz.mono (s_.out.2).size)));have FB:Hid (∀ i,F i->i<zm.heap.size):=fun i h=>mg (HP.out.1.old i h) (s_.out.2).size;refine jr (X:=Nat×Option Addr×Nat) (fun a x=>((((((((((a.put (some 164) (.agg #[.slice na ns.length nc,.slice ka ns.length kc])).put (some 165) (.slice (some ⟨nB,nH,none⟩) 4 qc)).put (some 166) (.pointer (some ⟨nB,nH+6,none⟩))).put (some 167) (.agg #[str s3,.slice a3 n3 c3])).put (some 168) (.tuple #[.agg #[.slice x.2.1 kn.args.length x.2.2],.bool qn])).put (some 163) (.tuple #[.agg #[.slice x.2.1 kn.args.length x.2.2],.bool qn])).put (some 169) (.agg #[.slice x.2.1 kn.args.length x.2.2])).put (some 170) (.bool qn)).put (some 21) (.pointer (some ⟨x.1,0,none⟩))).put (some 22) (.bool qn))) (fun x w'=>kK F zm x.1 (.cells #[.slice x.2.1 kn.args.length x.2.2] 42 (0,0)) [ke kn] [.slice x.2.1 kn.args.length x.2.2] w') ?_ ?_
 ·refine wp_region_noPanic ?_;refine zB (fun w'=>Below zm.heap.size zm w') (fun _=>false) (by kernel_rfl) ?_;have mt:(fun w'=>Below zm.heap.size zm w') zm.drew:=Below.drew (mw _ _);refine tC [0,1,2,3] mt ?_;iterate 4 (refine tl (fun w' nP=>SX.out w' (s_.out.1.trans (nP.mono (s_.out.1).size))) ?_)
  refine tz ?_;refine qJ 4 8 (by kernel_rfl) ?_ ?_
  ·(intro o4 ho K' hK;simp at ho;subst ho);go_simp
   go_at_call 36;(with_reducible refine (CRn.out zm.drew mt).mono ?_);rintro en y1 ⟨xx,yy,rfl,hb,hr⟩;have mn:Below zm.heap.size zm y1:=mt.trans hb;(refine hK.out _ _ (fun _=>mn) ?_;clear hK K';try simp only [pQ,pN,pZ,pS]);refine tC [5,6,7] mn ?_;iterate 3 (refine tx ?_)
   refine tz ?_;refine oC 8 (mn.alloc (mn).size _) ?_;have bz:(y1.alloc (.cells #[.slice none 0 0] 42)).heap[y1.heap.size]? = some (.cells #[.slice none 0 0] 42 (0,0)):=zG _ _;obtain ⟨iW,iX⟩:=yc1 bz;refine oC 9 (mn.alloc mn.size _) ?_;refine oC 10 (mn.alloc mn.size _) ?_;refine zY (by kernel_rfl) (N0 ?_) _;exact ⟨rfl,⟨y1.heap.size,xx,yy⟩,by rfl,kK.fresh mn (zW.one hr)⟩
  ·(intro o8 ho K' hK;simp at ho;subst ho);go_simp
   (refine hK.out _ _ (fun _=>mt.alloc (my _) _) ?_;clear hK K';try simp only [pQ,pN,pZ,pS]);(refine on 4 ?_;intro o ho K' hK;simp at ho;subst ho;go_simp);go_at_call 36
   have rS:Below zm.heap.size zm (zm.alloc (.cells #[.slice none 0 0] 42)).drew:=mt.alloc (my _) _;(with_reducible refine (CRn.out _ rS).mono ?_);rintro en y1 ⟨xx,yy,rfl,hb,hr⟩;have mn:Below zm.heap.size zm y1:=zzT rS hb;(refine hK.out _ _ (fun _=>mn) ?_;clear hK K';try simp only [pQ,pN,pZ,pS]);refine tC [5,6,7] mn ?_;iterate 3 (refine tx ?_)
   refine tz ?_;have bz:y1.heap[zm.heap.size]? = some (.cells #[.slice none 0 0] 42 (0,0)):=(hb.block _ (show _<_ from by simp)).trans (zG zm (.cells #[.slice none 0 0] 42));obtain ⟨iW,iX⟩:=yc1 bz;refine oC 9 ((mn.setCell (p:=⟨zm.heap.size,0,none⟩) (my _) _)) ?_;refine oC 10 ((mn.setCell (p:=⟨zm.heap.size,0,none⟩) (my _) _)) ?_;refine zY (by kernel_rfl) (N0 ?_) _;exact ⟨rfl,⟨zm.heap.size,xx,yy⟩,by rfl,kK.first FB.out rS (by simp) hb (zW.one hr) (but1 _ _ _) (by rw [zO bz];rfl)⟩
 rintro ⟨gn,xn,yn⟩ zn hR;have Rn:Hid (kK F zm gn (.cells #[.slice xn kn.args.length yn] 42 (0,0)) [ke kn] [.slice xn kn.args.length yn] zn):=hR;have tA:Hid (Below W0.heap.size W0 zn/\Below w.heap.size w zn):=⟨s_.out.1.trans (Rn.out.below.mono (s_.out.1).size),s_.out.2.trans (Rn.out.below.mono (s_.out.2).size)⟩;clear hR CRn;simp only [Act.put,Ok,Oz,OA];go_wp2_with fail
 have bl:zn.cell? ⟨gl,0,none⟩=some (.slice xl kl.args.length yl):=(Rn.out.below.cell (mx _ _ ((Rm.out.below.cell (mx _ _ (Rl.out.cell0))).trans (Rl.out.cell0)))).trans ((Rm.out.below.cell (mx _ _ (Rl.out.cell0))).trans (Rl.out.cell0));have Tl:Hid (Rep (fun i=>F i\/W0.heap.size<=i) zn (ke kl) (.slice xl kl.args.length yl)):=Rep.below (F':=fun i=>F i\/W0.heap.size<=i) Rn.out.below (fun _ h=>h) (Rep.below (F':=fun i=>F i\/W0.heap.size<=i) Rm.out.below (fun _ h=>h) ((zW.get1 Rl.out.rep).weak (G:=fun i=>F i\/W0.heap.size<=i) (fun i h=>h.1.elim .inl (fun h=>.inr (mh (HLl.out.1).size h)))));have bm:zn.cell? ⟨gm,0,none⟩=some (.slice xm km.args.length ym):=(Rn.out.below.cell (mx _ _ (Rm.out.cell0))).trans (Rm.out.cell0);have Tm:Hid (Rep (fun i=>F i\/W0.heap.size<=i) zn (ke km) (.slice xm km.args.length ym)):=Rep.below (F':=fun i=>F i\/W0.heap.size<=i) Rn.out.below (fun _ h=>h) ((zW.get1 Rm.out.rep).weak (G:=fun i=>F i\/W0.heap.size<=i) (fun i h=>h.1.elim .inl (fun h=>.inr (mh (JB.out.1).size h))));have bn:zn.cell? ⟨gn,0,none⟩=some (.slice xn kn.args.length yn):=Rn.out.cell0;have Tn:Hid (Rep (fun i=>F i\/W0.heap.size<=i) zn (ke kn) (.slice xn kn.args.length yn)):=(zW.get1 Rn.out.rep).weak (G:=fun i=>F i\/W0.heap.size<=i) (fun i h=>h.1.elim .inl (fun h=>.inr (mh (JA.out.1).size h)));have BR:Hid (zn.heap[w.heap.size+1+1]? = some (.cells #[.slice none 0 0] 42 (0,0))):=(tA.out.1.block _ (zZ H0.out.2.2.2)).trans H0.out.2.2.2;have sG:zn.frozen? ⟨w.heap.size+1+1,0,none⟩=false:=by simp only [N4,BR.out];rfl
 have i6:zn.cell? ⟨w.heap.size+1+1,0,none⟩=some (.slice none 0 0):=by simp only [GD,BR.out];rfl
 have HE:=mj (show zt ns (.ite l m n)=(km,ql && qm && qn && decide (kl.args=[]) && decide (zN km=zN kn)) by rw [zt,iu,BM,oU]);have Gr:=mj (mu iu (mu BM oU));have rg:∀ g,W0.heap.size<=g->g≠w.heap.size+1+1:=fun g h e=>by have:=H0.out.2.1;omega
 have nl:gl≠w.heap.size+1+1:=rg _ (mh H1.out.1.size Rl.out.new);have nm:gm≠w.heap.size+1+1:=rg _ (mh li.out.1.size Rm.out.new);have nn:gn≠w.heap.size+1+1:=rg _ (mh s_.out.1.size Rn.out.new);have tZ:zn.drew.frozen? ⟨w.heap.size+1+1,0,none⟩=false:=sG;have lu:zn.drew.cell? ⟨w.heap.size+1+1,0,none⟩=some (.slice none 0 0):=i6;have SBL:Hid (∀ w',Below zn.heap.size zn w'->w'.cell? ⟨gl,0,none⟩=some (.slice xl kl.args.length yl)/\w'.cell? ⟨gm,0,none⟩=some (.slice xm km.args.length ym)/\w'.cell? ⟨gn,0,none⟩=some (.slice xn kn.args.length yn)):=by
  show ∀ w',_->_;intro w' h;exact ⟨(h.cell (mx _ _ bl)).trans bl,(h.cell (mx _ _ bm)).trans bm,(h.cell (mx _ _ bn)).trans bn⟩
 clear iu BM oU Cl Cm Cn rg bl bm bn;cases ql with
 | false =>
   have rx:=mj (show zt ns (.ite l m n)=(km,false) by rw [HE.out];simp);refine wp_region_noPanic ?_;refine zB (fun w'=>w'.cell? ⟨gl,0,none⟩=some (.slice xl kl.args.length yl)/\w'.cell? ⟨gm,0,none⟩=some (.slice xm km.args.length ym)/\w'.cell? ⟨gn,0,none⟩=some (.slice xn kn.args.length yn)) (fun _=>false) (by kernel_rfl) ?_;have mt:(fun w'=>w'.cell? ⟨gl,0,none⟩=some (.slice xl kl.args.length yl)/\w'.cell? ⟨gm,0,none⟩=some (.slice xm km.args.length ym)/\w'.cell? ⟨gn,0,none⟩=some (.slice xn kn.args.length yn)) zn.drew:=SBL.out zn.drew (Below.drew (mw _ _));refine tk [0,1,2,3,4,5,6,7,8,9,10,11,12,13,14,15,16,17,18,19,20] mt ?_;(intro d hd;simp [tkD] at hd;subst hd;simp only [tks,pQ,pZ,pS]);iterate 21 (refine ⟨?_,?_,?_⟩;rotate_left;· (intro oi ho;simp at ho;subst ho;first | (refine RK ⟨by rfl,?_⟩;with_reducible rfl) | (refine RL ⟨by rfl,fun w' nP=>?_⟩;obtain ⟨e0,e1,e2⟩:=nP;go_simp;try with_reducible rfl)))
   refine oC 21 (⟨zx (mt).1 nl,zx (mt).2.1 nm,zx (mt).2.2 nn⟩) ?_;refine oC 22 (⟨zx (mt).1 nl,zx (mt).2.1 nm,zx (mt).2.2 nn⟩) ?_;refine zY (by kernel_rfl) (N0 ?_) _;go_wp2_with fail
   obtain ⟨W,hW,s0,nV,nT⟩:=qY (BR.out) (.slice xm km.args.length ym);rw [<- hW];refine bodyPost_ret (v:=.tuple #[.agg #[.slice xm km.args.length ym],.bool false]) (by simp [results,Ot,go_sem,s0]) rfl ?_;rw [rx.out];exact vP (k:=km) HP.out.1.old H0.out.1 H0.out.2.1 tA.out.1 Tm.out (fun B w0 h hB=>(nV B w0 h hB).drew) nT
 | true =>
   cases qm with
   | false =>
     have rx:=mj (show zt ns (.ite l m n)=(km,false) by rw [HE.out];simp);refine wp_region_noPanic ?_;refine zB (fun w'=>w'.cell? ⟨gl,0,none⟩=some (.slice xl kl.args.length yl)/\w'.cell? ⟨gm,0,none⟩=some (.slice xm km.args.length ym)/\w'.cell? ⟨gn,0,none⟩=some (.slice xn kn.args.length yn)) (fun _=>false) (by kernel_rfl) ?_;have mt:(fun w'=>w'.cell? ⟨gl,0,none⟩=some (.slice xl kl.args.length yl)/\w'.cell? ⟨gm,0,none⟩=some (.slice xm km.args.length ym)/\w'.cell? ⟨gn,0,none⟩=some (.slice xn kn.args.length yn)) zn.drew:=SBL.out zn.drew (Below.drew (mw _ _));refine tk [0,1,2,3,4,5,6,7,8,9,10,11,12,13,14,15,16,17,18,19,20] mt ?_;(intro d hd;simp [tkD] at hd;subst hd;simp only [tks,pQ,pZ,pS]);iterate 21 (refine ⟨?_,?_,?_⟩;rotate_left;· (intro oi ho;simp at ho;subst ho;first | (refine RK ⟨by rfl,?_⟩;with_reducible rfl) | (refine RL ⟨by rfl,fun w' nP=>?_⟩;obtain ⟨e0,e1,e2⟩:=nP;go_simp;try with_reducible rfl)))
     refine oC 21 (⟨zx (mt).1 nl,zx (mt).2.1 nm,zx (mt).2.2 nn⟩) ?_;refine oC 22 (⟨zx (mt).1 nl,zx (mt).2.1 nm,zx (mt).2.2 nn⟩) ?_;refine zY (by kernel_rfl) (N0 ?_) _;go_wp2_with fail
     obtain ⟨W,hW,s0,nV,nT⟩:=qY (BR.out) (.slice xm km.args.length ym);rw [<- hW];refine bodyPost_ret (v:=.tuple #[.agg #[.slice xm km.args.length ym],.bool false]) (by simp [results,Ot,go_sem,s0]) rfl ?_;rw [rx.out];exact vP (k:=km) HP.out.1.old H0.out.1 H0.out.2.1 tA.out.1 Tm.out (fun B w0 h hB=>(nV B w0 h hB).drew) nT
   | true =>
     cases qn with
     | false =>
       have rx:=mj (show zt ns (.ite l m n)=(km,false) by rw [HE.out];simp);refine wp_region_noPanic ?_;refine zB (fun w'=>w'.cell? ⟨gl,0,none⟩=some (.slice xl kl.args.length yl)/\w'.cell? ⟨gm,0,none⟩=some (.slice xm km.args.length ym)/\w'.cell? ⟨gn,0,none⟩=some (.slice xn kn.args.length yn)) (fun _=>false) (by kernel_rfl) ?_;have mt:(fun w'=>w'.cell? ⟨gl,0,none⟩=some (.slice xl kl.args.length yl)/\w'.cell? ⟨gm,0,none⟩=some (.slice xm km.args.length ym)/\w'.cell? ⟨gn,0,none⟩=some (.slice xn kn.args.length yn)) zn.drew:=SBL.out zn.drew (Below.drew (mw _ _));refine tk [0,1,2,3,4,5,6,7,8,9,10,11,12,13,14,15,16,17,18,19,20] mt ?_;(intro d hd;simp [tkD] at hd;subst hd;simp only [tks,pQ,pZ,pS]);iterate 21 (refine ⟨?_,?_,?_⟩;rotate_left;· (intro oi ho;simp at ho;subst ho;first | (refine RK ⟨by rfl,?_⟩;with_reducible rfl) | (refine RL ⟨by rfl,fun w' nP=>?_⟩;obtain ⟨e0,e1,e2⟩:=nP;go_simp;try with_reducible rfl)))
       refine oC 21 (⟨zx (mt).1 nl,zx (mt).2.1 nm,zx (mt).2.2 nn⟩) ?_;refine oC 22 (⟨zx (mt).1 nl,zx (mt).2.1 nm,zx (mt).2.2 nn⟩) ?_;refine zY (by kernel_rfl) (N0 ?_) _;go_wp2_with fail
       obtain ⟨W,hW,s0,nV,nT⟩:=qY (BR.out) (.slice xm km.args.length ym);rw [<- hW];refine bodyPost_ret (v:=.tuple #[.agg #[.slice xm km.args.length ym],.bool false]) (by simp [results,Ot,go_sem,s0]) rfl ?_;rw [rx.out];exact vP (k:=km) HP.out.1.old H0.out.1 H0.out.2.1 tA.out.1 Tm.out (fun B w0 h hB=>(nV B w0 h hB).drew) nT
     | true =>
       have Dp:=qV m ns km HP.out.1.n15 (by have:=yO (t:=m) (ns:=ns) HP.out.2.2.1.2 (by rw [Gr.out.2.1]);rwa [Gr.out.2.1] at this);have Ev:=qV n ns kn HP.out.1.n15 (by have:=yO (t:=n) (ns:=ns) HP.out.2.2.2 (by rw [Gr.out.2.2]);rwa [Gr.out.2.2] at this);by_cases af:kl.args=[]
       ·have Bw:(((kl.args.length:Nat):Int) == 0)=true:=by rw [af];rfl
        have DH:=mj (show zt ns (.ite l m n)=(km,decide (zN km=zN kn)) by rw [HE.out,af];simp);have Gt:=mj (fun wz (h:Below zn.heap.size zn wz)=>uy 15 km Dp (by omega) _ wz _ (Rep.below (F':=fun i=>F i\/W0.heap.size<=i) h (fun _ h=>h) Tm.out));have Aw:=mj (fun wz (h:Below zn.heap.size zn wz)=>uy 15 kn Ev (by omega) _ wz _ (Rep.below (F':=fun i=>F i\/W0.heap.size<=i) h (fun _ h=>h) Tn.out));clear af Dp Ev;by_cases Ar:zN km=zN kn
        focus
         have rx:=mj (show zt ns (.ite l m n)=(km,true) by rw [DH.out,decide_eq_true Ar]);have q1:(zN km == zN kn)=true:=by rw [beq_iff_eq];exact Ar
         clear Ar;obtain ⟨X1,EV⟩:=zzM (zN km);obtain ⟨X2,tP⟩:=zzM (zN kn);rw [<- EV] at Gt q1;rw [<- tP] at Aw q1;clear EV tP tZ lu;refine wp_region_noPanic ?_;refine zB (fun w'=>w'.cell? ⟨gl,0,none⟩=some (.slice xl kl.args.length yl)/\w'.cell? ⟨gm,0,none⟩=some (.slice xm km.args.length ym)/\w'.cell? ⟨gn,0,none⟩=some (.slice xn kn.args.length yn)) (fun _=>false) (by kernel_rfl) ?_;have mt:(fun w'=>w'.cell? ⟨gl,0,none⟩=some (.slice xl kl.args.length yl)/\w'.cell? ⟨gm,0,none⟩=some (.slice xm km.args.length ym)/\w'.cell? ⟨gn,0,none⟩=some (.slice xn kn.args.length yn)) zn.drew:=SBL.out zn.drew (Below.drew (mw _ _));refine tC [0,1,2,3,4,5,6,7,8,9,10,11,12,13,14,15,17] mt ?_;iterate 17 (refine tl (fun w' nP=>nP) ?_)
         refine tz ?_;(refine on 16 ?_;intro o ho K' hK;simp at ho;subst ho;go_simp);go_at_call 48;(with_reducible refine (Gt.out _ (Below.drew (mw zn.heap.size zn))).mono ?_);rintro en v1 ⟨rfl,hb⟩;have tR:Hid (Below zn.heap.size zn v1):=(Below.drew (mw zn.heap.size zn)).trans hb;clear hb;(refine hK.out _ _ (fun _=>SBL.out v1 tR.out) ?_;clear hK K';try simp only [pQ,pN,pZ,pS]);have hS16:=SBL.out v1 tR.out;(refine on 18 ?_;intro o ho K' hK;simp at ho;subst ho;go_simp);go_at_call 48;(with_reducible refine (Aw.out _ tR.out).mono ?_);rintro en v2 ⟨rfl,hb⟩;have iN:Hid (Below zn.heap.size zn v2):=zzT tR.out hb;clear hb;(refine hK.out _ _ (fun _=>SBL.out v2 iN.out) ?_;clear hK K';try simp only [pQ,pN,pZ,pS]);have DB:=SBL.out v2 iN.out;have lZ:Hid (v2.heap[w.heap.size+1+1]? = some (.cells #[.slice none 0 0] 42 (0,0))):=(iN.out.block _ (zZ BR.out)).trans BR.out;have aJ:v2.frozen? ⟨w.heap.size+1+1,0,none⟩=false:=by simp only [N4,lZ.out];rfl
         have ou:v2.cell? ⟨w.heap.size+1+1,0,none⟩=some (.slice none 0 0):=by simp only [GD,lZ.out];rfl
         have tg:=SBL.out v2 iN.out;refine tC [19,20] DB ?_;iterate 2 (refine tx ?_)
         refine tz ?_;refine oC 21 (⟨zx (tg).1 nl,zx (tg).2.1 nm,zx (tg).2.2 nn⟩) ?_;refine oC 22 (⟨zx (tg).1 nl,zx (tg).2.1 nm,zx (tg).2.2 nn⟩) ?_;refine zY (by kernel_rfl) (N0 ?_) _;have ll:Hid (Below W0.heap.size W0 v2):=zzT tA.out.1 iN.out;have T2:Hid (Rep (fun i=>F i\/W0.heap.size<=i) v2 (ke km) (.slice xm km.args.length ym)):=Rep.below iN.out (fun _ h=>h) Tm.out;go_wp2_with fail
         obtain ⟨W,hW,s0,nV,nT⟩:=qY (lZ.out) (.slice xm km.args.length ym);rw [<- hW];refine bodyPost_ret (v:=.tuple #[.agg #[.slice xm km.args.length ym],.bool true]) (by simp [results,Ot,go_sem,s0]) rfl ?_
        rotate_left
        focus
         have rx:=mj (show zt ns (.ite l m n)=(km,false) by rw [DH.out,decide_eq_false Ar]);have q1:(zN km == zN kn)=false:=by rw [beq_eq_false_iff_ne];exact Ar
         clear Ar;obtain ⟨X1,EV⟩:=zzM (zN km);obtain ⟨X2,tP⟩:=zzM (zN kn);rw [<- EV] at Gt q1;rw [<- tP] at Aw q1;clear EV tP tZ lu;refine wp_region_noPanic ?_;refine zB (fun w'=>w'.cell? ⟨gl,0,none⟩=some (.slice xl kl.args.length yl)/\w'.cell? ⟨gm,0,none⟩=some (.slice xm km.args.length ym)/\w'.cell? ⟨gn,0,none⟩=some (.slice xn kn.args.length yn)) (fun _=>false) (by kernel_rfl) ?_;have mt:(fun w'=>w'.cell? ⟨gl,0,none⟩=some (.slice xl kl.args.length yl)/\w'.cell? ⟨gm,0,none⟩=some (.slice xm km.args.length ym)/\w'.cell? ⟨gn,0,none⟩=some (.slice xn kn.args.length yn)) zn.drew:=SBL.out zn.drew (Below.drew (mw _ _));refine tC [0,1,2,3,4,5,6,7,8,9,10,11,12,13,14,15,17] mt ?_;iterate 17 (refine tl (fun w' nP=>nP) ?_)
         refine tz ?_;(refine on 16 ?_;intro o ho K' hK;simp at ho;subst ho;go_simp);go_at_call 48;(with_reducible refine (Gt.out _ (Below.drew (mw zn.heap.size zn))).mono ?_);rintro en v1 ⟨rfl,hb⟩;have tR:Hid (Below zn.heap.size zn v1):=(Below.drew (mw zn.heap.size zn)).trans hb;clear hb;(refine hK.out _ _ (fun _=>SBL.out v1 tR.out) ?_;clear hK K';try simp only [pQ,pN,pZ,pS]);have hS16:=SBL.out v1 tR.out;(refine on 18 ?_;intro o ho K' hK;simp at ho;subst ho;go_simp);go_at_call 48;(with_reducible refine (Aw.out _ tR.out).mono ?_);rintro en v2 ⟨rfl,hb⟩;have iN:Hid (Below zn.heap.size zn v2):=zzT tR.out hb;clear hb;(refine hK.out _ _ (fun _=>SBL.out v2 iN.out) ?_;clear hK K';try simp only [pQ,pN,pZ,pS]);have DB:=SBL.out v2 iN.out;have lZ:Hid (v2.heap[w.heap.size+1+1]? = some (.cells #[.slice none 0 0] 42 (0,0))):=(iN.out.block _ (zZ BR.out)).trans BR.out;have aJ:v2.frozen? ⟨w.heap.size+1+1,0,none⟩=false:=by simp only [N4,lZ.out];rfl
         have ou:v2.cell? ⟨w.heap.size+1+1,0,none⟩=some (.slice none 0 0):=by simp only [GD,lZ.out];rfl
         have tg:=SBL.out v2 iN.out;refine tC [19,20] DB ?_;iterate 2 (refine tx ?_)
         refine tz ?_;refine oC 21 (⟨zx (tg).1 nl,zx (tg).2.1 nm,zx (tg).2.2 nn⟩) ?_;refine oC 22 (⟨zx (tg).1 nl,zx (tg).2.1 nm,zx (tg).2.2 nn⟩) ?_;refine zY (by kernel_rfl) (N0 ?_) _;have ll:Hid (Below W0.heap.size W0 v2):=zzT tA.out.1 iN.out;have T2:Hid (Rep (fun i=>F i\/W0.heap.size<=i) v2 (ke km) (.slice xm km.args.length ym)):=Rep.below iN.out (fun _ h=>h) Tm.out;go_wp2_with fail
         obtain ⟨W,hW,s0,nV,nT⟩:=qY (lZ.out) (.slice xm km.args.length ym);rw [<- hW];refine bodyPost_ret (v:=.tuple #[.agg #[.slice xm km.args.length ym],.bool false]) (by simp [results,Ot,go_sem,s0]) rfl ?_
        all_goals
         rw [rx.out];exact vP (k:=km) HP.out.1.old H0.out.1 H0.out.2.1 ll.out T2.out nV nT
       ·have Bw:(((kl.args.length:Nat):Int) == 0)=false:=by
         rw [beq_eq_false_iff_ne];cases hc:kl.args with
         | nil=>exact absurd hc af
         | cons a b=>simp;omega
        have DH:=mj af;clear af;have rx:=mj (show zt ns (.ite l m n)=(km,false) by rw [HE.out,decide_eq_false DH.out];simp);refine wp_region_noPanic ?_;refine zB (fun w'=>w'.cell? ⟨gl,0,none⟩=some (.slice xl kl.args.length yl)/\w'.cell? ⟨gm,0,none⟩=some (.slice xm km.args.length ym)/\w'.cell? ⟨gn,0,none⟩=some (.slice xn kn.args.length yn)) (fun _=>false) (by kernel_rfl) ?_;have mt:(fun w'=>w'.cell? ⟨gl,0,none⟩=some (.slice xl kl.args.length yl)/\w'.cell? ⟨gm,0,none⟩=some (.slice xm km.args.length ym)/\w'.cell? ⟨gn,0,none⟩=some (.slice xn kn.args.length yn)) zn.drew:=SBL.out zn.drew (Below.drew (mw _ _));refine tk [0,1,2,3,4,5,6,7,8,9,10,11,12,13,14,15,16,17,18,19,20] mt ?_;(intro d hd;simp [tkD] at hd;subst hd;simp only [tks,pQ,pZ,pS]);iterate 21 (refine ⟨?_,?_,?_⟩;rotate_left;· (intro oi ho;simp at ho;subst ho;first | (refine RK ⟨by rfl,?_⟩;with_reducible rfl) | (refine RL ⟨by rfl,fun w' nP=>?_⟩;obtain ⟨e0,e1,e2⟩:=nP;go_simp;try with_reducible rfl)))
        refine oC 21 (⟨zx (mt).1 nl,zx (mt).2.1 nm,zx (mt).2.2 nn⟩) ?_;refine oC 22 (⟨zx (mt).1 nl,zx (mt).2.1 nm,zx (mt).2.2 nn⟩) ?_;refine zY (by kernel_rfl) (N0 ?_) _;go_wp2_with fail
        obtain ⟨W,hW,s0,nV,nT⟩:=qY (BR.out) (.slice xm km.args.length ym);rw [<- hW];refine bodyPost_ret (v:=.tuple #[.agg #[.slice xm km.args.length ym],.bool false]) (by simp [results,Ot,go_sem,s0]) rfl ?_;rw [rx.out];exact vP (k:=km) HP.out.1.old H0.out.1 H0.out.2.1 tA.out.1 Tm.out (fun B w0 h hB=>(nV B w0 h hB).drew) nT
theorem withNames (F:Nat->Prop) (ns:List Nm) (x:Bs) (k:Ty) (nv tv:Value) (ta:Option Addr) (tc:Nat) (w:World) (rn:Rep F w (.sl 9 1 ns.length (ns.map fun p=>DV.val (str p.1))) nv) (rk:Rep F w (.sl 42 1 ns.length (qA (kinds ns))) tv) (ra:Rep F w (ke k) (.slice ta k.args.length tc)) (hn:ns.length<=1000) :
 Calls KD 42 #[.agg #[nv,tv],str x,.agg #[.slice ta k.args.length tc]] w fun en w'=>∃ a5 c5 a6 c6,en=.returned (.agg #[.slice a5 (ns.length+1) c5,.slice a6 (ns.length+1) c6])/\Below w.heap.size w w' /\
  Rep (fun i=>F i\/w.heap.size<=i) w' (.sl 9 1 (ns++[(x,k)]).length ((ns++[(x,k)]).map fun p=>DV.val (str p.1))) (.slice a5 (ns.length+1) c5)/\Rep (fun i=>F i\/w.heap.size<=i) w' (.sl 42 1 (ns++[(x,k)]).length (qA (kinds (ns++[(x,k)])))) (.slice a6 (ns.length+1) c6):=by
 obtain ⟨xs,Al,hsx⟩:=zq.ofRep rn (fun us hu u hm=>by
  obtain ⟨j,hj⟩:=List.mem_iff_getElem?.1 hm;have Cq:=(List.getElem?_eq_some_iff.1 hj).1;have hlen:=hu.length;rw [List.length_map] at hlen;have hd:(ns.map fun p=>DV.val (str p.1))[j]? = some (.val (str (ns[j]'(by omega)).1)):=by rw [OY,List.getElem?_eq_getElem (by omega)];rfl
  obtain ⟨v,hv,hr⟩:=zW.at hu hd;rw [hj] at hv;obtain rfl:=Ob hv;rw [zH] at hr;subst hr
  simp [str,Value.oneCell'])
 obtain ⟨ys,hys,hsy⟩:=zq.ofRep rk (uR _);refine (l5With_any ns.length ns.length nv tv xs ys x ta k.args.length tc w hsx hsy (by omega) (by omega)).mono ?_;rintro en w' ⟨a5,c5,a6,c6,rfl,hb,iV,Fm,iY,Ft⟩;refine ⟨a5,c5,a6,c6,rfl,hb,?_,?_⟩
 ·rw [NZ,List.map_append];exact iV.rep (fun g hg=>.inr (iY g hg)) ((zW.below hb (fun _ h=>.inl h) Al).append (zQ.2 ⟨_,_,rfl,zH.2 rfl,zC.2 rfl⟩))
 ·rw [NZ,jS,dU];refine Fm.rep (fun g hg=>.inr (Ft g hg)) ((zW.below hb (fun _ h=>.inl h) hys).append ?_);rw [qA,qA];exact zQ.2 ⟨_,_,rfl,Rep.below hb (fun _ h=>.inl h) ra,zC.2 rfl⟩
theorem kd_lam (N:Nat) (ih:KdSaid N) (F:Nat->Prop) (x:Bs) (k:Ty) (t:Tm) (ns:List Nm) (nv tv s pv:Value) (w:World) (hN:zT (.lam x k t)<=N+1) (hp:pI F (.lam x k t) ns nv tv s pv w):Calls KD 36 #[.agg #[nv,tv],.agg #[s,pv]] w (uF F w (zt ns (.lam x k t)).1 (zt ns (.lam x k t)).2):=by
 have hold:=hp.old;obtain ⟨na,nc,rfl,_,_,sV⟩:=zP hp.rn;obtain ⟨ka,kc,rfl,_,_,sM⟩:=zP hp.rk;have rU:=hp.rt;rw [kx] at rU;obtain ⟨qa,qc,e,nD⟩:=qd rU;simp only [qP,jX,Od,and_true] at e nD;obtain ⟨rfl,rfl⟩:=e;obtain ⟨_,_,e,ml⟩:=yB.of nD;simp only [N_,true_and] at e;obtain ⟨rfl,rfl⟩:=e;obtain ⟨nB,nH,s1,a1,n1,c1,d1,lJ,sK,aI,az,ox,aV,Dd,D4⟩:=ml 1 (by simp);simp only [N9,N8,N1] at aI;subst aI;subst lJ;obtain ⟨Ip,In,s2,a2,n2,c2,d2,lQ,Ay,lK,lV,oy,iL,D0,D3⟩:=ml 2 (by simp);simp only [N9,N8,N1] at lK;subst lK;simp only [N1,OI,and_true] at lQ;obtain ⟨rfl,rfl⟩:=lQ;obtain ⟨pb3,po3,s3,a3,n3,c3,d3,D5,Il,D2,D8,D7,D1,Im,Io⟩:=ml 3 (by simp);simp only [N9,N8,N1] at D2;subst D2;simp only [N1,OI,and_true] at D5;obtain ⟨rfl,rfl⟩:=D5;simp only [qP] at Dd;subst Dd;have nz:=hp.room;have nC:=hp.ok;have sU:=hp.sm;have hak:=kg k;rw [zT] at nz hN;rw [kP,Oa,decide_eq_true_eq] at sU;obtain ⟨W0,nO⟩:=zzM (((w.alloc (.cells #[.slice na ns.length nc,.slice ka ns.length kc] 52)).alloc (.cells #[str [],.slice (some ⟨nB,nH,none⟩) 4 qc] 39)).alloc (.cells #[.slice none 0 0] 42));obtain ⟨nN,z0,bA,bB,bC⟩:=xW w (.cells #[.slice na ns.length nc,.slice ka ns.length kc] 52) (.cells #[str [],.slice (some ⟨nB,nH,none⟩) 4 qc] 39) (.cells #[.slice none 0 0] 42);rw [<- nO] at nN z0 bA bB bC;have CH:=mj (show Calls KD 39 #[.agg #[str [],.slice (some ⟨nB,nH,none⟩) 4 qc]] W0 (fun en w'=>en=.returned (str (xZ (kx (.lam s1 k t))))/\Below W0.heap.size W0 w') from uu (kx (.lam s1 k t)) (uY _ hp.ok) F W0 _ _ (zW.below nN (fun _ h=>h) hp.rt));have EZ:xZ (kx (.lam s1 k t))=[108,97,109]:=by rw [kx];rfl
 rw [EZ] at CH;have H0:=mj (mu nN (mu z0 (mu bA bC)));have e0:W0.cell? ⟨w.heap.size,0,none⟩=some (.slice na ns.length nc):=by simp [GD,bA]
 have e1:W0.cell? ⟨w.heap.size,1,none⟩=some (.slice ka ns.length kc):=by simp [GD,bA]
 have SX:Hid (∀ w',Below W0.heap.size W0 w'->w'.cell? ⟨w.heap.size,0,none⟩=some (.slice na ns.length nc)/\w'.cell? ⟨w.heap.size,1,none⟩=some (.slice ka ns.length kc)/\w'.cell? ⟨nB,nH+2,none⟩=some (str s1)/\w'.cell? ⟨nB,nH+4,none⟩=some (str s2)/\w'.cell? ⟨nB,nH+5,none⟩=some (.slice a2 n2 c2)/\w'.cell? ⟨nB,nH+6,none⟩=some (str s3)/\w'.cell? ⟨nB,nH+7,none⟩=some (.slice a3 n3 c3)):=by
  show ∀ w',_->_;intro w' nW;have ne:=zzT nN nW;exact ⟨(nW.cell (mx W0 _ e0)).trans e0,(nW.cell (mx W0 _ e1)).trans e1,(ne.cell (p:=⟨nB,nH+2,none⟩) sK).trans az,(ne.cell (p:=⟨nB,nH+4,none⟩) sK).trans lV,(ne.cell (p:=⟨nB,nH+5,none⟩) sK).trans oy,(ne.cell (p:=⟨nB,nH+6,none⟩) sK).trans D8,(ne.cell (p:=⟨nB,nH+7,none⟩) sK).trans D7⟩
 have JV:=jG 15 k sU.1;have CX:Hid (∀ wz,Below w.heap.size w wz->Calls KD 41 #[.agg #[str s2,.slice a2 n2 c2]] wz fun en w'=>en=.returned (str (zN k))/\Below wz.heap.size wz w'):=by
  show ∀ wz,_->_;intro wz hz;have h:=cU (zu (trT k)).length (trT k) (my _) (show _<=_ by rw [vu];omega) (cK k) F wz _ _ (zW.below hz (fun _ h=>h) iL);rw [vu] at h;exact h
 have CY:Hid (∀ wz,Calls KD 40 #[str (zN k)] wz fun en w'=>∃ ta tc,en=.returned (.tuple #[.agg #[.slice ta k.args.length tc],.bool true])/\Below wz.heap.size wz w'/\Rep (wz.heap.size<=·) w' (ke k) (.slice ta k.args.length tc)):=by
  show ∀ wz,_;intro wz;refine (xO (zN k) (show _<=_ by omega) wz).mono ?_;rintro en w' ⟨v,rfl,hb,hr⟩;rw [uN sU.1] at hr ⊢;obtain ⟨ta,tc,rfl⟩:=kU hr;exact ⟨ta,tc,rfl,hb,hr⟩
 obtain ⟨X,hX⟩:=zzM (zN k);rw [<- hX] at CX CY;have HP:=mj (mu hp (mu nC (mu sU (mu D1 hN))));have IH:=mj ih;have hlen:ns.length<=99:=by omega
 clear sV sM nD ml rU hp nC sU ih hN nN z0 bA bB bC e0 e1 aV az ox D4 iL lV oy D0 D3 D1 D8 D7 Im Io sK Ay Il hX JV;go_enter QL,Qv;go_wp2_with fail
 rw [<- nO];clear nO;(with_reducible refine CH.out.mono ?_);rintro en w1 ⟨rfl,mi⟩;have H1:=mj (mu mi (zzT H0.out.1 mi));have NW:=mj (CX.out w1 H1.out.2);obtain ⟨e0,e1,f1,f2,h2,f3,h3⟩:=SX.out w1 H1.out.1;clear mi CH CX e0 e1 f1 f3 h3;go_wp2_with fail
 (with_reducible refine NW.out.mono ?_);rintro en w2 ⟨rfl,me⟩
 have H2:=mj (mu (zzT H1.out.1 me) (zzT H1.out.2 me));clear me f2 h2 NW;go_wp2_with fail
 (with_reducible refine (CY.out w2).mono ?_);rintro en w3 ⟨ta,tc,rfl,nZ,ib⟩
 have H3:=mj (mu (zzT H2.out.1 nZ) (mu (zzT H2.out.2 nZ) (ib.weak (G:=fun i=>F i\/W0.heap.size<=i) (fun i h=>.inr (mh H2.out.1.size h)))));clear nZ ib CY;go_wp2_with fail
 obtain ⟨V,hV⟩:=zzN (w3.alloc (.cells #[.slice ta k.args.length tc] 42));rw [hV];have Cx:Below w3.heap.size w3 V:=by rw [<- hV];exact (mw _ _).alloc (my _) _
 obtain ⟨ga,Md⟩:=zzN (w3.heap.size);have He:V.cell? ⟨ga,0,none⟩=some (.slice ta k.args.length tc):=by rw [<- hV,<- Md];simp
 have HV:=mj (mu (zzT H3.out.1 Cx) (zzT H3.out.2.1 Cx));have TA:Hid (Rep (fun i=>i<V.heap.size/\(F i\/W0.heap.size<=i)) V (ke k) (.slice ta k.args.length tc)):=(Rep.keep fun i x h hx=>⟨⟨zZ hx,h⟩,hx⟩).1 _ _ (Rep.below (F':=fun i=>F i\/W0.heap.size<=i) Cx (fun _ h=>h) H3.out.2.2);rw [Md];have SV:Hid (∀ w',Below V.heap.size V w'->w'.cell? ⟨w.heap.size,0,none⟩=some (.slice na ns.length nc)/\w'.cell? ⟨w.heap.size,1,none⟩=some (.slice ka ns.length kc)/\w'.cell? ⟨nB,nH+2,none⟩=some (str s1)/\w'.cell? ⟨nB,nH+6,none⟩=some (str s3)/\w'.cell? ⟨nB,nH+7,none⟩=some (.slice a3 n3 c3)/\w'.cell? ⟨ga,0,none⟩=some (.slice ta k.args.length tc)):=by
  show ∀ w',_->_;intro w' h;obtain ⟨e0,e1,f1,_,_,f3,h3⟩:=SX.out w' (zzT HV.out.1 h);exact ⟨e0,e1,f1,f3,h3,(h.cell (mx _ _ He)).trans He⟩
 have oldV:Hid (∀ i,F i->i<V.heap.size):=fun i h=>mg (HP.out.1.old i h) HV.out.2.size;have CW:=mj (fun wz (hz:Below V.heap.size V wz)=>withNames (fun i=>i<V.heap.size/\(F i\/W0.heap.size<=i)) ns s1 k (.slice na ns.length nc) (.slice ka ns.length kc) ta tc wz ((Rep.keep fun i x (h:F i) hx=>⟨⟨oldV.out i h,.inl h⟩,hx⟩).1 _ _ (Rep.below (F':=F) (zzT HV.out.2 hz) (fun _ h=>h) HP.out.1.rn)) ((Rep.keep fun i x (h:F i) hx=>⟨⟨oldV.out i h,.inl h⟩,hx⟩).1 _ _ (Rep.below (F':=F) (zzT HV.out.2 hz) (fun _ h=>h) HP.out.1.rk)) (Rep.below (F':=fun i=>i<V.heap.size/\(F i\/W0.heap.size<=i)) hz (fun _ h=>h) TA.out) (by omega));obtain ⟨kt,qt,GZ⟩:∃ a b,zt (ns++[(s1,k)]) t=(a,b):=⟨_,_,rfl⟩
 have CZ:Hid (∀ (B:Nat) (A1:World) (a5 a6:Option Addr) (c5 c6:Nat),V.heap.size<=B->Below V.heap.size V A1 ->
  Rep (fun i=>((i<V.heap.size/\(F i\/W0.heap.size<=i))\/B<=i)/\i<A1.heap.size) A1 (.sl 9 1 (ns++[(s1,k)]).length ((ns++[(s1,k)]).map fun p=>DV.val (str p.1))) (.slice a5 (ns.length+1) c5) ->
  Rep (fun i=>((i<V.heap.size/\(F i\/W0.heap.size<=i))\/B<=i)/\i<A1.heap.size) A1 (.sl 42 1 (ns++[(s1,k)]).length (qA (kinds (ns++[(s1,k)])))) (.slice a6 (ns.length+1) c6)->∀ (E:Nat->Prop),(∀ i,F i->E i)->(∀ i,(((i<V.heap.size/\(F i\/W0.heap.size<=i))\/B<=i)/\i<A1.heap.size)->∀ x,A1.heap[i]? = some x->E i)->(∀ i,E i->i<A1.heap.size) ->
  Calls KD 36 #[.agg #[.slice a5 (ns.length+1) c5,.slice a6 (ns.length+1) c6],.agg #[str s3,.slice a3 n3 c3]] A1 (uF E A1 kt qt)):=by
  show ∀ _,_;intro B A1 a5 a6 c5 c6 hB hz h5 h6 E hFE hE hEl;have Df:=zzT HV.out.2 hz
  have h:=IH.out E t (ns++[(s1,k)]) _ _ _ _ A1 (by have:=HP.out.2.2.2.2;omega) ⟨hEl,zW.below Df hFE HP.out.2.2.2.1,(Rep.keep fun i x hi hx=>⟨hE i hi x hx,hx⟩).1 _ _ h5,(Rep.keep fun i x hi hx=>⟨hE i hi x hx,hx⟩).1 _ _ h6,HP.out.2.1.2,HP.out.2.2.1.2,(fun p hm=>by
   rcases Oy.1 hm with hm | hm
   ·exact HP.out.1.nm p hm
   ·simp at hm;subst hm;exact HP.out.2.1.1),(fun a ha=>by
   rw [jS] at ha;rcases Oy.1 ha with ha | ha
   ·exact HP.out.1.n15 a ha
   ·simp at ha;subst ha;exact HP.out.2.2.1.1),by rw [NZ];simp;omega⟩
  rw [GZ] at h;exact h
 have CK2:Hid (∀ (A1:World) (a5 a6:Option Addr) (c5 c6 y:Nat),Below V.heap.size V A1->y<=A1.heap.size->V.heap.size<=y ->
  Rep (fun i=>((i<V.heap.size/\(F i\/W0.heap.size<=i))\/V.heap.size<=i)/\i<y) A1 (.sl 9 1 (ns++[(s1,k)]).length ((ns++[(s1,k)]).map fun p=>DV.val (str p.1))) (.slice a5 (ns.length+1) c5) ->
  Rep (fun i=>((i<V.heap.size/\(F i\/W0.heap.size<=i))\/V.heap.size<=i)/\i<y) A1 (.sl 42 1 (ns++[(s1,k)]).length (qA (kinds (ns++[(s1,k)])))) (.slice a6 (ns.length+1) c6) ->
  Calls KD 36 #[.agg #[.slice a5 (ns.length+1) c5,.slice a6 (ns.length+1) c6],.agg #[str s3,.slice a3 n3 c3]] A1 (uF (fun i=>((i<V.heap.size/\(F i\/W0.heap.size<=i))\/V.heap.size<=i)/\i<y) A1 kt qt)):=by
  show ∀ _,_;intro A1 a5 a6 c5 c6 y hz hy hVy h5 h6;have Df:=zzT HV.out.2 hz
  have h:=IH.out (fun i=>((i<V.heap.size/\(F i\/W0.heap.size<=i))\/V.heap.size<=i)/\i<y) t (ns++[(s1,k)]) _ _ _ _ A1 (by have:=HP.out.2.2.2.2;omega) ⟨fun i h=>by have:=h.2;omega,zW.below Df (fun i h=>⟨.inl ⟨oldV.out i h,.inl h⟩,mg (oldV.out i h) hVy⟩) HP.out.2.2.2.1,h5,h6,HP.out.2.1.2,HP.out.2.2.1.2,(fun p hm=>by
   rcases Oy.1 hm with hm | hm
   ·exact HP.out.1.nm p hm
   ·simp at hm;subst hm;exact HP.out.2.1.1),(fun a ha=>by
   rw [jS] at ha;rcases Oy.1 ha with ha | ha
   ·exact HP.out.1.n15 a ha
   ·simp at ha;subst ha;exact HP.out.2.2.1.1),by rw [NZ];simp;omega⟩
  rw [GZ] at h;exact h
 have JC:=mj GZ;clear GZ H1 H2 H3 Cx hV IH SX;refine jr (X:=Nat×Option Addr×Nat×Option Addr×Nat×Option Addr×Nat) (fun a x=>((((((((((((((((a.put (some 76) (.agg #[.slice na ns.length nc,.slice ka ns.length kc])).put (some 77) (.slice (some ⟨nB,nH,none⟩) 4 qc)).put (some 78) (.pointer (some ⟨nB,nH+2,none⟩))).put (some 79) (.pointer (some ⟨nB,nH+2,none⟩))).put (some 80) (str s1)).put (some 81) (.agg #[.slice ta k.args.length tc])).put (some 82) (.agg #[.slice x.2.1 (ns.length+1) x.2.2.1,.slice x.2.2.2.1 (ns.length+1) x.2.2.2.2.1])).put (some 83) (.slice (some ⟨nB,nH,none⟩) 4 qc)).put (some 84) (.pointer (some ⟨nB,nH+6,none⟩))).put (some 85) (.agg #[str s3,.slice a3 n3 c3])).put (some 86) (.tuple #[.agg #[.slice x.2.2.2.2.2.1 kt.args.length x.2.2.2.2.2.2],.bool qt])).put (some 75) (.tuple #[.agg #[.slice x.2.2.2.2.2.1 kt.args.length x.2.2.2.2.2.2],.bool qt])).put (some 87) (.agg #[.slice x.2.2.2.2.2.1 kt.args.length x.2.2.2.2.2.2])).put (some 88) (.bool qt)).put (some 10) (.pointer (some ⟨x.1,0,none⟩))).put (some 11) (.bool qt))) (fun x w'=>kK (fun i=>i<V.heap.size/\(F i\/W0.heap.size<=i)) V x.1 (.cells #[.slice x.2.2.2.2.2.1 kt.args.length x.2.2.2.2.2.2] 42 (0,0)) [ke kt] [.slice x.2.2.2.2.2.1 kt.args.length x.2.2.2.2.2.2] w') ?_ ?_
 ·refine wp_region_noPanic ?_;refine zB (fun w'=>Below V.heap.size V w') (fun _=>false) (by kernel_rfl) ?_;have mt:(fun w'=>Below V.heap.size V w') V.drew:=Below.drew (mw _ _);refine tC [0,1,2,3,4,5,7,8,9] mt ?_;iterate 9 (refine tl (fun w' nP=>SV.out w' nP) ?_)
  refine tz ?_;refine qJ 6 14 (by kernel_rfl) ?_ ?_
  ·(intro o6 ho K' hK;simp at ho;subst ho);go_simp
   go_at_call 42;(with_reducible refine (CW.out _ mt).mono ?_);rintro en y1 ⟨aq,cq,ar,cr,rfl,nw,JS,JR⟩;have mn:Below V.heap.size V y1:=mt.trans (nw.mono (mt).size);(refine hK.out _ _ (fun _=>mn) ?_;clear hK K';try simp only [pQ,pN,pZ,pS]);refine qJ 10 14 (by kernel_rfl) ?_ ?_
   ·have BG:Rep (fun i=>((i<V.heap.size/\(F i\/W0.heap.size<=i))\/V.heap.size<=i)/\i<y1.heap.size) y1 (.sl 9 1 (ns++[(s1,k)]).length ((ns++[(s1,k)]).map fun p=>DV.val (str p.1))) (.slice aq (ns.length+1) cq):=(Rep.keep fun i x hi hx=>⟨⟨hi,zZ hx⟩,hx⟩).1 _ _ JS;have BF:Rep (fun i=>((i<V.heap.size/\(F i\/W0.heap.size<=i))\/V.heap.size<=i)/\i<y1.heap.size) y1 (.sl 42 1 (ns++[(s1,k)]).length (qA (kinds (ns++[(s1,k)])))) (.slice ar (ns.length+1) cr):=(Rep.keep fun i x hi hx=>⟨⟨hi,zZ hx⟩,hx⟩).1 _ _ JR;have DJ:=CZ.out V.heap.size y1 aq ar cq cr (my _) mn BG BF (fun i=>((i<V.heap.size/\(F i\/W0.heap.size<=i))\/V.heap.size<=i)/\i<y1.heap.size) (fun i h=>⟨.inl ⟨oldV.out i h,.inl h⟩,mg (oldV.out i h) mn.size⟩) (fun i h _ _=>h) (fun i h=>h.2);(intro o10 ho K' hK;simp at ho;subst ho);go_simp;go_at_call 36;(with_reducible refine DJ.mono ?_);rintro en y2 ⟨xx,yy,rfl,hbk,rD⟩;have tB:Below V.heap.size V y2:=zzT mn hbk;(refine hK.out _ _ (fun _=>tB) ?_;clear hK K';try simp only [pQ,pN,pZ,pS]);refine tC [11,12,13] tB ?_;iterate 3 (refine tx ?_)
    refine tz ?_;refine oC 14 (tB.alloc tB.size _) ?_;refine oC 15 (tB.alloc tB.size _) ?_;refine oC 16 (tB.alloc tB.size _) ?_;refine zY (by kernel_rfl) (N0 ?_) _;exact ⟨rfl,⟨y2.heap.size,aq,cq,ar,cr,xx,yy⟩,by rfl,kK.fresh tB (zW.one (rD.weak fun i h=>by rcases h with h | h;exact h.1;exact .inr (mh mn.size h)))⟩
   ·(intro o14 ho K' hK;simp at ho;subst ho);go_simp
    (refine hK.out _ _ (fun _=>mn.alloc mn.size _) ?_;clear hK K';try simp only [pQ,pN,pZ,pS]);have hA:Below V.heap.size V (y1.alloc (.cells #[.slice none 0 0] 42)):=mn.alloc mn.size _
    have lz:(y1.alloc (.cells #[.slice none 0 0] 42)).heap.size=y1.heap.size+1:=by simp
    have Jr:(y1.alloc (.cells #[.slice none 0 0] 42)).heap[y1.heap.size]? = some (.cells #[.slice none 0 0] 42 (0,0)):=zG _ _;refine jK 10 (by kernel_rfl) ?_;have BG:Rep (fun i=>((i<V.heap.size/\(F i\/W0.heap.size<=i))\/V.heap.size<=i)/\i<y1.heap.size) (y1.alloc (.cells #[.slice none 0 0] 42)) (.sl 9 1 (ns++[(s1,k)]).length ((ns++[(s1,k)]).map fun p=>DV.val (str p.1))) (.slice aq (ns.length+1) cq):=(Rep.keep fun i x hi hx=>⟨⟨hi,zZ hx⟩,zU hx⟩).1 _ _ JS;have BF:Rep (fun i=>((i<V.heap.size/\(F i\/W0.heap.size<=i))\/V.heap.size<=i)/\i<y1.heap.size) (y1.alloc (.cells #[.slice none 0 0] 42)) (.sl 42 1 (ns++[(s1,k)]).length (qA (kinds (ns++[(s1,k)])))) (.slice ar (ns.length+1) cr):=(Rep.keep fun i x hi hx=>⟨⟨hi,zZ hx⟩,zU hx⟩).1 _ _ JR;have DJ:=CK2.out (y1.alloc (.cells #[.slice none 0 0] 42)) aq ar cq cr y1.heap.size hA (by rw [lz];omega) mn.size BG BF;(intro o10 ho K' hK;simp at ho;subst ho);go_simp;go_at_call 36;(with_reducible refine DJ.mono ?_);rintro en y2 ⟨xx,yy,rfl,hbk,rD⟩;have tB:Below V.heap.size V y2:=zzT hA hbk;have bz:y2.heap[y1.heap.size]? = some (.cells #[.slice none 0 0] 42 (0,0)):=(hbk.block _ (by rw [lz];omega)).trans Jr;(refine hK.out _ _ (fun _=>tB) ?_;clear hK K';try simp only [pQ,pN,pZ,pS]);refine tC [11,12,13] tB ?_;iterate 3 (refine tx ?_)
    refine tz ?_;have iW:(y2).cell? ⟨y1.heap.size,0,none⟩=some (.slice none 0 0):=by simp only [GD,bz];rfl
    have iX:(y2).frozen? ⟨y1.heap.size,0,none⟩=false:=by simp only [N4,bz];rfl
    refine oC 15 ((tB.setCell (p:=⟨y1.heap.size,0,none⟩) mn.size _)) ?_;refine oC 16 ((tB.setCell (p:=⟨y1.heap.size,0,none⟩) mn.size _)) ?_;refine zY (by kernel_rfl) (N0 ?_) _
    exact ⟨rfl,⟨y1.heap.size,aq,cq,ar,cr,xx,yy⟩,by rfl,tB.setCell (p:=⟨y1.heap.size,0,none⟩) mn.size _,mn.size,(by rw [zO bz];rfl),(Rep.keep fun i x hi hx=>by
     have hne:i≠y1.heap.size:=by rcases hi with h | h;have:=h.2;omega;rw [lz] at h;omega
     exact ⟨⟨by rcases hi with h | h;exact h.1;exact .inr (mh hA.size h),hne⟩,by rw [(but1 _ _ _).block i (zZ hx) hne];exact hx⟩).2 _ _ (zW.one rD)⟩
  ·(intro o14 ho K' hK;simp at ho;subst ho);go_simp
   (refine hK.out _ _ (fun _=>mt.alloc (my _) _) ?_;clear hK K';try simp only [pQ,pN,pZ,pS]);have hA:Below V.heap.size V (V.alloc (.cells #[.slice none 0 0] 42)).drew:=mt.alloc (my _) _
   have lz:(V.alloc (.cells #[.slice none 0 0] 42)).drew.heap.size=V.heap.size+1:=by simp
   (refine on 6 ?_;intro o ho K' hK;simp at ho;subst ho;go_simp);go_at_call 42
   (with_reducible refine (CW.out _ hA).mono ?_);rintro en y1 ⟨aq,cq,ar,cr,rfl,nw,JS,JR⟩
   have mn:Below V.heap.size V y1:=hA.trans (nw.mono (hA).size);have Jr:y1.heap[V.heap.size]? = some (.cells #[.slice none 0 0] 42 (0,0)):=(nw.block _ (by rw [lz];omega)).trans (zG V (.cells #[.slice none 0 0] 42));(refine hK.out _ _ (fun _=>mn) ?_;clear hK K';try simp only [pQ,pN,pZ,pS]);refine jK 10 (by kernel_rfl) ?_;have BG:Rep (fun i=>((i<V.heap.size/\(F i\/W0.heap.size<=i))\/V.heap.size+1<=i)/\i<y1.heap.size) y1 (.sl 9 1 (ns++[(s1,k)]).length ((ns++[(s1,k)]).map fun p=>DV.val (str p.1))) (.slice aq (ns.length+1) cq):=(Rep.keep fun i x hi hx=>⟨⟨hi.elim .inl (fun h=>.inr (by rw [lz] at h;exact h)),zZ hx⟩,hx⟩).1 _ _ JS;have BF:Rep (fun i=>((i<V.heap.size/\(F i\/W0.heap.size<=i))\/V.heap.size+1<=i)/\i<y1.heap.size) y1 (.sl 42 1 (ns++[(s1,k)]).length (qA (kinds (ns++[(s1,k)])))) (.slice ar (ns.length+1) cr):=(Rep.keep fun i x hi hx=>⟨⟨hi.elim .inl (fun h=>.inr (by rw [lz] at h;exact h)),zZ hx⟩,hx⟩).1 _ _ JR;have DJ:=CZ.out (V.heap.size+1) y1 aq ar cq cr (by omega) mn BG BF (fun i=>((i<V.heap.size/\(F i\/W0.heap.size<=i))\/V.heap.size+1<=i)/\i<y1.heap.size) (fun i h=>⟨.inl ⟨oldV.out i h,.inl h⟩,mg (oldV.out i h) mn.size⟩) (fun i h _ _=>h) (fun i h=>h.2);(intro o10 ho K' hK;simp at ho;subst ho);go_simp;go_at_call 36;(with_reducible refine DJ.mono ?_);rintro en y2 ⟨xx,yy,rfl,hbk,rD⟩;have tB:Below V.heap.size V y2:=zzT mn hbk;have ly1:V.heap.size+1<=y1.heap.size:=by have:=nw.size;rw [lz] at this;exact this
   have bz:y2.heap[V.heap.size]? = some (.cells #[.slice none 0 0] 42 (0,0)):=(hbk.block _ (by omega)).trans Jr;(refine hK.out _ _ (fun _=>tB) ?_;clear hK K';try simp only [pQ,pN,pZ,pS]);refine tC [11,12,13] tB ?_;iterate 3 (refine tx ?_)
   refine tz ?_;have iW:(y2).cell? ⟨V.heap.size,0,none⟩=some (.slice none 0 0):=by simp only [GD,bz];rfl
   have iX:(y2).frozen? ⟨V.heap.size,0,none⟩=false:=by simp only [N4,bz];rfl
   refine oC 15 ((tB.setCell (p:=⟨V.heap.size,0,none⟩) (my _) _)) ?_;refine oC 16 ((tB.setCell (p:=⟨V.heap.size,0,none⟩) (my _) _)) ?_;refine zY (by kernel_rfl) (N0 ?_) _
   exact ⟨rfl,⟨V.heap.size,aq,cq,ar,cr,xx,yy⟩,by rfl,tB.setCell (p:=⟨V.heap.size,0,none⟩) (my _) _,my _,(by rw [zO bz];rfl),(Rep.keep fun i x hi hx=>by
    have hne:i≠V.heap.size:=by rcases hi with h | h;rcases h.1 with h1 | h1;have:=h1.1;omega;omega;omega
    exact ⟨⟨by rcases hi with h | h;rcases h.1 with h1 | h1;exact .inl h1;exact .inr (by omega);exact .inr (by omega),hne⟩,by rw [(but1 _ _ _).block i (zZ hx) hne];exact hx⟩).2 _ _ (zW.one rD)⟩
 rintro ⟨gg,aq,cq,ar,cr,xx,yy⟩ z hR;have R:Hid (kK (fun i=>i<V.heap.size/\(F i\/W0.heap.size<=i)) V gg (.cells #[.slice xx kt.args.length yy] 42 (0,0)) [ke kt] [.slice xx kt.args.length yy] z):=hR;have HZ:Hid (Below W0.heap.size W0 z/\Below w.heap.size w z):=⟨zzT HV.out.1 R.out.below,zzT HV.out.2 R.out.below⟩;have g0:z.cell? ⟨gg,0,none⟩=some (.slice xx kt.args.length yy):=R.out.cell0;have a8:z.cell? ⟨ga,0,none⟩=some (.slice ta k.args.length tc):=(R.out.below.cell (mx _ _ He)).trans He;have TT:Hid (Rep (fun i=>F i\/W0.heap.size<=i) z (ke kt) (.slice xx kt.args.length yy)):=(zW.get1 R.out.rep).weak fun i h=>by rcases h.1 with h | h;exact h.2;exact .inr (mh HV.out.1.size h)
 have TA2:Hid (Rep (fun i=>F i\/W0.heap.size<=i) z (ke k) (.slice ta k.args.length tc)):=(Rep.below (F':=fun i=>i<V.heap.size/\(F i\/W0.heap.size<=i)) R.out.below (fun _ h=>h) TA.out).weak fun i h=>h.2;have hktl:kt.args.length<=200:=by
  have h:=ge t (ns++[(s1,k)]) (fun a ha=>by
   rw [jS] at ha;rcases Oy.1 ha with ha | ha
   ·have:=um (HP.out.1.n15 a ha);omega
   ·simp at ha;subst ha;have:=um HP.out.2.2.1.1;omega) HP.out.2.2.1.2
  rw [JC.out] at h;simp only at h;omega
 have hrS:=TT.out;rw [q_] at hrS;obtain ⟨news,sD,rO⟩:=zq.ofRep hrS (uR _);have HN:=mj sD;have HSR:=mj rO;have HE:=mj (show zt ns (.lam s1 k t)=(z_ k kt,qt && decide (zJ (z_ k kt)<=15)) by rw [zt,JC.out]);have g0':(z.alloc (.cells #[.slice ta k.args.length tc] 42)).cell? ⟨gg,0,none⟩=some (.slice xx kt.args.length yy):=zV g0;clear hR CW CZ CK2 SV hrS sD rO He;simp only [Act.put,Ok,Oz,OA];go_wp2_with (at_builtin;refine zE rfl _ _ 40 rfl 42 (.agg #[.slice none 0 0]) 1 24 Tryz.underlying40 Tryz.infoS rfl (by decide) _ 1 [.slice ta k.args.length tc] rfl ?c1 _ kt.args.length news rfl ?c2 ?c3 ?c4 ?_)
 case c1=>exact Own.litAt #[.slice ta k.args.length tc] 1 _ (by simp) (by decide) rfl
 case c2=>exact HSR.out.alloc _
 case c3=>unfold maxLen;omega
 case c4=>omega
 intro a' c' w' ho hb hg;have Bj:Below z.heap.size z w':=((mw _ _).alloc (my _) _).trans (hb.toBelow (by simp) fun i hi e=>by simp [Value.ownBlock] at e;omega);have Bg:∀ g,(Value.slice a' (1+kt.args.length) c').ownBlock=some g->z.heap.size<=g:=fun g h=>by
  rcases hg g h with e | e
  ·simp [Value.ownBlock] at e;omega
  ·rw [e];simp
 have hsz:=HZ.out.1.size;have HA:Hid (Rep (fun i=>F i\/W0.heap.size<=i) w' (ke (z_ k kt)) (.slice a' (1+kt.args.length) c')):=by
  show Rep _ _ _ _;rw [q_,show (z_ k kt).args.length=1+kt.args.length from by simp [z_,Ty.args,Nat.add_comm]];refine ho.rep (fun g h=>.inr (mh hsz (Bg g h))) ?_;show zW _ _ (ke k::qA kt.args) _;exact zQ.2 ⟨_,_,rfl,Rep.below Bj (fun _ h=>h) TA2.out,zW.below Bj (fun _ h=>h) HN.out⟩
 have HW':Hid (Below W0.heap.size W0 w'):=zzT HZ.out.1 Bj;clear ho hb hg Bj Bg g0 g0' a8;go_wp2_with fail
 obtain ⟨Y,hY⟩:=zzN (w'.alloc (.cells #[.slice a' (1+kt.args.length) c'] 42));rw [hY];have AU:Below w'.heap.size w' Y:=by rw [<- hY];exact (mw _ _).alloc (my _) _
 obtain ⟨gO,hgO⟩:=zzN (w'.heap.size);have o0:Y.cell? ⟨gO,0,none⟩=some (.slice a' (1+kt.args.length) c'):=by rw [<- hY,<- hgO];simp
 rw [hgO];have hlo:W0.heap.size<=gO:=by rw [<- hgO];exact HW'.out.size
 have Av:Hid (Below W0.heap.size W0 Y):=zzT HW'.out AU;have HYA:Hid (Rep (fun i=>F i\/W0.heap.size<=i) Y (ke (z_ k kt)) (.slice a' (1+kt.args.length) c')):=Rep.below AU (fun _ h=>h) HA.out;have BR:Hid (Y.heap[w.heap.size+1+1]? = some (.cells #[.slice none 0 0] 42 (0,0))):=(Av.out.block _ (zZ H0.out.2.2.2)).trans H0.out.2.2.2;have tZ:Y.drew.frozen? ⟨w.heap.size+1+1,0,none⟩=false:=by show Y.frozen? _=_;simp only [N4,BR.out];rfl
 have lu:Y.drew.cell? ⟨w.heap.size+1+1,0,none⟩=some (.slice none 0 0):=by show Y.cell? _=_;simp only [GD,BR.out];rfl
 have JJ:gO≠w.heap.size+1+1:=by have:=H0.out.2.1;omega
 have eL:1+kt.args.length=(z_ k kt).args.length:=by simp [z_,Ty.args,Nat.add_comm]
 have HEL:=mj eL;clear hY AU hgO HA HW' eL;have Ju:Hid (Rep (fun i=>F i\/W0.heap.size<=i) Y (ke (z_ k kt)) (.slice a' (z_ k kt).args.length c')):=by
  have h:=HYA.out;rw [HEL.out] at h;exact h
 cases qt with
 | false =>
   have rx:=mj (show zt ns (.lam s1 k t)=(z_ k kt,false) by rw [HE.out];rfl);refine wp_region_noPanic ?_;refine zB (fun w'=>w'.cell? ⟨gO,0,none⟩=some (.slice a' (1+kt.args.length) c')) (fun _=>false) (by kernel_rfl) ?_;have mt:(fun w'=>w'.cell? ⟨gO,0,none⟩=some (.slice a' (1+kt.args.length) c')) Y.drew:=o0;refine tk [0,1,2,3,4,5,6] mt ?_;(intro d hd;simp [tkD] at hd;subst hd;simp only [tks,pQ,pZ,pS]);iterate 7 (refine ⟨?_,?_,?_⟩;rotate_left;· (intro oi ho;simp at ho;subst ho;first | (refine RK ⟨by rfl,?_⟩;with_reducible rfl) | (refine RL ⟨by rfl,fun w' nP=>?_⟩;have e0:=nP;go_simp;try with_reducible rfl)))
   refine oC 7 (zx mt JJ) ?_;refine oC 8 (zx mt JJ) ?_;refine zY (by kernel_rfl) (N0 ?_) _;go_wp2_with fail
   obtain ⟨W,hW,s0,nV,nT⟩:=qY (BR.out) (.slice a' (1+kt.args.length) c');rw [<- hW];refine bodyPost_ret (v:=.tuple #[.agg #[.slice a' (1+kt.args.length) c'],.bool false]) (by simp [results,Ot,go_sem,s0]) rfl ?_;rw [rx.out,HEL.out];exact vP (k:=z_ k kt) HP.out.1.old H0.out.1 H0.out.2.1 Av.out Ju.out (fun B w0 h hB=>(nV B w0 h hB).drew) nT
 | true =>
   have oZ:=qV t (ns++[(s1,k)]) kt (fun a ha=>by
    rw [jS] at ha;rcases Oy.1 ha with ha | ha
    ·exact HP.out.1.n15 a ha
    ·simp at ha;subst ha;exact HP.out.2.2.1.1) (by have:=yO (t:=t) (ns:=ns++[(s1,k)]) HP.out.2.2.1.2 (by rw [JC.out]);rwa [JC.out] at this)
   have Bo:zJ (z_ k kt)<=1000:=by have h1:=HP.out.2.2.1.1;have:=xF k kt;omega
   have CS:=mj (fun wz (h:Below Y.heap.size Y wz)=>fi 1000 (z_ k kt) Bo (by unfold Lim;omega) _ wz _ (Rep.below (F':=fun i=>F i\/W0.heap.size<=i) h (fun _ h=>h) HYA.out));clear tZ lu;by_cases nX:zJ (z_ k kt)<=15
   focus
    have rx:=mj (show zt ns (.lam s1 k t)=(z_ k kt,true) by rw [HE.out,decide_eq_true nX];rfl);have h1:decide (((zJ (z_ k kt):Nat):Int)<=15)=true:=decide_eq_true (by omega);clear nX Bo oZ;obtain ⟨A,hA⟩:=zzM (zJ (z_ k kt));rw [<- hA] at h1 CS;clear hA;refine wp_region_noPanic ?_;refine zB (fun w'=>w'.cell? ⟨gO,0,none⟩=some (.slice a' (1+kt.args.length) c')) (fun _=>false) (by kernel_rfl) ?_;have mt:(fun w'=>w'.cell? ⟨gO,0,none⟩=some (.slice a' (1+kt.args.length) c')) Y.drew:=o0;refine tC [0,1,2,3] mt ?_;iterate 4 (refine tl (fun w' nP=>nP) ?_)
    refine tz ?_;(refine on 4 ?_;intro o ho K' hK;simp at ho;subst ho;go_simp);go_at_call 71;(with_reducible refine (CS.out _ (Below.drew (mw Y.heap.size Y))).mono ?_);rintro en v1 ⟨rfl,hb⟩;have tR:Hid (Below Y.heap.size Y v1):=(Below.drew (mw Y.heap.size Y)).trans hb;clear hb;(refine hK.out _ _ (fun _=>(tR.out.cell (mx _ _ o0)).trans o0) ?_;clear hK K';try simp only [pQ,pN,pZ,pS]);have hS4:=(tR.out.cell (mx _ _ o0)).trans o0;have lZ:Hid (v1.heap[w.heap.size+1+1]? = some (.cells #[.slice none 0 0] 42 (0,0))):=(tR.out.block _ (zZ BR.out)).trans BR.out;have aJ:v1.frozen? ⟨w.heap.size+1+1,0,none⟩=false:=by simp only [N4,lZ.out];rfl
    have ou:v1.cell? ⟨w.heap.size+1+1,0,none⟩=some (.slice none 0 0):=by simp only [GD,lZ.out];rfl
    have tg:=(tR.out.cell (mx _ _ o0)).trans o0;refine tC [5,6] hS4 ?_;iterate 2 (refine tx ?_)
    refine tz ?_;refine oC 7 (zx tg JJ) ?_;refine oC 8 (zx tg JJ) ?_;refine zY (by kernel_rfl) (N0 ?_) _;have ll:Hid (Below W0.heap.size W0 v1):=zzT Av.out tR.out;have T2:Hid (Rep (fun i=>F i\/W0.heap.size<=i) v1 (ke (z_ k kt)) (.slice a' (z_ k kt).args.length c')):=Rep.below tR.out (fun _ h=>h) Ju.out;go_wp2_with fail
    obtain ⟨W,hW,s0,nV,nT⟩:=qY (lZ.out) (.slice a' (1+kt.args.length) c');rw [<- hW];refine bodyPost_ret (v:=.tuple #[.agg #[.slice a' (1+kt.args.length) c'],.bool true]) (by simp [results,Ot,go_sem,s0]) rfl ?_
   rotate_left
   focus
    have rx:=mj (show zt ns (.lam s1 k t)=(z_ k kt,false) by rw [HE.out,decide_eq_false nX];rfl);have h1:decide (((zJ (z_ k kt):Nat):Int)<=15)=false:=decide_eq_false (by omega);clear nX Bo oZ;obtain ⟨A,hA⟩:=zzM (zJ (z_ k kt));rw [<- hA] at h1 CS;clear hA;refine wp_region_noPanic ?_;refine zB (fun w'=>w'.cell? ⟨gO,0,none⟩=some (.slice a' (1+kt.args.length) c')) (fun _=>false) (by kernel_rfl) ?_;have mt:(fun w'=>w'.cell? ⟨gO,0,none⟩=some (.slice a' (1+kt.args.length) c')) Y.drew:=o0;refine tC [0,1,2,3] mt ?_;iterate 4 (refine tl (fun w' nP=>nP) ?_)
    refine tz ?_;(refine on 4 ?_;intro o ho K' hK;simp at ho;subst ho;go_simp);go_at_call 71;(with_reducible refine (CS.out _ (Below.drew (mw Y.heap.size Y))).mono ?_);rintro en v1 ⟨rfl,hb⟩;have tR:Hid (Below Y.heap.size Y v1):=(Below.drew (mw Y.heap.size Y)).trans hb;clear hb;(refine hK.out _ _ (fun _=>(tR.out.cell (mx _ _ o0)).trans o0) ?_;clear hK K';try simp only [pQ,pN,pZ,pS]);have hS4:=(tR.out.cell (mx _ _ o0)).trans o0;have lZ:Hid (v1.heap[w.heap.size+1+1]? = some (.cells #[.slice none 0 0] 42 (0,0))):=(tR.out.block _ (zZ BR.out)).trans BR.out;have aJ:v1.frozen? ⟨w.heap.size+1+1,0,none⟩=false:=by simp only [N4,lZ.out];rfl
    have ou:v1.cell? ⟨w.heap.size+1+1,0,none⟩=some (.slice none 0 0):=by simp only [GD,lZ.out];rfl
    have tg:=(tR.out.cell (mx _ _ o0)).trans o0;refine tC [5,6] hS4 ?_;iterate 2 (refine tx ?_)
    refine tz ?_;refine oC 7 (zx tg JJ) ?_;refine oC 8 (zx tg JJ) ?_;refine zY (by kernel_rfl) (N0 ?_) _;have ll:Hid (Below W0.heap.size W0 v1):=zzT Av.out tR.out;have T2:Hid (Rep (fun i=>F i\/W0.heap.size<=i) v1 (ke (z_ k kt)) (.slice a' (z_ k kt).args.length c')):=Rep.below tR.out (fun _ h=>h) Ju.out;go_wp2_with fail
    obtain ⟨W,hW,s0,nV,nT⟩:=qY (lZ.out) (.slice a' (1+kt.args.length) c');rw [<- hW];refine bodyPost_ret (v:=.tuple #[.agg #[.slice a' (1+kt.args.length) c'],.bool false]) (by simp [results,Ot,go_sem,s0]) rfl ?_
   all_goals
    rw [rx.out,HEL.out];exact vP (k:=z_ k kt) HP.out.1.old H0.out.1 H0.out.2.1 ll.out T2.out nV nT
theorem cY (N:Nat):KdSaid N:=by
 induction N with
 | zero=>exact fun F t ns nv tv s pv w h=>by cases t <;> simp only [zT] at h <;> omega
 | succ N ih =>
   intro F t ns nv tv s pv w h hp;cases t with
   | nm x=>exact kd_nm F x ns nv tv s pv w hp
   | wd u=>exact kd_wd F u ns nv tv s pv w hp
   | lam x k t=>exact kd_lam N ih F x k t ns nv tv s pv w h hp
   | app m n=>exact kd_app N ih F m n ns nv tv s pv w h hp
   | ite l m n=>exact kd_ite N ih F l m n ns nv tv s pv w h hp
end Go.Proofs.YtpgiohmcggllgaaGreatDoor

/- Walks of functions that the statement reaches, and plain words. No conditions. -/
import Derived.Test.YtjggkhmojjaomaaGreatDoorQ8
import Derived.Test.YtjggkhmojjaomaaGreatDoorQ10
set_option linter.unusedVariables false
set_option linter.unusedSimpArgs false
set_option maxHeartbeats 4000000
namespace Go.Proofs.YtjggkhmojjaomaaGreatDoor
open Go.RowKit
def v7 (F:Nat->Prop) (w:World) (k:Ty) (q:Bool) (en:Ending) (w':World):Prop :=
 ∃ a c,en=.returned (.tuple #[.agg #[.slice a k.args.length c],.bool q])/\Below w.heap.size w w'/\Rep (fun i=>F i\/w.heap.size<=i) w' (kz k) (.slice a k.args.length c)
structure wF (F:Nat->Prop) (t:Tm) (ns:List Nm) (nv tv s pv:Value) (w:World):Prop where
 old:∀ i,F i->i<w.heap.size
 rt:zX F w (jj (z_ t)) [s,pv]
 rn:Rep F w (.sl 9 1 ns.length (ns.map fun p=>DV.val (str p.1))) nv
 rk:Rep F w (.sl 43 1 ns.length (qH (kinds ns))) tv
 ok:uP t
 sm:kQ t=true
 nm:∀ p∈ns,qG p.1=true
 n15:∀ a∈kinds ns,zV a<=15
 room:ns.length+zM t<=100
def KdSaid (N:Nat):Prop:=∀ (F:Nat->Prop) (t:Tm) (ns:List Nm) (nv tv s pv:Value) (w:World),zM t<=N->wF F t ns nv tv s pv w ->
 Calls Tryz.prog 34 #[.agg #[nv,tv],.agg #[s,pv]] w (v7 F w (zh ns t).1 (zh ns t).2)
theorem yL (w:World) (A B C:Obj):Below w.heap.size w (((w.alloc A).alloc B).alloc C)/\(((w.alloc A).alloc B).alloc C).heap.size=w.heap.size+1+1+1/\(((w.alloc A).alloc B).alloc C).heap[w.heap.size]? = some A/\(((w.alloc A).alloc B).alloc C).heap[w.heap.size+1]? = some B/\(((w.alloc A).alloc B).alloc C).heap[w.heap.size+1+1]? = some C:=by
 refine ⟨(((e_ _ _).alloc (ei _) _).alloc (by rw [zK];omega) _).alloc (by rw [zK,zK];omega) _,by rw [zK,zK,zK],zY (zY (zG _ _)),?_,?_⟩
 ·have h:=zG (w.alloc A) B
  rw [zK] at h
  exact zY h
 ·have h:=zG ((w.alloc A).alloc B) C
  rwa [zK,zK] at h
theorem jm {F:Nat->Prop} {w W0 Z W:World} {k:Ty} {q:Bool} {a:Option Addr} {c:Nat} (hF:∀ i,F i->i<w.heap.size) (h0:Below w.heap.size w W0) (hz:W0.heap.size=w.heap.size+1+1+1) (hb:Below W0.heap.size W0 Z) (hr:Rep (fun i=>F i\/W0.heap.size<=i) Z (kz k) (.slice a k.args.length c))
 (fD:∀ B w0,Below B w0 Z->B<=w.heap.size+1+1->Below B w0 W) (fO:∀ i x,i≠w.heap.size+1+1->Z.heap[i]? = some x->W.heap[i]? = some x):v7 F w k q (.returned (.tuple #[.agg #[.slice a k.args.length c],.bool q])) W :=
 ⟨a,c,rfl,fD _ _ (zzT h0 hb) (by omega),(Rep.keep fun i x hi hx=>⟨hi.elim .inl (fun h=>.inr (by omega)),fO i x (by rcases hi with h | h;have:=hF i h;omega;omega) hx⟩).1 _ _ hr⟩
theorem zI {w:World} {b c o:Nat} {u v:Value} (h:w.cell? ⟨b,0,none⟩=some u) (hb:b≠c):(w.setCell ⟨c,o,none⟩ v).cell? ⟨b,0,none⟩=some u :=
 (World.cell?_of_block (fZ _ _ _ _ (by simpa using hb))).trans h
def FoundR (ns:List Nm) (x:Bs) (k:Nat):Prop:=jQ ns x=qJ ns x k
set_option maxRecDepth 100000 in
theorem kd_nm (F:Nat->Prop) (x:Bs) (ns:List Nm) (nv tv s pv:Value) (w:World) (hp:wF F (.nm x) ns nv tv s pv w):Calls Tryz.prog 34 #[.agg #[nv,tv],.agg #[s,pv]] w (v7 F w (zh ns (.nm x)).1 (zh ns (.nm x)).2):=by
 have hold:=hp.old
 obtain ⟨na,nc,rfl,_,_,mz⟩:=zP hp.rn
 obtain ⟨ka,kc,rfl,_,_,mn⟩:=zP hp.rk
 have fa:=hp.rt
 rw [z_] at fa
 obtain ⟨qa,qc,e,fA⟩:=qO fa
 simp only [qQ,qd,List.cons.injEq,and_true] at e fA
 obtain ⟨rfl,rfl⟩:=e
 have i8:x≠[]:=(yD hp.ok).1
 have hxt:(x == [116])=false:=by rw [beq_eq_false_iff_ne];rintro rfl;have h:=hp.ok;exact absurd (show qG [116]=true from h) (by decide)
 have hxf:(x == [102])=false:=by rw [beq_eq_false_iff_ne];rintro rfl;have h:=hp.ok;exact absurd (show qG [102]=true from h) (by decide)
 have hxu:(x == [117])=false:=by rw [beq_eq_false_iff_ne];rintro rfl;have h:=hp.ok;exact absurd (show qG [117]=true from h) (by decide)
 obtain ⟨W0,ff⟩:=zzM (((w.alloc (.cells #[.slice na ns.length nc,.slice ka ns.length kc] 53)).alloc (.cells #[str x,.slice qa 0 qc] 40)).alloc (.cells #[.slice none 0 0] 43))
 obtain ⟨fq,z0,bA,bB,bC⟩:=yL w (.cells #[.slice na ns.length nc,.slice ka ns.length kc] 53) (.cells #[str x,.slice qa 0 qc] 40) (.cells #[.slice none 0 0] 43)
 rw [<- ff] at fq z0 bA bB bC
 have e0:W0.cell? ⟨w.heap.size,0,none⟩=some (.slice na ns.length nc):=by simp [World.cell?,bA]
 have e1:W0.cell? ⟨w.heap.size,1,none⟩=some (.slice ka ns.length kc):=by simp [World.cell?,bA]
 have t0:W0.cell? ⟨w.heap.size+1,0,none⟩=some (str x):=by simp [World.cell?,bB]
 have H0:=ed (ef fq (ef z0 bC))
 have hne:(x != [])=true:=by rw [bne_iff_ne];exact i8
 have AB:(!x.isEmpty)=true:=by cases x with | nil=>exact absurd rfl i8 | cons a b=>rfl
 have iT:x.isEmpty=false:=by cases x with | nil=>exact absurd rfl i8 | cons a b=>rfl
 have AN:=ed mz
 have AK:=ed mn
 have iY:ns.length<=100:=by have:=hp.room;omega
 have HP:=ed hp
 clear mz mn fq z0 bA bB bC hp
 go_enter Tryz.func34,Tryz.ntmps34
 go_wp2_with fail
 rw [<- ff]
 clear ff
 go_loopw [6] (fun i wz=>∃ (k:Nat) (wr:World),wr=wz/\k<=ns.length/\i=.int .i64 ((k:Int)-1)/\FoundR ns x k/\Below W0.heap.size W0 wr) (fun i _=>(intOf i+1).toNat)
 case atStart=>exact ⟨ns.length,_,rfl,ei _,rfl,rfl,e_ _ _⟩
 case round =>
  obtain ⟨k,wr,ewr,hk,rfl,hf,n7⟩:=hrel
  subst ewr
  have e0':=(n7.cell (e9 W0 _ e0)).trans e0
  have e1':=(n7.cell (e9 W0 _ e1)).trans e1
  have El:=(n7.cell (e9 W0 _ t0)).trans t0
  have BR:wr.heap[w.heap.size+1+1]? = some (.cells #[.slice none 0 0] 43 (0,0)):=(n7.block _ (zZ H0.out.2.2)).trans H0.out.2.2
  have Aq:=ed BR
  have HB:=ed n7
  have fL:=ed (zzT H0.out.1 n7)
  have mg:wr.frozen? ⟨w.heap.size+1+1,0,none⟩=false:=by simp only [World.frozen?,BR];rfl
  have tN:wr.cell? ⟨w.heap.size+1+1,0,none⟩=some (.slice none 0 0):=by simp only [World.cell?,BR];rfl
  clear n7 e0 e1 t0 BR
  cases k with
  | zero =>
    have hz:((0:Nat):Int)-1 = -1:=rfl
    rw [hz]
    have HN:=ed (show jQ ns x=none from hf)
    clear hf hz
    have HE:=ed (show zh ns (.nm x)=(.mk [],false) by rw [zh,HN.out];rfl)
    have nD:wr.drew.frozen? ⟨w.heap.size+1+1,0,none⟩=false:=mg
    have aC:wr.drew.cell? ⟨w.heap.size+1+1,0,none⟩=some (.slice none 0 0):=tN
    go_wp2_with fail
    refine wp_region_noPanic ?_
    refine zB (fun w'=>w'.cell? ⟨w.heap.size+1,0,none⟩=some (str x)) (fun _=>false) (by kernel_rfl) ?_
    have fV:(fun w'=>w'.cell? ⟨w.heap.size+1,0,none⟩=some (str x)) wr.drew:=El
    refine tk [0,1,2,3,4,5,6,7,8,9,10,11,12,13] fV ?_
    (intro d hd;simp [tkD] at hd;subst hd;simp only [tks,pQ,pZ,pS])
    iterate 14 (refine ⟨?_,?_,?_⟩;rotate_left;· (intro oi ho;simp at ho;subst ho;refine Or.inl ⟨by rfl,fun w' fB=>?_⟩;have e2:=fB;go_simp;try with_reducible rfl))
    (refine on 14 ?_;intro o ho K' hK;simp at ho;subst ho;go_simp)
    (refine hK.out _ _ (fun _=>zI fV (by omega)) ?_;clear hK K';try simp only [pQ,pN,pZ,pS])
    (refine on 15 ?_;intro o ho K' hK;simp at ho;subst ho;go_simp)
    (refine hK.out _ _ (fun _=>zI fV (by omega)) ?_;clear hK K';try simp only [pQ,pN,pZ,pS])
    refine zU (by kernel_rfl) (NoPanic.normal ?_) _
    go_wp2_with fail
    obtain ⟨W,hW,s0,fD,fO⟩:=k_ (Aq.out) (.slice none 0 0)
    rw [<- hW]
    refine bodyPost_ret (v:=.tuple #[.agg #[.slice none 0 0],.bool false]) (by simp [results,Tryz.results34,go_sem,s0]) rfl ?_
    rw [HE.out]
    exact jm (k:=.mk []) HP.out.old H0.out.1 H0.out.2.1 HB.out (zp.2 ⟨rfl,none,0,rfl,ei _,fun _=>rfl,.inl rfl⟩) (fun B w0 h hB=>(fD B w0 h hB).drew) fO
  | succ j =>
    have hj:j<ns.length:=by omega
    rw [show ((j+1:Nat):Int)-1=(j:Int) from by omega]
    obtain ⟨nb,no,nu,nd,e,_,FR,A3,aR,tA⟩:=AN.out j hj
    subst e
    rw [List.getElem?_map,Option.map_eq_some_iff] at A3
    obtain ⟨⟨y,t⟩,hy,rfl⟩:=A3
    rw [zH] at tA
    subst tA
    have q0:wr.cell? ⟨nb,no+j,none⟩=some (str y):=(fL.out.cell (p:=⟨nb,no+j,none⟩) FR).trans aR
    have Jn:(j:Int)<(ns.length:Int):=by omega
    have fj:qJ ns x (j+1)=if y=x then some j else qJ ns x j:=by
     rw [qJ,hy];simp
    by_cases aE:y=x
    ·subst aE
     have q:(y == y)=true:=by simp
     have HS:=ed (show jQ ns y=some j by rw [show jQ ns y=qJ ns y (j+1) from hf,fj,if_pos rfl])
     obtain ⟨kb,ko,ku,kd,e,_,nT,ib,AD,iX⟩:=AK.out j hj
     subst e
     rw [vj,Option.map_eq_some_iff] at ib
     obtain ⟨t2,FC,rfl⟩:=ib
     have et:t2=t:=by rw [uK hy] at FC;exact (Option.some.inj FC).symm
     subst et
     obtain ⟨xa,xc,rfl⟩:=kK iX
     have q1:wr.cell? ⟨kb,ko+j,none⟩=some (.slice xa t2.args.length xc):=(fL.out.cell (p:=⟨kb,ko+j,none⟩) nT).trans AD
     have HK:=ed iX
     have HE:=ed (show zh ns (.nm y)=(t2,true) by rw [zh,HS.out,Option.bind_some,hy];rfl)
     clear hf fj hy aR AD iX FC
     go_wp2_with fail
     go_region
     go_wp2_with fail
     obtain ⟨W,hW,s0,fD,fO⟩:=k_ (Aq.out) (.slice xa t2.args.length xc)
     rw [<- hW]
     refine bodyPost_ret (v:=.tuple #[.agg #[.slice xa t2.args.length xc],.bool true]) (by simp [results,Tryz.results34,go_sem,s0]) rfl ?_
     rw [HE.out]
     exact jm HP.out.old H0.out.1 H0.out.2.1 HB.out (Rep.below fL.out (fun _ h=>.inl h) HK.out) (fun B w0 h hB=>(fD B w0 h hB).drew) fO
    ·have q:(y == x)=false:=by rw [beq_eq_false_iff_ne];exact aE
     have HS:=ed (show jQ ns x=qJ ns x j by rw [show jQ ns x=qJ ns x (j+1) from hf,fj,if_neg aE])
     clear hf fj hy aE aR
     go_wp2_with fail
     go_region
     go_wp2_with fail
     go_round
     case rel=>exact ⟨j,_,rfl,by omega,by go_num,HS.out,HB.out.drew⟩
     case measure=>simp only [intOf];omega
set_option maxRecDepth 100000 in
theorem kd_wd (F:Nat->Prop) (x:Bs) (ns:List Nm) (nv tv s pv:Value) (w:World) (hp:wF F (.wd x) ns nv tv s pv w):Calls Tryz.prog 34 #[.agg #[nv,tv],.agg #[s,pv]] w (v7 F w (zh ns (.wd x)).1 (zh ns (.wd x)).2):=by
 have hold:=hp.old
 obtain ⟨na,nc,rfl,_,_,mz⟩:=zP hp.rn
 obtain ⟨ka,kc,rfl,_,_,mn⟩:=zP hp.rk
 have fa:=hp.rt
 rw [z_] at fa
 obtain ⟨qa,qc,e,fA⟩:=qO fa
 simp only [qQ,qd,List.cons.injEq,and_true] at e fA
 obtain ⟨rfl,rfl⟩:=e
 have i8:x≠[]:=(xh hp.ok).1
 have FX:x=[116]\/x=[102]\/x=[117]:=by
  have h:qy x=true:=hp.ok
  simp only [qy,Bool.or_eq_true,beq_iff_eq] at h
  rcases h with (h | h) | h
  ·exact .inl h
  ·exact .inr (.inl h)
  ·exact .inr (.inr h)
 obtain ⟨W0,ff⟩:=zzM (((w.alloc (.cells #[.slice na ns.length nc,.slice ka ns.length kc] 53)).alloc (.cells #[str x,.slice qa 0 qc] 40)).alloc (.cells #[.slice none 0 0] 43))
 obtain ⟨fq,z0,bA,bB,bC⟩:=yL w (.cells #[.slice na ns.length nc,.slice ka ns.length kc] 53) (.cells #[str x,.slice qa 0 qc] 40) (.cells #[.slice none 0 0] 43)
 rw [<- ff] at fq z0 bA bB bC
 have e0:W0.cell? ⟨w.heap.size,0,none⟩=some (.slice na ns.length nc):=by simp [World.cell?,bA]
 have e1:W0.cell? ⟨w.heap.size,1,none⟩=some (.slice ka ns.length kc):=by simp [World.cell?,bA]
 have t0:W0.cell? ⟨w.heap.size+1,0,none⟩=some (str x):=by simp [World.cell?,bB]
 have H0:=ed (ef fq (ef z0 bC))
 have hne:(x != [])=true:=by rw [bne_iff_ne];exact i8
 have AB:(!x.isEmpty)=true:=by cases x with | nil=>exact absurd rfl i8 | cons a b=>rfl
 have iT:x.isEmpty=false:=by cases x with | nil=>exact absurd rfl i8 | cons a b=>rfl
 have AN:=ed mz
 have AK:=ed mn
 have iY:ns.length<=100:=by have:=hp.room;omega
 have HP:=ed hp
 clear mz mn fq z0 bA bB bC hp
 go_enter Tryz.func34,Tryz.ntmps34
 go_wp2_with fail
 rw [<- ff]
 clear ff
 go_loopw [6] (fun i wz=>∃ (k:Nat) (wr:World),wr=wz/\k<=ns.length/\i=.int .i64 ((k:Int)-1)/\FoundR ns x k/\Below W0.heap.size W0 wr) (fun i _=>(intOf i+1).toNat)
 case atStart=>exact ⟨ns.length,_,rfl,ei _,rfl,rfl,e_ _ _⟩
 case round =>
  obtain ⟨k,wr,ewr,hk,rfl,hf,n7⟩:=hrel
  subst ewr
  have e0':=(n7.cell (e9 W0 _ e0)).trans e0
  have e1':=(n7.cell (e9 W0 _ e1)).trans e1
  have El:=(n7.cell (e9 W0 _ t0)).trans t0
  have BR:wr.heap[w.heap.size+1+1]? = some (.cells #[.slice none 0 0] 43 (0,0)):=(n7.block _ (zZ H0.out.2.2)).trans H0.out.2.2
  have Aq:=ed BR
  have HB:=ed n7
  have fL:=ed (zzT H0.out.1 n7)
  have mg:wr.frozen? ⟨w.heap.size+1+1,0,none⟩=false:=by simp only [World.frozen?,BR];rfl
  have tN:wr.cell? ⟨w.heap.size+1+1,0,none⟩=some (.slice none 0 0):=by simp only [World.cell?,BR];rfl
  clear n7 e0 e1 t0 BR
  cases k with
  | zero =>
    have hz:((0:Nat):Int)-1 = -1:=rfl
    rw [hz]
    have HN:=ed (show jQ ns x=none from hf)
    clear hf hz
    have HE:=ed (show zh ns (.wd x)=(.mk [],true) by rw [zh])
    clear i8 hne AB iT HN
    rcases FX with rfl | rfl | rfl
    ·have nD:wr.drew.frozen? ⟨w.heap.size+1+1,0,none⟩=false:=mg
     have aC:wr.drew.cell? ⟨w.heap.size+1+1,0,none⟩=some (.slice none 0 0):=tN
     go_wp2_with fail
     refine wp_region_noPanic ?_
     refine zB (fun w'=>w'.cell? ⟨w.heap.size+1,0,none⟩=some (str [116])) (fun _=>false) (by kernel_rfl) ?_
     have fV:(fun w'=>w'.cell? ⟨w.heap.size+1,0,none⟩=some (str [116])) wr.drew:=El
     refine tk [0,1,2,3,4,5,6,7,8,9,10,11,12,13] fV ?_
     (intro d hd;simp [tkD] at hd;subst hd;simp only [tks,pQ,pZ,pS])
     iterate 14 (refine ⟨?_,?_,?_⟩;rotate_left;· (intro oi ho;simp at ho;subst ho;first | (refine Or.inr ⟨by rfl,?_⟩;with_reducible rfl) | (refine Or.inl ⟨by rfl,fun w' fB=>?_⟩;have e2:=fB;go_simp;try with_reducible rfl)))
     (refine on 14 ?_;intro o ho K' hK;simp at ho;subst ho;go_simp)
     (refine hK.out _ _ (fun _=>zI fV (by omega)) ?_;clear hK K';try simp only [pQ,pN,pZ,pS])
     (refine on 15 ?_;intro o ho K' hK;simp at ho;subst ho;go_simp)
     (refine hK.out _ _ (fun _=>zI fV (by omega)) ?_;clear hK K';try simp only [pQ,pN,pZ,pS])
     refine zU (by kernel_rfl) (NoPanic.normal ?_) _
     go_wp2_with fail
     obtain ⟨W,hW,s0,fD,fO⟩:=k_ (Aq.out) (.slice none 0 0)
     rw [<- hW]
     refine bodyPost_ret (v:=.tuple #[.agg #[.slice none 0 0],.bool true]) (by simp [results,Tryz.results34,go_sem,s0]) rfl ?_
     rw [HE.out]
     exact jm (k:=.mk []) HP.out.old H0.out.1 H0.out.2.1 HB.out (zp.2 ⟨rfl,none,0,rfl,ei _,fun _=>rfl,.inl rfl⟩) (fun B w0 h hB=>(fD B w0 h hB).drew) fO
    ·have nD:wr.drew.frozen? ⟨w.heap.size+1+1,0,none⟩=false:=mg
     have aC:wr.drew.cell? ⟨w.heap.size+1+1,0,none⟩=some (.slice none 0 0):=tN
     go_wp2_with fail
     refine wp_region_noPanic ?_
     refine zB (fun w'=>w'.cell? ⟨w.heap.size+1,0,none⟩=some (str [102])) (fun _=>false) (by kernel_rfl) ?_
     have fV:(fun w'=>w'.cell? ⟨w.heap.size+1,0,none⟩=some (str [102])) wr.drew:=El
     refine tk [0,1,2,3,4,5,6,7,8,9,10,11,12,13] fV ?_
     (intro d hd;simp [tkD] at hd;subst hd;simp only [tks,pQ,pZ,pS])
     iterate 14 (refine ⟨?_,?_,?_⟩;rotate_left;· (intro oi ho;simp at ho;subst ho;first | (refine Or.inr ⟨by rfl,?_⟩;with_reducible rfl) | (refine Or.inl ⟨by rfl,fun w' fB=>?_⟩;have e2:=fB;go_simp;try with_reducible rfl)))
     (refine on 14 ?_;intro o ho K' hK;simp at ho;subst ho;go_simp)
     (refine hK.out _ _ (fun _=>zI fV (by omega)) ?_;clear hK K';try simp only [pQ,pN,pZ,pS])
     (refine on 15 ?_;intro o ho K' hK;simp at ho;subst ho;go_simp)
     (refine hK.out _ _ (fun _=>zI fV (by omega)) ?_;clear hK K';try simp only [pQ,pN,pZ,pS])
     refine zU (by kernel_rfl) (NoPanic.normal ?_) _
     go_wp2_with fail
     obtain ⟨W,hW,s0,fD,fO⟩:=k_ (Aq.out) (.slice none 0 0)
     rw [<- hW]
     refine bodyPost_ret (v:=.tuple #[.agg #[.slice none 0 0],.bool true]) (by simp [results,Tryz.results34,go_sem,s0]) rfl ?_
     rw [HE.out]
     exact jm (k:=.mk []) HP.out.old H0.out.1 H0.out.2.1 HB.out (zp.2 ⟨rfl,none,0,rfl,ei _,fun _=>rfl,.inl rfl⟩) (fun B w0 h hB=>(fD B w0 h hB).drew) fO
    ·have nD:wr.drew.frozen? ⟨w.heap.size+1+1,0,none⟩=false:=mg
     have aC:wr.drew.cell? ⟨w.heap.size+1+1,0,none⟩=some (.slice none 0 0):=tN
     go_wp2_with fail
     refine wp_region_noPanic ?_
     refine zB (fun w'=>w'.cell? ⟨w.heap.size+1,0,none⟩=some (str [117])) (fun _=>false) (by kernel_rfl) ?_
     have fV:(fun w'=>w'.cell? ⟨w.heap.size+1,0,none⟩=some (str [117])) wr.drew:=El
     refine tk [0,1,2,3,4,5,6,7,8,9,10,11,12,13] fV ?_
     (intro d hd;simp [tkD] at hd;subst hd;simp only [tks,pQ,pZ,pS])
     iterate 14 (refine ⟨?_,?_,?_⟩;rotate_left;· (intro oi ho;simp at ho;subst ho;refine Or.inl ⟨by rfl,fun w' fB=>?_⟩;have e2:=fB;go_simp;try with_reducible rfl))
     (refine on 14 ?_;intro o ho K' hK;simp at ho;subst ho;go_simp)
     (refine hK.out _ _ (fun _=>zI fV (by omega)) ?_;clear hK K';try simp only [pQ,pN,pZ,pS])
     (refine on 15 ?_;intro o ho K' hK;simp at ho;subst ho;go_simp)
     (refine hK.out _ _ (fun _=>zI fV (by omega)) ?_;clear hK K';try simp only [pQ,pN,pZ,pS])
     refine zU (by kernel_rfl) (NoPanic.normal ?_) _
     go_wp2_with fail
     obtain ⟨W,hW,s0,fD,fO⟩:=k_ (Aq.out) (.slice none 0 0)
     rw [<- hW]
     refine bodyPost_ret (v:=.tuple #[.agg #[.slice none 0 0],.bool true]) (by simp [results,Tryz.results34,go_sem,s0]) rfl ?_
     rw [HE.out]
     exact jm (k:=.mk []) HP.out.old H0.out.1 H0.out.2.1 HB.out (zp.2 ⟨rfl,none,0,rfl,ei _,fun _=>rfl,.inl rfl⟩) (fun B w0 h hB=>(fD B w0 h hB).drew) fO
  | succ j =>
    have hj:j<ns.length:=by omega
    rw [show ((j+1:Nat):Int)-1=(j:Int) from by omega]
    obtain ⟨nb,no,nu,nd,e,_,FR,A3,aR,tA⟩:=AN.out j hj
    subst e
    rw [List.getElem?_map,Option.map_eq_some_iff] at A3
    obtain ⟨⟨y,t⟩,hy,rfl⟩:=A3
    rw [zH] at tA
    subst tA
    have q0:wr.cell? ⟨nb,no+j,none⟩=some (str y):=(fL.out.cell (p:=⟨nb,no+j,none⟩) FR).trans aR
    have Jn:(j:Int)<(ns.length:Int):=by omega
    have fj:qJ ns x (j+1)=if y=x then some j else qJ ns x j:=by
     rw [qJ,hy];simp
    have aE:y≠x:=by
     rintro rfl
     have h1:=HP.out.nm (y,t) (List.mem_of_getElem? hy)
     have h2:=yw (show qy y=true from HP.out.ok)
     rw [show qG y=true from h1] at h2;exact absurd h2 (by decide)
    have q:(y == x)=false:=by rw [beq_eq_false_iff_ne];exact aE
    have HS:=ed (show jQ ns x=qJ ns x j by rw [show jQ ns x=qJ ns x (j+1) from hf,fj,if_neg aE])
    clear hf fj hy aE aR
    go_wp2_with fail
    go_region
    go_wp2_with fail
    go_round
    case rel=>exact ⟨j,_,rfl,by omega,by go_num,HS.out,HB.out.drew⟩
    case measure=>simp only [intOf];omega
theorem zX.get1 {F:Nat->Prop} {w:World} {d:DV} {v:Value} (h:zX F w [d] [v]):Rep F w d v:=by
 obtain ⟨_,_,e,h1,_⟩:=zQ.1 h
 simp only [List.cons.injEq] at e
 rw [e.1];exact h1
theorem Rep_sl1_tailR {F:Nat->Prop} {w:World} {e:TypeId} {n b o cap:Nat} {d:DV} {ds:List DV} (h:Rep F w (.sl e 1 (n+1) (d::ds)) (.slice (some ⟨b,o,none⟩) (n+1) cap)) :
 Rep F w (.sl e 1 n ds) (.slice (some ⟨b,o+1,none⟩) n (cap-1)):=by
 rw [zp] at h ⊢
 obtain ⟨hl,a,c,e1,hn,hz,h⟩:=h
 simp only [Value.slice.injEq] at e1
 obtain ⟨rfl,_,rfl⟩:=e1
 refine ⟨by simpa using hl,_,_,rfl,by omega,fun h=>by simp at h,.inr ?_⟩
 rcases h with h0 | ⟨b',o',cs,fr,e2,hb,hcs,hr⟩
 ·omega
 simp only [Option.some.injEq,Addr.mk.injEq,and_true] at e2
 obtain ⟨rfl,rfl⟩:=e2
 refine ⟨_,_,cs,fr,rfl,hb,hcs,?_⟩
 have h2:=hr
 rw [zQ] at h2
 obtain ⟨v,vs,e3,_,h4⟩:=h2
 have:vs=List.take (n*1) (List.drop (o+1) cs.toList):=by
  have h5:=congrArg (List.drop 1) e3
  rw [List.drop_take,List.drop_drop] at h5
  simpa using h5.symm
 rw [<- this];exact h4
theorem encS_tail {F:Nat->Prop} {w:World} {c:Ty} {cs:List Ty} {b o cap:Nat} (h:Rep F w (.sl 43 1 (cs.length+1) (qH (c::cs))) (.slice (some ⟨b,o,none⟩) (cs.length+1) cap)):Rep F w (kz (.mk cs)) (.slice (some ⟨b,o+1,none⟩) cs.length (cap-1)):=by
 rw [qv]
 exact Rep_sl1_tailR (d:=kz c) h
set_option maxRecDepth 100000 in
theorem kd_app (N:Nat) (ih:KdSaid N) (F:Nat->Prop) (m n:Tm) (ns:List Nm) (nv tv s pv:Value) (w:World) (hN:zM (.app m n)<=N+1) (hp:wF F (.app m n) ns nv tv s pv w):Calls Tryz.prog 34 #[.agg #[nv,tv],.agg #[s,pv]] w (v7 F w (zh ns (.app m n)).1 (zh ns (.app m n)).2):=by
 have hold:=hp.old
 obtain ⟨na,nc,rfl,_,_,mz⟩:=zP hp.rn
 obtain ⟨ka,kc,rfl,_,_,mn⟩:=zP hp.rk
 have fa:=hp.rt
 rw [z_] at fa
 obtain ⟨qa,qc,e,fA⟩:=qO fa
 simp only [qQ,qd,List.cons.injEq,and_true] at e fA
 obtain ⟨rfl,rfl⟩:=e
 obtain ⟨_,_,e,fU⟩:=ud.of fA
 simp only [Value.slice.injEq,true_and] at e
 obtain ⟨rfl,rfl⟩:=e
 obtain ⟨fT,fS,s1,a1,n1,c1,d1,tp,mL,sJ,sU,iE,rH,As,Br⟩:=fU 1 (by simp)
 simp only [List.getElem?_cons_zero,List.getElem?_cons_succ,Option.some.injEq] at sJ
 subst sJ
 subst tp
 obtain ⟨Fs,Fq,s2,a2,n2,c2,d2,tw,i2,tx,tg,iD,sf,Bj,Bq⟩:=fU 2 (by simp)
 simp only [List.getElem?_cons_zero,List.getElem?_cons_succ,Option.some.injEq] at tx
 subst tx
 simp only [Option.some.injEq,Addr.mk.injEq,and_true] at tw
 obtain ⟨rfl,rfl⟩:=tw
 have fg:=hp.room
 have fw:=hp.ok
 have mO:=hp.sm
 rw [zM] at fg hN
 rw [kQ] at mO
 simp only [Bool.and_eq_true] at mO
 obtain ⟨W0,ff⟩:=zzM (((w.alloc (.cells #[.slice na ns.length nc,.slice ka ns.length kc] 53)).alloc (.cells #[str [],.slice (some ⟨fT,fS,none⟩) 3 qc] 40)).alloc (.cells #[.slice none 0 0] 43))
 obtain ⟨fq,z0,bA,bB,bC⟩:=yL w (.cells #[.slice na ns.length nc,.slice ka ns.length kc] 53) (.cells #[str [],.slice (some ⟨fT,fS,none⟩) 3 qc] 40) (.cells #[.slice none 0 0] 43)
 rw [<- ff] at fq z0 bA bB bC
 have CH:=ed (show Calls Tryz.prog 37 #[.agg #[str [],.slice (some ⟨fT,fS,none⟩) 3 qc]] W0 (fun en w'=>en=.returned (str (yM (z_ (.app m n))))/\Below W0.heap.size W0 w') from uG (z_ (.app m n)) (j_ _ hp.ok) F W0 _ _ (zX.below fq (fun _ h=>h) hp.rt))
 have Cp:yM (z_ (.app m n))=[97,112,112]:=by rw [z_];rfl
 rw [Cp] at CH
 have H0:=ed (ef fq (ef z0 (ef bA bC)))
 obtain ⟨km,qm,oP⟩:∃ k q,zh ns m=(k,q):=⟨_,_,rfl⟩
 have Cm:Hid (∀ wz,Below w.heap.size w wz->Calls Tryz.prog 34 #[.agg #[.slice na ns.length nc,.slice ka ns.length kc],.agg #[str s1,.slice a1 n1 c1]] wz (v7 F wz km qm)):=by
  show ∀ wz,_->_
  intro wz hz
  have h:=ih F m ns _ _ _ _ wz (by omega) ⟨fun i h=>fK (hp.old i h) hz.size,zX.below hz (fun _ h=>h) rH,Rep.below hz (fun _ h=>h) hp.rn,Rep.below hz (fun _ h=>h) hp.rk,fw.1,mO.1,hp.nm,hp.n15,by omega⟩
  rw [oP] at h
  exact h
 obtain ⟨kn,qn,ah⟩:∃ k q,zh ns n=(k,q):=⟨_,_,rfl⟩
 have Cn:Hid (∀ wz,Below w.heap.size w wz->Calls Tryz.prog 34 #[.agg #[.slice na ns.length nc,.slice ka ns.length kc],.agg #[str s2,.slice a2 n2 c2]] wz (v7 F wz kn qn)):=by
  show ∀ wz,_->_
  intro wz hz
  have h:=ih F n ns _ _ _ _ wz (by omega) ⟨fun i h=>fK (hp.old i h) hz.size,zX.below hz (fun _ h=>h) sf,Rep.below hz (fun _ h=>h) hp.rn,Rep.below hz (fun _ h=>h) hp.rk,fw.2,mO.2,hp.nm,hp.n15,by omega⟩
  rw [ah] at h
  exact h
 have e0:W0.cell? ⟨w.heap.size,0,none⟩=some (.slice na ns.length nc):=by simp [World.cell?,bA]
 have e1:W0.cell? ⟨w.heap.size,1,none⟩=some (.slice ka ns.length kc):=by simp [World.cell?,bA]
 have SX:Hid (∀ w',Below W0.heap.size W0 w'->w'.cell? ⟨w.heap.size,0,none⟩=some (.slice na ns.length nc)/\w'.cell? ⟨w.heap.size,1,none⟩=some (.slice ka ns.length kc)/\w'.cell? ⟨fT,fS+2,none⟩=some (str s1)/\w'.cell? ⟨fT,fS+3,none⟩=some (.slice a1 n1 c1)/\w'.cell? ⟨fT,fS+4,none⟩=some (str s2)/\w'.cell? ⟨fT,fS+5,none⟩=some (.slice a2 n2 c2)):=by
  show ∀ w',_->_
  intro w' fN
  have fc:=zzT fq fN
  exact ⟨(fN.cell (e9 W0 _ e0)).trans e0,(fN.cell (e9 W0 _ e1)).trans e1,(fc.cell (p:=⟨fT,fS+2,none⟩) mL).trans sU,(fc.cell (p:=⟨fT,fS+3,none⟩) mL).trans iE,(fc.cell (p:=⟨fT,fS+4,none⟩) mL).trans tg,(fc.cell (p:=⟨fT,fS+5,none⟩) mL).trans iD⟩
 have HP:=ed (ef hp (ef fw mO))
 clear mz mn fA fU fa hp fw mO ih hN fq z0 bA bB bC e0 e1 rH sU iE As Br sf tg iD Bj Bq
 clear mL
 clear i2
 go_enter Tryz.func34,Tryz.ntmps34
 go_wp2_with fail
 rw [<- ff]
 clear ff
 (with_reducible refine CH.out.mono ?_)
 rintro en w1 ⟨rfl,fP⟩
 have H1:=ed (ef fP (zzT H0.out.1 fP))
 clear fP CH
 go_wp2_with fail
 have GF:=H1
 have CRm:=ed (fun wz (hz:Below w1.heap.size w1 wz)=>Cm.out wz (H1.out.2.trans (hz.mono (H1.out.2).size)))
 have Gs:Hid (∀ i,F i->i<w1.heap.size):=fun i h=>fK (HP.out.1.old i h) (H1.out.2).size
 refine jR (X:=Nat×Option Addr×Nat) (fun a x=>((((((((((a.put (some 105) (.agg #[.slice na ns.length nc,.slice ka ns.length kc])).put (some 106) (.slice (some ⟨fT,fS,none⟩) 3 qc)).put (some 107) (.pointer (some ⟨fT,fS+2,none⟩))).put (some 108) (.agg #[str s1,.slice a1 n1 c1])).put (some 109) (.tuple #[.agg #[.slice x.2.1 km.args.length x.2.2],.bool qm])).put (some 104) (.tuple #[.agg #[.slice x.2.1 km.args.length x.2.2],.bool qm])).put (some 110) (.agg #[.slice x.2.1 km.args.length x.2.2])).put (some 111) (.bool qm)).put (some 13) (.pointer (some ⟨x.1,0,none⟩))).put (some 14) (.bool qm))) (fun x w'=>z8 F w1 x.1 (.cells #[.slice x.2.1 km.args.length x.2.2] 43 (0,0)) [kz km] [.slice x.2.1 km.args.length x.2.2] w') ?_ ?_
 ·refine wp_region_noPanic ?_
  refine zB (fun w'=>Below w1.heap.size w1 w') (fun _=>false) (by kernel_rfl) ?_
  have fV:(fun w'=>Below w1.heap.size w1 w') w1.drew:=Below.drew (e_ _ _)
  refine tk [0,1,2,3] fV ?_
  (intro d hd;simp [tkD] at hd;subst hd;simp only [tks,pQ,pZ,pS])
  iterate 4 (refine ⟨?_,?_,?_⟩;rotate_left;· (intro oi ho;simp at ho;subst ho;refine Or.inl ⟨by rfl,fun w' fB=>?_⟩;obtain ⟨e0,e1,f1,h1,f2,h2⟩:=SX.out w' (H1.out.1.trans (fB.mono (H1.out.1).size));go_simp;try with_reducible rfl))
  refine k8 4 8 (by kernel_rfl) ?_ ?_
  ·(intro o4 ho K' hK;simp at ho;subst ho)
   go_simp
   go_at_call 34
   (with_reducible refine (CRm.out w1.drew fV).mono ?_)
   rintro en y1 ⟨xx,yy,rfl,hb,hr⟩
   have fX:Below w1.heap.size w1 y1:=fV.trans hb
   (refine hK.out _ _ (fun _=>fX) ?_;clear hK K';try simp only [pQ,pN,pZ,pS])
   refine tk [5,6,7] fX ?_
   (intro d hd;simp [tkD] at hd;subst hd;simp only [tks,pQ,pZ,pS])
   iterate 3 (refine ⟨?_,?_,?_⟩;rotate_left;· (intro oi ho;simp at ho;subst ho;refine Or.inl ⟨by rfl,fun w' fB=>?_⟩;go_simp;try with_reducible rfl))
   (refine on 8 ?_;intro o ho K' hK;simp at ho;subst ho;go_simp)
   (refine hK.out _ _ (fun _=>fX.alloc (fX).size _) ?_;clear hK K';try simp only [pQ,pN,pZ,pS])
   have bz:(y1.alloc (.cells #[.slice none 0 0] 43)).heap[y1.heap.size]? = some (.cells #[.slice none 0 0] 43 (0,0)):=zG _ _
   have sS:=(show _=some _ from by simp only [World.cell?,bz];rfl:(y1.alloc (.cells #[.slice none 0 0] 43)).cell? ⟨y1.heap.size,0,none⟩=some (.slice none 0 0))
   have sR:(y1.alloc (.cells #[.slice none 0 0] 43)).frozen? ⟨y1.heap.size,0,none⟩=false:=by simp only [World.frozen?,bz];rfl
   (refine on 9 ?_;intro o ho K' hK;simp at ho;subst ho;go_simp)
   (refine hK.out _ _ (fun _=>fX.alloc fX.size _) ?_;clear hK K';try simp only [pQ,pN,pZ,pS])
   (refine on 10 ?_;intro o ho K' hK;simp at ho;subst ho;go_simp)
   (refine hK.out _ _ (fun _=>fX.alloc fX.size _) ?_;clear hK K';try simp only [pQ,pN,pZ,pS])
   refine zU (by kernel_rfl) (NoPanic.normal ?_) _
   exact ⟨rfl,⟨y1.heap.size,xx,yy⟩,by rfl,z8.fresh fX (zX.one hr)⟩
  ·(intro o8 ho K' hK;simp at ho;subst ho)
   go_simp
   (refine hK.out _ _ (fun _=>fV.alloc (ei _) _) ?_;clear hK K';try simp only [pQ,pN,pZ,pS])
   (refine on 4 ?_;intro o ho K' hK;simp at ho;subst ho;go_simp)
   go_at_call 34
   have mP:Below w1.heap.size w1 (w1.alloc (.cells #[.slice none 0 0] 43)).drew:=fV.alloc (ei _) _
   (with_reducible refine (CRm.out _ mP).mono ?_)
   rintro en y1 ⟨xx,yy,rfl,hb,hr⟩
   have fX:Below w1.heap.size w1 y1:=zzT mP hb
   (refine hK.out _ _ (fun _=>fX) ?_;clear hK K';try simp only [pQ,pN,pZ,pS])
   refine tk [5,6,7] fX ?_
   (intro d hd;simp [tkD] at hd;subst hd;simp only [tks,pQ,pZ,pS])
   iterate 3 (refine ⟨?_,?_,?_⟩;rotate_left;· (intro oi ho;simp at ho;subst ho;refine Or.inl ⟨by rfl,fun w' fB=>?_⟩;go_simp;try with_reducible rfl))
   have bz:y1.heap[w1.heap.size]? = some (.cells #[.slice none 0 0] 43 (0,0)):=(hb.block _ (show _<_ from by simp)).trans (zG w1 (.cells #[.slice none 0 0] 43))
   have sS:=(show _=some _ from by simp only [World.cell?,bz];rfl:(y1).cell? ⟨w1.heap.size,0,none⟩=some (.slice none 0 0))
   have sR:(y1).frozen? ⟨w1.heap.size,0,none⟩=false:=by simp only [World.frozen?,bz];rfl
   (refine on 9 ?_;intro o ho K' hK;simp at ho;subst ho;go_simp)
   (refine hK.out _ _ (fun _=>(fX.setCell (p:=⟨w1.heap.size,0,none⟩) (ei _) _)) ?_;clear hK K';try simp only [pQ,pN,pZ,pS])
   (refine on 10 ?_;intro o ho K' hK;simp at ho;subst ho;go_simp)
   (refine hK.out _ _ (fun _=>(fX.setCell (p:=⟨w1.heap.size,0,none⟩) (ei _) _)) ?_;clear hK K';try simp only [pQ,pN,pZ,pS])
   refine zU (by kernel_rfl) (NoPanic.normal ?_) _
   exact ⟨rfl,⟨w1.heap.size,xx,yy⟩,by rfl,z8.first Gs.out mP (by simp) hb (zX.one hr) (but1 _ _ _) (by rw [zT bz];rfl)⟩
 rintro ⟨gm,xm,ym⟩ zm hR
 have Rm:Hid (z8 F w1 gm (.cells #[.slice xm km.args.length ym] 43 (0,0)) [kz km] [.slice xm km.args.length ym] zm):=hR
 have nC:Hid (Below W0.heap.size W0 zm/\Below w.heap.size w zm):=⟨H1.out.1.trans (Rm.out.below.mono (H1.out.1).size),H1.out.2.trans (Rm.out.below.mono (H1.out.2).size)⟩
 clear hR CRm
 simp only [Act.put,List.setIfInBounds_toArray,List.set_cons_zero,List.set_cons_succ]
 go_wp2_with fail
 have GE:=nC
 have CRn:=ed (fun wz (hz:Below zm.heap.size zm wz)=>Cn.out wz (nC.out.2.trans (hz.mono (nC.out.2).size)))
 have Du:Hid (∀ i,F i->i<zm.heap.size):=fun i h=>fK (HP.out.1.old i h) (nC.out.2).size
 refine jR (X:=Nat×Option Addr×Nat) (fun a x=>((((((((((a.put (some 113) (.agg #[.slice na ns.length nc,.slice ka ns.length kc])).put (some 114) (.slice (some ⟨fT,fS,none⟩) 3 qc)).put (some 115) (.pointer (some ⟨fT,fS+4,none⟩))).put (some 116) (.agg #[str s2,.slice a2 n2 c2])).put (some 117) (.tuple #[.agg #[.slice x.2.1 kn.args.length x.2.2],.bool qn])).put (some 112) (.tuple #[.agg #[.slice x.2.1 kn.args.length x.2.2],.bool qn])).put (some 118) (.agg #[.slice x.2.1 kn.args.length x.2.2])).put (some 119) (.bool qn)).put (some 15) (.pointer (some ⟨x.1,0,none⟩))).put (some 16) (.bool qn))) (fun x w'=>z8 F zm x.1 (.cells #[.slice x.2.1 kn.args.length x.2.2] 43 (0,0)) [kz kn] [.slice x.2.1 kn.args.length x.2.2] w') ?_ ?_
 ·refine wp_region_noPanic ?_
  refine zB (fun w'=>Below zm.heap.size zm w') (fun _=>false) (by kernel_rfl) ?_
  have fV:(fun w'=>Below zm.heap.size zm w') zm.drew:=Below.drew (e_ _ _)
  refine tk [0,1,2,3] fV ?_
  (intro d hd;simp [tkD] at hd;subst hd;simp only [tks,pQ,pZ,pS])
  iterate 4 (refine ⟨?_,?_,?_⟩;rotate_left;· (intro oi ho;simp at ho;subst ho;refine Or.inl ⟨by rfl,fun w' fB=>?_⟩;obtain ⟨e0,e1,f1,h1,f2,h2⟩:=SX.out w' (nC.out.1.trans (fB.mono (nC.out.1).size));go_simp;try with_reducible rfl))
  refine k8 4 8 (by kernel_rfl) ?_ ?_
  ·(intro o4 ho K' hK;simp at ho;subst ho)
   go_simp
   go_at_call 34
   (with_reducible refine (CRn.out zm.drew fV).mono ?_)
   rintro en y1 ⟨xx,yy,rfl,hb,hr⟩
   have fX:Below zm.heap.size zm y1:=fV.trans hb
   (refine hK.out _ _ (fun _=>fX) ?_;clear hK K';try simp only [pQ,pN,pZ,pS])
   refine tk [5,6,7] fX ?_
   (intro d hd;simp [tkD] at hd;subst hd;simp only [tks,pQ,pZ,pS])
   iterate 3 (refine ⟨?_,?_,?_⟩;rotate_left;· (intro oi ho;simp at ho;subst ho;refine Or.inl ⟨by rfl,fun w' fB=>?_⟩;go_simp;try with_reducible rfl))
   (refine on 8 ?_;intro o ho K' hK;simp at ho;subst ho;go_simp)
   (refine hK.out _ _ (fun _=>fX.alloc (fX).size _) ?_;clear hK K';try simp only [pQ,pN,pZ,pS])
   have bz:(y1.alloc (.cells #[.slice none 0 0] 43)).heap[y1.heap.size]? = some (.cells #[.slice none 0 0] 43 (0,0)):=zG _ _
   have sS:=(show _=some _ from by simp only [World.cell?,bz];rfl:(y1.alloc (.cells #[.slice none 0 0] 43)).cell? ⟨y1.heap.size,0,none⟩=some (.slice none 0 0))
   have sR:(y1.alloc (.cells #[.slice none 0 0] 43)).frozen? ⟨y1.heap.size,0,none⟩=false:=by simp only [World.frozen?,bz];rfl
   (refine on 9 ?_;intro o ho K' hK;simp at ho;subst ho;go_simp)
   (refine hK.out _ _ (fun _=>fX.alloc fX.size _) ?_;clear hK K';try simp only [pQ,pN,pZ,pS])
   (refine on 10 ?_;intro o ho K' hK;simp at ho;subst ho;go_simp)
   (refine hK.out _ _ (fun _=>fX.alloc fX.size _) ?_;clear hK K';try simp only [pQ,pN,pZ,pS])
   refine zU (by kernel_rfl) (NoPanic.normal ?_) _
   exact ⟨rfl,⟨y1.heap.size,xx,yy⟩,by rfl,z8.fresh fX (zX.one hr)⟩
  ·(intro o8 ho K' hK;simp at ho;subst ho)
   go_simp
   (refine hK.out _ _ (fun _=>fV.alloc (ei _) _) ?_;clear hK K';try simp only [pQ,pN,pZ,pS])
   (refine on 4 ?_;intro o ho K' hK;simp at ho;subst ho;go_simp)
   go_at_call 34
   have mP:Below zm.heap.size zm (zm.alloc (.cells #[.slice none 0 0] 43)).drew:=fV.alloc (ei _) _
   (with_reducible refine (CRn.out _ mP).mono ?_)
   rintro en y1 ⟨xx,yy,rfl,hb,hr⟩
   have fX:Below zm.heap.size zm y1:=zzT mP hb
   (refine hK.out _ _ (fun _=>fX) ?_;clear hK K';try simp only [pQ,pN,pZ,pS])
   refine tk [5,6,7] fX ?_
   (intro d hd;simp [tkD] at hd;subst hd;simp only [tks,pQ,pZ,pS])
   iterate 3 (refine ⟨?_,?_,?_⟩;rotate_left;· (intro oi ho;simp at ho;subst ho;refine Or.inl ⟨by rfl,fun w' fB=>?_⟩;go_simp;try with_reducible rfl))
   have bz:y1.heap[zm.heap.size]? = some (.cells #[.slice none 0 0] 43 (0,0)):=(hb.block _ (show _<_ from by simp)).trans (zG zm (.cells #[.slice none 0 0] 43))
   have sS:=(show _=some _ from by simp only [World.cell?,bz];rfl:(y1).cell? ⟨zm.heap.size,0,none⟩=some (.slice none 0 0))
   have sR:(y1).frozen? ⟨zm.heap.size,0,none⟩=false:=by simp only [World.frozen?,bz];rfl
   (refine on 9 ?_;intro o ho K' hK;simp at ho;subst ho;go_simp)
   (refine hK.out _ _ (fun _=>(fX.setCell (p:=⟨zm.heap.size,0,none⟩) (ei _) _)) ?_;clear hK K';try simp only [pQ,pN,pZ,pS])
   (refine on 10 ?_;intro o ho K' hK;simp at ho;subst ho;go_simp)
   (refine hK.out _ _ (fun _=>(fX.setCell (p:=⟨zm.heap.size,0,none⟩) (ei _) _)) ?_;clear hK K';try simp only [pQ,pN,pZ,pS])
   refine zU (by kernel_rfl) (NoPanic.normal ?_) _
   exact ⟨rfl,⟨zm.heap.size,xx,yy⟩,by rfl,z8.first Du.out mP (by simp) hb (zX.one hr) (but1 _ _ _) (by rw [zT bz];rfl)⟩
 rintro ⟨gn,xn,yn⟩ zn hR
 have Rn:Hid (z8 F zm gn (.cells #[.slice xn kn.args.length yn] 43 (0,0)) [kz kn] [.slice xn kn.args.length yn] zn):=hR
 have n9:Hid (Below W0.heap.size W0 zn/\Below w.heap.size w zn):=⟨nC.out.1.trans (Rn.out.below.mono (nC.out.1).size),nC.out.2.trans (Rn.out.below.mono (nC.out.2).size)⟩
 clear hR CRn
 simp only [Act.put,List.setIfInBounds_toArray,List.set_cons_zero,List.set_cons_succ]
 go_wp2_with fail
 have bm:zn.cell? ⟨gm,0,none⟩=some (.slice xm km.args.length ym):=(Rn.out.below.cell (e9 _ _ (Rm.out.cell0))).trans (Rm.out.cell0)
 have Tm:Hid (Rep (fun i=>F i\/W0.heap.size<=i) zn (kz km) (.slice xm km.args.length ym)):=Rep.below (F':=fun i=>F i\/W0.heap.size<=i) Rn.out.below (fun _ h=>h) ((zX.get1 Rm.out.rep).weak (G:=fun i=>F i\/W0.heap.size<=i) (fun i h=>h.1.elim .inl (fun h=>.inr (fQ (GF.out.1).size h))))
 have bn:zn.cell? ⟨gn,0,none⟩=some (.slice xn kn.args.length yn):=Rn.out.cell0
 have Tn:Hid (Rep (fun i=>F i\/W0.heap.size<=i) zn (kz kn) (.slice xn kn.args.length yn)):=(zX.get1 Rn.out.rep).weak (G:=fun i=>F i\/W0.heap.size<=i) (fun i h=>h.1.elim .inl (fun h=>.inr (fQ (GE.out.1).size h)))
 have BR:Hid (zn.heap[w.heap.size+1+1]? = some (.cells #[.slice none 0 0] 43 (0,0))):=(n9.out.1.block _ (zZ H0.out.2.2.2)).trans H0.out.2.2.2
 have mg:zn.frozen? ⟨w.heap.size+1+1,0,none⟩=false:=by simp only [World.frozen?,BR.out];rfl
 have tN:zn.cell? ⟨w.heap.size+1+1,0,none⟩=some (.slice none 0 0):=by simp only [World.cell?,BR.out];rfl
 have HE:=ed (show zh ns (.app m n)=if qm=false\/qn=false then (km,false) else match km.args with
  | []=>(km,false)
  | c::cs=>if zF c=zF kn then (.mk cs,true) else (km,false) by rw [zh,oP,ah];rfl)
 have Ec:=ed (ef oP ah)
 clear oP ah Cm Cn
 cases qm with
 | false =>
   go_region
   go_wp2_with fail
   have mN:=ed (show zh ns (.app m n)=(km,false) by rw [HE.out];simp)
   obtain ⟨W,hW,s0,fD,fO⟩:=k_ (BR.out) (.slice xm km.args.length ym)
   rw [<- hW]
   refine bodyPost_ret (v:=.tuple #[.agg #[.slice xm km.args.length ym],.bool false]) (by simp [results,Tryz.results34,go_sem,s0]) rfl ?_
   rw [mN.out]
   exact jm (k:=km) HP.out.1.old H0.out.1 H0.out.2.1 n9.out.1 Tm.out (fun B w0 h hB=>(fD B w0 h hB).drew) fO
 | true =>
   cases qn with
   | false =>
     go_region
     go_wp2_with fail
     have mN:=ed (show zh ns (.app m n)=(km,false) by rw [HE.out];simp)
     obtain ⟨W,hW,s0,fD,fO⟩:=k_ (BR.out) (.slice xm km.args.length ym)
     rw [<- hW]
     refine bodyPost_ret (v:=.tuple #[.agg #[.slice xm km.args.length ym],.bool false]) (by simp [results,Tryz.results34,go_sem,s0]) rfl ?_
     rw [mN.out]
     exact jm (k:=km) HP.out.1.old H0.out.1 H0.out.2.1 n9.out.1 Tm.out (fun B w0 h hB=>(fD B w0 h hB).drew) fO
   | true =>
     have AW:=ed (show zh ns (.app m n)=match km.args with
      | []=>(km,false)
      | c::cs=>if zF c=zF kn then (.mk cs,true) else (km,false) by rw [HE.out];simp)
     have hr:=Tm.out
     rw [qv] at hr
     obtain ⟨_,_,e,GR,_,fU⟩:=zP hr
     simp only [Value.slice.injEq,true_and] at e
     obtain ⟨rfl,rfl⟩:=e
     have AC:=kg m ns km HP.out.1.n15 (by have:=u4 (t:=m) (ns:=ns) HP.out.2.2.1 (by rw [Ec.out.1]);rwa [Ec.out.1] at this)
     have BV:=kg n ns kn HP.out.1.n15 (by have:=u4 (t:=n) (ns:=ns) HP.out.2.2.2 (by rw [Ec.out.2]);rwa [Ec.out.2] at this)
     have HRR:=ed hr
     cases mU:km.args with
     | nil =>
       have lf:(((km.args.length:Nat):Int) == 0)=true:=by rw [mU];rfl
       have mN:=ed (show zh ns (.app m n)=(km,false) by rw [AW.out,mU])
       clear hr fU mU GR
       generalize hL:km.args.length=L at *
       go_region
       go_wp2_with fail
       subst hL
       obtain ⟨W,hW,s0,fD,fO⟩:=k_ (BR.out) (.slice xm km.args.length ym)
       rw [<- hW]
       refine bodyPost_ret (v:=.tuple #[.agg #[.slice xm km.args.length ym],.bool false]) (by simp [results,Tryz.results34,go_sem,s0]) rfl ?_
       rw [mN.out]
       exact jm (k:=km) HP.out.1.old H0.out.1 H0.out.2.1 n9.out.1 Tm.out (fun B w0 h hB=>(fD B w0 h hB).drew) fO
     | cons c cs =>
       obtain ⟨ab,ao,au,ad,ea,_,G9,had,hac,har⟩:=fU 0 (by rw [mU];simp)
       subst ea
       rw [mU] at had GR
       simp only [qH,List.getElem?_cons_zero,Option.some.injEq] at had
       subst had
       obtain ⟨ca,cc,rfl⟩:=kK har
       have sO:zV c<=15:=cL AC c (by rw [mU];simp)
       have lf:(((km.args.length:Nat):Int) == 0)=false:=by rw [mU,beq_eq_false_iff_ne];simp;omega
       have aO:(0:Int)<((km.args.length:Nat):Int):=by rw [mU];simp
       have nJ:0<km.args.length:=by rw [mU];simp
       have D5:zn.cell? ⟨ab,ao,none⟩=some (.slice ca c.args.length cc):=hac
       have Eg:=ed (fun wz (h:Below zn.heap.size zn wz)=>vI 15 c sO (by omega) _ wz _ (Rep.below (F':=fun i=>F i\/W0.heap.size<=i) h (fun _ h=>h) har))
       have il:=ed (fun wz (h:Below zn.heap.size zn wz)=>vI 15 kn BV (by omega) _ wz _ (Rep.below (F':=fun i=>F i\/W0.heap.size<=i) h (fun _ h=>h) Tn.out))
       have SY:Hid (∀ w',Below zn.heap.size zn w'->w'.cell? ⟨gm,0,none⟩=some (.slice (some ⟨ab,ao,none⟩) km.args.length ym)/\w'.cell? ⟨gn,0,none⟩=some (.slice xn kn.args.length yn)/\w'.cell? ⟨ab,ao,none⟩=some (.slice ca c.args.length cc)):=by
        show ∀ w',_->_
        intro w' h
        exact ⟨(h.cell (e9 _ _ bm)).trans bm,(h.cell (e9 _ _ bn)).trans bn,(h.cell (e9 _ _ D5)).trans D5⟩
       have DT:cs.length<=14:=by have:=uS AC;rw [mU] at this;simp at this;omega
       have EW:=ed mU
       have HE3:=ed (show zh ns (.app m n)=if zF c=zF kn then (.mk cs,true) else (km,false) by rw [AW.out,mU])
       have hyl':cs.length+1<=ym:=by simpa using GR
       have hLc:=ed (show km.args.length=cs.length+1 by rw [mU];rfl)
       clear hr fU mU GR hac D5 har sO AC BV AW HE
       by_cases ia:zF c=zF kn
       ·have q0:(zF c != zF kn)=false:=by rw [ia];simp
        have mN:=ed (show zh ns (.app m n)=(.mk cs,true) by rw [HE3.out,if_pos ia])
        clear ia
        obtain ⟨X1,Ch⟩:=zzM (zF c)
        obtain ⟨X2,nR⟩:=zzM (zF kn)
        rw [<- Ch] at Eg q0;rw [<- nR] at il q0
        have q1:(X1 == X2)=true:=by first | (rw [beq_iff_eq];simpa using q0) | (rw [beq_eq_false_iff_ne];simpa using q0)
        have q2:(!(X1 == X2)) = !true:=by rw [q1]
        simp only [Bool.not_true,Bool.not_false] at q2
        clear Ch nR
        refine wp_region_noPanic ?_
        refine zB (fun w'=>Below zn.heap.size zn w') (fun _=>false) (by kernel_rfl) ?_
        have fV:(fun w'=>Below zn.heap.size zn w') zn.drew:=Below.drew (e_ _ _)
        refine tk [0,1,2,3,4,5,6,7,8,9,10,11,12,13,14,15,16,18] fV ?_
        (intro d hd;simp [tkD] at hd;subst hd;simp only [tks,pQ,pZ,pS])
        iterate 18 (refine ⟨?_,?_,?_⟩;rotate_left;· (intro oi ho;simp at ho;subst ho;refine Or.inl ⟨by rfl,fun w' fB=>?_⟩;obtain ⟨e0,e1,e2⟩:=SY.out w' fB;go_simp;try with_reducible rfl))
        (refine on 17 ?_;intro o ho K' hK;simp at ho;subst ho;go_simp)
        go_at_call 46
        (with_reducible refine (Eg.out _ fV).mono ?_)
        rintro en v1 ⟨rfl,hb⟩
        have ne:Hid (Below zn.heap.size zn v1):=fV.trans hb
        clear hb
        (refine hK.out _ _ (fun _=>ne.out) ?_;clear hK K';try simp only [pQ,pN,pZ,pS])
        have D8:=ne.out
        (refine on 19 ?_;intro o ho K' hK;simp at ho;subst ho;go_simp)
        go_at_call 46
        (with_reducible refine (il.out _ ne.out).mono ?_)
        rintro en v2 ⟨rfl,hb⟩
        have sx:Hid (Below zn.heap.size zn v2):=zzT ne.out hb
        clear hb
        (refine hK.out _ _ (fun _=>sx.out) ?_;clear hK K';try simp only [pQ,pN,pZ,pS])
        have Gn:=sx.out
        refine tk [20,21] Gn ?_
        (intro d hd;simp [tkD] at hd;subst hd;simp only [tks,pQ,pZ,pS])
        iterate 2 (refine ⟨?_,?_,?_⟩;rotate_left;· (intro oi ho;simp at ho;subst ho;refine Or.inl ⟨by rfl,fun w' fB=>?_⟩;go_simp;try with_reducible rfl))
        refine zU (by kernel_rfl) (NoPanic.normal ?_) _
        obtain ⟨e0,e1,e2⟩:=SY.out v2 sx.out
        have tq:Hid (v2.heap[w.heap.size+1+1]? = some (.cells #[.slice none 0 0] 43 (0,0))):=(sx.out.block _ (zZ BR.out)).trans BR.out
        have rG:v2.frozen? ⟨w.heap.size+1+1,0,none⟩=false:=by simp only [World.frozen?,tq.out];rfl
        have iC:v2.cell? ⟨w.heap.size+1+1,0,none⟩=some (.slice none 0 0):=by simp only [World.cell?,tq.out];rfl
        have aL:Hid (Below W0.heap.size W0 v2):=zzT n9.out.1 sx.out
        have T2:Hid (Rep (fun i=>F i\/W0.heap.size<=i) v2 (kz km) (.slice (some ⟨ab,ao,none⟩) km.args.length ym)):=Rep.below sx.out (fun _ h=>h) Tm.out
        clear mg tN bm bn
        have HT:Hid (Rep (fun i=>F i\/W0.heap.size<=i) v2 (.sl 43 1 (cs.length+1) (qH (c::cs))) (.slice (some ⟨ab,ao,none⟩) (cs.length+1) ym)):=by
         have h:=T2.out
         rw [qv,EW.out] at h
         exact h
        rw [hLc.out] at e0
        clear lf aO
        by_cases fo:ym=1
        ·subst fo
         have hcs:cs.length=0:=by omega
         obtain rfl:=List.eq_nil_of_length_eq_zero hcs
         clear hcs hyl' DT
         go_wp2_with fail
         obtain ⟨W,hW,s0,fD,fO⟩:=k_ (tq.out) (.slice (some ⟨ab,ao,none⟩) 0 0)
         rw [<- hW]
         refine bodyPost_ret (v:=.tuple #[.agg #[.slice (some ⟨ab,ao,none⟩) 0 0],.bool true]) (by simp [results,Tryz.results34,go_sem,s0]) rfl ?_
         rw [mN.out]
         exact jm (k:=.mk []) HP.out.1.old H0.out.1 H0.out.2.1 aL.out (zp.2 ⟨rfl,_,_,rfl,ei _,fun h=>by simp at h,.inl rfl⟩) fD fO
        ·go_wp2_with fail
         obtain ⟨W,hW,s0,fD,fO⟩:=k_ (tq.out) (.slice (some ⟨ab,ao+1,none⟩) cs.length (ym-1))
         rw [<- hW]
         refine bodyPost_ret (v:=.tuple #[.agg #[.slice (some ⟨ab,ao+1,none⟩) cs.length (ym-1)],.bool true]) (by simp [results,Tryz.results34,go_sem,s0]) rfl ?_
         rw [mN.out]
         exact jm (k:=.mk cs) HP.out.1.old H0.out.1 H0.out.2.1 aL.out (encS_tail HT.out) fD fO
       ·have q0:(zF c != zF kn)=true:=by rw [bne_iff_ne];exact ia
        have mN:=ed (show zh ns (.app m n)=(km,false) by rw [HE3.out,if_neg ia])
        clear ia
        obtain ⟨X1,Ch⟩:=zzM (zF c)
        obtain ⟨X2,nR⟩:=zzM (zF kn)
        rw [<- Ch] at Eg q0;rw [<- nR] at il q0
        have q1:(X1 == X2)=false:=by first | (rw [beq_iff_eq];simpa using q0) | (rw [beq_eq_false_iff_ne];simpa using q0)
        have q2:(!(X1 == X2)) = !false:=by rw [q1]
        simp only [Bool.not_true,Bool.not_false] at q2
        clear Ch nR
        refine wp_region_noPanic ?_
        refine zB (fun w'=>Below zn.heap.size zn w') (fun _=>false) (by kernel_rfl) ?_
        have fV:(fun w'=>Below zn.heap.size zn w') zn.drew:=Below.drew (e_ _ _)
        refine tk [0,1,2,3,4,5,6,7,8,9,10,11,12,13,14,15,16,18] fV ?_
        (intro d hd;simp [tkD] at hd;subst hd;simp only [tks,pQ,pZ,pS])
        iterate 18 (refine ⟨?_,?_,?_⟩;rotate_left;· (intro oi ho;simp at ho;subst ho;refine Or.inl ⟨by rfl,fun w' fB=>?_⟩;obtain ⟨e0,e1,e2⟩:=SY.out w' fB;go_simp;try with_reducible rfl))
        (refine on 17 ?_;intro o ho K' hK;simp at ho;subst ho;go_simp)
        go_at_call 46
        (with_reducible refine (Eg.out _ fV).mono ?_)
        rintro en v1 ⟨rfl,hb⟩
        have ne:Hid (Below zn.heap.size zn v1):=fV.trans hb
        clear hb
        (refine hK.out _ _ (fun _=>ne.out) ?_;clear hK K';try simp only [pQ,pN,pZ,pS])
        have D8:=ne.out
        (refine on 19 ?_;intro o ho K' hK;simp at ho;subst ho;go_simp)
        go_at_call 46
        (with_reducible refine (il.out _ ne.out).mono ?_)
        rintro en v2 ⟨rfl,hb⟩
        have sx:Hid (Below zn.heap.size zn v2):=zzT ne.out hb
        clear hb
        (refine hK.out _ _ (fun _=>sx.out) ?_;clear hK K';try simp only [pQ,pN,pZ,pS])
        have Gn:=sx.out
        refine tk [20,21] Gn ?_
        (intro d hd;simp [tkD] at hd;subst hd;simp only [tks,pQ,pZ,pS])
        iterate 2 (refine ⟨?_,?_,?_⟩;rotate_left;· (intro oi ho;simp at ho;subst ho;refine Or.inl ⟨by rfl,fun w' fB=>?_⟩;go_simp;try with_reducible rfl))
        refine zU (by kernel_rfl) (NoPanic.normal ?_) _
        obtain ⟨e0,e1,e2⟩:=SY.out v2 sx.out
        have tq:Hid (v2.heap[w.heap.size+1+1]? = some (.cells #[.slice none 0 0] 43 (0,0))):=(sx.out.block _ (zZ BR.out)).trans BR.out
        have rG:v2.frozen? ⟨w.heap.size+1+1,0,none⟩=false:=by simp only [World.frozen?,tq.out];rfl
        have iC:v2.cell? ⟨w.heap.size+1+1,0,none⟩=some (.slice none 0 0):=by simp only [World.cell?,tq.out];rfl
        have aL:Hid (Below W0.heap.size W0 v2):=zzT n9.out.1 sx.out
        have T2:Hid (Rep (fun i=>F i\/W0.heap.size<=i) v2 (kz km) (.slice (some ⟨ab,ao,none⟩) km.args.length ym)):=Rep.below sx.out (fun _ h=>h) Tm.out
        clear mg tN bm bn
        clear lf aO
        go_wp2_with fail
        obtain ⟨W,hW,s0,fD,fO⟩:=k_ (tq.out) (.slice (some ⟨ab,ao,none⟩) km.args.length ym)
        rw [<- hW]
        refine bodyPost_ret (v:=.tuple #[.agg #[.slice (some ⟨ab,ao,none⟩) km.args.length ym],.bool false]) (by simp [results,Tryz.results34,go_sem,s0]) rfl ?_
        rw [mN.out]
        exact jm (k:=km) HP.out.1.old H0.out.1 H0.out.2.1 aL.out T2.out fD fO
set_option maxRecDepth 100000 in
theorem kd_ite (N:Nat) (ih:KdSaid N) (F:Nat->Prop) (l m n:Tm) (ns:List Nm) (nv tv s pv:Value) (w:World) (hN:zM (.ite l m n)<=N+1) (hp:wF F (.ite l m n) ns nv tv s pv w):Calls Tryz.prog 34 #[.agg #[nv,tv],.agg #[s,pv]] w (v7 F w (zh ns (.ite l m n)).1 (zh ns (.ite l m n)).2):=by
 have hold:=hp.old
 obtain ⟨na,nc,rfl,_,_,mz⟩:=zP hp.rn
 obtain ⟨ka,kc,rfl,_,_,mn⟩:=zP hp.rk
 have fa:=hp.rt
 rw [z_] at fa
 obtain ⟨qa,qc,e,fA⟩:=qO fa
 simp only [qQ,qd,List.cons.injEq,and_true] at e fA
 obtain ⟨rfl,rfl⟩:=e
 obtain ⟨_,_,e,fU⟩:=ud.of fA
 simp only [Value.slice.injEq,true_and] at e
 obtain ⟨rfl,rfl⟩:=e
 obtain ⟨fT,fS,s1,a1,n1,c1,d1,tp,mL,sJ,sU,iE,rH,As,Br⟩:=fU 1 (by simp)
 simp only [List.getElem?_cons_zero,List.getElem?_cons_succ,Option.some.injEq] at sJ
 subst sJ
 subst tp
 obtain ⟨Fs,Fq,s2,a2,n2,c2,d2,tw,i2,tx,tg,iD,sf,Bj,Bq⟩:=fU 2 (by simp)
 simp only [List.getElem?_cons_zero,List.getElem?_cons_succ,Option.some.injEq] at tx
 subst tx
 simp only [Option.some.injEq,Addr.mk.injEq,and_true] at tw
 obtain ⟨rfl,rfl⟩:=tw
 obtain ⟨pb3,po3,s3,a3,n3,c3,d3,Bt,Fo,Bp,Bw,Bv,Bo,Fp,Fr⟩:=fU 3 (by simp)
 simp only [List.getElem?_cons_zero,List.getElem?_cons_succ,Option.some.injEq] at Bp
 subst Bp
 simp only [Option.some.injEq,Addr.mk.injEq,and_true] at Bt
 obtain ⟨rfl,rfl⟩:=Bt
 have fg:=hp.room
 have fw:=hp.ok
 have mO:=hp.sm
 rw [zM] at fg hN
 rw [kQ] at mO
 simp only [Bool.and_eq_true] at mO
 obtain ⟨W0,ff⟩:=zzM (((w.alloc (.cells #[.slice na ns.length nc,.slice ka ns.length kc] 53)).alloc (.cells #[str [],.slice (some ⟨fT,fS,none⟩) 4 qc] 40)).alloc (.cells #[.slice none 0 0] 43))
 obtain ⟨fq,z0,bA,bB,bC⟩:=yL w (.cells #[.slice na ns.length nc,.slice ka ns.length kc] 53) (.cells #[str [],.slice (some ⟨fT,fS,none⟩) 4 qc] 40) (.cells #[.slice none 0 0] 43)
 rw [<- ff] at fq z0 bA bB bC
 have CH:=ed (show Calls Tryz.prog 37 #[.agg #[str [],.slice (some ⟨fT,fS,none⟩) 4 qc]] W0 (fun en w'=>en=.returned (str (yM (z_ (.ite l m n))))/\Below W0.heap.size W0 w') from uG (z_ (.ite l m n)) (j_ _ hp.ok) F W0 _ _ (zX.below fq (fun _ h=>h) hp.rt))
 have Cp:yM (z_ (.ite l m n))=[105,102]:=by rw [z_];rfl
 rw [Cp] at CH
 have H0:=ed (ef fq (ef z0 (ef bA bC)))
 obtain ⟨kl,ql,aJ⟩:∃ k q,zh ns l=(k,q):=⟨_,_,rfl⟩
 have Cl:Hid (∀ wz,Below w.heap.size w wz->Calls Tryz.prog 34 #[.agg #[.slice na ns.length nc,.slice ka ns.length kc],.agg #[str s1,.slice a1 n1 c1]] wz (v7 F wz kl ql)):=by
  show ∀ wz,_->_
  intro wz hz
  have h:=ih F l ns _ _ _ _ wz (by omega) ⟨fun i h=>fK (hp.old i h) hz.size,zX.below hz (fun _ h=>h) rH,Rep.below hz (fun _ h=>h) hp.rn,Rep.below hz (fun _ h=>h) hp.rk,fw.1,mO.1.1,hp.nm,hp.n15,by omega⟩
  rw [aJ] at h
  exact h
 obtain ⟨km,qm,oP⟩:∃ k q,zh ns m=(k,q):=⟨_,_,rfl⟩
 have Cm:Hid (∀ wz,Below w.heap.size w wz->Calls Tryz.prog 34 #[.agg #[.slice na ns.length nc,.slice ka ns.length kc],.agg #[str s2,.slice a2 n2 c2]] wz (v7 F wz km qm)):=by
  show ∀ wz,_->_
  intro wz hz
  have h:=ih F m ns _ _ _ _ wz (by omega) ⟨fun i h=>fK (hp.old i h) hz.size,zX.below hz (fun _ h=>h) sf,Rep.below hz (fun _ h=>h) hp.rn,Rep.below hz (fun _ h=>h) hp.rk,fw.2.1,mO.1.2,hp.nm,hp.n15,by omega⟩
  rw [oP] at h
  exact h
 obtain ⟨kn,qn,ah⟩:∃ k q,zh ns n=(k,q):=⟨_,_,rfl⟩
 have Cn:Hid (∀ wz,Below w.heap.size w wz->Calls Tryz.prog 34 #[.agg #[.slice na ns.length nc,.slice ka ns.length kc],.agg #[str s3,.slice a3 n3 c3]] wz (v7 F wz kn qn)):=by
  show ∀ wz,_->_
  intro wz hz
  have h:=ih F n ns _ _ _ _ wz (by omega) ⟨fun i h=>fK (hp.old i h) hz.size,zX.below hz (fun _ h=>h) Bo,Rep.below hz (fun _ h=>h) hp.rn,Rep.below hz (fun _ h=>h) hp.rk,fw.2.2,mO.2,hp.nm,hp.n15,by omega⟩
  rw [ah] at h
  exact h
 have e0:W0.cell? ⟨w.heap.size,0,none⟩=some (.slice na ns.length nc):=by simp [World.cell?,bA]
 have e1:W0.cell? ⟨w.heap.size,1,none⟩=some (.slice ka ns.length kc):=by simp [World.cell?,bA]
 have SX:Hid (∀ w',Below W0.heap.size W0 w'->w'.cell? ⟨w.heap.size,0,none⟩=some (.slice na ns.length nc)/\w'.cell? ⟨w.heap.size,1,none⟩=some (.slice ka ns.length kc)/\w'.cell? ⟨fT,fS+2,none⟩=some (str s1)/\w'.cell? ⟨fT,fS+3,none⟩=some (.slice a1 n1 c1)/\w'.cell? ⟨fT,fS+4,none⟩=some (str s2)/\w'.cell? ⟨fT,fS+5,none⟩=some (.slice a2 n2 c2)/\w'.cell? ⟨fT,fS+6,none⟩=some (str s3)/\w'.cell? ⟨fT,fS+7,none⟩=some (.slice a3 n3 c3)):=by
  show ∀ w',_->_
  intro w' fN
  have fc:=zzT fq fN
  exact ⟨(fN.cell (e9 W0 _ e0)).trans e0,(fN.cell (e9 W0 _ e1)).trans e1,(fc.cell (p:=⟨fT,fS+2,none⟩) mL).trans sU,(fc.cell (p:=⟨fT,fS+3,none⟩) mL).trans iE,(fc.cell (p:=⟨fT,fS+4,none⟩) mL).trans tg,(fc.cell (p:=⟨fT,fS+5,none⟩) mL).trans iD,(fc.cell (p:=⟨fT,fS+6,none⟩) mL).trans Bw,(fc.cell (p:=⟨fT,fS+7,none⟩) mL).trans Bv⟩
 have HP:=ed (ef hp (ef fw mO))
 clear mz mn fA fU fa hp fw mO ih hN fq z0 bA bB bC e0 e1 rH sU iE As Br sf tg iD Bj Bq Bo Bw Bv Fp Fr
 clear mL
 clear i2
 clear Fo
 go_enter Tryz.func34,Tryz.ntmps34
 go_wp2_with fail
 rw [<- ff]
 clear ff
 (with_reducible refine CH.out.mono ?_)
 rintro en w1 ⟨rfl,fP⟩
 have H1:=ed (ef fP (zzT H0.out.1 fP))
 clear fP CH
 go_wp2_with fail
 have HLl:=H1
 have CRl:=ed (fun wz (hz:Below w1.heap.size w1 wz)=>Cl.out wz (H1.out.2.trans (hz.mono (H1.out.2).size)))
 have hFl:Hid (∀ i,F i->i<w1.heap.size):=fun i h=>fK (HP.out.1.old i h) (H1.out.2).size
 refine jR (X:=Nat×Option Addr×Nat) (fun a x=>((((((((((a.put (some 148) (.agg #[.slice na ns.length nc,.slice ka ns.length kc])).put (some 149) (.slice (some ⟨fT,fS,none⟩) 4 qc)).put (some 150) (.pointer (some ⟨fT,fS+2,none⟩))).put (some 151) (.agg #[str s1,.slice a1 n1 c1])).put (some 152) (.tuple #[.agg #[.slice x.2.1 kl.args.length x.2.2],.bool ql])).put (some 147) (.tuple #[.agg #[.slice x.2.1 kl.args.length x.2.2],.bool ql])).put (some 153) (.agg #[.slice x.2.1 kl.args.length x.2.2])).put (some 154) (.bool ql)).put (some 17) (.pointer (some ⟨x.1,0,none⟩))).put (some 18) (.bool ql))) (fun x w'=>z8 F w1 x.1 (.cells #[.slice x.2.1 kl.args.length x.2.2] 43 (0,0)) [kz kl] [.slice x.2.1 kl.args.length x.2.2] w') ?_ ?_
 ·refine wp_region_noPanic ?_
  refine zB (fun w'=>Below w1.heap.size w1 w') (fun _=>false) (by kernel_rfl) ?_
  have fV:(fun w'=>Below w1.heap.size w1 w') w1.drew:=Below.drew (e_ _ _)
  refine tk [0,1,2,3] fV ?_
  (intro d hd;simp [tkD] at hd;subst hd;simp only [tks,pQ,pZ,pS])
  iterate 4 (refine ⟨?_,?_,?_⟩;rotate_left;· (intro oi ho;simp at ho;subst ho;refine Or.inl ⟨by rfl,fun w' fB=>?_⟩;obtain ⟨e0,e1,f1,h1,f2,h2,f3,h3⟩:=SX.out w' (H1.out.1.trans (fB.mono (H1.out.1).size));go_simp;try with_reducible rfl))
  refine k8 4 8 (by kernel_rfl) ?_ ?_
  ·(intro o4 ho K' hK;simp at ho;subst ho)
   go_simp
   go_at_call 34
   (with_reducible refine (CRl.out w1.drew fV).mono ?_)
   rintro en y1 ⟨xx,yy,rfl,hb,hr⟩
   have fX:Below w1.heap.size w1 y1:=fV.trans hb
   (refine hK.out _ _ (fun _=>fX) ?_;clear hK K';try simp only [pQ,pN,pZ,pS])
   refine tk [5,6,7] fX ?_
   (intro d hd;simp [tkD] at hd;subst hd;simp only [tks,pQ,pZ,pS])
   iterate 3 (refine ⟨?_,?_,?_⟩;rotate_left;· (intro oi ho;simp at ho;subst ho;refine Or.inl ⟨by rfl,fun w' fB=>?_⟩;go_simp;try with_reducible rfl))
   (refine on 8 ?_;intro o ho K' hK;simp at ho;subst ho;go_simp)
   (refine hK.out _ _ (fun _=>fX.alloc (fX).size _) ?_;clear hK K';try simp only [pQ,pN,pZ,pS])
   have bz:(y1.alloc (.cells #[.slice none 0 0] 43)).heap[y1.heap.size]? = some (.cells #[.slice none 0 0] 43 (0,0)):=zG _ _
   have sS:=(show _=some _ from by simp only [World.cell?,bz];rfl:(y1.alloc (.cells #[.slice none 0 0] 43)).cell? ⟨y1.heap.size,0,none⟩=some (.slice none 0 0))
   have sR:(y1.alloc (.cells #[.slice none 0 0] 43)).frozen? ⟨y1.heap.size,0,none⟩=false:=by simp only [World.frozen?,bz];rfl
   (refine on 9 ?_;intro o ho K' hK;simp at ho;subst ho;go_simp)
   (refine hK.out _ _ (fun _=>fX.alloc fX.size _) ?_;clear hK K';try simp only [pQ,pN,pZ,pS])
   (refine on 10 ?_;intro o ho K' hK;simp at ho;subst ho;go_simp)
   (refine hK.out _ _ (fun _=>fX.alloc fX.size _) ?_;clear hK K';try simp only [pQ,pN,pZ,pS])
   refine zU (by kernel_rfl) (NoPanic.normal ?_) _
   exact ⟨rfl,⟨y1.heap.size,xx,yy⟩,by rfl,z8.fresh fX (zX.one hr)⟩
  ·(intro o8 ho K' hK;simp at ho;subst ho)
   go_simp
   (refine hK.out _ _ (fun _=>fV.alloc (ei _) _) ?_;clear hK K';try simp only [pQ,pN,pZ,pS])
   (refine on 4 ?_;intro o ho K' hK;simp at ho;subst ho;go_simp)
   go_at_call 34
   have mP:Below w1.heap.size w1 (w1.alloc (.cells #[.slice none 0 0] 43)).drew:=fV.alloc (ei _) _
   (with_reducible refine (CRl.out _ mP).mono ?_)
   rintro en y1 ⟨xx,yy,rfl,hb,hr⟩
   have fX:Below w1.heap.size w1 y1:=zzT mP hb
   (refine hK.out _ _ (fun _=>fX) ?_;clear hK K';try simp only [pQ,pN,pZ,pS])
   refine tk [5,6,7] fX ?_
   (intro d hd;simp [tkD] at hd;subst hd;simp only [tks,pQ,pZ,pS])
   iterate 3 (refine ⟨?_,?_,?_⟩;rotate_left;· (intro oi ho;simp at ho;subst ho;refine Or.inl ⟨by rfl,fun w' fB=>?_⟩;go_simp;try with_reducible rfl))
   have bz:y1.heap[w1.heap.size]? = some (.cells #[.slice none 0 0] 43 (0,0)):=(hb.block _ (show _<_ from by simp)).trans (zG w1 (.cells #[.slice none 0 0] 43))
   have sS:=(show _=some _ from by simp only [World.cell?,bz];rfl:(y1).cell? ⟨w1.heap.size,0,none⟩=some (.slice none 0 0))
   have sR:(y1).frozen? ⟨w1.heap.size,0,none⟩=false:=by simp only [World.frozen?,bz];rfl
   (refine on 9 ?_;intro o ho K' hK;simp at ho;subst ho;go_simp)
   (refine hK.out _ _ (fun _=>(fX.setCell (p:=⟨w1.heap.size,0,none⟩) (ei _) _)) ?_;clear hK K';try simp only [pQ,pN,pZ,pS])
   (refine on 10 ?_;intro o ho K' hK;simp at ho;subst ho;go_simp)
   (refine hK.out _ _ (fun _=>(fX.setCell (p:=⟨w1.heap.size,0,none⟩) (ei _) _)) ?_;clear hK K';try simp only [pQ,pN,pZ,pS])
   refine zU (by kernel_rfl) (NoPanic.normal ?_) _
   exact ⟨rfl,⟨w1.heap.size,xx,yy⟩,by rfl,z8.first hFl.out mP (by simp) hb (zX.one hr) (but1 _ _ _) (by rw [zT bz];rfl)⟩
 rintro ⟨gl,xl,yl⟩ zl hR
 have Rl:Hid (z8 F w1 gl (.cells #[.slice xl kl.args.length yl] 43 (0,0)) [kz kl] [.slice xl kl.args.length yl] zl):=hR
 have aA:Hid (Below W0.heap.size W0 zl/\Below w.heap.size w zl):=⟨H1.out.1.trans (Rl.out.below.mono (H1.out.1).size),H1.out.2.trans (Rl.out.below.mono (H1.out.2).size)⟩
 clear hR CRl
 simp only [Act.put,List.setIfInBounds_toArray,List.set_cons_zero,List.set_cons_succ]
 go_wp2_with fail
 have GF:=aA
 have CRm:=ed (fun wz (hz:Below zl.heap.size zl wz)=>Cm.out wz (aA.out.2.trans (hz.mono (aA.out.2).size)))
 have Gs:Hid (∀ i,F i->i<zl.heap.size):=fun i h=>fK (HP.out.1.old i h) (aA.out.2).size
 refine jR (X:=Nat×Option Addr×Nat) (fun a x=>((((((((((a.put (some 156) (.agg #[.slice na ns.length nc,.slice ka ns.length kc])).put (some 157) (.slice (some ⟨fT,fS,none⟩) 4 qc)).put (some 158) (.pointer (some ⟨fT,fS+4,none⟩))).put (some 159) (.agg #[str s2,.slice a2 n2 c2])).put (some 160) (.tuple #[.agg #[.slice x.2.1 km.args.length x.2.2],.bool qm])).put (some 155) (.tuple #[.agg #[.slice x.2.1 km.args.length x.2.2],.bool qm])).put (some 161) (.agg #[.slice x.2.1 km.args.length x.2.2])).put (some 162) (.bool qm)).put (some 19) (.pointer (some ⟨x.1,0,none⟩))).put (some 20) (.bool qm))) (fun x w'=>z8 F zl x.1 (.cells #[.slice x.2.1 km.args.length x.2.2] 43 (0,0)) [kz km] [.slice x.2.1 km.args.length x.2.2] w') ?_ ?_
 ·refine wp_region_noPanic ?_
  refine zB (fun w'=>Below zl.heap.size zl w') (fun _=>false) (by kernel_rfl) ?_
  have fV:(fun w'=>Below zl.heap.size zl w') zl.drew:=Below.drew (e_ _ _)
  refine tk [0,1,2,3] fV ?_
  (intro d hd;simp [tkD] at hd;subst hd;simp only [tks,pQ,pZ,pS])
  iterate 4 (refine ⟨?_,?_,?_⟩;rotate_left;· (intro oi ho;simp at ho;subst ho;refine Or.inl ⟨by rfl,fun w' fB=>?_⟩;obtain ⟨e0,e1,f1,h1,f2,h2,f3,h3⟩:=SX.out w' (aA.out.1.trans (fB.mono (aA.out.1).size));go_simp;try with_reducible rfl))
  refine k8 4 8 (by kernel_rfl) ?_ ?_
  ·(intro o4 ho K' hK;simp at ho;subst ho)
   go_simp
   go_at_call 34
   (with_reducible refine (CRm.out zl.drew fV).mono ?_)
   rintro en y1 ⟨xx,yy,rfl,hb,hr⟩
   have fX:Below zl.heap.size zl y1:=fV.trans hb
   (refine hK.out _ _ (fun _=>fX) ?_;clear hK K';try simp only [pQ,pN,pZ,pS])
   refine tk [5,6,7] fX ?_
   (intro d hd;simp [tkD] at hd;subst hd;simp only [tks,pQ,pZ,pS])
   iterate 3 (refine ⟨?_,?_,?_⟩;rotate_left;· (intro oi ho;simp at ho;subst ho;refine Or.inl ⟨by rfl,fun w' fB=>?_⟩;go_simp;try with_reducible rfl))
   (refine on 8 ?_;intro o ho K' hK;simp at ho;subst ho;go_simp)
   (refine hK.out _ _ (fun _=>fX.alloc (fX).size _) ?_;clear hK K';try simp only [pQ,pN,pZ,pS])
   have bz:(y1.alloc (.cells #[.slice none 0 0] 43)).heap[y1.heap.size]? = some (.cells #[.slice none 0 0] 43 (0,0)):=zG _ _
   have sS:=(show _=some _ from by simp only [World.cell?,bz];rfl:(y1.alloc (.cells #[.slice none 0 0] 43)).cell? ⟨y1.heap.size,0,none⟩=some (.slice none 0 0))
   have sR:(y1.alloc (.cells #[.slice none 0 0] 43)).frozen? ⟨y1.heap.size,0,none⟩=false:=by simp only [World.frozen?,bz];rfl
   (refine on 9 ?_;intro o ho K' hK;simp at ho;subst ho;go_simp)
   (refine hK.out _ _ (fun _=>fX.alloc fX.size _) ?_;clear hK K';try simp only [pQ,pN,pZ,pS])
   (refine on 10 ?_;intro o ho K' hK;simp at ho;subst ho;go_simp)
   (refine hK.out _ _ (fun _=>fX.alloc fX.size _) ?_;clear hK K';try simp only [pQ,pN,pZ,pS])
   refine zU (by kernel_rfl) (NoPanic.normal ?_) _
   exact ⟨rfl,⟨y1.heap.size,xx,yy⟩,by rfl,z8.fresh fX (zX.one hr)⟩
  ·(intro o8 ho K' hK;simp at ho;subst ho)
   go_simp
   (refine hK.out _ _ (fun _=>fV.alloc (ei _) _) ?_;clear hK K';try simp only [pQ,pN,pZ,pS])
   (refine on 4 ?_;intro o ho K' hK;simp at ho;subst ho;go_simp)
   go_at_call 34
   have mP:Below zl.heap.size zl (zl.alloc (.cells #[.slice none 0 0] 43)).drew:=fV.alloc (ei _) _
   (with_reducible refine (CRm.out _ mP).mono ?_)
   rintro en y1 ⟨xx,yy,rfl,hb,hr⟩
   have fX:Below zl.heap.size zl y1:=zzT mP hb
   (refine hK.out _ _ (fun _=>fX) ?_;clear hK K';try simp only [pQ,pN,pZ,pS])
   refine tk [5,6,7] fX ?_
   (intro d hd;simp [tkD] at hd;subst hd;simp only [tks,pQ,pZ,pS])
   iterate 3 (refine ⟨?_,?_,?_⟩;rotate_left;· (intro oi ho;simp at ho;subst ho;refine Or.inl ⟨by rfl,fun w' fB=>?_⟩;go_simp;try with_reducible rfl))
   have bz:y1.heap[zl.heap.size]? = some (.cells #[.slice none 0 0] 43 (0,0)):=(hb.block _ (show _<_ from by simp)).trans (zG zl (.cells #[.slice none 0 0] 43))
   have sS:=(show _=some _ from by simp only [World.cell?,bz];rfl:(y1).cell? ⟨zl.heap.size,0,none⟩=some (.slice none 0 0))
   have sR:(y1).frozen? ⟨zl.heap.size,0,none⟩=false:=by simp only [World.frozen?,bz];rfl
   (refine on 9 ?_;intro o ho K' hK;simp at ho;subst ho;go_simp)
   (refine hK.out _ _ (fun _=>(fX.setCell (p:=⟨zl.heap.size,0,none⟩) (ei _) _)) ?_;clear hK K';try simp only [pQ,pN,pZ,pS])
   (refine on 10 ?_;intro o ho K' hK;simp at ho;subst ho;go_simp)
   (refine hK.out _ _ (fun _=>(fX.setCell (p:=⟨zl.heap.size,0,none⟩) (ei _) _)) ?_;clear hK K';try simp only [pQ,pN,pZ,pS])
   refine zU (by kernel_rfl) (NoPanic.normal ?_) _
   exact ⟨rfl,⟨zl.heap.size,xx,yy⟩,by rfl,z8.first Gs.out mP (by simp) hb (zX.one hr) (but1 _ _ _) (by rw [zT bz];rfl)⟩
 rintro ⟨gm,xm,ym⟩ zm hR
 have Rm:Hid (z8 F zl gm (.cells #[.slice xm km.args.length ym] 43 (0,0)) [kz km] [.slice xm km.args.length ym] zm):=hR
 have nC:Hid (Below W0.heap.size W0 zm/\Below w.heap.size w zm):=⟨aA.out.1.trans (Rm.out.below.mono (aA.out.1).size),aA.out.2.trans (Rm.out.below.mono (aA.out.2).size)⟩
 clear hR CRm
 simp only [Act.put,List.setIfInBounds_toArray,List.set_cons_zero,List.set_cons_succ]
 go_wp2_with fail
 have GE:=nC
 have CRn:=ed (fun wz (hz:Below zm.heap.size zm wz)=>Cn.out wz (nC.out.2.trans (hz.mono (nC.out.2).size)))
 have Du:Hid (∀ i,F i->i<zm.heap.size):=fun i h=>fK (HP.out.1.old i h) (nC.out.2).size
 refine jR (X:=Nat×Option Addr×Nat) (fun a x=>((((((((((a.put (some 164) (.agg #[.slice na ns.length nc,.slice ka ns.length kc])).put (some 165) (.slice (some ⟨fT,fS,none⟩) 4 qc)).put (some 166) (.pointer (some ⟨fT,fS+6,none⟩))).put (some 167) (.agg #[str s3,.slice a3 n3 c3])).put (some 168) (.tuple #[.agg #[.slice x.2.1 kn.args.length x.2.2],.bool qn])).put (some 163) (.tuple #[.agg #[.slice x.2.1 kn.args.length x.2.2],.bool qn])).put (some 169) (.agg #[.slice x.2.1 kn.args.length x.2.2])).put (some 170) (.bool qn)).put (some 21) (.pointer (some ⟨x.1,0,none⟩))).put (some 22) (.bool qn))) (fun x w'=>z8 F zm x.1 (.cells #[.slice x.2.1 kn.args.length x.2.2] 43 (0,0)) [kz kn] [.slice x.2.1 kn.args.length x.2.2] w') ?_ ?_
 ·refine wp_region_noPanic ?_
  refine zB (fun w'=>Below zm.heap.size zm w') (fun _=>false) (by kernel_rfl) ?_
  have fV:(fun w'=>Below zm.heap.size zm w') zm.drew:=Below.drew (e_ _ _)
  refine tk [0,1,2,3] fV ?_
  (intro d hd;simp [tkD] at hd;subst hd;simp only [tks,pQ,pZ,pS])
  iterate 4 (refine ⟨?_,?_,?_⟩;rotate_left;· (intro oi ho;simp at ho;subst ho;refine Or.inl ⟨by rfl,fun w' fB=>?_⟩;obtain ⟨e0,e1,f1,h1,f2,h2,f3,h3⟩:=SX.out w' (nC.out.1.trans (fB.mono (nC.out.1).size));go_simp;try with_reducible rfl))
  refine k8 4 8 (by kernel_rfl) ?_ ?_
  ·(intro o4 ho K' hK;simp at ho;subst ho)
   go_simp
   go_at_call 34
   (with_reducible refine (CRn.out zm.drew fV).mono ?_)
   rintro en y1 ⟨xx,yy,rfl,hb,hr⟩
   have fX:Below zm.heap.size zm y1:=fV.trans hb
   (refine hK.out _ _ (fun _=>fX) ?_;clear hK K';try simp only [pQ,pN,pZ,pS])
   refine tk [5,6,7] fX ?_
   (intro d hd;simp [tkD] at hd;subst hd;simp only [tks,pQ,pZ,pS])
   iterate 3 (refine ⟨?_,?_,?_⟩;rotate_left;· (intro oi ho;simp at ho;subst ho;refine Or.inl ⟨by rfl,fun w' fB=>?_⟩;go_simp;try with_reducible rfl))
   (refine on 8 ?_;intro o ho K' hK;simp at ho;subst ho;go_simp)
   (refine hK.out _ _ (fun _=>fX.alloc (fX).size _) ?_;clear hK K';try simp only [pQ,pN,pZ,pS])
   have bz:(y1.alloc (.cells #[.slice none 0 0] 43)).heap[y1.heap.size]? = some (.cells #[.slice none 0 0] 43 (0,0)):=zG _ _
   have sS:=(show _=some _ from by simp only [World.cell?,bz];rfl:(y1.alloc (.cells #[.slice none 0 0] 43)).cell? ⟨y1.heap.size,0,none⟩=some (.slice none 0 0))
   have sR:(y1.alloc (.cells #[.slice none 0 0] 43)).frozen? ⟨y1.heap.size,0,none⟩=false:=by simp only [World.frozen?,bz];rfl
   (refine on 9 ?_;intro o ho K' hK;simp at ho;subst ho;go_simp)
   (refine hK.out _ _ (fun _=>fX.alloc fX.size _) ?_;clear hK K';try simp only [pQ,pN,pZ,pS])
   (refine on 10 ?_;intro o ho K' hK;simp at ho;subst ho;go_simp)
   (refine hK.out _ _ (fun _=>fX.alloc fX.size _) ?_;clear hK K';try simp only [pQ,pN,pZ,pS])
   refine zU (by kernel_rfl) (NoPanic.normal ?_) _
   exact ⟨rfl,⟨y1.heap.size,xx,yy⟩,by rfl,z8.fresh fX (zX.one hr)⟩
  ·(intro o8 ho K' hK;simp at ho;subst ho)
   go_simp
   (refine hK.out _ _ (fun _=>fV.alloc (ei _) _) ?_;clear hK K';try simp only [pQ,pN,pZ,pS])
   (refine on 4 ?_;intro o ho K' hK;simp at ho;subst ho;go_simp)
   go_at_call 34
   have mP:Below zm.heap.size zm (zm.alloc (.cells #[.slice none 0 0] 43)).drew:=fV.alloc (ei _) _
   (with_reducible refine (CRn.out _ mP).mono ?_)
   rintro en y1 ⟨xx,yy,rfl,hb,hr⟩
   have fX:Below zm.heap.size zm y1:=zzT mP hb
   (refine hK.out _ _ (fun _=>fX) ?_;clear hK K';try simp only [pQ,pN,pZ,pS])
   refine tk [5,6,7] fX ?_
   (intro d hd;simp [tkD] at hd;subst hd;simp only [tks,pQ,pZ,pS])
   iterate 3 (refine ⟨?_,?_,?_⟩;rotate_left;· (intro oi ho;simp at ho;subst ho;refine Or.inl ⟨by rfl,fun w' fB=>?_⟩;go_simp;try with_reducible rfl))
   have bz:y1.heap[zm.heap.size]? = some (.cells #[.slice none 0 0] 43 (0,0)):=(hb.block _ (show _<_ from by simp)).trans (zG zm (.cells #[.slice none 0 0] 43))
   have sS:=(show _=some _ from by simp only [World.cell?,bz];rfl:(y1).cell? ⟨zm.heap.size,0,none⟩=some (.slice none 0 0))
   have sR:(y1).frozen? ⟨zm.heap.size,0,none⟩=false:=by simp only [World.frozen?,bz];rfl
   (refine on 9 ?_;intro o ho K' hK;simp at ho;subst ho;go_simp)
   (refine hK.out _ _ (fun _=>(fX.setCell (p:=⟨zm.heap.size,0,none⟩) (ei _) _)) ?_;clear hK K';try simp only [pQ,pN,pZ,pS])
   (refine on 10 ?_;intro o ho K' hK;simp at ho;subst ho;go_simp)
   (refine hK.out _ _ (fun _=>(fX.setCell (p:=⟨zm.heap.size,0,none⟩) (ei _) _)) ?_;clear hK K';try simp only [pQ,pN,pZ,pS])
   refine zU (by kernel_rfl) (NoPanic.normal ?_) _
   exact ⟨rfl,⟨zm.heap.size,xx,yy⟩,by rfl,z8.first Du.out mP (by simp) hb (zX.one hr) (but1 _ _ _) (by rw [zT bz];rfl)⟩
 rintro ⟨gn,xn,yn⟩ zn hR
 have Rn:Hid (z8 F zm gn (.cells #[.slice xn kn.args.length yn] 43 (0,0)) [kz kn] [.slice xn kn.args.length yn] zn):=hR
 have n9:Hid (Below W0.heap.size W0 zn/\Below w.heap.size w zn):=⟨nC.out.1.trans (Rn.out.below.mono (nC.out.1).size),nC.out.2.trans (Rn.out.below.mono (nC.out.2).size)⟩
 clear hR CRn
 simp only [Act.put,List.setIfInBounds_toArray,List.set_cons_zero,List.set_cons_succ]
 go_wp2_with fail
 have bl:zn.cell? ⟨gl,0,none⟩=some (.slice xl kl.args.length yl):=(Rn.out.below.cell (e9 _ _ ((Rm.out.below.cell (e9 _ _ (Rl.out.cell0))).trans (Rl.out.cell0)))).trans ((Rm.out.below.cell (e9 _ _ (Rl.out.cell0))).trans (Rl.out.cell0))
 have Tl:Hid (Rep (fun i=>F i\/W0.heap.size<=i) zn (kz kl) (.slice xl kl.args.length yl)):=Rep.below (F':=fun i=>F i\/W0.heap.size<=i) Rn.out.below (fun _ h=>h) (Rep.below (F':=fun i=>F i\/W0.heap.size<=i) Rm.out.below (fun _ h=>h) ((zX.get1 Rl.out.rep).weak (G:=fun i=>F i\/W0.heap.size<=i) (fun i h=>h.1.elim .inl (fun h=>.inr (fQ (HLl.out.1).size h)))))
 have bm:zn.cell? ⟨gm,0,none⟩=some (.slice xm km.args.length ym):=(Rn.out.below.cell (e9 _ _ (Rm.out.cell0))).trans (Rm.out.cell0)
 have Tm:Hid (Rep (fun i=>F i\/W0.heap.size<=i) zn (kz km) (.slice xm km.args.length ym)):=Rep.below (F':=fun i=>F i\/W0.heap.size<=i) Rn.out.below (fun _ h=>h) ((zX.get1 Rm.out.rep).weak (G:=fun i=>F i\/W0.heap.size<=i) (fun i h=>h.1.elim .inl (fun h=>.inr (fQ (GF.out.1).size h))))
 have bn:zn.cell? ⟨gn,0,none⟩=some (.slice xn kn.args.length yn):=Rn.out.cell0
 have Tn:Hid (Rep (fun i=>F i\/W0.heap.size<=i) zn (kz kn) (.slice xn kn.args.length yn)):=(zX.get1 Rn.out.rep).weak (G:=fun i=>F i\/W0.heap.size<=i) (fun i h=>h.1.elim .inl (fun h=>.inr (fQ (GE.out.1).size h)))
 have BR:Hid (zn.heap[w.heap.size+1+1]? = some (.cells #[.slice none 0 0] 43 (0,0))):=(n9.out.1.block _ (zZ H0.out.2.2.2)).trans H0.out.2.2.2
 have mg:zn.frozen? ⟨w.heap.size+1+1,0,none⟩=false:=by simp only [World.frozen?,BR.out];rfl
 have tN:zn.cell? ⟨w.heap.size+1+1,0,none⟩=some (.slice none 0 0):=by simp only [World.cell?,BR.out];rfl
 have HE:=ed (show zh ns (.ite l m n)=(km,ql && qm && qn && decide (kl.args=[]) && decide (zF km=zF kn)) by rw [zh,aJ,oP,ah])
 have Ec:=ed (ef aJ (ef oP ah))
 have rg:∀ g,W0.heap.size<=g->g≠w.heap.size+1+1:=fun g h e=>by have:=H0.out.2.1;omega
 have nl:gl≠w.heap.size+1+1:=rg _ (fQ H1.out.1.size Rl.out.new)
 have nm:gm≠w.heap.size+1+1:=rg _ (fQ aA.out.1.size Rm.out.new)
 have nn:gn≠w.heap.size+1+1:=rg _ (fQ nC.out.1.size Rn.out.new)
 have nD:zn.drew.frozen? ⟨w.heap.size+1+1,0,none⟩=false:=mg
 have aC:zn.drew.cell? ⟨w.heap.size+1+1,0,none⟩=some (.slice none 0 0):=tN
 have SBL:Hid (∀ w',Below zn.heap.size zn w'->w'.cell? ⟨gl,0,none⟩=some (.slice xl kl.args.length yl)/\w'.cell? ⟨gm,0,none⟩=some (.slice xm km.args.length ym)/\w'.cell? ⟨gn,0,none⟩=some (.slice xn kn.args.length yn)):=by
  show ∀ w',_->_
  intro w' h
  exact ⟨(h.cell (e9 _ _ bl)).trans bl,(h.cell (e9 _ _ bm)).trans bm,(h.cell (e9 _ _ bn)).trans bn⟩
 clear aJ oP ah Cl Cm Cn rg bl bm bn
 cases ql with
 | false =>
   have mN:=ed (show zh ns (.ite l m n)=(km,false) by rw [HE.out];simp)
   refine wp_region_noPanic ?_
   refine zB (fun w'=>w'.cell? ⟨gl,0,none⟩=some (.slice xl kl.args.length yl)/\w'.cell? ⟨gm,0,none⟩=some (.slice xm km.args.length ym)/\w'.cell? ⟨gn,0,none⟩=some (.slice xn kn.args.length yn)) (fun _=>false) (by kernel_rfl) ?_
   have fV:(fun w'=>w'.cell? ⟨gl,0,none⟩=some (.slice xl kl.args.length yl)/\w'.cell? ⟨gm,0,none⟩=some (.slice xm km.args.length ym)/\w'.cell? ⟨gn,0,none⟩=some (.slice xn kn.args.length yn)) zn.drew:=SBL.out zn.drew (Below.drew (e_ _ _))
   refine tk [0,1,2,3,4,5,6,7,8,9,10,11,12,13,14,15,16,17,18,19,20] fV ?_
   (intro d hd;simp [tkD] at hd;subst hd;simp only [tks,pQ,pZ,pS])
   iterate 21 (refine ⟨?_,?_,?_⟩;rotate_left;· (intro oi ho;simp at ho;subst ho;first | (refine Or.inr ⟨by rfl,?_⟩;with_reducible rfl) | (refine Or.inl ⟨by rfl,fun w' fB=>?_⟩;obtain ⟨e0,e1,e2⟩:=fB;go_simp;try with_reducible rfl)))
   (refine on 21 ?_;intro o ho K' hK;simp at ho;subst ho;go_simp)
   (refine hK.out _ _ (fun _=>⟨zI (fV).1 nl,zI (fV).2.1 nm,zI (fV).2.2 nn⟩) ?_;clear hK K';try simp only [pQ,pN,pZ,pS])
   (refine on 22 ?_;intro o ho K' hK;simp at ho;subst ho;go_simp)
   (refine hK.out _ _ (fun _=>⟨zI (fV).1 nl,zI (fV).2.1 nm,zI (fV).2.2 nn⟩) ?_;clear hK K';try simp only [pQ,pN,pZ,pS])
   refine zU (by kernel_rfl) (NoPanic.normal ?_) _
   go_wp2_with fail
   obtain ⟨W,hW,s0,fD,fO⟩:=k_ (BR.out) (.slice xm km.args.length ym)
   rw [<- hW]
   refine bodyPost_ret (v:=.tuple #[.agg #[.slice xm km.args.length ym],.bool false]) (by simp [results,Tryz.results34,go_sem,s0]) rfl ?_
   rw [mN.out]
   exact jm (k:=km) HP.out.1.old H0.out.1 H0.out.2.1 n9.out.1 Tm.out (fun B w0 h hB=>(fD B w0 h hB).drew) fO
 | true =>
   cases qm with
   | false =>
     have mN:=ed (show zh ns (.ite l m n)=(km,false) by rw [HE.out];simp)
     refine wp_region_noPanic ?_
     refine zB (fun w'=>w'.cell? ⟨gl,0,none⟩=some (.slice xl kl.args.length yl)/\w'.cell? ⟨gm,0,none⟩=some (.slice xm km.args.length ym)/\w'.cell? ⟨gn,0,none⟩=some (.slice xn kn.args.length yn)) (fun _=>false) (by kernel_rfl) ?_
     have fV:(fun w'=>w'.cell? ⟨gl,0,none⟩=some (.slice xl kl.args.length yl)/\w'.cell? ⟨gm,0,none⟩=some (.slice xm km.args.length ym)/\w'.cell? ⟨gn,0,none⟩=some (.slice xn kn.args.length yn)) zn.drew:=SBL.out zn.drew (Below.drew (e_ _ _))
     refine tk [0,1,2,3,4,5,6,7,8,9,10,11,12,13,14,15,16,17,18,19,20] fV ?_
     (intro d hd;simp [tkD] at hd;subst hd;simp only [tks,pQ,pZ,pS])
     iterate 21 (refine ⟨?_,?_,?_⟩;rotate_left;· (intro oi ho;simp at ho;subst ho;first | (refine Or.inr ⟨by rfl,?_⟩;with_reducible rfl) | (refine Or.inl ⟨by rfl,fun w' fB=>?_⟩;obtain ⟨e0,e1,e2⟩:=fB;go_simp;try with_reducible rfl)))
     (refine on 21 ?_;intro o ho K' hK;simp at ho;subst ho;go_simp)
     (refine hK.out _ _ (fun _=>⟨zI (fV).1 nl,zI (fV).2.1 nm,zI (fV).2.2 nn⟩) ?_;clear hK K';try simp only [pQ,pN,pZ,pS])
     (refine on 22 ?_;intro o ho K' hK;simp at ho;subst ho;go_simp)
     (refine hK.out _ _ (fun _=>⟨zI (fV).1 nl,zI (fV).2.1 nm,zI (fV).2.2 nn⟩) ?_;clear hK K';try simp only [pQ,pN,pZ,pS])
     refine zU (by kernel_rfl) (NoPanic.normal ?_) _
     go_wp2_with fail
     obtain ⟨W,hW,s0,fD,fO⟩:=k_ (BR.out) (.slice xm km.args.length ym)
     rw [<- hW]
     refine bodyPost_ret (v:=.tuple #[.agg #[.slice xm km.args.length ym],.bool false]) (by simp [results,Tryz.results34,go_sem,s0]) rfl ?_
     rw [mN.out]
     exact jm (k:=km) HP.out.1.old H0.out.1 H0.out.2.1 n9.out.1 Tm.out (fun B w0 h hB=>(fD B w0 h hB).drew) fO
   | true =>
     cases qn with
     | false =>
       have mN:=ed (show zh ns (.ite l m n)=(km,false) by rw [HE.out];simp)
       refine wp_region_noPanic ?_
       refine zB (fun w'=>w'.cell? ⟨gl,0,none⟩=some (.slice xl kl.args.length yl)/\w'.cell? ⟨gm,0,none⟩=some (.slice xm km.args.length ym)/\w'.cell? ⟨gn,0,none⟩=some (.slice xn kn.args.length yn)) (fun _=>false) (by kernel_rfl) ?_
       have fV:(fun w'=>w'.cell? ⟨gl,0,none⟩=some (.slice xl kl.args.length yl)/\w'.cell? ⟨gm,0,none⟩=some (.slice xm km.args.length ym)/\w'.cell? ⟨gn,0,none⟩=some (.slice xn kn.args.length yn)) zn.drew:=SBL.out zn.drew (Below.drew (e_ _ _))
       refine tk [0,1,2,3,4,5,6,7,8,9,10,11,12,13,14,15,16,17,18,19,20] fV ?_
       (intro d hd;simp [tkD] at hd;subst hd;simp only [tks,pQ,pZ,pS])
       iterate 21 (refine ⟨?_,?_,?_⟩;rotate_left;· (intro oi ho;simp at ho;subst ho;first | (refine Or.inr ⟨by rfl,?_⟩;with_reducible rfl) | (refine Or.inl ⟨by rfl,fun w' fB=>?_⟩;obtain ⟨e0,e1,e2⟩:=fB;go_simp;try with_reducible rfl)))
       (refine on 21 ?_;intro o ho K' hK;simp at ho;subst ho;go_simp)
       (refine hK.out _ _ (fun _=>⟨zI (fV).1 nl,zI (fV).2.1 nm,zI (fV).2.2 nn⟩) ?_;clear hK K';try simp only [pQ,pN,pZ,pS])
       (refine on 22 ?_;intro o ho K' hK;simp at ho;subst ho;go_simp)
       (refine hK.out _ _ (fun _=>⟨zI (fV).1 nl,zI (fV).2.1 nm,zI (fV).2.2 nn⟩) ?_;clear hK K';try simp only [pQ,pN,pZ,pS])
       refine zU (by kernel_rfl) (NoPanic.normal ?_) _
       go_wp2_with fail
       obtain ⟨W,hW,s0,fD,fO⟩:=k_ (BR.out) (.slice xm km.args.length ym)
       rw [<- hW]
       refine bodyPost_ret (v:=.tuple #[.agg #[.slice xm km.args.length ym],.bool false]) (by simp [results,Tryz.results34,go_sem,s0]) rfl ?_
       rw [mN.out]
       exact jm (k:=km) HP.out.1.old H0.out.1 H0.out.2.1 n9.out.1 Tm.out (fun B w0 h hB=>(fD B w0 h hB).drew) fO
     | true =>
       have AC:=kg m ns km HP.out.1.n15 (by have:=u4 (t:=m) (ns:=ns) HP.out.2.2.1.2 (by rw [Ec.out.2.1]);rwa [Ec.out.2.1] at this)
       have BV:=kg n ns kn HP.out.1.n15 (by have:=u4 (t:=n) (ns:=ns) HP.out.2.2.2 (by rw [Ec.out.2.2]);rwa [Ec.out.2.2] at this)
       by_cases t6:kl.args=[]
       ·have lf:(((kl.args.length:Nat):Int) == 0)=true:=by rw [t6];rfl
        have AW:=ed (show zh ns (.ite l m n)=(km,decide (zF km=zF kn)) by rw [HE.out,t6];simp)
        have Eg:=ed (fun wz (h:Below zn.heap.size zn wz)=>vI 15 km AC (by omega) _ wz _ (Rep.below (F':=fun i=>F i\/W0.heap.size<=i) h (fun _ h=>h) Tm.out))
        have il:=ed (fun wz (h:Below zn.heap.size zn wz)=>vI 15 kn BV (by omega) _ wz _ (Rep.below (F':=fun i=>F i\/W0.heap.size<=i) h (fun _ h=>h) Tn.out))
        clear t6 AC BV
        by_cases ia:zF km=zF kn
        ·have mN:=ed (show zh ns (.ite l m n)=(km,true) by rw [AW.out,decide_eq_true ia])
         have q1:(zF km == zF kn)=true:=by rw [beq_iff_eq];exact ia
         clear ia
         obtain ⟨X1,Ch⟩:=zzM (zF km)
         obtain ⟨X2,nR⟩:=zzM (zF kn)
         rw [<- Ch] at Eg q1;rw [<- nR] at il q1
         clear Ch nR nD aC
         refine wp_region_noPanic ?_
         refine zB (fun w'=>w'.cell? ⟨gl,0,none⟩=some (.slice xl kl.args.length yl)/\w'.cell? ⟨gm,0,none⟩=some (.slice xm km.args.length ym)/\w'.cell? ⟨gn,0,none⟩=some (.slice xn kn.args.length yn)) (fun _=>false) (by kernel_rfl) ?_
         have fV:(fun w'=>w'.cell? ⟨gl,0,none⟩=some (.slice xl kl.args.length yl)/\w'.cell? ⟨gm,0,none⟩=some (.slice xm km.args.length ym)/\w'.cell? ⟨gn,0,none⟩=some (.slice xn kn.args.length yn)) zn.drew:=SBL.out zn.drew (Below.drew (e_ _ _))
         refine tk [0,1,2,3,4,5,6,7,8,9,10,11,12,13,14,15,17] fV ?_
         (intro d hd;simp [tkD] at hd;subst hd;simp only [tks,pQ,pZ,pS])
         iterate 17 (refine ⟨?_,?_,?_⟩;rotate_left;· (intro oi ho;simp at ho;subst ho;refine Or.inl ⟨by rfl,fun w' fB=>?_⟩;obtain ⟨e0,e1,e2⟩:=fB;go_simp;try with_reducible rfl))
         (refine on 16 ?_;intro o ho K' hK;simp at ho;subst ho;go_simp)
         go_at_call 46
         (with_reducible refine (Eg.out _ (Below.drew (e_ zn.heap.size zn))).mono ?_)
         rintro en v1 ⟨rfl,hb⟩
         have ne:Hid (Below zn.heap.size zn v1):=(Below.drew (e_ zn.heap.size zn)).trans hb
         clear hb
         (refine hK.out _ _ (fun _=>SBL.out v1 ne.out) ?_;clear hK K';try simp only [pQ,pN,pZ,pS])
         have hS16:=SBL.out v1 ne.out
         (refine on 18 ?_;intro o ho K' hK;simp at ho;subst ho;go_simp)
         go_at_call 46
         (with_reducible refine (il.out _ ne.out).mono ?_)
         rintro en v2 ⟨rfl,hb⟩
         have sx:Hid (Below zn.heap.size zn v2):=zzT ne.out hb
         clear hb
         (refine hK.out _ _ (fun _=>SBL.out v2 sx.out) ?_;clear hK K';try simp only [pQ,pN,pZ,pS])
         have AO:=SBL.out v2 sx.out
         have tq:Hid (v2.heap[w.heap.size+1+1]? = some (.cells #[.slice none 0 0] 43 (0,0))):=(sx.out.block _ (zZ BR.out)).trans BR.out
         have rG:v2.frozen? ⟨w.heap.size+1+1,0,none⟩=false:=by simp only [World.frozen?,tq.out];rfl
         have iC:v2.cell? ⟨w.heap.size+1+1,0,none⟩=some (.slice none 0 0):=by simp only [World.cell?,tq.out];rfl
         have rQ:=SBL.out v2 sx.out
         refine tk [19,20] AO ?_
         (intro d hd;simp [tkD] at hd;subst hd;simp only [tks,pQ,pZ,pS])
         iterate 2 (refine ⟨?_,?_,?_⟩;rotate_left;· (intro oi ho;simp at ho;subst ho;refine Or.inl ⟨by rfl,fun w' fB=>?_⟩;go_simp;try with_reducible rfl))
         (refine on 21 ?_;intro o ho K' hK;simp at ho;subst ho;go_simp)
         (refine hK.out _ _ (fun _=>⟨zI (rQ).1 nl,zI (rQ).2.1 nm,zI (rQ).2.2 nn⟩) ?_;clear hK K';try simp only [pQ,pN,pZ,pS])
         (refine on 22 ?_;intro o ho K' hK;simp at ho;subst ho;go_simp)
         (refine hK.out _ _ (fun _=>⟨zI (rQ).1 nl,zI (rQ).2.1 nm,zI (rQ).2.2 nn⟩) ?_;clear hK K';try simp only [pQ,pN,pZ,pS])
         refine zU (by kernel_rfl) (NoPanic.normal ?_) _
         have aL:Hid (Below W0.heap.size W0 v2):=zzT n9.out.1 sx.out
         have T2:Hid (Rep (fun i=>F i\/W0.heap.size<=i) v2 (kz km) (.slice xm km.args.length ym)):=Rep.below sx.out (fun _ h=>h) Tm.out
         go_wp2_with fail
         obtain ⟨W,hW,s0,fD,fO⟩:=k_ (tq.out) (.slice xm km.args.length ym)
         rw [<- hW]
         refine bodyPost_ret (v:=.tuple #[.agg #[.slice xm km.args.length ym],.bool true]) (by simp [results,Tryz.results34,go_sem,s0]) rfl ?_
         rw [mN.out]
         exact jm (k:=km) HP.out.1.old H0.out.1 H0.out.2.1 aL.out T2.out fD fO
        ·have mN:=ed (show zh ns (.ite l m n)=(km,false) by rw [AW.out,decide_eq_false ia])
         have q1:(zF km == zF kn)=false:=by rw [beq_eq_false_iff_ne];exact ia
         clear ia
         obtain ⟨X1,Ch⟩:=zzM (zF km)
         obtain ⟨X2,nR⟩:=zzM (zF kn)
         rw [<- Ch] at Eg q1;rw [<- nR] at il q1
         clear Ch nR nD aC
         refine wp_region_noPanic ?_
         refine zB (fun w'=>w'.cell? ⟨gl,0,none⟩=some (.slice xl kl.args.length yl)/\w'.cell? ⟨gm,0,none⟩=some (.slice xm km.args.length ym)/\w'.cell? ⟨gn,0,none⟩=some (.slice xn kn.args.length yn)) (fun _=>false) (by kernel_rfl) ?_
         have fV:(fun w'=>w'.cell? ⟨gl,0,none⟩=some (.slice xl kl.args.length yl)/\w'.cell? ⟨gm,0,none⟩=some (.slice xm km.args.length ym)/\w'.cell? ⟨gn,0,none⟩=some (.slice xn kn.args.length yn)) zn.drew:=SBL.out zn.drew (Below.drew (e_ _ _))
         refine tk [0,1,2,3,4,5,6,7,8,9,10,11,12,13,14,15,17] fV ?_
         (intro d hd;simp [tkD] at hd;subst hd;simp only [tks,pQ,pZ,pS])
         iterate 17 (refine ⟨?_,?_,?_⟩;rotate_left;· (intro oi ho;simp at ho;subst ho;refine Or.inl ⟨by rfl,fun w' fB=>?_⟩;obtain ⟨e0,e1,e2⟩:=fB;go_simp;try with_reducible rfl))
         (refine on 16 ?_;intro o ho K' hK;simp at ho;subst ho;go_simp)
         go_at_call 46
         (with_reducible refine (Eg.out _ (Below.drew (e_ zn.heap.size zn))).mono ?_)
         rintro en v1 ⟨rfl,hb⟩
         have ne:Hid (Below zn.heap.size zn v1):=(Below.drew (e_ zn.heap.size zn)).trans hb
         clear hb
         (refine hK.out _ _ (fun _=>SBL.out v1 ne.out) ?_;clear hK K';try simp only [pQ,pN,pZ,pS])
         have hS16:=SBL.out v1 ne.out
         (refine on 18 ?_;intro o ho K' hK;simp at ho;subst ho;go_simp)
         go_at_call 46
         (with_reducible refine (il.out _ ne.out).mono ?_)
         rintro en v2 ⟨rfl,hb⟩
         have sx:Hid (Below zn.heap.size zn v2):=zzT ne.out hb
         clear hb
         (refine hK.out _ _ (fun _=>SBL.out v2 sx.out) ?_;clear hK K';try simp only [pQ,pN,pZ,pS])
         have AO:=SBL.out v2 sx.out
         have tq:Hid (v2.heap[w.heap.size+1+1]? = some (.cells #[.slice none 0 0] 43 (0,0))):=(sx.out.block _ (zZ BR.out)).trans BR.out
         have rG:v2.frozen? ⟨w.heap.size+1+1,0,none⟩=false:=by simp only [World.frozen?,tq.out];rfl
         have iC:v2.cell? ⟨w.heap.size+1+1,0,none⟩=some (.slice none 0 0):=by simp only [World.cell?,tq.out];rfl
         have rQ:=SBL.out v2 sx.out
         refine tk [19,20] AO ?_
         (intro d hd;simp [tkD] at hd;subst hd;simp only [tks,pQ,pZ,pS])
         iterate 2 (refine ⟨?_,?_,?_⟩;rotate_left;· (intro oi ho;simp at ho;subst ho;refine Or.inl ⟨by rfl,fun w' fB=>?_⟩;go_simp;try with_reducible rfl))
         (refine on 21 ?_;intro o ho K' hK;simp at ho;subst ho;go_simp)
         (refine hK.out _ _ (fun _=>⟨zI (rQ).1 nl,zI (rQ).2.1 nm,zI (rQ).2.2 nn⟩) ?_;clear hK K';try simp only [pQ,pN,pZ,pS])
         (refine on 22 ?_;intro o ho K' hK;simp at ho;subst ho;go_simp)
         (refine hK.out _ _ (fun _=>⟨zI (rQ).1 nl,zI (rQ).2.1 nm,zI (rQ).2.2 nn⟩) ?_;clear hK K';try simp only [pQ,pN,pZ,pS])
         refine zU (by kernel_rfl) (NoPanic.normal ?_) _
         have aL:Hid (Below W0.heap.size W0 v2):=zzT n9.out.1 sx.out
         have T2:Hid (Rep (fun i=>F i\/W0.heap.size<=i) v2 (kz km) (.slice xm km.args.length ym)):=Rep.below sx.out (fun _ h=>h) Tm.out
         go_wp2_with fail
         obtain ⟨W,hW,s0,fD,fO⟩:=k_ (tq.out) (.slice xm km.args.length ym)
         rw [<- hW]
         refine bodyPost_ret (v:=.tuple #[.agg #[.slice xm km.args.length ym],.bool false]) (by simp [results,Tryz.results34,go_sem,s0]) rfl ?_
         rw [mN.out]
         exact jm (k:=km) HP.out.1.old H0.out.1 H0.out.2.1 aL.out T2.out fD fO
       ·have lf:(((kl.args.length:Nat):Int) == 0)=false:=by
         rw [beq_eq_false_iff_ne]
         cases hc:kl.args with
         | nil=>exact absurd hc t6
         | cons a b=>simp;omega
        have AW:=ed t6
        clear t6
        have mN:=ed (show zh ns (.ite l m n)=(km,false) by rw [HE.out,decide_eq_false AW.out];simp)
        refine wp_region_noPanic ?_
        refine zB (fun w'=>w'.cell? ⟨gl,0,none⟩=some (.slice xl kl.args.length yl)/\w'.cell? ⟨gm,0,none⟩=some (.slice xm km.args.length ym)/\w'.cell? ⟨gn,0,none⟩=some (.slice xn kn.args.length yn)) (fun _=>false) (by kernel_rfl) ?_
        have fV:(fun w'=>w'.cell? ⟨gl,0,none⟩=some (.slice xl kl.args.length yl)/\w'.cell? ⟨gm,0,none⟩=some (.slice xm km.args.length ym)/\w'.cell? ⟨gn,0,none⟩=some (.slice xn kn.args.length yn)) zn.drew:=SBL.out zn.drew (Below.drew (e_ _ _))
        refine tk [0,1,2,3,4,5,6,7,8,9,10,11,12,13,14,15,16,17,18,19,20] fV ?_
        (intro d hd;simp [tkD] at hd;subst hd;simp only [tks,pQ,pZ,pS])
        iterate 21 (refine ⟨?_,?_,?_⟩;rotate_left;· (intro oi ho;simp at ho;subst ho;first | (refine Or.inr ⟨by rfl,?_⟩;with_reducible rfl) | (refine Or.inl ⟨by rfl,fun w' fB=>?_⟩;obtain ⟨e0,e1,e2⟩:=fB;go_simp;try with_reducible rfl)))
        (refine on 21 ?_;intro o ho K' hK;simp at ho;subst ho;go_simp)
        (refine hK.out _ _ (fun _=>⟨zI (fV).1 nl,zI (fV).2.1 nm,zI (fV).2.2 nn⟩) ?_;clear hK K';try simp only [pQ,pN,pZ,pS])
        (refine on 22 ?_;intro o ho K' hK;simp at ho;subst ho;go_simp)
        (refine hK.out _ _ (fun _=>⟨zI (fV).1 nl,zI (fV).2.1 nm,zI (fV).2.2 nn⟩) ?_;clear hK K';try simp only [pQ,pN,pZ,pS])
        refine zU (by kernel_rfl) (NoPanic.normal ?_) _
        go_wp2_with fail
        obtain ⟨W,hW,s0,fD,fO⟩:=k_ (BR.out) (.slice xm km.args.length ym)
        rw [<- hW]
        refine bodyPost_ret (v:=.tuple #[.agg #[.slice xm km.args.length ym],.bool false]) (by simp [results,Tryz.results34,go_sem,s0]) rfl ?_
        rw [mN.out]
        exact jm (k:=km) HP.out.1.old H0.out.1 H0.out.2.1 n9.out.1 Tm.out (fun B w0 h hB=>(fD B w0 h hB).drew) fO
theorem withNames (F:Nat->Prop) (ns:List Nm) (x:Bs) (k:Ty) (nv tv:Value) (ta:Option Addr) (tc:Nat) (w:World) (rn:Rep F w (.sl 9 1 ns.length (ns.map fun p=>DV.val (str p.1))) nv) (rk:Rep F w (.sl 43 1 ns.length (qH (kinds ns))) tv) (ra:Rep F w (kz k) (.slice ta k.args.length tc)) (hn:ns.length<=1000) :
 Calls Tryz.prog 40 #[.agg #[nv,tv],str x,.agg #[.slice ta k.args.length tc]] w fun en w'=>∃ a5 c5 a6 c6,en=.returned (.agg #[.slice a5 (ns.length+1) c5,.slice a6 (ns.length+1) c6])/\Below w.heap.size w w' /\
  Rep (fun i=>F i\/w.heap.size<=i) w' (.sl 9 1 (ns++[(x,k)]).length ((ns++[(x,k)]).map fun p=>DV.val (str p.1))) (.slice a5 (ns.length+1) c5)/\Rep (fun i=>F i\/w.heap.size<=i) w' (.sl 43 1 (ns++[(x,k)]).length (qH (kinds (ns++[(x,k)])))) (.slice a6 (ns.length+1) c6):=by
 obtain ⟨xs,iu,hsx⟩:=zO.ofRep rn (fun us hu u hm=>by
  obtain ⟨j,hj⟩:=List.mem_iff_getElem?.1 hm
  have Af:=(List.getElem?_eq_some_iff.1 hj).1
  have hlen:=hu.length
  rw [List.length_map] at hlen
  have hd:(ns.map fun p=>DV.val (str p.1))[j]? = some (.val (str (ns[j]'(by omega)).1)):=by rw [List.getElem?_map,List.getElem?_eq_getElem (by omega)];rfl
  obtain ⟨v,hv,hr⟩:=zX.at hu hd
  rw [hj] at hv
  obtain rfl:=Option.some.inj hv
  rw [zH] at hr
  subst hr
  simp [str,Value.oneCell'])
 obtain ⟨ys,hys,hsy⟩:=zO.ofRep rk (uZ _)
 refine (l5With_any ns.length ns.length nv tv xs ys x ta k.args.length tc w hsx hsy (by omega) (by omega)).mono ?_
 rintro en w' ⟨a5,c5,a6,c6,rfl,hb,sM,Di,sN,Do⟩
 refine ⟨a5,c5,a6,c6,rfl,hb,?_,?_⟩
 ·rw [List.length_append,List.map_append]
  exact sM.rep (fun g hg=>.inr (sN g hg)) ((zX.below hb (fun _ h=>.inl h) iu).append (zQ.2 ⟨_,_,rfl,zH.2 rfl,zC.2 rfl⟩))
 ·rw [List.length_append,jY,bL]
  refine Di.rep (fun g hg=>.inr (Do g hg)) ((zX.below hb (fun _ h=>.inl h) hys).append ?_)
  rw [qH,qH]
  exact zQ.2 ⟨_,_,rfl,Rep.below hb (fun _ h=>.inl h) ra,zC.2 rfl⟩
set_option maxRecDepth 100000 in
theorem kd_lam (N:Nat) (ih:KdSaid N) (F:Nat->Prop) (x:Bs) (k:Ty) (t:Tm) (ns:List Nm) (nv tv s pv:Value) (w:World) (hN:zM (.lam x k t)<=N+1) (hp:wF F (.lam x k t) ns nv tv s pv w):Calls Tryz.prog 34 #[.agg #[nv,tv],.agg #[s,pv]] w (v7 F w (zh ns (.lam x k t)).1 (zh ns (.lam x k t)).2):=by
 have hold:=hp.old
 obtain ⟨na,nc,rfl,_,_,mz⟩:=zP hp.rn
 obtain ⟨ka,kc,rfl,_,_,mn⟩:=zP hp.rk
 have fa:=hp.rt
 rw [z_] at fa
 obtain ⟨qa,qc,e,fA⟩:=qO fa
 simp only [qQ,qd,List.cons.injEq,and_true] at e fA
 obtain ⟨rfl,rfl⟩:=e
 obtain ⟨_,_,e,fU⟩:=ud.of fA
 simp only [Value.slice.injEq,true_and] at e
 obtain ⟨rfl,rfl⟩:=e
 obtain ⟨fT,fS,s1,a1,n1,c1,d1,tp,mL,sJ,sU,iE,rH,As,Br⟩:=fU 1 (by simp)
 simp only [List.getElem?_cons_zero,List.getElem?_cons_succ,Option.some.injEq] at sJ
 subst sJ
 subst tp
 obtain ⟨Fs,Fq,s2,a2,n2,c2,d2,tw,i2,tx,tg,iD,sf,Bj,Bq⟩:=fU 2 (by simp)
 simp only [List.getElem?_cons_zero,List.getElem?_cons_succ,Option.some.injEq] at tx
 subst tx
 simp only [Option.some.injEq,Addr.mk.injEq,and_true] at tw
 obtain ⟨rfl,rfl⟩:=tw
 obtain ⟨pb3,po3,s3,a3,n3,c3,d3,Bt,Fo,Bp,Bw,Bv,Bo,Fp,Fr⟩:=fU 3 (by simp)
 simp only [List.getElem?_cons_zero,List.getElem?_cons_succ,Option.some.injEq] at Bp
 subst Bp
 simp only [Option.some.injEq,Addr.mk.injEq,and_true] at Bt
 obtain ⟨rfl,rfl⟩:=Bt
 simp only [qQ] at As
 subst As
 have fg:=hp.room
 have fw:=hp.ok
 have mO:=hp.sm
 have hak:=kr k
 rw [zM] at fg hN
 rw [kQ,Bool.and_eq_true,decide_eq_true_eq] at mO
 obtain ⟨W0,ff⟩:=zzM (((w.alloc (.cells #[.slice na ns.length nc,.slice ka ns.length kc] 53)).alloc (.cells #[str [],.slice (some ⟨fT,fS,none⟩) 4 qc] 40)).alloc (.cells #[.slice none 0 0] 43))
 obtain ⟨fq,z0,bA,bB,bC⟩:=yL w (.cells #[.slice na ns.length nc,.slice ka ns.length kc] 53) (.cells #[str [],.slice (some ⟨fT,fS,none⟩) 4 qc] 40) (.cells #[.slice none 0 0] 43)
 rw [<- ff] at fq z0 bA bB bC
 have CH:=ed (show Calls Tryz.prog 37 #[.agg #[str [],.slice (some ⟨fT,fS,none⟩) 4 qc]] W0 (fun en w'=>en=.returned (str (yM (z_ (.lam s1 k t))))/\Below W0.heap.size W0 w') from uG (z_ (.lam s1 k t)) (j_ _ hp.ok) F W0 _ _ (zX.below fq (fun _ h=>h) hp.rt))
 have Cp:yM (z_ (.lam s1 k t))=[108,97,109]:=by rw [z_];rfl
 rw [Cp] at CH
 have H0:=ed (ef fq (ef z0 (ef bA bC)))
 have e0:W0.cell? ⟨w.heap.size,0,none⟩=some (.slice na ns.length nc):=by simp [World.cell?,bA]
 have e1:W0.cell? ⟨w.heap.size,1,none⟩=some (.slice ka ns.length kc):=by simp [World.cell?,bA]
 have SX:Hid (∀ w',Below W0.heap.size W0 w'->w'.cell? ⟨w.heap.size,0,none⟩=some (.slice na ns.length nc)/\w'.cell? ⟨w.heap.size,1,none⟩=some (.slice ka ns.length kc)/\w'.cell? ⟨fT,fS+2,none⟩=some (str s1)/\w'.cell? ⟨fT,fS+4,none⟩=some (str s2)/\w'.cell? ⟨fT,fS+5,none⟩=some (.slice a2 n2 c2)/\w'.cell? ⟨fT,fS+6,none⟩=some (str s3)/\w'.cell? ⟨fT,fS+7,none⟩=some (.slice a3 n3 c3)):=by
  show ∀ w',_->_
  intro w' fN
  have fc:=zzT fq fN
  exact ⟨(fN.cell (e9 W0 _ e0)).trans e0,(fN.cell (e9 W0 _ e1)).trans e1,(fc.cell (p:=⟨fT,fS+2,none⟩) mL).trans sU,(fc.cell (p:=⟨fT,fS+4,none⟩) mL).trans tg,(fc.cell (p:=⟨fT,fS+5,none⟩) mL).trans iD,(fc.cell (p:=⟨fT,fS+6,none⟩) mL).trans Bw,(fc.cell (p:=⟨fT,fS+7,none⟩) mL).trans Bv⟩
 have GZ:=jk 15 k mO.1
 have CX:Hid (∀ wz,Below w.heap.size w wz->Calls Tryz.prog 39 #[.agg #[str s2,.slice a2 n2 c2]] wz fun en w'=>en=.returned (str (zF k))/\Below wz.heap.size wz w'):=by
  show ∀ wz,_->_
  intro wz hz
  have h:=gF (zA (trT k)).length (trT k) (ei _) (show _<=_ by rw [jz];omega) (gP k) F wz _ _ (zX.below hz (fun _ h=>h) sf)
  rw [jz] at h
  exact h
 have CY:Hid (∀ wz,Calls Tryz.prog 38 #[str (zF k)] wz fun en w'=>∃ ta tc,en=.returned (.tuple #[.agg #[.slice ta k.args.length tc],.bool true])/\Below wz.heap.size wz w'/\Rep (wz.heap.size<=·) w' (kz k) (.slice ta k.args.length tc)):=by
  show ∀ wz,_
  intro wz
  refine (xZ (zF k) (show _<=_ by omega) wz).mono ?_
  rintro en w' ⟨v,rfl,hb,hr⟩
  rw [v_ mO.1] at hr ⊢
  obtain ⟨ta,tc,rfl⟩:=kK hr
  exact ⟨ta,tc,rfl,hb,hr⟩
 obtain ⟨X,hX⟩:=zzM (zF k)
 rw [<- hX] at CX CY
 have HP:=ed (ef hp (ef fw (ef mO (ef Bo hN))))
 have IH:=ed ih
 have hlen:ns.length<=99:=by omega
 clear mz mn fA fU fa hp fw mO ih hN fq z0 bA bB bC e0 e1 rH sU iE Br sf tg iD Bj Bq Bo Bw Bv Fp Fr mL i2 Fo hX GZ
 go_enter Tryz.func34,Tryz.ntmps34
 go_wp2_with fail
 rw [<- ff]
 clear ff
 (with_reducible refine CH.out.mono ?_)
 rintro en w1 ⟨rfl,fP⟩
 have H1:=ed (ef fP (zzT H0.out.1 fP))
 have KZ:=ed (CX.out w1 H1.out.2)
 obtain ⟨e0,e1,f1,f2,h2,f3,h3⟩:=SX.out w1 H1.out.1
 clear fP CH CX e0 e1 f1 f3 h3
 go_wp2_with fail
 (with_reducible refine KZ.out.mono ?_)
 rintro en w2 ⟨rfl,fY⟩
 have H2:=ed (ef (zzT H1.out.1 fY) (zzT H1.out.2 fY))
 clear fY f2 h2 KZ
 go_wp2_with fail
 (with_reducible refine (CY.out w2).mono ?_)
 rintro en w3 ⟨ta,tc,rfl,fE,tG⟩
 have H3:=ed (ef (zzT H2.out.1 fE) (ef (zzT H2.out.2 fE) (tG.weak (G:=fun i=>F i\/W0.heap.size<=i) (fun i h=>.inr (fQ H2.out.1.size h)))))
 clear fE tG CY
 go_wp2_with fail
 obtain ⟨V,hV⟩:=zzN (w3.alloc (.cells #[.slice ta k.args.length tc] 43))
 rw [hV]
 have Al:Below w3.heap.size w3 V:=by rw [<- hV];exact (e_ _ _).alloc (ei _) _
 obtain ⟨ga,Jr⟩:=zzN (w3.heap.size)
 have ES:V.cell? ⟨ga,0,none⟩=some (.slice ta k.args.length tc):=by rw [<- hV,<- Jr];simp
 have HV:=ed (ef (zzT H3.out.1 Al) (zzT H3.out.2.1 Al))
 have TA:Hid (Rep (fun i=>i<V.heap.size/\(F i\/W0.heap.size<=i)) V (kz k) (.slice ta k.args.length tc)):=(Rep.keep fun i x h hx=>⟨⟨zZ hx,h⟩,hx⟩).1 _ _ (Rep.below (F':=fun i=>F i\/W0.heap.size<=i) Al (fun _ h=>h) H3.out.2.2)
 rw [Jr]
 have SV:Hid (∀ w',Below V.heap.size V w'->w'.cell? ⟨w.heap.size,0,none⟩=some (.slice na ns.length nc)/\w'.cell? ⟨w.heap.size,1,none⟩=some (.slice ka ns.length kc)/\w'.cell? ⟨fT,fS+2,none⟩=some (str s1)/\w'.cell? ⟨fT,fS+6,none⟩=some (str s3)/\w'.cell? ⟨fT,fS+7,none⟩=some (.slice a3 n3 c3)/\w'.cell? ⟨ga,0,none⟩=some (.slice ta k.args.length tc)):=by
  show ∀ w',_->_
  intro w' h
  obtain ⟨e0,e1,f1,_,_,f3,h3⟩:=SX.out w' (zzT HV.out.1 h)
  exact ⟨e0,e1,f1,f3,h3,(h.cell (e9 _ _ ES)).trans ES⟩
 have oldV:Hid (∀ i,F i->i<V.heap.size):=fun i h=>fK (HP.out.1.old i h) HV.out.2.size
 have CW:=ed (fun wz (hz:Below V.heap.size V wz)=>withNames (fun i=>i<V.heap.size/\(F i\/W0.heap.size<=i)) ns s1 k (.slice na ns.length nc) (.slice ka ns.length kc) ta tc wz ((Rep.keep fun i x (h:F i) hx=>⟨⟨oldV.out i h,.inl h⟩,hx⟩).1 _ _ (Rep.below (F':=F) (zzT HV.out.2 hz) (fun _ h=>h) HP.out.1.rn)) ((Rep.keep fun i x (h:F i) hx=>⟨⟨oldV.out i h,.inl h⟩,hx⟩).1 _ _ (Rep.below (F':=F) (zzT HV.out.2 hz) (fun _ h=>h) HP.out.1.rk)) (Rep.below (F':=fun i=>i<V.heap.size/\(F i\/W0.heap.size<=i)) hz (fun _ h=>h) TA.out) (by omega))
 obtain ⟨kt,qt,EH⟩:∃ a b,zh (ns++[(s1,k)]) t=(a,b):=⟨_,_,rfl⟩
 have CZ:Hid (∀ (B:Nat) (A1:World) (a5 a6:Option Addr) (c5 c6:Nat),V.heap.size<=B->Below V.heap.size V A1 ->
  Rep (fun i=>((i<V.heap.size/\(F i\/W0.heap.size<=i))\/B<=i)/\i<A1.heap.size) A1 (.sl 9 1 (ns++[(s1,k)]).length ((ns++[(s1,k)]).map fun p=>DV.val (str p.1))) (.slice a5 (ns.length+1) c5) ->
  Rep (fun i=>((i<V.heap.size/\(F i\/W0.heap.size<=i))\/B<=i)/\i<A1.heap.size) A1 (.sl 43 1 (ns++[(s1,k)]).length (qH (kinds (ns++[(s1,k)])))) (.slice a6 (ns.length+1) c6)->∀ (E:Nat->Prop),(∀ i,F i->E i)->(∀ i,(((i<V.heap.size/\(F i\/W0.heap.size<=i))\/B<=i)/\i<A1.heap.size)->∀ x,A1.heap[i]? = some x->E i)->(∀ i,E i->i<A1.heap.size) ->
  Calls Tryz.prog 34 #[.agg #[.slice a5 (ns.length+1) c5,.slice a6 (ns.length+1) c6],.agg #[str s3,.slice a3 n3 c3]] A1 (v7 E A1 kt qt)):=by
  show ∀ _,_
  intro B A1 a5 a6 c5 c6 hB hz h5 h6 E hFE hE hEl
  have Av:=zzT HV.out.2 hz
  have h:=IH.out E t (ns++[(s1,k)]) _ _ _ _ A1 (by have:=HP.out.2.2.2.2;omega) ⟨hEl,zX.below Av hFE HP.out.2.2.2.1,(Rep.keep fun i x hi hx=>⟨hE i hi x hx,hx⟩).1 _ _ h5,(Rep.keep fun i x hi hx=>⟨hE i hi x hx,hx⟩).1 _ _ h6,HP.out.2.1.2,HP.out.2.2.1.2,(fun p hm=>by
   rcases List.mem_append.1 hm with hm | hm
   ·exact HP.out.1.nm p hm
   ·simp at hm;subst hm;exact HP.out.2.1.1),(fun a ha=>by
   rw [jY] at ha
   rcases List.mem_append.1 ha with ha | ha
   ·exact HP.out.1.n15 a ha
   ·simp at ha;subst ha;exact HP.out.2.2.1.1),by rw [List.length_append];simp;omega⟩
  rw [EH] at h
  exact h
 have CK2:Hid (∀ (A1:World) (a5 a6:Option Addr) (c5 c6 y:Nat),Below V.heap.size V A1->y<=A1.heap.size->V.heap.size<=y ->
  Rep (fun i=>((i<V.heap.size/\(F i\/W0.heap.size<=i))\/V.heap.size<=i)/\i<y) A1 (.sl 9 1 (ns++[(s1,k)]).length ((ns++[(s1,k)]).map fun p=>DV.val (str p.1))) (.slice a5 (ns.length+1) c5) ->
  Rep (fun i=>((i<V.heap.size/\(F i\/W0.heap.size<=i))\/V.heap.size<=i)/\i<y) A1 (.sl 43 1 (ns++[(s1,k)]).length (qH (kinds (ns++[(s1,k)])))) (.slice a6 (ns.length+1) c6) ->
  Calls Tryz.prog 34 #[.agg #[.slice a5 (ns.length+1) c5,.slice a6 (ns.length+1) c6],.agg #[str s3,.slice a3 n3 c3]] A1 (v7 (fun i=>((i<V.heap.size/\(F i\/W0.heap.size<=i))\/V.heap.size<=i)/\i<y) A1 kt qt)):=by
  show ∀ _,_
  intro A1 a5 a6 c5 c6 y hz hy hVy h5 h6
  have Av:=zzT HV.out.2 hz
  have h:=IH.out (fun i=>((i<V.heap.size/\(F i\/W0.heap.size<=i))\/V.heap.size<=i)/\i<y) t (ns++[(s1,k)]) _ _ _ _ A1 (by have:=HP.out.2.2.2.2;omega) ⟨fun i h=>by have:=h.2;omega,zX.below Av (fun i h=>⟨.inl ⟨oldV.out i h,.inl h⟩,fK (oldV.out i h) hVy⟩) HP.out.2.2.2.1,h5,h6,HP.out.2.1.2,HP.out.2.2.1.2,(fun p hm=>by
   rcases List.mem_append.1 hm with hm | hm
   ·exact HP.out.1.nm p hm
   ·simp at hm;subst hm;exact HP.out.2.1.1),(fun a ha=>by
   rw [jY] at ha
   rcases List.mem_append.1 ha with ha | ha
   ·exact HP.out.1.n15 a ha
   ·simp at ha;subst ha;exact HP.out.2.2.1.1),by rw [List.length_append];simp;omega⟩
  rw [EH] at h
  exact h
 have HKT:=ed EH
 clear EH H1 H2 H3 Al hV IH SX
 refine jR (X:=Nat×Option Addr×Nat×Option Addr×Nat×Option Addr×Nat) (fun a x=>((((((((((((((((a.put (some 76) (.agg #[.slice na ns.length nc,.slice ka ns.length kc])).put (some 77) (.slice (some ⟨fT,fS,none⟩) 4 qc)).put (some 78) (.pointer (some ⟨fT,fS+2,none⟩))).put (some 79) (.pointer (some ⟨fT,fS+2,none⟩))).put (some 80) (str s1)).put (some 81) (.agg #[.slice ta k.args.length tc])).put (some 82) (.agg #[.slice x.2.1 (ns.length+1) x.2.2.1,.slice x.2.2.2.1 (ns.length+1) x.2.2.2.2.1])).put (some 83) (.slice (some ⟨fT,fS,none⟩) 4 qc)).put (some 84) (.pointer (some ⟨fT,fS+6,none⟩))).put (some 85) (.agg #[str s3,.slice a3 n3 c3])).put (some 86) (.tuple #[.agg #[.slice x.2.2.2.2.2.1 kt.args.length x.2.2.2.2.2.2],.bool qt])).put (some 75) (.tuple #[.agg #[.slice x.2.2.2.2.2.1 kt.args.length x.2.2.2.2.2.2],.bool qt])).put (some 87) (.agg #[.slice x.2.2.2.2.2.1 kt.args.length x.2.2.2.2.2.2])).put (some 88) (.bool qt)).put (some 10) (.pointer (some ⟨x.1,0,none⟩))).put (some 11) (.bool qt))) (fun x w'=>z8 (fun i=>i<V.heap.size/\(F i\/W0.heap.size<=i)) V x.1 (.cells #[.slice x.2.2.2.2.2.1 kt.args.length x.2.2.2.2.2.2] 43 (0,0)) [kz kt] [.slice x.2.2.2.2.2.1 kt.args.length x.2.2.2.2.2.2] w') ?_ ?_
 ·refine wp_region_noPanic ?_
  refine zB (fun w'=>Below V.heap.size V w') (fun _=>false) (by kernel_rfl) ?_
  have fV:(fun w'=>Below V.heap.size V w') V.drew:=Below.drew (e_ _ _)
  refine tk [0,1,2,3,4,5,7,8,9] fV ?_
  (intro d hd;simp [tkD] at hd;subst hd;simp only [tks,pQ,pZ,pS])
  iterate 9 (refine ⟨?_,?_,?_⟩;rotate_left;· (intro oi ho;simp at ho;subst ho;refine Or.inl ⟨by rfl,fun w' fB=>?_⟩;obtain ⟨e0,e1,f1,f3,h3,e8⟩:=SV.out w' fB;go_simp;try with_reducible rfl))
  refine k8 6 14 (by kernel_rfl) ?_ ?_
  ·(intro o6 ho K' hK;simp at ho;subst ho)
   go_simp
   go_at_call 40
   (with_reducible refine (CW.out _ fV).mono ?_)
   rintro en y1 ⟨aq,cq,ar,cr,rfl,fh,GX,GW⟩
   have fX:Below V.heap.size V y1:=fV.trans (fh.mono (fV).size)
   (refine hK.out _ _ (fun _=>fX) ?_;clear hK K';try simp only [pQ,pN,pZ,pS])
   refine k8 10 14 (by kernel_rfl) ?_ ?_
   ·have oJ:Rep (fun i=>((i<V.heap.size/\(F i\/W0.heap.size<=i))\/V.heap.size<=i)/\i<y1.heap.size) y1 (.sl 9 1 (ns++[(s1,k)]).length ((ns++[(s1,k)]).map fun p=>DV.val (str p.1))) (.slice aq (ns.length+1) cq):=(Rep.keep fun i x hi hx=>⟨⟨hi,zZ hx⟩,hx⟩).1 _ _ GX
    have oQ:Rep (fun i=>((i<V.heap.size/\(F i\/W0.heap.size<=i))\/V.heap.size<=i)/\i<y1.heap.size) y1 (.sl 43 1 (ns++[(s1,k)]).length (qH (kinds (ns++[(s1,k)])))) (.slice ar (ns.length+1) cr):=(Rep.keep fun i x hi hx=>⟨⟨hi,zZ hx⟩,hx⟩).1 _ _ GW
    have AX:=CZ.out V.heap.size y1 aq ar cq cr (ei _) fX oJ oQ (fun i=>((i<V.heap.size/\(F i\/W0.heap.size<=i))\/V.heap.size<=i)/\i<y1.heap.size) (fun i h=>⟨.inl ⟨oldV.out i h,.inl h⟩,fK (oldV.out i h) fX.size⟩) (fun i h _ _=>h) (fun i h=>h.2)
    (intro o10 ho K' hK;simp at ho;subst ho)
    go_simp
    go_at_call 34
    (with_reducible refine AX.mono ?_)
    rintro en y2 ⟨xx,yy,rfl,hbk,mD⟩
    have nL:Below V.heap.size V y2:=zzT fX hbk
    (refine hK.out _ _ (fun _=>nL) ?_;clear hK K';try simp only [pQ,pN,pZ,pS])
    refine tk [11,12,13] nL ?_
    (intro d hd;simp [tkD] at hd;subst hd;simp only [tks,pQ,pZ,pS])
    iterate 3 (refine ⟨?_,?_,?_⟩;rotate_left;· (intro oi ho;simp at ho;subst ho;refine Or.inl ⟨by rfl,fun w' fB=>?_⟩;go_simp;try with_reducible rfl))
    (refine on 14 ?_;intro o ho K' hK;simp at ho;subst ho;go_simp)
    (refine hK.out _ _ (fun _=>nL.alloc nL.size _) ?_;clear hK K';try simp only [pQ,pN,pZ,pS])
    (refine on 15 ?_;intro o ho K' hK;simp at ho;subst ho;go_simp)
    (refine hK.out _ _ (fun _=>nL.alloc nL.size _) ?_;clear hK K';try simp only [pQ,pN,pZ,pS])
    (refine on 16 ?_;intro o ho K' hK;simp at ho;subst ho;go_simp)
    (refine hK.out _ _ (fun _=>nL.alloc nL.size _) ?_;clear hK K';try simp only [pQ,pN,pZ,pS])
    refine zU (by kernel_rfl) (NoPanic.normal ?_) _
    exact ⟨rfl,⟨y2.heap.size,aq,cq,ar,cr,xx,yy⟩,by rfl,z8.fresh nL (zX.one (mD.weak fun i h=>by rcases h with h | h;exact h.1;exact .inr (fQ fX.size h)))⟩
   ·(intro o14 ho K' hK;simp at ho;subst ho)
    go_simp
    (refine hK.out _ _ (fun _=>fX.alloc fX.size _) ?_;clear hK K';try simp only [pQ,pN,pZ,pS])
    have hA:Below V.heap.size V (y1.alloc (.cells #[.slice none 0 0] 43)):=fX.alloc fX.size _
    have lz:(y1.alloc (.cells #[.slice none 0 0] 43)).heap.size=y1.heap.size+1:=by simp
    have Gw:(y1.alloc (.cells #[.slice none 0 0] 43)).heap[y1.heap.size]? = some (.cells #[.slice none 0 0] 43 (0,0)):=zG _ _
    refine qr 10 (by kernel_rfl) ?_
    have oJ:Rep (fun i=>((i<V.heap.size/\(F i\/W0.heap.size<=i))\/V.heap.size<=i)/\i<y1.heap.size) (y1.alloc (.cells #[.slice none 0 0] 43)) (.sl 9 1 (ns++[(s1,k)]).length ((ns++[(s1,k)]).map fun p=>DV.val (str p.1))) (.slice aq (ns.length+1) cq):=(Rep.keep fun i x hi hx=>⟨⟨hi,zZ hx⟩,zY hx⟩).1 _ _ GX
    have oQ:Rep (fun i=>((i<V.heap.size/\(F i\/W0.heap.size<=i))\/V.heap.size<=i)/\i<y1.heap.size) (y1.alloc (.cells #[.slice none 0 0] 43)) (.sl 43 1 (ns++[(s1,k)]).length (qH (kinds (ns++[(s1,k)])))) (.slice ar (ns.length+1) cr):=(Rep.keep fun i x hi hx=>⟨⟨hi,zZ hx⟩,zY hx⟩).1 _ _ GW
    have AX:=CK2.out (y1.alloc (.cells #[.slice none 0 0] 43)) aq ar cq cr y1.heap.size hA (by rw [lz];omega) fX.size oJ oQ
    (intro o10 ho K' hK;simp at ho;subst ho)
    go_simp
    go_at_call 34
    (with_reducible refine AX.mono ?_)
    rintro en y2 ⟨xx,yy,rfl,hbk,mD⟩
    have nL:Below V.heap.size V y2:=zzT hA hbk
    have bz:y2.heap[y1.heap.size]? = some (.cells #[.slice none 0 0] 43 (0,0)):=(hbk.block _ (by rw [lz];omega)).trans Gw
    (refine hK.out _ _ (fun _=>nL) ?_;clear hK K';try simp only [pQ,pN,pZ,pS])
    refine tk [11,12,13] nL ?_
    (intro d hd;simp [tkD] at hd;subst hd;simp only [tks,pQ,pZ,pS])
    iterate 3 (refine ⟨?_,?_,?_⟩;rotate_left;· (intro oi ho;simp at ho;subst ho;refine Or.inl ⟨by rfl,fun w' fB=>?_⟩;go_simp;try with_reducible rfl))
    have sS:(y2).cell? ⟨y1.heap.size,0,none⟩=some (.slice none 0 0):=by simp only [World.cell?,bz];rfl
    have sR:(y2).frozen? ⟨y1.heap.size,0,none⟩=false:=by simp only [World.frozen?,bz];rfl
    (refine on 15 ?_;intro o ho K' hK;simp at ho;subst ho;go_simp)
    (refine hK.out _ _ (fun _=>(nL.setCell (p:=⟨y1.heap.size,0,none⟩) fX.size _)) ?_;clear hK K';try simp only [pQ,pN,pZ,pS])
    (refine on 16 ?_;intro o ho K' hK;simp at ho;subst ho;go_simp)
    (refine hK.out _ _ (fun _=>(nL.setCell (p:=⟨y1.heap.size,0,none⟩) fX.size _)) ?_;clear hK K';try simp only [pQ,pN,pZ,pS])
    refine zU (by kernel_rfl) (NoPanic.normal ?_) _
    exact ⟨rfl,⟨y1.heap.size,aq,cq,ar,cr,xx,yy⟩,by rfl,nL.setCell (p:=⟨y1.heap.size,0,none⟩) fX.size _,fX.size,(by rw [zT bz];rfl),(Rep.keep fun i x hi hx=>by
     have hne:i≠y1.heap.size:=by rcases hi with h | h;have:=h.2;omega;rw [lz] at h;omega
     exact ⟨⟨by rcases hi with h | h;exact h.1;exact .inr (fQ hA.size h),hne⟩,by rw [(but1 _ _ _).block i (zZ hx) hne];exact hx⟩).2 _ _ (zX.one mD)⟩
  ·(intro o14 ho K' hK;simp at ho;subst ho)
   go_simp
   (refine hK.out _ _ (fun _=>fV.alloc (ei _) _) ?_;clear hK K';try simp only [pQ,pN,pZ,pS])
   have hA:Below V.heap.size V (V.alloc (.cells #[.slice none 0 0] 43)).drew:=fV.alloc (ei _) _
   have lz:(V.alloc (.cells #[.slice none 0 0] 43)).drew.heap.size=V.heap.size+1:=by simp
   (refine on 6 ?_;intro o ho K' hK;simp at ho;subst ho;go_simp)
   go_at_call 40
   (with_reducible refine (CW.out _ hA).mono ?_)
   rintro en y1 ⟨aq,cq,ar,cr,rfl,fh,GX,GW⟩
   have fX:Below V.heap.size V y1:=hA.trans (fh.mono (hA).size)
   have Gw:y1.heap[V.heap.size]? = some (.cells #[.slice none 0 0] 43 (0,0)):=(fh.block _ (by rw [lz];omega)).trans (zG V (.cells #[.slice none 0 0] 43))
   (refine hK.out _ _ (fun _=>fX) ?_;clear hK K';try simp only [pQ,pN,pZ,pS])
   refine qr 10 (by kernel_rfl) ?_
   have oJ:Rep (fun i=>((i<V.heap.size/\(F i\/W0.heap.size<=i))\/V.heap.size+1<=i)/\i<y1.heap.size) y1 (.sl 9 1 (ns++[(s1,k)]).length ((ns++[(s1,k)]).map fun p=>DV.val (str p.1))) (.slice aq (ns.length+1) cq):=(Rep.keep fun i x hi hx=>⟨⟨hi.elim .inl (fun h=>.inr (by rw [lz] at h;exact h)),zZ hx⟩,hx⟩).1 _ _ GX
   have oQ:Rep (fun i=>((i<V.heap.size/\(F i\/W0.heap.size<=i))\/V.heap.size+1<=i)/\i<y1.heap.size) y1 (.sl 43 1 (ns++[(s1,k)]).length (qH (kinds (ns++[(s1,k)])))) (.slice ar (ns.length+1) cr):=(Rep.keep fun i x hi hx=>⟨⟨hi.elim .inl (fun h=>.inr (by rw [lz] at h;exact h)),zZ hx⟩,hx⟩).1 _ _ GW
   have AX:=CZ.out (V.heap.size+1) y1 aq ar cq cr (by omega) fX oJ oQ (fun i=>((i<V.heap.size/\(F i\/W0.heap.size<=i))\/V.heap.size+1<=i)/\i<y1.heap.size) (fun i h=>⟨.inl ⟨oldV.out i h,.inl h⟩,fK (oldV.out i h) fX.size⟩) (fun i h _ _=>h) (fun i h=>h.2)
   (intro o10 ho K' hK;simp at ho;subst ho)
   go_simp
   go_at_call 34
   (with_reducible refine AX.mono ?_)
   rintro en y2 ⟨xx,yy,rfl,hbk,mD⟩
   have nL:Below V.heap.size V y2:=zzT fX hbk
   have ly1:V.heap.size+1<=y1.heap.size:=by have:=fh.size;rw [lz] at this;exact this
   have bz:y2.heap[V.heap.size]? = some (.cells #[.slice none 0 0] 43 (0,0)):=(hbk.block _ (by omega)).trans Gw
   (refine hK.out _ _ (fun _=>nL) ?_;clear hK K';try simp only [pQ,pN,pZ,pS])
   refine tk [11,12,13] nL ?_
   (intro d hd;simp [tkD] at hd;subst hd;simp only [tks,pQ,pZ,pS])
   iterate 3 (refine ⟨?_,?_,?_⟩;rotate_left;· (intro oi ho;simp at ho;subst ho;refine Or.inl ⟨by rfl,fun w' fB=>?_⟩;go_simp;try with_reducible rfl))
   have sS:(y2).cell? ⟨V.heap.size,0,none⟩=some (.slice none 0 0):=by simp only [World.cell?,bz];rfl
   have sR:(y2).frozen? ⟨V.heap.size,0,none⟩=false:=by simp only [World.frozen?,bz];rfl
   (refine on 15 ?_;intro o ho K' hK;simp at ho;subst ho;go_simp)
   (refine hK.out _ _ (fun _=>(nL.setCell (p:=⟨V.heap.size,0,none⟩) (ei _) _)) ?_;clear hK K';try simp only [pQ,pN,pZ,pS])
   (refine on 16 ?_;intro o ho K' hK;simp at ho;subst ho;go_simp)
   (refine hK.out _ _ (fun _=>(nL.setCell (p:=⟨V.heap.size,0,none⟩) (ei _) _)) ?_;clear hK K';try simp only [pQ,pN,pZ,pS])
   refine zU (by kernel_rfl) (NoPanic.normal ?_) _
   exact ⟨rfl,⟨V.heap.size,aq,cq,ar,cr,xx,yy⟩,by rfl,nL.setCell (p:=⟨V.heap.size,0,none⟩) (ei _) _,ei _,(by rw [zT bz];rfl),(Rep.keep fun i x hi hx=>by
    have hne:i≠V.heap.size:=by rcases hi with h | h;rcases h.1 with h1 | h1;have:=h1.1;omega;omega;omega
    exact ⟨⟨by rcases hi with h | h;rcases h.1 with h1 | h1;exact .inl h1;exact .inr (by omega);exact .inr (by omega),hne⟩,by rw [(but1 _ _ _).block i (zZ hx) hne];exact hx⟩).2 _ _ (zX.one mD)⟩
 rintro ⟨gg,aq,cq,ar,cr,xx,yy⟩ z hR
 have R:Hid (z8 (fun i=>i<V.heap.size/\(F i\/W0.heap.size<=i)) V gg (.cells #[.slice xx kt.args.length yy] 43 (0,0)) [kz kt] [.slice xx kt.args.length yy] z):=hR
 have HZ:Hid (Below W0.heap.size W0 z/\Below w.heap.size w z):=⟨zzT HV.out.1 R.out.below,zzT HV.out.2 R.out.below⟩
 have g0:z.cell? ⟨gg,0,none⟩=some (.slice xx kt.args.length yy):=R.out.cell0
 have a8:z.cell? ⟨ga,0,none⟩=some (.slice ta k.args.length tc):=(R.out.below.cell (e9 _ _ ES)).trans ES
 have TT:Hid (Rep (fun i=>F i\/W0.heap.size<=i) z (kz kt) (.slice xx kt.args.length yy)):=(zX.get1 R.out.rep).weak fun i h=>by rcases h.1 with h | h;exact h.2;exact .inr (fQ HV.out.1.size h)
 have TA2:Hid (Rep (fun i=>F i\/W0.heap.size<=i) z (kz k) (.slice ta k.args.length tc)):=(Rep.below (F':=fun i=>i<V.heap.size/\(F i\/W0.heap.size<=i)) R.out.below (fun _ h=>h) TA.out).weak fun i h=>h.2
 have hktl:kt.args.length<=200:=by
  have h:=pI t (ns++[(s1,k)]) (fun a ha=>by
   rw [jY] at ha
   rcases List.mem_append.1 ha with ha | ha
   ·have:=uS (HP.out.1.n15 a ha);omega
   ·simp at ha;subst ha;have:=uS HP.out.2.2.1.1;omega) HP.out.2.2.1.2
  rw [HKT.out] at h
  simp only at h
  omega
 have hrS:=TT.out
 rw [qv] at hrS
 obtain ⟨news,me,mC⟩:=zO.ofRep hrS (uZ _)
 have HN:=ed me;have HSR:=ed mC
 have HE:=ed (show zh ns (.lam s1 k t)=(zd k kt,qt && decide (zV (zd k kt)<=15)) by rw [zh,HKT.out])
 have g0':(z.alloc (.cells #[.slice ta k.args.length tc] 43)).cell? ⟨gg,0,none⟩=some (.slice xx kt.args.length yy):=zJ g0
 clear hR CW CZ CK2 SV hrS me mC ES
 simp only [Act.put,List.setIfInBounds_toArray,List.set_cons_zero,List.set_cons_succ]
 go_wp2_with (at_builtin;refine zD rfl _ _ 41 rfl 43 (.agg #[.slice none 0 0]) 1 24 Tryz.underlying41 Tryz.infoS rfl (by decide) _ 1 [.slice ta k.args.length tc] rfl ?c1 _ kt.args.length news rfl ?c2 ?c3 ?c4 ?_)
 case c1=>exact Own.litAt #[.slice ta k.args.length tc] 1 _ (by simp) (by decide) rfl
 case c2=>exact HSR.out.alloc _
 case c3=>unfold maxLen;omega
 case c4=>omega
 intro a' c' w' ho hb hg
 have lO:Below z.heap.size z w':=((e_ _ _).alloc (ei _) _).trans (hb.toBelow (by simp) fun i hi e=>by simp [Value.ownBlock] at e;omega)
 have tL:∀ g,(Value.slice a' (1+kt.args.length) c').ownBlock=some g->z.heap.size<=g:=fun g h=>by
  rcases hg g h with e | e
  ·simp [Value.ownBlock] at e;omega
  ·rw [e];simp
 have hsz:=HZ.out.1.size
 have HA:Hid (Rep (fun i=>F i\/W0.heap.size<=i) w' (kz (zd k kt)) (.slice a' (1+kt.args.length) c')):=by
  show Rep _ _ _ _
  rw [qv,show (zd k kt).args.length=1+kt.args.length from by simp [zd,Ty.args,Nat.add_comm]]
  refine ho.rep (fun g h=>.inr (fQ hsz (tL g h))) ?_
  show zX _ _ (kz k::qH kt.args) _
  exact zQ.2 ⟨_,_,rfl,Rep.below lO (fun _ h=>h) TA2.out,zX.below lO (fun _ h=>h) HN.out⟩
 have HW':Hid (Below W0.heap.size W0 w'):=zzT HZ.out.1 lO
 clear ho hb hg lO tL g0 g0' a8
 go_wp2_with fail
 obtain ⟨Y,hY⟩:=zzN (w'.alloc (.cells #[.slice a' (1+kt.args.length) c'] 43))
 rw [hY]
 have AM:Below w'.heap.size w' Y:=by rw [<- hY];exact (e_ _ _).alloc (ei _) _
 obtain ⟨gO,hgO⟩:=zzN (w'.heap.size)
 have o0:Y.cell? ⟨gO,0,none⟩=some (.slice a' (1+kt.args.length) c'):=by rw [<- hY,<- hgO];simp
 rw [hgO]
 have hlo:W0.heap.size<=gO:=by rw [<- hgO];exact HW'.out.size
 have ii:Hid (Below W0.heap.size W0 Y):=zzT HW'.out AM
 have HYA:Hid (Rep (fun i=>F i\/W0.heap.size<=i) Y (kz (zd k kt)) (.slice a' (1+kt.args.length) c')):=Rep.below AM (fun _ h=>h) HA.out
 have BR:Hid (Y.heap[w.heap.size+1+1]? = some (.cells #[.slice none 0 0] 43 (0,0))):=(ii.out.block _ (zZ H0.out.2.2.2)).trans H0.out.2.2.2
 have nD:Y.drew.frozen? ⟨w.heap.size+1+1,0,none⟩=false:=by show Y.frozen? _=_;simp only [World.frozen?,BR.out];rfl
 have aC:Y.drew.cell? ⟨w.heap.size+1+1,0,none⟩=some (.slice none 0 0):=by show Y.cell? _=_;simp only [World.cell?,BR.out];rfl
 have GM:gO≠w.heap.size+1+1:=by have:=H0.out.2.1;omega
 have eL:1+kt.args.length=(zd k kt).args.length:=by simp [zd,Ty.args,Nat.add_comm]
 have HEL:=ed eL
 clear hY AM hgO HA HW' eL
 have Gz:Hid (Rep (fun i=>F i\/W0.heap.size<=i) Y (kz (zd k kt)) (.slice a' (zd k kt).args.length c')):=by
  have h:=HYA.out
  rw [HEL.out] at h
  exact h
 cases qt with
 | false =>
   have mN:=ed (show zh ns (.lam s1 k t)=(zd k kt,false) by rw [HE.out];rfl)
   refine wp_region_noPanic ?_
   refine zB (fun w'=>w'.cell? ⟨gO,0,none⟩=some (.slice a' (1+kt.args.length) c')) (fun _=>false) (by kernel_rfl) ?_
   have fV:(fun w'=>w'.cell? ⟨gO,0,none⟩=some (.slice a' (1+kt.args.length) c')) Y.drew:=o0
   refine tk [0,1,2,3,4,5,6] fV ?_
   (intro d hd;simp [tkD] at hd;subst hd;simp only [tks,pQ,pZ,pS])
   iterate 7 (refine ⟨?_,?_,?_⟩;rotate_left;· (intro oi ho;simp at ho;subst ho;first | (refine Or.inr ⟨by rfl,?_⟩;with_reducible rfl) | (refine Or.inl ⟨by rfl,fun w' fB=>?_⟩;have e0:=fB;go_simp;try with_reducible rfl)))
   (refine on 7 ?_;intro o ho K' hK;simp at ho;subst ho;go_simp)
   (refine hK.out _ _ (fun _=>zI fV GM) ?_;clear hK K';try simp only [pQ,pN,pZ,pS])
   (refine on 8 ?_;intro o ho K' hK;simp at ho;subst ho;go_simp)
   (refine hK.out _ _ (fun _=>zI fV GM) ?_;clear hK K';try simp only [pQ,pN,pZ,pS])
   refine zU (by kernel_rfl) (NoPanic.normal ?_) _
   go_wp2_with fail
   obtain ⟨W,hW,s0,fD,fO⟩:=k_ (BR.out) (.slice a' (1+kt.args.length) c')
   rw [<- hW]
   refine bodyPost_ret (v:=.tuple #[.agg #[.slice a' (1+kt.args.length) c'],.bool false]) (by simp [results,Tryz.results34,go_sem,s0]) rfl ?_
   rw [mN.out,HEL.out]
   exact jm (k:=zd k kt) HP.out.1.old H0.out.1 H0.out.2.1 ii.out Gz.out (fun B w0 h hB=>(fD B w0 h hB).drew) fO
 | true =>
   have az:=kg t (ns++[(s1,k)]) kt (fun a ha=>by
    rw [jY] at ha
    rcases List.mem_append.1 ha with ha | ha
    ·exact HP.out.1.n15 a ha
    ·simp at ha;subst ha;exact HP.out.2.2.1.1) (by have:=u4 (t:=t) (ns:=ns++[(s1,k)]) HP.out.2.2.1.2 (by rw [HKT.out]);rwa [HKT.out] at this)
   have lq:zV (zd k kt)<=1000:=by have h1:=HP.out.2.2.1.1;have:=bh k kt;omega
   have CS:=ed (fun wz (h:Below Y.heap.size Y wz)=>eQ 1000 (zd k kt) lq (by unfold Lim;omega) _ wz _ (Rep.below (F':=fun i=>F i\/W0.heap.size<=i) h (fun _ h=>h) HYA.out))
   clear nD aC
   by_cases fM:zV (zd k kt)<=15
   ·have mN:=ed (show zh ns (.lam s1 k t)=(zd k kt,true) by rw [HE.out,decide_eq_true fM];rfl)
    have h1:decide (((zV (zd k kt):Nat):Int)<=15)=true:=decide_eq_true (by omega)
    clear fM lq az
    obtain ⟨A,hA⟩:=zzM (zV (zd k kt))
    rw [<- hA] at h1 CS
    clear hA
    refine wp_region_noPanic ?_
    refine zB (fun w'=>w'.cell? ⟨gO,0,none⟩=some (.slice a' (1+kt.args.length) c')) (fun _=>false) (by kernel_rfl) ?_
    have fV:(fun w'=>w'.cell? ⟨gO,0,none⟩=some (.slice a' (1+kt.args.length) c')) Y.drew:=o0
    refine tk [0,1,2,3] fV ?_
    (intro d hd;simp [tkD] at hd;subst hd;simp only [tks,pQ,pZ,pS])
    iterate 4 (refine ⟨?_,?_,?_⟩;rotate_left;· (intro oi ho;simp at ho;subst ho;refine Or.inl ⟨by rfl,fun w' fB=>?_⟩;have e0:=fB;go_simp;try with_reducible rfl))
    (refine on 4 ?_;intro o ho K' hK;simp at ho;subst ho;go_simp)
    go_at_call 64
    (with_reducible refine (CS.out _ (Below.drew (e_ Y.heap.size Y))).mono ?_)
    rintro en v1 ⟨rfl,hb⟩
    have ne:Hid (Below Y.heap.size Y v1):=(Below.drew (e_ Y.heap.size Y)).trans hb
    clear hb
    (refine hK.out _ _ (fun _=>(ne.out.cell (e9 _ _ o0)).trans o0) ?_;clear hK K';try simp only [pQ,pN,pZ,pS])
    have hS4:=(ne.out.cell (e9 _ _ o0)).trans o0
    have tq:Hid (v1.heap[w.heap.size+1+1]? = some (.cells #[.slice none 0 0] 43 (0,0))):=(ne.out.block _ (zZ BR.out)).trans BR.out
    have rG:v1.frozen? ⟨w.heap.size+1+1,0,none⟩=false:=by simp only [World.frozen?,tq.out];rfl
    have iC:v1.cell? ⟨w.heap.size+1+1,0,none⟩=some (.slice none 0 0):=by simp only [World.cell?,tq.out];rfl
    have rQ:=(ne.out.cell (e9 _ _ o0)).trans o0
    refine tk [5,6] hS4 ?_
    (intro d hd;simp [tkD] at hd;subst hd;simp only [tks,pQ,pZ,pS])
    iterate 2 (refine ⟨?_,?_,?_⟩;rotate_left;· (intro oi ho;simp at ho;subst ho;refine Or.inl ⟨by rfl,fun w' fB=>?_⟩;go_simp;try with_reducible rfl))
    (refine on 7 ?_;intro o ho K' hK;simp at ho;subst ho;go_simp)
    (refine hK.out _ _ (fun _=>zI rQ GM) ?_;clear hK K';try simp only [pQ,pN,pZ,pS])
    (refine on 8 ?_;intro o ho K' hK;simp at ho;subst ho;go_simp)
    (refine hK.out _ _ (fun _=>zI rQ GM) ?_;clear hK K';try simp only [pQ,pN,pZ,pS])
    refine zU (by kernel_rfl) (NoPanic.normal ?_) _
    have aL:Hid (Below W0.heap.size W0 v1):=zzT ii.out ne.out
    have T2:Hid (Rep (fun i=>F i\/W0.heap.size<=i) v1 (kz (zd k kt)) (.slice a' (zd k kt).args.length c')):=Rep.below ne.out (fun _ h=>h) Gz.out
    go_wp2_with fail
    obtain ⟨W,hW,s0,fD,fO⟩:=k_ (tq.out) (.slice a' (1+kt.args.length) c')
    rw [<- hW]
    refine bodyPost_ret (v:=.tuple #[.agg #[.slice a' (1+kt.args.length) c'],.bool true]) (by simp [results,Tryz.results34,go_sem,s0]) rfl ?_
    rw [mN.out,HEL.out]
    exact jm (k:=zd k kt) HP.out.1.old H0.out.1 H0.out.2.1 aL.out T2.out fD fO
   ·have mN:=ed (show zh ns (.lam s1 k t)=(zd k kt,false) by rw [HE.out,decide_eq_false fM];rfl)
    have h1:decide (((zV (zd k kt):Nat):Int)<=15)=false:=decide_eq_false (by omega)
    clear fM lq az
    obtain ⟨A,hA⟩:=zzM (zV (zd k kt))
    rw [<- hA] at h1 CS
    clear hA
    refine wp_region_noPanic ?_
    refine zB (fun w'=>w'.cell? ⟨gO,0,none⟩=some (.slice a' (1+kt.args.length) c')) (fun _=>false) (by kernel_rfl) ?_
    have fV:(fun w'=>w'.cell? ⟨gO,0,none⟩=some (.slice a' (1+kt.args.length) c')) Y.drew:=o0
    refine tk [0,1,2,3] fV ?_
    (intro d hd;simp [tkD] at hd;subst hd;simp only [tks,pQ,pZ,pS])
    iterate 4 (refine ⟨?_,?_,?_⟩;rotate_left;· (intro oi ho;simp at ho;subst ho;refine Or.inl ⟨by rfl,fun w' fB=>?_⟩;have e0:=fB;go_simp;try with_reducible rfl))
    (refine on 4 ?_;intro o ho K' hK;simp at ho;subst ho;go_simp)
    go_at_call 64
    (with_reducible refine (CS.out _ (Below.drew (e_ Y.heap.size Y))).mono ?_)
    rintro en v1 ⟨rfl,hb⟩
    have ne:Hid (Below Y.heap.size Y v1):=(Below.drew (e_ Y.heap.size Y)).trans hb
    clear hb
    (refine hK.out _ _ (fun _=>(ne.out.cell (e9 _ _ o0)).trans o0) ?_;clear hK K';try simp only [pQ,pN,pZ,pS])
    have hS4:=(ne.out.cell (e9 _ _ o0)).trans o0
    have tq:Hid (v1.heap[w.heap.size+1+1]? = some (.cells #[.slice none 0 0] 43 (0,0))):=(ne.out.block _ (zZ BR.out)).trans BR.out
    have rG:v1.frozen? ⟨w.heap.size+1+1,0,none⟩=false:=by simp only [World.frozen?,tq.out];rfl
    have iC:v1.cell? ⟨w.heap.size+1+1,0,none⟩=some (.slice none 0 0):=by simp only [World.cell?,tq.out];rfl
    have rQ:=(ne.out.cell (e9 _ _ o0)).trans o0
    refine tk [5,6] hS4 ?_
    (intro d hd;simp [tkD] at hd;subst hd;simp only [tks,pQ,pZ,pS])
    iterate 2 (refine ⟨?_,?_,?_⟩;rotate_left;· (intro oi ho;simp at ho;subst ho;refine Or.inl ⟨by rfl,fun w' fB=>?_⟩;go_simp;try with_reducible rfl))
    (refine on 7 ?_;intro o ho K' hK;simp at ho;subst ho;go_simp)
    (refine hK.out _ _ (fun _=>zI rQ GM) ?_;clear hK K';try simp only [pQ,pN,pZ,pS])
    (refine on 8 ?_;intro o ho K' hK;simp at ho;subst ho;go_simp)
    (refine hK.out _ _ (fun _=>zI rQ GM) ?_;clear hK K';try simp only [pQ,pN,pZ,pS])
    refine zU (by kernel_rfl) (NoPanic.normal ?_) _
    have aL:Hid (Below W0.heap.size W0 v1):=zzT ii.out ne.out
    have T2:Hid (Rep (fun i=>F i\/W0.heap.size<=i) v1 (kz (zd k kt)) (.slice a' (zd k kt).args.length c')):=Rep.below ne.out (fun _ h=>h) Gz.out
    go_wp2_with fail
    obtain ⟨W,hW,s0,fD,fO⟩:=k_ (tq.out) (.slice a' (1+kt.args.length) c')
    rw [<- hW]
    refine bodyPost_ret (v:=.tuple #[.agg #[.slice a' (1+kt.args.length) c'],.bool false]) (by simp [results,Tryz.results34,go_sem,s0]) rfl ?_
    rw [mN.out,HEL.out]
    exact jm (k:=zd k kt) HP.out.1.old H0.out.1 H0.out.2.1 aL.out T2.out fD fO
theorem gM (N:Nat):KdSaid N:=by
 induction N with
 | zero=>exact fun F t ns nv tv s pv w h=>by cases t <;> simp only [zM] at h <;> omega
 | succ N ih =>
   intro F t ns nv tv s pv w h hp
   cases t with
   | nm x=>exact kd_nm F x ns nv tv s pv w hp
   | wd u=>exact kd_wd F u ns nv tv s pv w hp
   | lam x k t=>exact kd_lam N ih F x k t ns nv tv s pv w h hp
   | app m n=>exact kd_app N ih F m n ns nv tv s pv w h hp
   | ite l m n=>exact kd_ite N ih F l m n ns nv tv s pv w h hp
end Go.Proofs.YtjggkhmojjaomaaGreatDoor

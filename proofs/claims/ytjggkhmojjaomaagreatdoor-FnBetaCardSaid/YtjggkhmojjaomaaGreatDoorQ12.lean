/- Walks of functions that the statement reaches, and plain words. No conditions. -/
import Derived.Test.YtjggkhmojjaomaaGreatDoorQ8
import Derived.Test.YtjggkhmojjaomaaGreatDoorQ10
set_option linter.unusedVariables false
set_option linter.unusedSimpArgs false
set_option maxHeartbeats 4000000
namespace Go.Proofs.YtjggkhmojjaomaaGreatDoor
open Go.RowKit
def vo (F:Nat->Prop) (w:World) (k:Ty) (q:Bool) (en:Ending) (w':World):Prop :=
 ∃ a c,en=.returned (.tuple #[.agg #[.slice a k.args.length c],.bool q])/\Below w.heap.size w w'/\Rep (fun i=>F i\/w.heap.size<=i) w' (kg k) (.slice a k.args.length c)
structure wI (F:Nat->Prop) (t:Tm) (ns:List Nm) (nv tv s pv:Value) (w:World):Prop where
 old:∀ i,F i->i<w.heap.size
 rt:zX F w (jg (z_ t)) [s,pv]
 rn:Rep F w (.sl 9 1 ns.length (ns.map fun p=>DV.val (str p.1))) nv
 rk:Rep F w (.sl 43 1 ns.length (qH (kinds ns))) tv
 ok:uZ t
 sm:kV t=true
 nm:∀ p∈ns,qG p.1=true
 n15:∀ a∈kinds ns,zV a<=15
 room:ns.length+zM t<=100
def KdSaid (N:Nat):Prop:=∀ (F:Nat->Prop) (t:Tm) (ns:List Nm) (nv tv s pv:Value) (w:World),zM t<=N->wI F t ns nv tv s pv w ->
 Calls Tryz.prog 34 #[.agg #[nv,tv],.agg #[s,pv]] w (vo F w (zc ns t).1 (zc ns t).2)
theorem yT (w:World) (A B C:Obj):Below w.heap.size w (((w.alloc A).alloc B).alloc C)/\(((w.alloc A).alloc B).alloc C).heap.size=w.heap.size+1+1+1/\(((w.alloc A).alloc B).alloc C).heap[w.heap.size]? = some A/\(((w.alloc A).alloc B).alloc C).heap[w.heap.size+1]? = some B/\(((w.alloc A).alloc B).alloc C).heap[w.heap.size+1+1]? = some C:=by
 refine ⟨(((fH _ _).alloc (fP _) _).alloc (by rw [zK];omega) _).alloc (by rw [zK,zK];omega) _,by rw [zK,zK,zK],zY (zY (zG _ _)),?_,?_⟩
 ·have h:=zG (w.alloc A) B
  rw [zK] at h
  exact zY h
 ·have h:=zG ((w.alloc A).alloc B) C
  rwa [zK,zK] at h
theorem ji {F:Nat->Prop} {w W0 Z W:World} {k:Ty} {q:Bool} {a:Option Addr} {c:Nat} (hF:∀ i,F i->i<w.heap.size) (h0:Below w.heap.size w W0) (hz:W0.heap.size=w.heap.size+1+1+1) (hb:Below W0.heap.size W0 Z) (hr:Rep (fun i=>F i\/W0.heap.size<=i) Z (kg k) (.slice a k.args.length c))
 (fq:∀ B w0,Below B w0 Z->B<=w.heap.size+1+1->Below B w0 W) (fc:∀ i x,i≠w.heap.size+1+1->Z.heap[i]? = some x->W.heap[i]? = some x):vo F w k q (.returned (.tuple #[.agg #[.slice a k.args.length c],.bool q])) W :=
 ⟨a,c,rfl,fq _ _ (zzT h0 hb) (by omega),(Rep.keep fun i x hi hx=>⟨hi.elim .inl (fun h=>.inr (by omega)),fc i x (by rcases hi with h | h;have:=hF i h;omega;omega) hx⟩).1 _ _ hr⟩
theorem zO {w:World} {b c o:Nat} {u v:Value} (h:w.cell? ⟨b,0,none⟩=some u) (hb:b≠c):(w.setCell ⟨c,o,none⟩ v).cell? ⟨b,0,none⟩=some u :=
 (World.cell?_of_block (fB _ _ _ _ (by simpa using hb))).trans h
def FoundR (ns:List Nm) (x:Bs) (k:Nat):Prop:=q_ ns x=ke ns x k
set_option maxRecDepth 100000 in
theorem kd_nm (F:Nat->Prop) (x:Bs) (ns:List Nm) (nv tv s pv:Value) (w:World) (hp:wI F (.nm x) ns nv tv s pv w):Calls Tryz.prog 34 #[.agg #[nv,tv],.agg #[s,pv]] w (vo F w (zc ns (.nm x)).1 (zc ns (.nm x)).2):=by
 have hold:=hp.old
 obtain ⟨na,nc,rfl,_,_,mi⟩:=zP hp.rn
 obtain ⟨ka,kc,rfl,_,_,nG⟩:=zP hp.rk
 have mG:=hp.rt
 rw [z_] at mG
 obtain ⟨qa,qc,e,fh⟩:=qz mG
 simp only [qJ,qr,List.cons.injEq,and_true] at e fh
 obtain ⟨rfl,rfl⟩:=e
 have lX:x≠[]:=(yB hp.ok).1
 have hxt:(x == [116])=false:=by rw [beq_eq_false_iff_ne];rintro rfl;have h:=hp.ok;exact absurd (show qG [116]=true from h) (by decide)
 have hxf:(x == [102])=false:=by rw [beq_eq_false_iff_ne];rintro rfl;have h:=hp.ok;exact absurd (show qG [102]=true from h) (by decide)
 have hxu:(x == [117])=false:=by rw [beq_eq_false_iff_ne];rintro rfl;have h:=hp.ok;exact absurd (show qG [117]=true from h) (by decide)
 obtain ⟨W0,mQ⟩:=zzM (((w.alloc (.cells #[.slice na ns.length nc,.slice ka ns.length kc] 53)).alloc (.cells #[str x,.slice qa 0 qc] 40)).alloc (.cells #[.slice none 0 0] 43))
 obtain ⟨fd,z0,bA,bB,bC⟩:=yT w (.cells #[.slice na ns.length nc,.slice ka ns.length kc] 53) (.cells #[str x,.slice qa 0 qc] 40) (.cells #[.slice none 0 0] 43)
 rw [<- mQ] at fd z0 bA bB bC
 have e0:W0.cell? ⟨w.heap.size,0,none⟩=some (.slice na ns.length nc):=by simp [World.cell?,bA]
 have e1:W0.cell? ⟨w.heap.size,1,none⟩=some (.slice ka ns.length kc):=by simp [World.cell?,bA]
 have t0:W0.cell? ⟨w.heap.size+1,0,none⟩=some (str x):=by simp [World.cell?,bB]
 have H0:=fX (fW fd (fW z0 bC))
 have hne:(x != [])=true:=by rw [bne_iff_ne];exact lX
 have AM:(!x.isEmpty)=true:=by cases x with | nil=>exact absurd rfl lX | cons a b=>rfl
 have iw:x.isEmpty=false:=by cases x with | nil=>exact absurd rfl lX | cons a b=>rfl
 have AN:=fX mi
 have AK:=fX nG
 have iE:ns.length<=100:=by have:=hp.room;omega
 have HP:=fX hp
 clear mi nG fd z0 bA bB bC hp
 go_enter Tryz.func34,Tryz.ntmps34
 go_wp2_with fail
 rw [<- mQ]
 clear mQ
 go_loopw [6] (fun i wz=>∃ (k:Nat) (wr:World),wr=wz/\k<=ns.length/\i=.int .i64 ((k:Int)-1)/\FoundR ns x k/\Below W0.heap.size W0 wr) (fun i _=>(intOf i+1).toNat)
 case atStart=>exact ⟨ns.length,_,rfl,fP _,rfl,rfl,fH _ _⟩
 case round =>
  obtain ⟨k,wr,ewr,hk,rfl,hf,rP⟩:=hrel
  subst ewr
  have e0':=(rP.cell (fG W0 _ e0)).trans e0
  have e1':=(rP.cell (fG W0 _ e1)).trans e1
  have Ex:=(rP.cell (fG W0 _ t0)).trans t0
  have BR:wr.heap[w.heap.size+1+1]? = some (.cells #[.slice none 0 0] 43 (0,0)):=(rP.block _ (zZ H0.out.2.2)).trans H0.out.2.2
  have Ay:=fX BR
  have HB:=fX rP
  have ft:=fX (zzT H0.out.1 rP)
  have nJ:wr.frozen? ⟨w.heap.size+1+1,0,none⟩=false:=by simp only [World.frozen?,BR];rfl
  have tx:wr.cell? ⟨w.heap.size+1+1,0,none⟩=some (.slice none 0 0):=by simp only [World.cell?,BR];rfl
  clear rP e0 e1 t0 BR
  cases k with
  | zero =>
    have hz:((0:Nat):Int)-1 = -1:=rfl
    rw [hz]
    have HN:=fX (show q_ ns x=none from hf)
    clear hf hz
    have HE:=fX (show zc ns (.nm x)=(.mk [],false) by rw [zc,HN.out];rfl)
    have nf:wr.drew.frozen? ⟨w.heap.size+1+1,0,none⟩=false:=nJ
    have aA:wr.drew.cell? ⟨w.heap.size+1+1,0,none⟩=some (.slice none 0 0):=tx
    go_wp2_with fail
    refine wp_region_noPanic ?_
    refine zB (fun w'=>w'.cell? ⟨w.heap.size+1,0,none⟩=some (str x)) (fun _=>false) (by kernel_rfl) ?_
    have fF:(fun w'=>w'.cell? ⟨w.heap.size+1,0,none⟩=some (str x)) wr.drew:=Ex
    refine tk [0,1,2,3,4,5,6,7,8,9,10,11,12,13] fF ?_
    (intro d hd;simp [tkD] at hd;subst hd;simp only [tks,pQ,pZ,pS])
    iterate 14 (refine ⟨?_,?_,?_⟩;rotate_left;· (intro oi ho;simp at ho;subst ho;refine Or.inl ⟨by rfl,fun w' fI=>?_⟩;have e2:=fI;go_simp;try with_reducible rfl))
    (refine on 14 ?_;intro o ho K' hK;simp at ho;subst ho;go_simp)
    (refine hK.out _ _ (fun _=>zO fF (by omega)) ?_;clear hK K';try simp only [pQ,pN,pZ,pS])
    (refine on 15 ?_;intro o ho K' hK;simp at ho;subst ho;go_simp)
    (refine hK.out _ _ (fun _=>zO fF (by omega)) ?_;clear hK K';try simp only [pQ,pN,pZ,pS])
    refine zU (by kernel_rfl) (NoPanic.normal ?_) _
    go_wp2_with fail
    obtain ⟨W,hW,s0,fq,fc⟩:=qZ (Ay.out) (.slice none 0 0)
    rw [<- hW]
    refine bodyPost_ret (v:=.tuple #[.agg #[.slice none 0 0],.bool false]) (by simp [results,Tryz.results34,go_sem,s0]) rfl ?_
    rw [HE.out]
    exact ji (k:=.mk []) HP.out.old H0.out.1 H0.out.2.1 HB.out (zp.2 ⟨rfl,none,0,rfl,fP _,fun _=>rfl,.inl rfl⟩) (fun B w0 h hB=>(fq B w0 h hB).drew) fc
  | succ j =>
    have hj:j<ns.length:=by omega
    rw [show ((j+1:Nat):Int)-1=(j:Int) from by omega]
    obtain ⟨nb,no,nu,nd,e,_,F2,Bg,aw,th⟩:=AN.out j hj
    subst e
    rw [List.getElem?_map,Option.map_eq_some_iff] at Bg
    obtain ⟨⟨y,t⟩,hy,rfl⟩:=Bg
    rw [zH] at th
    subst th
    have q0:wr.cell? ⟨nb,no+j,none⟩=some (str y):=(ft.out.cell (p:=⟨nb,no+j,none⟩) F2).trans aw
    have JA:(j:Int)<(ns.length:Int):=by omega
    have ff:ke ns x (j+1)=if y=x then some j else ke ns x j:=by
     rw [ke,hy];simp
    by_cases aI:y=x
    ·subst aI
     have q:(y == y)=true:=by simp
     have HS:=fX (show q_ ns y=some j by rw [show q_ ns y=ke ns y (j+1) from hf,ff,if_pos rfl])
     obtain ⟨kb,ko,ku,kd,e,_,rZ,i7,AP,iF⟩:=AK.out j hj
     subst e
     rw [vx,Option.map_eq_some_iff] at i7
     obtain ⟨t2,FM,rfl⟩:=i7
     have et:t2=t:=by rw [uK hy] at FM;exact (Option.some.inj FM).symm
     subst et
     obtain ⟨xa,xc,rfl⟩:=kJ iF
     have q1:wr.cell? ⟨kb,ko+j,none⟩=some (.slice xa t2.args.length xc):=(ft.out.cell (p:=⟨kb,ko+j,none⟩) rZ).trans AP
     have HK:=fX iF
     have HE:=fX (show zc ns (.nm y)=(t2,true) by rw [zc,HS.out,Option.bind_some,hy];rfl)
     clear hf ff hy aw AP iF FM
     go_wp2_with fail
     go_region
     go_wp2_with fail
     obtain ⟨W,hW,s0,fq,fc⟩:=qZ (Ay.out) (.slice xa t2.args.length xc)
     rw [<- hW]
     refine bodyPost_ret (v:=.tuple #[.agg #[.slice xa t2.args.length xc],.bool true]) (by simp [results,Tryz.results34,go_sem,s0]) rfl ?_
     rw [HE.out]
     exact ji HP.out.old H0.out.1 H0.out.2.1 HB.out (Rep.below ft.out (fun _ h=>.inl h) HK.out) (fun B w0 h hB=>(fq B w0 h hB).drew) fc
    ·have q:(y == x)=false:=by rw [beq_eq_false_iff_ne];exact aI
     have HS:=fX (show q_ ns x=ke ns x j by rw [show q_ ns x=ke ns x (j+1) from hf,ff,if_neg aI])
     clear hf ff hy aI aw
     go_wp2_with fail
     go_region
     go_wp2_with fail
     go_round
     case rel=>exact ⟨j,_,rfl,by omega,by go_num,HS.out,HB.out.drew⟩
     case measure=>simp only [intOf];omega
set_option maxRecDepth 100000 in
theorem kd_wd (F:Nat->Prop) (x:Bs) (ns:List Nm) (nv tv s pv:Value) (w:World) (hp:wI F (.wd x) ns nv tv s pv w):Calls Tryz.prog 34 #[.agg #[nv,tv],.agg #[s,pv]] w (vo F w (zc ns (.wd x)).1 (zc ns (.wd x)).2):=by
 have hold:=hp.old
 obtain ⟨na,nc,rfl,_,_,mi⟩:=zP hp.rn
 obtain ⟨ka,kc,rfl,_,_,nG⟩:=zP hp.rk
 have mG:=hp.rt
 rw [z_] at mG
 obtain ⟨qa,qc,e,fh⟩:=qz mG
 simp only [qJ,qr,List.cons.injEq,and_true] at e fh
 obtain ⟨rfl,rfl⟩:=e
 have lX:x≠[]:=(x5 hp.ok).1
 have F8:x=[116]\/x=[102]\/x=[117]:=by
  have h:qj x=true:=hp.ok
  simp only [qj,Bool.or_eq_true,beq_iff_eq] at h
  rcases h with (h | h) | h
  ·exact .inl h
  ·exact .inr (.inl h)
  ·exact .inr (.inr h)
 obtain ⟨W0,mQ⟩:=zzM (((w.alloc (.cells #[.slice na ns.length nc,.slice ka ns.length kc] 53)).alloc (.cells #[str x,.slice qa 0 qc] 40)).alloc (.cells #[.slice none 0 0] 43))
 obtain ⟨fd,z0,bA,bB,bC⟩:=yT w (.cells #[.slice na ns.length nc,.slice ka ns.length kc] 53) (.cells #[str x,.slice qa 0 qc] 40) (.cells #[.slice none 0 0] 43)
 rw [<- mQ] at fd z0 bA bB bC
 have e0:W0.cell? ⟨w.heap.size,0,none⟩=some (.slice na ns.length nc):=by simp [World.cell?,bA]
 have e1:W0.cell? ⟨w.heap.size,1,none⟩=some (.slice ka ns.length kc):=by simp [World.cell?,bA]
 have t0:W0.cell? ⟨w.heap.size+1,0,none⟩=some (str x):=by simp [World.cell?,bB]
 have H0:=fX (fW fd (fW z0 bC))
 have hne:(x != [])=true:=by rw [bne_iff_ne];exact lX
 have AM:(!x.isEmpty)=true:=by cases x with | nil=>exact absurd rfl lX | cons a b=>rfl
 have iw:x.isEmpty=false:=by cases x with | nil=>exact absurd rfl lX | cons a b=>rfl
 have AN:=fX mi
 have AK:=fX nG
 have iE:ns.length<=100:=by have:=hp.room;omega
 have HP:=fX hp
 clear mi nG fd z0 bA bB bC hp
 go_enter Tryz.func34,Tryz.ntmps34
 go_wp2_with fail
 rw [<- mQ]
 clear mQ
 go_loopw [6] (fun i wz=>∃ (k:Nat) (wr:World),wr=wz/\k<=ns.length/\i=.int .i64 ((k:Int)-1)/\FoundR ns x k/\Below W0.heap.size W0 wr) (fun i _=>(intOf i+1).toNat)
 case atStart=>exact ⟨ns.length,_,rfl,fP _,rfl,rfl,fH _ _⟩
 case round =>
  obtain ⟨k,wr,ewr,hk,rfl,hf,rP⟩:=hrel
  subst ewr
  have e0':=(rP.cell (fG W0 _ e0)).trans e0
  have e1':=(rP.cell (fG W0 _ e1)).trans e1
  have Ex:=(rP.cell (fG W0 _ t0)).trans t0
  have BR:wr.heap[w.heap.size+1+1]? = some (.cells #[.slice none 0 0] 43 (0,0)):=(rP.block _ (zZ H0.out.2.2)).trans H0.out.2.2
  have Ay:=fX BR
  have HB:=fX rP
  have ft:=fX (zzT H0.out.1 rP)
  have nJ:wr.frozen? ⟨w.heap.size+1+1,0,none⟩=false:=by simp only [World.frozen?,BR];rfl
  have tx:wr.cell? ⟨w.heap.size+1+1,0,none⟩=some (.slice none 0 0):=by simp only [World.cell?,BR];rfl
  clear rP e0 e1 t0 BR
  cases k with
  | zero =>
    have hz:((0:Nat):Int)-1 = -1:=rfl
    rw [hz]
    have HN:=fX (show q_ ns x=none from hf)
    clear hf hz
    have HE:=fX (show zc ns (.wd x)=(.mk [],true) by rw [zc])
    clear lX hne AM iw HN
    rcases F8 with rfl | rfl | rfl
    ·have nf:wr.drew.frozen? ⟨w.heap.size+1+1,0,none⟩=false:=nJ
     have aA:wr.drew.cell? ⟨w.heap.size+1+1,0,none⟩=some (.slice none 0 0):=tx
     go_wp2_with fail
     refine wp_region_noPanic ?_
     refine zB (fun w'=>w'.cell? ⟨w.heap.size+1,0,none⟩=some (str [116])) (fun _=>false) (by kernel_rfl) ?_
     have fF:(fun w'=>w'.cell? ⟨w.heap.size+1,0,none⟩=some (str [116])) wr.drew:=Ex
     refine tk [0,1,2,3,4,5,6,7,8,9,10,11,12,13] fF ?_
     (intro d hd;simp [tkD] at hd;subst hd;simp only [tks,pQ,pZ,pS])
     iterate 14 (refine ⟨?_,?_,?_⟩;rotate_left;· (intro oi ho;simp at ho;subst ho;first | (refine Or.inr ⟨by rfl,?_⟩;with_reducible rfl) | (refine Or.inl ⟨by rfl,fun w' fI=>?_⟩;have e2:=fI;go_simp;try with_reducible rfl)))
     (refine on 14 ?_;intro o ho K' hK;simp at ho;subst ho;go_simp)
     (refine hK.out _ _ (fun _=>zO fF (by omega)) ?_;clear hK K';try simp only [pQ,pN,pZ,pS])
     (refine on 15 ?_;intro o ho K' hK;simp at ho;subst ho;go_simp)
     (refine hK.out _ _ (fun _=>zO fF (by omega)) ?_;clear hK K';try simp only [pQ,pN,pZ,pS])
     refine zU (by kernel_rfl) (NoPanic.normal ?_) _
     go_wp2_with fail
     obtain ⟨W,hW,s0,fq,fc⟩:=qZ (Ay.out) (.slice none 0 0)
     rw [<- hW]
     refine bodyPost_ret (v:=.tuple #[.agg #[.slice none 0 0],.bool true]) (by simp [results,Tryz.results34,go_sem,s0]) rfl ?_
     rw [HE.out]
     exact ji (k:=.mk []) HP.out.old H0.out.1 H0.out.2.1 HB.out (zp.2 ⟨rfl,none,0,rfl,fP _,fun _=>rfl,.inl rfl⟩) (fun B w0 h hB=>(fq B w0 h hB).drew) fc
    ·have nf:wr.drew.frozen? ⟨w.heap.size+1+1,0,none⟩=false:=nJ
     have aA:wr.drew.cell? ⟨w.heap.size+1+1,0,none⟩=some (.slice none 0 0):=tx
     go_wp2_with fail
     refine wp_region_noPanic ?_
     refine zB (fun w'=>w'.cell? ⟨w.heap.size+1,0,none⟩=some (str [102])) (fun _=>false) (by kernel_rfl) ?_
     have fF:(fun w'=>w'.cell? ⟨w.heap.size+1,0,none⟩=some (str [102])) wr.drew:=Ex
     refine tk [0,1,2,3,4,5,6,7,8,9,10,11,12,13] fF ?_
     (intro d hd;simp [tkD] at hd;subst hd;simp only [tks,pQ,pZ,pS])
     iterate 14 (refine ⟨?_,?_,?_⟩;rotate_left;· (intro oi ho;simp at ho;subst ho;first | (refine Or.inr ⟨by rfl,?_⟩;with_reducible rfl) | (refine Or.inl ⟨by rfl,fun w' fI=>?_⟩;have e2:=fI;go_simp;try with_reducible rfl)))
     (refine on 14 ?_;intro o ho K' hK;simp at ho;subst ho;go_simp)
     (refine hK.out _ _ (fun _=>zO fF (by omega)) ?_;clear hK K';try simp only [pQ,pN,pZ,pS])
     (refine on 15 ?_;intro o ho K' hK;simp at ho;subst ho;go_simp)
     (refine hK.out _ _ (fun _=>zO fF (by omega)) ?_;clear hK K';try simp only [pQ,pN,pZ,pS])
     refine zU (by kernel_rfl) (NoPanic.normal ?_) _
     go_wp2_with fail
     obtain ⟨W,hW,s0,fq,fc⟩:=qZ (Ay.out) (.slice none 0 0)
     rw [<- hW]
     refine bodyPost_ret (v:=.tuple #[.agg #[.slice none 0 0],.bool true]) (by simp [results,Tryz.results34,go_sem,s0]) rfl ?_
     rw [HE.out]
     exact ji (k:=.mk []) HP.out.old H0.out.1 H0.out.2.1 HB.out (zp.2 ⟨rfl,none,0,rfl,fP _,fun _=>rfl,.inl rfl⟩) (fun B w0 h hB=>(fq B w0 h hB).drew) fc
    ·have nf:wr.drew.frozen? ⟨w.heap.size+1+1,0,none⟩=false:=nJ
     have aA:wr.drew.cell? ⟨w.heap.size+1+1,0,none⟩=some (.slice none 0 0):=tx
     go_wp2_with fail
     refine wp_region_noPanic ?_
     refine zB (fun w'=>w'.cell? ⟨w.heap.size+1,0,none⟩=some (str [117])) (fun _=>false) (by kernel_rfl) ?_
     have fF:(fun w'=>w'.cell? ⟨w.heap.size+1,0,none⟩=some (str [117])) wr.drew:=Ex
     refine tk [0,1,2,3,4,5,6,7,8,9,10,11,12,13] fF ?_
     (intro d hd;simp [tkD] at hd;subst hd;simp only [tks,pQ,pZ,pS])
     iterate 14 (refine ⟨?_,?_,?_⟩;rotate_left;· (intro oi ho;simp at ho;subst ho;refine Or.inl ⟨by rfl,fun w' fI=>?_⟩;have e2:=fI;go_simp;try with_reducible rfl))
     (refine on 14 ?_;intro o ho K' hK;simp at ho;subst ho;go_simp)
     (refine hK.out _ _ (fun _=>zO fF (by omega)) ?_;clear hK K';try simp only [pQ,pN,pZ,pS])
     (refine on 15 ?_;intro o ho K' hK;simp at ho;subst ho;go_simp)
     (refine hK.out _ _ (fun _=>zO fF (by omega)) ?_;clear hK K';try simp only [pQ,pN,pZ,pS])
     refine zU (by kernel_rfl) (NoPanic.normal ?_) _
     go_wp2_with fail
     obtain ⟨W,hW,s0,fq,fc⟩:=qZ (Ay.out) (.slice none 0 0)
     rw [<- hW]
     refine bodyPost_ret (v:=.tuple #[.agg #[.slice none 0 0],.bool true]) (by simp [results,Tryz.results34,go_sem,s0]) rfl ?_
     rw [HE.out]
     exact ji (k:=.mk []) HP.out.old H0.out.1 H0.out.2.1 HB.out (zp.2 ⟨rfl,none,0,rfl,fP _,fun _=>rfl,.inl rfl⟩) (fun B w0 h hB=>(fq B w0 h hB).drew) fc
  | succ j =>
    have hj:j<ns.length:=by omega
    rw [show ((j+1:Nat):Int)-1=(j:Int) from by omega]
    obtain ⟨nb,no,nu,nd,e,_,F2,Bg,aw,th⟩:=AN.out j hj
    subst e
    rw [List.getElem?_map,Option.map_eq_some_iff] at Bg
    obtain ⟨⟨y,t⟩,hy,rfl⟩:=Bg
    rw [zH] at th
    subst th
    have q0:wr.cell? ⟨nb,no+j,none⟩=some (str y):=(ft.out.cell (p:=⟨nb,no+j,none⟩) F2).trans aw
    have JA:(j:Int)<(ns.length:Int):=by omega
    have ff:ke ns x (j+1)=if y=x then some j else ke ns x j:=by
     rw [ke,hy];simp
    have aI:y≠x:=by
     rintro rfl
     have h1:=HP.out.nm (y,t) (List.mem_of_getElem? hy)
     have h2:=yw (show qj y=true from HP.out.ok)
     rw [show qG y=true from h1] at h2;exact absurd h2 (by decide)
    have q:(y == x)=false:=by rw [beq_eq_false_iff_ne];exact aI
    have HS:=fX (show q_ ns x=ke ns x j by rw [show q_ ns x=ke ns x (j+1) from hf,ff,if_neg aI])
    clear hf ff hy aI aw
    go_wp2_with fail
    go_region
    go_wp2_with fail
    go_round
    case rel=>exact ⟨j,_,rfl,by omega,by go_num,HS.out,HB.out.drew⟩
    case measure=>simp only [intOf];omega
theorem zX.get1 {F:Nat->Prop} {w:World} {d:DV} {v:Value} (h:zX F w [d] [v]):Rep F w d v:=by
 obtain ⟨_,_,e,h1,_⟩:=zQ.1 h
 simp only [List.cons.injEq] at e
 rw [e.1];exact h1
theorem Rep_sl1_tailR {F:Nat->Prop} {w:World} {e:TypeId} {n b o cap:Nat} {d:DV} {ds:List DV} (h:Rep F w (.sl e 1 (n+1) (d::ds)) (.slice (some ⟨b,o,none⟩) (n+1) cap)) :
 Rep F w (.sl e 1 n ds) (.slice (some ⟨b,o+1,none⟩) n (cap-1)):=by
 rw [zp] at h ⊢
 obtain ⟨hl,a,c,e1,hn,hz,h⟩:=h
 simp only [Value.slice.injEq] at e1
 obtain ⟨rfl,_,rfl⟩:=e1
 refine ⟨by simpa using hl,_,_,rfl,by omega,fun h=>by simp at h,.inr ?_⟩
 rcases h with h0 | ⟨b',o',cs,fr,e2,hb,hcs,hr⟩
 ·omega
 simp only [Option.some.injEq,Addr.mk.injEq,and_true] at e2
 obtain ⟨rfl,rfl⟩:=e2
 refine ⟨_,_,cs,fr,rfl,hb,hcs,?_⟩
 have h2:=hr
 rw [zQ] at h2
 obtain ⟨v,vs,e3,_,h4⟩:=h2
 have:vs=List.take (n*1) (List.drop (o+1) cs.toList):=by
  have h5:=congrArg (List.drop 1) e3
  rw [List.drop_take,List.drop_drop] at h5
  simpa using h5.symm
 rw [<- this];exact h4
theorem encS_tail {F:Nat->Prop} {w:World} {c:Ty} {cs:List Ty} {b o cap:Nat} (h:Rep F w (.sl 43 1 (cs.length+1) (qH (c::cs))) (.slice (some ⟨b,o,none⟩) (cs.length+1) cap)):Rep F w (kg (.mk cs)) (.slice (some ⟨b,o+1,none⟩) cs.length (cap-1)):=by
 rw [qy]
 exact Rep_sl1_tailR (d:=kg c) h
set_option maxRecDepth 100000 in
theorem kd_app (N:Nat) (ih:KdSaid N) (F:Nat->Prop) (m n:Tm) (ns:List Nm) (nv tv s pv:Value) (w:World) (hN:zM (.app m n)<=N+1) (hp:wI F (.app m n) ns nv tv s pv w):Calls Tryz.prog 34 #[.agg #[nv,tv],.agg #[s,pv]] w (vo F w (zc ns (.app m n)).1 (zc ns (.app m n)).2):=by
 have hold:=hp.old
 obtain ⟨na,nc,rfl,_,_,mi⟩:=zP hp.rn
 obtain ⟨ka,kc,rfl,_,_,nG⟩:=zP hp.rk
 have mG:=hp.rt
 rw [z_] at mG
 obtain ⟨qa,qc,e,fh⟩:=qz mG
 simp only [qJ,qr,List.cons.injEq,and_true] at e fh
 obtain ⟨rfl,rfl⟩:=e
 obtain ⟨_,_,e,fM⟩:=uh.of fh
 simp only [Value.slice.injEq,true_and] at e
 obtain ⟨rfl,rfl⟩:=e
 obtain ⟨fg,fp,s1,a1,n1,c1,d1,t_,mt,sH,sC,iz,rz,AA,BD⟩:=fM 1 (by simp)
 simp only [List.getElem?_cons_zero,List.getElem?_cons_succ,Option.some.injEq] at sH
 subst sH
 subst t_
 obtain ⟨FD,FB,s2,a2,n2,c2,d2,t6,lJ,tl,aZ,iO,tV,Bz,BC⟩:=fM 2 (by simp)
 simp only [List.getElem?_cons_zero,List.getElem?_cons_succ,Option.some.injEq] at tl
 subst tl
 simp only [Option.some.injEq,Addr.mk.injEq,and_true] at t6
 obtain ⟨rfl,rfl⟩:=t6
 have fo:=hp.room
 have fa:=hp.ok
 have ml:=hp.sm
 rw [zM] at fo hN
 rw [kV] at ml
 simp only [Bool.and_eq_true] at ml
 obtain ⟨W0,mQ⟩:=zzM (((w.alloc (.cells #[.slice na ns.length nc,.slice ka ns.length kc] 53)).alloc (.cells #[str [],.slice (some ⟨fg,fp,none⟩) 3 qc] 40)).alloc (.cells #[.slice none 0 0] 43))
 obtain ⟨fd,z0,bA,bB,bC⟩:=yT w (.cells #[.slice na ns.length nc,.slice ka ns.length kc] 53) (.cells #[str [],.slice (some ⟨fg,fp,none⟩) 3 qc] 40) (.cells #[.slice none 0 0] 43)
 rw [<- mQ] at fd z0 bA bB bC
 have CH:=fX (show Calls Tryz.prog 37 #[.agg #[str [],.slice (some ⟨fg,fp,none⟩) 3 qc]] W0 (fun en w'=>en=.returned (str (yD (z_ (.app m n))))/\Below W0.heap.size W0 w') from uP (z_ (.app m n)) (vU _ hp.ok) F W0 _ _ (zX.below fd (fun _ h=>h) hp.rt))
 have CQ:yD (z_ (.app m n))=[97,112,112]:=by rw [z_];rfl
 rw [CQ] at CH
 have H0:=fX (fW fd (fW z0 (fW bA bC)))
 obtain ⟨km,qm,oF⟩:∃ k q,zc ns m=(k,q):=⟨_,_,rfl⟩
 have Cm:Hid (∀ wz,Below w.heap.size w wz->Calls Tryz.prog 34 #[.agg #[.slice na ns.length nc,.slice ka ns.length kc],.agg #[str s1,.slice a1 n1 c1]] wz (vo F wz km qm)):=by
  show ∀ wz,_->_
  intro wz hz
  have h:=ih F m ns _ _ _ _ wz (by omega) ⟨fun i h=>fC (hp.old i h) hz.size,zX.below hz (fun _ h=>h) rz,Rep.below hz (fun _ h=>h) hp.rn,Rep.below hz (fun _ h=>h) hp.rk,fa.1,ml.1,hp.nm,hp.n15,by omega⟩
  rw [oF] at h
  exact h
 obtain ⟨kn,qn,iV⟩:∃ k q,zc ns n=(k,q):=⟨_,_,rfl⟩
 have Cn:Hid (∀ wz,Below w.heap.size w wz->Calls Tryz.prog 34 #[.agg #[.slice na ns.length nc,.slice ka ns.length kc],.agg #[str s2,.slice a2 n2 c2]] wz (vo F wz kn qn)):=by
  show ∀ wz,_->_
  intro wz hz
  have h:=ih F n ns _ _ _ _ wz (by omega) ⟨fun i h=>fC (hp.old i h) hz.size,zX.below hz (fun _ h=>h) tV,Rep.below hz (fun _ h=>h) hp.rn,Rep.below hz (fun _ h=>h) hp.rk,fa.2,ml.2,hp.nm,hp.n15,by omega⟩
  rw [iV] at h
  exact h
 have e0:W0.cell? ⟨w.heap.size,0,none⟩=some (.slice na ns.length nc):=by simp [World.cell?,bA]
 have e1:W0.cell? ⟨w.heap.size,1,none⟩=some (.slice ka ns.length kc):=by simp [World.cell?,bA]
 have SX:Hid (∀ w',Below W0.heap.size W0 w'->w'.cell? ⟨w.heap.size,0,none⟩=some (.slice na ns.length nc)/\w'.cell? ⟨w.heap.size,1,none⟩=some (.slice ka ns.length kc)/\w'.cell? ⟨fg,fp+2,none⟩=some (str s1)/\w'.cell? ⟨fg,fp+3,none⟩=some (.slice a1 n1 c1)/\w'.cell? ⟨fg,fp+4,none⟩=some (str s2)/\w'.cell? ⟨fg,fp+5,none⟩=some (.slice a2 n2 c2)):=by
  show ∀ w',_->_
  intro w' fx
  have mZ:=zzT fd fx
  exact ⟨(fx.cell (fG W0 _ e0)).trans e0,(fx.cell (fG W0 _ e1)).trans e1,(mZ.cell (p:=⟨fg,fp+2,none⟩) mt).trans sC,(mZ.cell (p:=⟨fg,fp+3,none⟩) mt).trans iz,(mZ.cell (p:=⟨fg,fp+4,none⟩) mt).trans aZ,(mZ.cell (p:=⟨fg,fp+5,none⟩) mt).trans iO⟩
 have HP:=fX (fW hp (fW fa ml))
 clear mi nG fh fM mG hp fa ml ih hN fd z0 bA bB bC e0 e1 rz sC iz AA BD tV aZ iO Bz BC
 clear mt
 clear lJ
 go_enter Tryz.func34,Tryz.ntmps34
 go_wp2_with fail
 rw [<- mQ]
 clear mQ
 (with_reducible refine CH.out.mono ?_)
 rintro en w1 ⟨rfl,fA⟩
 have H1:=fX (fW fA (zzT H0.out.1 fA))
 clear fA CH
 go_wp2_with fail
 have GR:=H1
 have CRm:=fX (fun wz (hz:Below w1.heap.size w1 wz)=>Cm.out wz (H1.out.2.trans (hz.mono (H1.out.2).size)))
 have GE:Hid (∀ i,F i->i<w1.heap.size):=fun i h=>fC (HP.out.1.old i h) (H1.out.2).size
 refine jI (X:=Nat×Option Addr×Nat) (fun a x=>((((((((((a.put (some 105) (.agg #[.slice na ns.length nc,.slice ka ns.length kc])).put (some 106) (.slice (some ⟨fg,fp,none⟩) 3 qc)).put (some 107) (.pointer (some ⟨fg,fp+2,none⟩))).put (some 108) (.agg #[str s1,.slice a1 n1 c1])).put (some 109) (.tuple #[.agg #[.slice x.2.1 km.args.length x.2.2],.bool qm])).put (some 104) (.tuple #[.agg #[.slice x.2.1 km.args.length x.2.2],.bool qm])).put (some 110) (.agg #[.slice x.2.1 km.args.length x.2.2])).put (some 111) (.bool qm)).put (some 13) (.pointer (some ⟨x.1,0,none⟩))).put (some 14) (.bool qm))) (fun x w'=>z8 F w1 x.1 (.cells #[.slice x.2.1 km.args.length x.2.2] 43 (0,0)) [kg km] [.slice x.2.1 km.args.length x.2.2] w') ?_ ?_
 ·refine wp_region_noPanic ?_
  refine zB (fun w'=>Below w1.heap.size w1 w') (fun _=>false) (by kernel_rfl) ?_
  have fF:(fun w'=>Below w1.heap.size w1 w') w1.drew:=Below.drew (fH _ _)
  refine tk [0,1,2,3] fF ?_
  (intro d hd;simp [tkD] at hd;subst hd;simp only [tks,pQ,pZ,pS])
  iterate 4 (refine ⟨?_,?_,?_⟩;rotate_left;· (intro oi ho;simp at ho;subst ho;refine Or.inl ⟨by rfl,fun w' fI=>?_⟩;obtain ⟨e0,e1,f1,h1,f2,h2⟩:=SX.out w' (H1.out.1.trans (fI.mono (H1.out.1).size));go_simp;try with_reducible rfl))
  refine k8 4 8 (by kernel_rfl) ?_ ?_
  ·(intro o4 ho K' hK;simp at ho;subst ho)
   go_simp
   go_at_call 34
   (with_reducible refine (CRm.out w1.drew fF).mono ?_)
   rintro en y1 ⟨xx,yy,rfl,hb,hr⟩
   have fR:Below w1.heap.size w1 y1:=fF.trans hb
   (refine hK.out _ _ (fun _=>fR) ?_;clear hK K';try simp only [pQ,pN,pZ,pS])
   refine tk [5,6,7] fR ?_
   (intro d hd;simp [tkD] at hd;subst hd;simp only [tks,pQ,pZ,pS])
   iterate 3 (refine ⟨?_,?_,?_⟩;rotate_left;· (intro oi ho;simp at ho;subst ho;refine Or.inl ⟨by rfl,fun w' fI=>?_⟩;go_simp;try with_reducible rfl))
   (refine on 8 ?_;intro o ho K' hK;simp at ho;subst ho;go_simp)
   (refine hK.out _ _ (fun _=>fR.alloc (fR).size _) ?_;clear hK K';try simp only [pQ,pN,pZ,pS])
   have bz:(y1.alloc (.cells #[.slice none 0 0] 43)).heap[y1.heap.size]? = some (.cells #[.slice none 0 0] 43 (0,0)):=zG _ _
   have sx:=(show _=some _ from by simp only [World.cell?,bz];rfl:(y1.alloc (.cells #[.slice none 0 0] 43)).cell? ⟨y1.heap.size,0,none⟩=some (.slice none 0 0))
   have sy:(y1.alloc (.cells #[.slice none 0 0] 43)).frozen? ⟨y1.heap.size,0,none⟩=false:=by simp only [World.frozen?,bz];rfl
   (refine on 9 ?_;intro o ho K' hK;simp at ho;subst ho;go_simp)
   (refine hK.out _ _ (fun _=>fR.alloc fR.size _) ?_;clear hK K';try simp only [pQ,pN,pZ,pS])
   (refine on 10 ?_;intro o ho K' hK;simp at ho;subst ho;go_simp)
   (refine hK.out _ _ (fun _=>fR.alloc fR.size _) ?_;clear hK K';try simp only [pQ,pN,pZ,pS])
   refine zU (by kernel_rfl) (NoPanic.normal ?_) _
   exact ⟨rfl,⟨y1.heap.size,xx,yy⟩,by rfl,z8.fresh fR (zX.one hr)⟩
  ·(intro o8 ho K' hK;simp at ho;subst ho)
   go_simp
   (refine hK.out _ _ (fun _=>fF.alloc (fP _) _) ?_;clear hK K';try simp only [pQ,pN,pZ,pS])
   (refine on 4 ?_;intro o ho K' hK;simp at ho;subst ho;go_simp)
   go_at_call 34
   have mL:Below w1.heap.size w1 (w1.alloc (.cells #[.slice none 0 0] 43)).drew:=fF.alloc (fP _) _
   (with_reducible refine (CRm.out _ mL).mono ?_)
   rintro en y1 ⟨xx,yy,rfl,hb,hr⟩
   have fR:Below w1.heap.size w1 y1:=zzT mL hb
   (refine hK.out _ _ (fun _=>fR) ?_;clear hK K';try simp only [pQ,pN,pZ,pS])
   refine tk [5,6,7] fR ?_
   (intro d hd;simp [tkD] at hd;subst hd;simp only [tks,pQ,pZ,pS])
   iterate 3 (refine ⟨?_,?_,?_⟩;rotate_left;· (intro oi ho;simp at ho;subst ho;refine Or.inl ⟨by rfl,fun w' fI=>?_⟩;go_simp;try with_reducible rfl))
   have bz:y1.heap[w1.heap.size]? = some (.cells #[.slice none 0 0] 43 (0,0)):=(hb.block _ (show _<_ from by simp)).trans (zG w1 (.cells #[.slice none 0 0] 43))
   have sx:=(show _=some _ from by simp only [World.cell?,bz];rfl:(y1).cell? ⟨w1.heap.size,0,none⟩=some (.slice none 0 0))
   have sy:(y1).frozen? ⟨w1.heap.size,0,none⟩=false:=by simp only [World.frozen?,bz];rfl
   (refine on 9 ?_;intro o ho K' hK;simp at ho;subst ho;go_simp)
   (refine hK.out _ _ (fun _=>(fR.setCell (p:=⟨w1.heap.size,0,none⟩) (fP _) _)) ?_;clear hK K';try simp only [pQ,pN,pZ,pS])
   (refine on 10 ?_;intro o ho K' hK;simp at ho;subst ho;go_simp)
   (refine hK.out _ _ (fun _=>(fR.setCell (p:=⟨w1.heap.size,0,none⟩) (fP _) _)) ?_;clear hK K';try simp only [pQ,pN,pZ,pS])
   refine zU (by kernel_rfl) (NoPanic.normal ?_) _
   exact ⟨rfl,⟨w1.heap.size,xx,yy⟩,by rfl,z8.first GE.out mL (by simp) hb (zX.one hr) (but1 _ _ _) (by rw [zA bz];rfl)⟩
 rintro ⟨gm,xm,ym⟩ zm hR
 have Rm:Hid (z8 F w1 gm (.cells #[.slice xm km.args.length ym] 43 (0,0)) [kg km] [.slice xm km.args.length ym] zm):=hR
 have nw:Hid (Below W0.heap.size W0 zm/\Below w.heap.size w zm):=⟨H1.out.1.trans (Rm.out.below.mono (H1.out.1).size),H1.out.2.trans (Rm.out.below.mono (H1.out.2).size)⟩
 clear hR CRm
 simp only [Act.put,List.setIfInBounds_toArray,List.set_cons_zero,List.set_cons_succ]
 go_wp2_with fail
 have GQ:=nw
 have CRn:=fX (fun wz (hz:Below zm.heap.size zm wz)=>Cn.out wz (nw.out.2.trans (hz.mono (nw.out.2).size)))
 have DG:Hid (∀ i,F i->i<zm.heap.size):=fun i h=>fC (HP.out.1.old i h) (nw.out.2).size
 refine jI (X:=Nat×Option Addr×Nat) (fun a x=>((((((((((a.put (some 113) (.agg #[.slice na ns.length nc,.slice ka ns.length kc])).put (some 114) (.slice (some ⟨fg,fp,none⟩) 3 qc)).put (some 115) (.pointer (some ⟨fg,fp+4,none⟩))).put (some 116) (.agg #[str s2,.slice a2 n2 c2])).put (some 117) (.tuple #[.agg #[.slice x.2.1 kn.args.length x.2.2],.bool qn])).put (some 112) (.tuple #[.agg #[.slice x.2.1 kn.args.length x.2.2],.bool qn])).put (some 118) (.agg #[.slice x.2.1 kn.args.length x.2.2])).put (some 119) (.bool qn)).put (some 15) (.pointer (some ⟨x.1,0,none⟩))).put (some 16) (.bool qn))) (fun x w'=>z8 F zm x.1 (.cells #[.slice x.2.1 kn.args.length x.2.2] 43 (0,0)) [kg kn] [.slice x.2.1 kn.args.length x.2.2] w') ?_ ?_
 ·refine wp_region_noPanic ?_
  refine zB (fun w'=>Below zm.heap.size zm w') (fun _=>false) (by kernel_rfl) ?_
  have fF:(fun w'=>Below zm.heap.size zm w') zm.drew:=Below.drew (fH _ _)
  refine tk [0,1,2,3] fF ?_
  (intro d hd;simp [tkD] at hd;subst hd;simp only [tks,pQ,pZ,pS])
  iterate 4 (refine ⟨?_,?_,?_⟩;rotate_left;· (intro oi ho;simp at ho;subst ho;refine Or.inl ⟨by rfl,fun w' fI=>?_⟩;obtain ⟨e0,e1,f1,h1,f2,h2⟩:=SX.out w' (nw.out.1.trans (fI.mono (nw.out.1).size));go_simp;try with_reducible rfl))
  refine k8 4 8 (by kernel_rfl) ?_ ?_
  ·(intro o4 ho K' hK;simp at ho;subst ho)
   go_simp
   go_at_call 34
   (with_reducible refine (CRn.out zm.drew fF).mono ?_)
   rintro en y1 ⟨xx,yy,rfl,hb,hr⟩
   have fR:Below zm.heap.size zm y1:=fF.trans hb
   (refine hK.out _ _ (fun _=>fR) ?_;clear hK K';try simp only [pQ,pN,pZ,pS])
   refine tk [5,6,7] fR ?_
   (intro d hd;simp [tkD] at hd;subst hd;simp only [tks,pQ,pZ,pS])
   iterate 3 (refine ⟨?_,?_,?_⟩;rotate_left;· (intro oi ho;simp at ho;subst ho;refine Or.inl ⟨by rfl,fun w' fI=>?_⟩;go_simp;try with_reducible rfl))
   (refine on 8 ?_;intro o ho K' hK;simp at ho;subst ho;go_simp)
   (refine hK.out _ _ (fun _=>fR.alloc (fR).size _) ?_;clear hK K';try simp only [pQ,pN,pZ,pS])
   have bz:(y1.alloc (.cells #[.slice none 0 0] 43)).heap[y1.heap.size]? = some (.cells #[.slice none 0 0] 43 (0,0)):=zG _ _
   have sx:=(show _=some _ from by simp only [World.cell?,bz];rfl:(y1.alloc (.cells #[.slice none 0 0] 43)).cell? ⟨y1.heap.size,0,none⟩=some (.slice none 0 0))
   have sy:(y1.alloc (.cells #[.slice none 0 0] 43)).frozen? ⟨y1.heap.size,0,none⟩=false:=by simp only [World.frozen?,bz];rfl
   (refine on 9 ?_;intro o ho K' hK;simp at ho;subst ho;go_simp)
   (refine hK.out _ _ (fun _=>fR.alloc fR.size _) ?_;clear hK K';try simp only [pQ,pN,pZ,pS])
   (refine on 10 ?_;intro o ho K' hK;simp at ho;subst ho;go_simp)
   (refine hK.out _ _ (fun _=>fR.alloc fR.size _) ?_;clear hK K';try simp only [pQ,pN,pZ,pS])
   refine zU (by kernel_rfl) (NoPanic.normal ?_) _
   exact ⟨rfl,⟨y1.heap.size,xx,yy⟩,by rfl,z8.fresh fR (zX.one hr)⟩
  ·(intro o8 ho K' hK;simp at ho;subst ho)
   go_simp
   (refine hK.out _ _ (fun _=>fF.alloc (fP _) _) ?_;clear hK K';try simp only [pQ,pN,pZ,pS])
   (refine on 4 ?_;intro o ho K' hK;simp at ho;subst ho;go_simp)
   go_at_call 34
   have mL:Below zm.heap.size zm (zm.alloc (.cells #[.slice none 0 0] 43)).drew:=fF.alloc (fP _) _
   (with_reducible refine (CRn.out _ mL).mono ?_)
   rintro en y1 ⟨xx,yy,rfl,hb,hr⟩
   have fR:Below zm.heap.size zm y1:=zzT mL hb
   (refine hK.out _ _ (fun _=>fR) ?_;clear hK K';try simp only [pQ,pN,pZ,pS])
   refine tk [5,6,7] fR ?_
   (intro d hd;simp [tkD] at hd;subst hd;simp only [tks,pQ,pZ,pS])
   iterate 3 (refine ⟨?_,?_,?_⟩;rotate_left;· (intro oi ho;simp at ho;subst ho;refine Or.inl ⟨by rfl,fun w' fI=>?_⟩;go_simp;try with_reducible rfl))
   have bz:y1.heap[zm.heap.size]? = some (.cells #[.slice none 0 0] 43 (0,0)):=(hb.block _ (show _<_ from by simp)).trans (zG zm (.cells #[.slice none 0 0] 43))
   have sx:=(show _=some _ from by simp only [World.cell?,bz];rfl:(y1).cell? ⟨zm.heap.size,0,none⟩=some (.slice none 0 0))
   have sy:(y1).frozen? ⟨zm.heap.size,0,none⟩=false:=by simp only [World.frozen?,bz];rfl
   (refine on 9 ?_;intro o ho K' hK;simp at ho;subst ho;go_simp)
   (refine hK.out _ _ (fun _=>(fR.setCell (p:=⟨zm.heap.size,0,none⟩) (fP _) _)) ?_;clear hK K';try simp only [pQ,pN,pZ,pS])
   (refine on 10 ?_;intro o ho K' hK;simp at ho;subst ho;go_simp)
   (refine hK.out _ _ (fun _=>(fR.setCell (p:=⟨zm.heap.size,0,none⟩) (fP _) _)) ?_;clear hK K';try simp only [pQ,pN,pZ,pS])
   refine zU (by kernel_rfl) (NoPanic.normal ?_) _
   exact ⟨rfl,⟨zm.heap.size,xx,yy⟩,by rfl,z8.first DG.out mL (by simp) hb (zX.one hr) (but1 _ _ _) (by rw [zA bz];rfl)⟩
 rintro ⟨gn,xn,yn⟩ zn hR
 have Rn:Hid (z8 F zm gn (.cells #[.slice xn kn.args.length yn] 43 (0,0)) [kg kn] [.slice xn kn.args.length yn] zn):=hR
 have rH:Hid (Below W0.heap.size W0 zn/\Below w.heap.size w zn):=⟨nw.out.1.trans (Rn.out.below.mono (nw.out.1).size),nw.out.2.trans (Rn.out.below.mono (nw.out.2).size)⟩
 clear hR CRn
 simp only [Act.put,List.setIfInBounds_toArray,List.set_cons_zero,List.set_cons_succ]
 go_wp2_with fail
 have bm:zn.cell? ⟨gm,0,none⟩=some (.slice xm km.args.length ym):=(Rn.out.below.cell (fG _ _ (Rm.out.cell0))).trans (Rm.out.cell0)
 have Tm:Hid (Rep (fun i=>F i\/W0.heap.size<=i) zn (kg km) (.slice xm km.args.length ym)):=Rep.below (F':=fun i=>F i\/W0.heap.size<=i) Rn.out.below (fun _ h=>h) ((zX.get1 Rm.out.rep).weak (G:=fun i=>F i\/W0.heap.size<=i) (fun i h=>h.1.elim .inl (fun h=>.inr (fD (GR.out.1).size h))))
 have bn:zn.cell? ⟨gn,0,none⟩=some (.slice xn kn.args.length yn):=Rn.out.cell0
 have Tn:Hid (Rep (fun i=>F i\/W0.heap.size<=i) zn (kg kn) (.slice xn kn.args.length yn)):=(zX.get1 Rn.out.rep).weak (G:=fun i=>F i\/W0.heap.size<=i) (fun i h=>h.1.elim .inl (fun h=>.inr (fD (GQ.out.1).size h)))
 have BR:Hid (zn.heap[w.heap.size+1+1]? = some (.cells #[.slice none 0 0] 43 (0,0))):=(rH.out.1.block _ (zZ H0.out.2.2.2)).trans H0.out.2.2.2
 have nJ:zn.frozen? ⟨w.heap.size+1+1,0,none⟩=false:=by simp only [World.frozen?,BR.out];rfl
 have tx:zn.cell? ⟨w.heap.size+1+1,0,none⟩=some (.slice none 0 0):=by simp only [World.cell?,BR.out];rfl
 have HE:=fX (show zc ns (.app m n)=if qm=false\/qn=false then (km,false) else match km.args with
  | []=>(km,false)
  | c::cs=>if zN c=zN kn then (.mk cs,true) else (km,false) by rw [zc,oF,iV];rfl)
 have Eo:=fX (fW oF iV)
 clear oF iV Cm Cn
 cases qm with
 | false =>
   go_region
   go_wp2_with fail
   have mp:=fX (show zc ns (.app m n)=(km,false) by rw [HE.out];simp)
   obtain ⟨W,hW,s0,fq,fc⟩:=qZ (BR.out) (.slice xm km.args.length ym)
   rw [<- hW]
   refine bodyPost_ret (v:=.tuple #[.agg #[.slice xm km.args.length ym],.bool false]) (by simp [results,Tryz.results34,go_sem,s0]) rfl ?_
   rw [mp.out]
   exact ji (k:=km) HP.out.1.old H0.out.1 H0.out.2.1 rH.out.1 Tm.out (fun B w0 h hB=>(fq B w0 h hB).drew) fc
 | true =>
   cases qn with
   | false =>
     go_region
     go_wp2_with fail
     have mp:=fX (show zc ns (.app m n)=(km,false) by rw [HE.out];simp)
     obtain ⟨W,hW,s0,fq,fc⟩:=qZ (BR.out) (.slice xm km.args.length ym)
     rw [<- hW]
     refine bodyPost_ret (v:=.tuple #[.agg #[.slice xm km.args.length ym],.bool false]) (by simp [results,Tryz.results34,go_sem,s0]) rfl ?_
     rw [mp.out]
     exact ji (k:=km) HP.out.1.old H0.out.1 H0.out.2.1 rH.out.1 Tm.out (fun B w0 h hB=>(fq B w0 h hB).drew) fc
   | true =>
     have A_:=fX (show zc ns (.app m n)=match km.args with
      | []=>(km,false)
      | c::cs=>if zN c=zN kn then (.mk cs,true) else (km,false) by rw [HE.out];simp)
     have hr:=Tm.out
     rw [qy] at hr
     obtain ⟨_,_,e,G3,_,fM⟩:=zP hr
     simp only [Value.slice.injEq,true_and] at e
     obtain ⟨rfl,rfl⟩:=e
     have AO:=k9 m ns km HP.out.1.n15 (by have:=uo (t:=m) (ns:=ns) HP.out.2.2.1 (by rw [Eo.out.1]);rwa [Eo.out.1] at this)
     have B_:=k9 n ns kn HP.out.1.n15 (by have:=uo (t:=n) (ns:=ns) HP.out.2.2.2 (by rw [Eo.out.2]);rwa [Eo.out.2] at this)
     have HRR:=fX hr
     cases mN:km.args with
     | nil =>
       have oK:(((km.args.length:Nat):Int) == 0)=true:=by rw [mN];rfl
       have mp:=fX (show zc ns (.app m n)=(km,false) by rw [A_.out,mN])
       clear hr fM mN G3
       generalize hL:km.args.length=L at *
       go_region
       go_wp2_with fail
       subst hL
       obtain ⟨W,hW,s0,fq,fc⟩:=qZ (BR.out) (.slice xm km.args.length ym)
       rw [<- hW]
       refine bodyPost_ret (v:=.tuple #[.agg #[.slice xm km.args.length ym],.bool false]) (by simp [results,Tryz.results34,go_sem,s0]) rfl ?_
       rw [mp.out]
       exact ji (k:=km) HP.out.1.old H0.out.1 H0.out.2.1 rH.out.1 Tm.out (fun B w0 h hB=>(fq B w0 h hB).drew) fc
     | cons c cs =>
       obtain ⟨ab,ao,au,ad,ea,_,Hm,had,Gu,har⟩:=fM 0 (by rw [mN];simp)
       subst ea
       rw [mN] at had G3
       simp only [qH,List.getElem?_cons_zero,Option.some.injEq] at had
       subst had
       obtain ⟨ca,cc,rfl⟩:=kJ har
       have se:zV c<=15:=cf AO c (by rw [mN];simp)
       have oK:(((km.args.length:Nat):Int) == 0)=false:=by rw [mN,beq_eq_false_iff_ne];simp;omega
       have iZ:(0:Int)<((km.args.length:Nat):Int):=by rw [mN];simp
       have nF:0<km.args.length:=by rw [mN];simp
       have Eg:zn.cell? ⟨ab,ao,none⟩=some (.slice ca c.args.length cc):=Gu
       have Es:=fX (fun wz (h:Below zn.heap.size zn wz)=>uG 15 c se (by omega) _ wz _ (Rep.below (F':=fun i=>F i\/W0.heap.size<=i) h (fun _ h=>h) har))
       have lZ:=fX (fun wz (h:Below zn.heap.size zn wz)=>uG 15 kn B_ (by omega) _ wz _ (Rep.below (F':=fun i=>F i\/W0.heap.size<=i) h (fun _ h=>h) Tn.out))
       have SY:Hid (∀ w',Below zn.heap.size zn w'->w'.cell? ⟨gm,0,none⟩=some (.slice (some ⟨ab,ao,none⟩) km.args.length ym)/\w'.cell? ⟨gn,0,none⟩=some (.slice xn kn.args.length yn)/\w'.cell? ⟨ab,ao,none⟩=some (.slice ca c.args.length cc)):=by
        show ∀ w',_->_
        intro w' h
        exact ⟨(h.cell (fG _ _ bm)).trans bm,(h.cell (fG _ _ bn)).trans bn,(h.cell (fG _ _ Eg)).trans Eg⟩
       have D6:cs.length<=14:=by have:=uT AO;rw [mN] at this;simp at this;omega
       have E8:=fX mN
       have HE3:=fX (show zc ns (.app m n)=if zN c=zN kn then (.mk cs,true) else (km,false) by rw [A_.out,mN])
       have hyl':cs.length+1<=ym:=by simpa using G3
       have hLc:=fX (show km.args.length=cs.length+1 by rw [mN];rfl)
       clear hr fM mN G3 Gu Eg har se AO B_ A_ HE
       by_cases i8:zN c=zN kn
       ·have q0:(zN c != zN kn)=false:=by rw [i8];simp
        have mp:=fX (show zc ns (.app m n)=(.mk cs,true) by rw [HE3.out,if_pos i8])
        clear i8
        obtain ⟨X1,Cw⟩:=zzM (zN c)
        obtain ⟨X2,nR⟩:=zzM (zN kn)
        rw [<- Cw] at Es q0;rw [<- nR] at lZ q0
        have q1:(X1 == X2)=true:=by first | (rw [beq_iff_eq];simpa using q0) | (rw [beq_eq_false_iff_ne];simpa using q0)
        have q2:(!(X1 == X2)) = !true:=by rw [q1]
        simp only [Bool.not_true,Bool.not_false] at q2
        clear Cw nR
        refine wp_region_noPanic ?_
        refine zB (fun w'=>Below zn.heap.size zn w') (fun _=>false) (by kernel_rfl) ?_
        have fF:(fun w'=>Below zn.heap.size zn w') zn.drew:=Below.drew (fH _ _)
        refine tk [0,1,2,3,4,5,6,7,8,9,10,11,12,13,14,15,16,18] fF ?_
        (intro d hd;simp [tkD] at hd;subst hd;simp only [tks,pQ,pZ,pS])
        iterate 18 (refine ⟨?_,?_,?_⟩;rotate_left;· (intro oi ho;simp at ho;subst ho;refine Or.inl ⟨by rfl,fun w' fI=>?_⟩;obtain ⟨e0,e1,e2⟩:=SY.out w' fI;go_simp;try with_reducible rfl))
        (refine on 17 ?_;intro o ho K' hK;simp at ho;subst ho;go_simp)
        go_at_call 46
        (with_reducible refine (Es.out _ fF).mono ?_)
        rintro en v1 ⟨rfl,hb⟩
        have rW:Hid (Below zn.heap.size zn v1):=fF.trans hb
        clear hb
        (refine hK.out _ _ (fun _=>rW.out) ?_;clear hK K';try simp only [pQ,pN,pZ,pS])
        have Ej:=rW.out
        (refine on 19 ?_;intro o ho K' hK;simp at ho;subst ho;go_simp)
        go_at_call 46
        (with_reducible refine (lZ.out _ rW.out).mono ?_)
        rintro en v2 ⟨rfl,hb⟩
        have tZ:Hid (Below zn.heap.size zn v2):=zzT rW.out hb
        clear hb
        (refine hK.out _ _ (fun _=>tZ.out) ?_;clear hK K';try simp only [pQ,pN,pZ,pS])
        have Gz:=tZ.out
        refine tk [20,21] Gz ?_
        (intro d hd;simp [tkD] at hd;subst hd;simp only [tks,pQ,pZ,pS])
        iterate 2 (refine ⟨?_,?_,?_⟩;rotate_left;· (intro oi ho;simp at ho;subst ho;refine Or.inl ⟨by rfl,fun w' fI=>?_⟩;go_simp;try with_reducible rfl))
        refine zU (by kernel_rfl) (NoPanic.normal ?_) _
        obtain ⟨e0,e1,e2⟩:=SY.out v2 tZ.out
        have ti:Hid (v2.heap[w.heap.size+1+1]? = some (.cells #[.slice none 0 0] 43 (0,0))):=(tZ.out.block _ (zZ BR.out)).trans BR.out
        have rO:v2.frozen? ⟨w.heap.size+1+1,0,none⟩=false:=by simp only [World.frozen?,ti.out];rfl
        have iI:v2.cell? ⟨w.heap.size+1+1,0,none⟩=some (.slice none 0 0):=by simp only [World.cell?,ti.out];rfl
        have al:Hid (Below W0.heap.size W0 v2):=zzT rH.out.1 tZ.out
        have T2:Hid (Rep (fun i=>F i\/W0.heap.size<=i) v2 (kg km) (.slice (some ⟨ab,ao,none⟩) km.args.length ym)):=Rep.below tZ.out (fun _ h=>h) Tm.out
        clear nJ tx bm bn
        have HT:Hid (Rep (fun i=>F i\/W0.heap.size<=i) v2 (.sl 43 1 (cs.length+1) (qH (c::cs))) (.slice (some ⟨ab,ao,none⟩) (cs.length+1) ym)):=by
         have h:=T2.out
         rw [qy,E8.out] at h
         exact h
        rw [hLc.out] at e0
        clear oK iZ
        by_cases mX:ym=1
        ·subst mX
         have hcs:cs.length=0:=by omega
         obtain rfl:=List.eq_nil_of_length_eq_zero hcs
         clear hcs hyl' D6
         go_wp2_with fail
         obtain ⟨W,hW,s0,fq,fc⟩:=qZ (ti.out) (.slice (some ⟨ab,ao,none⟩) 0 0)
         rw [<- hW]
         refine bodyPost_ret (v:=.tuple #[.agg #[.slice (some ⟨ab,ao,none⟩) 0 0],.bool true]) (by simp [results,Tryz.results34,go_sem,s0]) rfl ?_
         rw [mp.out]
         exact ji (k:=.mk []) HP.out.1.old H0.out.1 H0.out.2.1 al.out (zp.2 ⟨rfl,_,_,rfl,fP _,fun h=>by simp at h,.inl rfl⟩) fq fc
        ·go_wp2_with fail
         obtain ⟨W,hW,s0,fq,fc⟩:=qZ (ti.out) (.slice (some ⟨ab,ao+1,none⟩) cs.length (ym-1))
         rw [<- hW]
         refine bodyPost_ret (v:=.tuple #[.agg #[.slice (some ⟨ab,ao+1,none⟩) cs.length (ym-1)],.bool true]) (by simp [results,Tryz.results34,go_sem,s0]) rfl ?_
         rw [mp.out]
         exact ji (k:=.mk cs) HP.out.1.old H0.out.1 H0.out.2.1 al.out (encS_tail HT.out) fq fc
       ·have q0:(zN c != zN kn)=true:=by rw [bne_iff_ne];exact i8
        have mp:=fX (show zc ns (.app m n)=(km,false) by rw [HE3.out,if_neg i8])
        clear i8
        obtain ⟨X1,Cw⟩:=zzM (zN c)
        obtain ⟨X2,nR⟩:=zzM (zN kn)
        rw [<- Cw] at Es q0;rw [<- nR] at lZ q0
        have q1:(X1 == X2)=false:=by first | (rw [beq_iff_eq];simpa using q0) | (rw [beq_eq_false_iff_ne];simpa using q0)
        have q2:(!(X1 == X2)) = !false:=by rw [q1]
        simp only [Bool.not_true,Bool.not_false] at q2
        clear Cw nR
        refine wp_region_noPanic ?_
        refine zB (fun w'=>Below zn.heap.size zn w') (fun _=>false) (by kernel_rfl) ?_
        have fF:(fun w'=>Below zn.heap.size zn w') zn.drew:=Below.drew (fH _ _)
        refine tk [0,1,2,3,4,5,6,7,8,9,10,11,12,13,14,15,16,18] fF ?_
        (intro d hd;simp [tkD] at hd;subst hd;simp only [tks,pQ,pZ,pS])
        iterate 18 (refine ⟨?_,?_,?_⟩;rotate_left;· (intro oi ho;simp at ho;subst ho;refine Or.inl ⟨by rfl,fun w' fI=>?_⟩;obtain ⟨e0,e1,e2⟩:=SY.out w' fI;go_simp;try with_reducible rfl))
        (refine on 17 ?_;intro o ho K' hK;simp at ho;subst ho;go_simp)
        go_at_call 46
        (with_reducible refine (Es.out _ fF).mono ?_)
        rintro en v1 ⟨rfl,hb⟩
        have rW:Hid (Below zn.heap.size zn v1):=fF.trans hb
        clear hb
        (refine hK.out _ _ (fun _=>rW.out) ?_;clear hK K';try simp only [pQ,pN,pZ,pS])
        have Ej:=rW.out
        (refine on 19 ?_;intro o ho K' hK;simp at ho;subst ho;go_simp)
        go_at_call 46
        (with_reducible refine (lZ.out _ rW.out).mono ?_)
        rintro en v2 ⟨rfl,hb⟩
        have tZ:Hid (Below zn.heap.size zn v2):=zzT rW.out hb
        clear hb
        (refine hK.out _ _ (fun _=>tZ.out) ?_;clear hK K';try simp only [pQ,pN,pZ,pS])
        have Gz:=tZ.out
        refine tk [20,21] Gz ?_
        (intro d hd;simp [tkD] at hd;subst hd;simp only [tks,pQ,pZ,pS])
        iterate 2 (refine ⟨?_,?_,?_⟩;rotate_left;· (intro oi ho;simp at ho;subst ho;refine Or.inl ⟨by rfl,fun w' fI=>?_⟩;go_simp;try with_reducible rfl))
        refine zU (by kernel_rfl) (NoPanic.normal ?_) _
        obtain ⟨e0,e1,e2⟩:=SY.out v2 tZ.out
        have ti:Hid (v2.heap[w.heap.size+1+1]? = some (.cells #[.slice none 0 0] 43 (0,0))):=(tZ.out.block _ (zZ BR.out)).trans BR.out
        have rO:v2.frozen? ⟨w.heap.size+1+1,0,none⟩=false:=by simp only [World.frozen?,ti.out];rfl
        have iI:v2.cell? ⟨w.heap.size+1+1,0,none⟩=some (.slice none 0 0):=by simp only [World.cell?,ti.out];rfl
        have al:Hid (Below W0.heap.size W0 v2):=zzT rH.out.1 tZ.out
        have T2:Hid (Rep (fun i=>F i\/W0.heap.size<=i) v2 (kg km) (.slice (some ⟨ab,ao,none⟩) km.args.length ym)):=Rep.below tZ.out (fun _ h=>h) Tm.out
        clear nJ tx bm bn
        clear oK iZ
        go_wp2_with fail
        obtain ⟨W,hW,s0,fq,fc⟩:=qZ (ti.out) (.slice (some ⟨ab,ao,none⟩) km.args.length ym)
        rw [<- hW]
        refine bodyPost_ret (v:=.tuple #[.agg #[.slice (some ⟨ab,ao,none⟩) km.args.length ym],.bool false]) (by simp [results,Tryz.results34,go_sem,s0]) rfl ?_
        rw [mp.out]
        exact ji (k:=km) HP.out.1.old H0.out.1 H0.out.2.1 al.out T2.out fq fc
set_option maxRecDepth 100000 in
theorem kd_ite (N:Nat) (ih:KdSaid N) (F:Nat->Prop) (l m n:Tm) (ns:List Nm) (nv tv s pv:Value) (w:World) (hN:zM (.ite l m n)<=N+1) (hp:wI F (.ite l m n) ns nv tv s pv w):Calls Tryz.prog 34 #[.agg #[nv,tv],.agg #[s,pv]] w (vo F w (zc ns (.ite l m n)).1 (zc ns (.ite l m n)).2):=by
 have hold:=hp.old
 obtain ⟨na,nc,rfl,_,_,mi⟩:=zP hp.rn
 obtain ⟨ka,kc,rfl,_,_,nG⟩:=zP hp.rk
 have mG:=hp.rt
 rw [z_] at mG
 obtain ⟨qa,qc,e,fh⟩:=qz mG
 simp only [qJ,qr,List.cons.injEq,and_true] at e fh
 obtain ⟨rfl,rfl⟩:=e
 obtain ⟨_,_,e,fM⟩:=uh.of fh
 simp only [Value.slice.injEq,true_and] at e
 obtain ⟨rfl,rfl⟩:=e
 obtain ⟨fg,fp,s1,a1,n1,c1,d1,t_,mt,sH,sC,iz,rz,AA,BD⟩:=fM 1 (by simp)
 simp only [List.getElem?_cons_zero,List.getElem?_cons_succ,Option.some.injEq] at sH
 subst sH
 subst t_
 obtain ⟨FD,FB,s2,a2,n2,c2,d2,t6,lJ,tl,aZ,iO,tV,Bz,BC⟩:=fM 2 (by simp)
 simp only [List.getElem?_cons_zero,List.getElem?_cons_succ,Option.some.injEq] at tl
 subst tl
 simp only [Option.some.injEq,Addr.mk.injEq,and_true] at t6
 obtain ⟨rfl,rfl⟩:=t6
 obtain ⟨pb3,po3,s3,a3,n3,c3,d3,BE,Fz,BB,BH,BG,BA,FA,FC⟩:=fM 3 (by simp)
 simp only [List.getElem?_cons_zero,List.getElem?_cons_succ,Option.some.injEq] at BB
 subst BB
 simp only [Option.some.injEq,Addr.mk.injEq,and_true] at BE
 obtain ⟨rfl,rfl⟩:=BE
 have fo:=hp.room
 have fa:=hp.ok
 have ml:=hp.sm
 rw [zM] at fo hN
 rw [kV] at ml
 simp only [Bool.and_eq_true] at ml
 obtain ⟨W0,mQ⟩:=zzM (((w.alloc (.cells #[.slice na ns.length nc,.slice ka ns.length kc] 53)).alloc (.cells #[str [],.slice (some ⟨fg,fp,none⟩) 4 qc] 40)).alloc (.cells #[.slice none 0 0] 43))
 obtain ⟨fd,z0,bA,bB,bC⟩:=yT w (.cells #[.slice na ns.length nc,.slice ka ns.length kc] 53) (.cells #[str [],.slice (some ⟨fg,fp,none⟩) 4 qc] 40) (.cells #[.slice none 0 0] 43)
 rw [<- mQ] at fd z0 bA bB bC
 have CH:=fX (show Calls Tryz.prog 37 #[.agg #[str [],.slice (some ⟨fg,fp,none⟩) 4 qc]] W0 (fun en w'=>en=.returned (str (yD (z_ (.ite l m n))))/\Below W0.heap.size W0 w') from uP (z_ (.ite l m n)) (vU _ hp.ok) F W0 _ _ (zX.below fd (fun _ h=>h) hp.rt))
 have CQ:yD (z_ (.ite l m n))=[105,102]:=by rw [z_];rfl
 rw [CQ] at CH
 have H0:=fX (fW fd (fW z0 (fW bA bC)))
 obtain ⟨kl,ql,aB⟩:∃ k q,zc ns l=(k,q):=⟨_,_,rfl⟩
 have Cl:Hid (∀ wz,Below w.heap.size w wz->Calls Tryz.prog 34 #[.agg #[.slice na ns.length nc,.slice ka ns.length kc],.agg #[str s1,.slice a1 n1 c1]] wz (vo F wz kl ql)):=by
  show ∀ wz,_->_
  intro wz hz
  have h:=ih F l ns _ _ _ _ wz (by omega) ⟨fun i h=>fC (hp.old i h) hz.size,zX.below hz (fun _ h=>h) rz,Rep.below hz (fun _ h=>h) hp.rn,Rep.below hz (fun _ h=>h) hp.rk,fa.1,ml.1.1,hp.nm,hp.n15,by omega⟩
  rw [aB] at h
  exact h
 obtain ⟨km,qm,oF⟩:∃ k q,zc ns m=(k,q):=⟨_,_,rfl⟩
 have Cm:Hid (∀ wz,Below w.heap.size w wz->Calls Tryz.prog 34 #[.agg #[.slice na ns.length nc,.slice ka ns.length kc],.agg #[str s2,.slice a2 n2 c2]] wz (vo F wz km qm)):=by
  show ∀ wz,_->_
  intro wz hz
  have h:=ih F m ns _ _ _ _ wz (by omega) ⟨fun i h=>fC (hp.old i h) hz.size,zX.below hz (fun _ h=>h) tV,Rep.below hz (fun _ h=>h) hp.rn,Rep.below hz (fun _ h=>h) hp.rk,fa.2.1,ml.1.2,hp.nm,hp.n15,by omega⟩
  rw [oF] at h
  exact h
 obtain ⟨kn,qn,iV⟩:∃ k q,zc ns n=(k,q):=⟨_,_,rfl⟩
 have Cn:Hid (∀ wz,Below w.heap.size w wz->Calls Tryz.prog 34 #[.agg #[.slice na ns.length nc,.slice ka ns.length kc],.agg #[str s3,.slice a3 n3 c3]] wz (vo F wz kn qn)):=by
  show ∀ wz,_->_
  intro wz hz
  have h:=ih F n ns _ _ _ _ wz (by omega) ⟨fun i h=>fC (hp.old i h) hz.size,zX.below hz (fun _ h=>h) BA,Rep.below hz (fun _ h=>h) hp.rn,Rep.below hz (fun _ h=>h) hp.rk,fa.2.2,ml.2,hp.nm,hp.n15,by omega⟩
  rw [iV] at h
  exact h
 have e0:W0.cell? ⟨w.heap.size,0,none⟩=some (.slice na ns.length nc):=by simp [World.cell?,bA]
 have e1:W0.cell? ⟨w.heap.size,1,none⟩=some (.slice ka ns.length kc):=by simp [World.cell?,bA]
 have SX:Hid (∀ w',Below W0.heap.size W0 w'->w'.cell? ⟨w.heap.size,0,none⟩=some (.slice na ns.length nc)/\w'.cell? ⟨w.heap.size,1,none⟩=some (.slice ka ns.length kc)/\w'.cell? ⟨fg,fp+2,none⟩=some (str s1)/\w'.cell? ⟨fg,fp+3,none⟩=some (.slice a1 n1 c1)/\w'.cell? ⟨fg,fp+4,none⟩=some (str s2)/\w'.cell? ⟨fg,fp+5,none⟩=some (.slice a2 n2 c2)/\w'.cell? ⟨fg,fp+6,none⟩=some (str s3)/\w'.cell? ⟨fg,fp+7,none⟩=some (.slice a3 n3 c3)):=by
  show ∀ w',_->_
  intro w' fx
  have mZ:=zzT fd fx
  exact ⟨(fx.cell (fG W0 _ e0)).trans e0,(fx.cell (fG W0 _ e1)).trans e1,(mZ.cell (p:=⟨fg,fp+2,none⟩) mt).trans sC,(mZ.cell (p:=⟨fg,fp+3,none⟩) mt).trans iz,(mZ.cell (p:=⟨fg,fp+4,none⟩) mt).trans aZ,(mZ.cell (p:=⟨fg,fp+5,none⟩) mt).trans iO,(mZ.cell (p:=⟨fg,fp+6,none⟩) mt).trans BH,(mZ.cell (p:=⟨fg,fp+7,none⟩) mt).trans BG⟩
 have HP:=fX (fW hp (fW fa ml))
 clear mi nG fh fM mG hp fa ml ih hN fd z0 bA bB bC e0 e1 rz sC iz AA BD tV aZ iO Bz BC BA BH BG FA FC
 clear mt
 clear lJ
 clear Fz
 go_enter Tryz.func34,Tryz.ntmps34
 go_wp2_with fail
 rw [<- mQ]
 clear mQ
 (with_reducible refine CH.out.mono ?_)
 rintro en w1 ⟨rfl,fA⟩
 have H1:=fX (fW fA (zzT H0.out.1 fA))
 clear fA CH
 go_wp2_with fail
 have HLl:=H1
 have CRl:=fX (fun wz (hz:Below w1.heap.size w1 wz)=>Cl.out wz (H1.out.2.trans (hz.mono (H1.out.2).size)))
 have hFl:Hid (∀ i,F i->i<w1.heap.size):=fun i h=>fC (HP.out.1.old i h) (H1.out.2).size
 refine jI (X:=Nat×Option Addr×Nat) (fun a x=>((((((((((a.put (some 148) (.agg #[.slice na ns.length nc,.slice ka ns.length kc])).put (some 149) (.slice (some ⟨fg,fp,none⟩) 4 qc)).put (some 150) (.pointer (some ⟨fg,fp+2,none⟩))).put (some 151) (.agg #[str s1,.slice a1 n1 c1])).put (some 152) (.tuple #[.agg #[.slice x.2.1 kl.args.length x.2.2],.bool ql])).put (some 147) (.tuple #[.agg #[.slice x.2.1 kl.args.length x.2.2],.bool ql])).put (some 153) (.agg #[.slice x.2.1 kl.args.length x.2.2])).put (some 154) (.bool ql)).put (some 17) (.pointer (some ⟨x.1,0,none⟩))).put (some 18) (.bool ql))) (fun x w'=>z8 F w1 x.1 (.cells #[.slice x.2.1 kl.args.length x.2.2] 43 (0,0)) [kg kl] [.slice x.2.1 kl.args.length x.2.2] w') ?_ ?_
 ·refine wp_region_noPanic ?_
  refine zB (fun w'=>Below w1.heap.size w1 w') (fun _=>false) (by kernel_rfl) ?_
  have fF:(fun w'=>Below w1.heap.size w1 w') w1.drew:=Below.drew (fH _ _)
  refine tk [0,1,2,3] fF ?_
  (intro d hd;simp [tkD] at hd;subst hd;simp only [tks,pQ,pZ,pS])
  iterate 4 (refine ⟨?_,?_,?_⟩;rotate_left;· (intro oi ho;simp at ho;subst ho;refine Or.inl ⟨by rfl,fun w' fI=>?_⟩;obtain ⟨e0,e1,f1,h1,f2,h2,f3,h3⟩:=SX.out w' (H1.out.1.trans (fI.mono (H1.out.1).size));go_simp;try with_reducible rfl))
  refine k8 4 8 (by kernel_rfl) ?_ ?_
  ·(intro o4 ho K' hK;simp at ho;subst ho)
   go_simp
   go_at_call 34
   (with_reducible refine (CRl.out w1.drew fF).mono ?_)
   rintro en y1 ⟨xx,yy,rfl,hb,hr⟩
   have fR:Below w1.heap.size w1 y1:=fF.trans hb
   (refine hK.out _ _ (fun _=>fR) ?_;clear hK K';try simp only [pQ,pN,pZ,pS])
   refine tk [5,6,7] fR ?_
   (intro d hd;simp [tkD] at hd;subst hd;simp only [tks,pQ,pZ,pS])
   iterate 3 (refine ⟨?_,?_,?_⟩;rotate_left;· (intro oi ho;simp at ho;subst ho;refine Or.inl ⟨by rfl,fun w' fI=>?_⟩;go_simp;try with_reducible rfl))
   (refine on 8 ?_;intro o ho K' hK;simp at ho;subst ho;go_simp)
   (refine hK.out _ _ (fun _=>fR.alloc (fR).size _) ?_;clear hK K';try simp only [pQ,pN,pZ,pS])
   have bz:(y1.alloc (.cells #[.slice none 0 0] 43)).heap[y1.heap.size]? = some (.cells #[.slice none 0 0] 43 (0,0)):=zG _ _
   have sx:=(show _=some _ from by simp only [World.cell?,bz];rfl:(y1.alloc (.cells #[.slice none 0 0] 43)).cell? ⟨y1.heap.size,0,none⟩=some (.slice none 0 0))
   have sy:(y1.alloc (.cells #[.slice none 0 0] 43)).frozen? ⟨y1.heap.size,0,none⟩=false:=by simp only [World.frozen?,bz];rfl
   (refine on 9 ?_;intro o ho K' hK;simp at ho;subst ho;go_simp)
   (refine hK.out _ _ (fun _=>fR.alloc fR.size _) ?_;clear hK K';try simp only [pQ,pN,pZ,pS])
   (refine on 10 ?_;intro o ho K' hK;simp at ho;subst ho;go_simp)
   (refine hK.out _ _ (fun _=>fR.alloc fR.size _) ?_;clear hK K';try simp only [pQ,pN,pZ,pS])
   refine zU (by kernel_rfl) (NoPanic.normal ?_) _
   exact ⟨rfl,⟨y1.heap.size,xx,yy⟩,by rfl,z8.fresh fR (zX.one hr)⟩
  ·(intro o8 ho K' hK;simp at ho;subst ho)
   go_simp
   (refine hK.out _ _ (fun _=>fF.alloc (fP _) _) ?_;clear hK K';try simp only [pQ,pN,pZ,pS])
   (refine on 4 ?_;intro o ho K' hK;simp at ho;subst ho;go_simp)
   go_at_call 34
   have mL:Below w1.heap.size w1 (w1.alloc (.cells #[.slice none 0 0] 43)).drew:=fF.alloc (fP _) _
   (with_reducible refine (CRl.out _ mL).mono ?_)
   rintro en y1 ⟨xx,yy,rfl,hb,hr⟩
   have fR:Below w1.heap.size w1 y1:=zzT mL hb
   (refine hK.out _ _ (fun _=>fR) ?_;clear hK K';try simp only [pQ,pN,pZ,pS])
   refine tk [5,6,7] fR ?_
   (intro d hd;simp [tkD] at hd;subst hd;simp only [tks,pQ,pZ,pS])
   iterate 3 (refine ⟨?_,?_,?_⟩;rotate_left;· (intro oi ho;simp at ho;subst ho;refine Or.inl ⟨by rfl,fun w' fI=>?_⟩;go_simp;try with_reducible rfl))
   have bz:y1.heap[w1.heap.size]? = some (.cells #[.slice none 0 0] 43 (0,0)):=(hb.block _ (show _<_ from by simp)).trans (zG w1 (.cells #[.slice none 0 0] 43))
   have sx:=(show _=some _ from by simp only [World.cell?,bz];rfl:(y1).cell? ⟨w1.heap.size,0,none⟩=some (.slice none 0 0))
   have sy:(y1).frozen? ⟨w1.heap.size,0,none⟩=false:=by simp only [World.frozen?,bz];rfl
   (refine on 9 ?_;intro o ho K' hK;simp at ho;subst ho;go_simp)
   (refine hK.out _ _ (fun _=>(fR.setCell (p:=⟨w1.heap.size,0,none⟩) (fP _) _)) ?_;clear hK K';try simp only [pQ,pN,pZ,pS])
   (refine on 10 ?_;intro o ho K' hK;simp at ho;subst ho;go_simp)
   (refine hK.out _ _ (fun _=>(fR.setCell (p:=⟨w1.heap.size,0,none⟩) (fP _) _)) ?_;clear hK K';try simp only [pQ,pN,pZ,pS])
   refine zU (by kernel_rfl) (NoPanic.normal ?_) _
   exact ⟨rfl,⟨w1.heap.size,xx,yy⟩,by rfl,z8.first hFl.out mL (by simp) hb (zX.one hr) (but1 _ _ _) (by rw [zA bz];rfl)⟩
 rintro ⟨gl,xl,yl⟩ zl hR
 have Rl:Hid (z8 F w1 gl (.cells #[.slice xl kl.args.length yl] 43 (0,0)) [kg kl] [.slice xl kl.args.length yl] zl):=hR
 have ai:Hid (Below W0.heap.size W0 zl/\Below w.heap.size w zl):=⟨H1.out.1.trans (Rl.out.below.mono (H1.out.1).size),H1.out.2.trans (Rl.out.below.mono (H1.out.2).size)⟩
 clear hR CRl
 simp only [Act.put,List.setIfInBounds_toArray,List.set_cons_zero,List.set_cons_succ]
 go_wp2_with fail
 have GR:=ai
 have CRm:=fX (fun wz (hz:Below zl.heap.size zl wz)=>Cm.out wz (ai.out.2.trans (hz.mono (ai.out.2).size)))
 have GE:Hid (∀ i,F i->i<zl.heap.size):=fun i h=>fC (HP.out.1.old i h) (ai.out.2).size
 refine jI (X:=Nat×Option Addr×Nat) (fun a x=>((((((((((a.put (some 156) (.agg #[.slice na ns.length nc,.slice ka ns.length kc])).put (some 157) (.slice (some ⟨fg,fp,none⟩) 4 qc)).put (some 158) (.pointer (some ⟨fg,fp+4,none⟩))).put (some 159) (.agg #[str s2,.slice a2 n2 c2])).put (some 160) (.tuple #[.agg #[.slice x.2.1 km.args.length x.2.2],.bool qm])).put (some 155) (.tuple #[.agg #[.slice x.2.1 km.args.length x.2.2],.bool qm])).put (some 161) (.agg #[.slice x.2.1 km.args.length x.2.2])).put (some 162) (.bool qm)).put (some 19) (.pointer (some ⟨x.1,0,none⟩))).put (some 20) (.bool qm))) (fun x w'=>z8 F zl x.1 (.cells #[.slice x.2.1 km.args.length x.2.2] 43 (0,0)) [kg km] [.slice x.2.1 km.args.length x.2.2] w') ?_ ?_
 ·refine wp_region_noPanic ?_
  refine zB (fun w'=>Below zl.heap.size zl w') (fun _=>false) (by kernel_rfl) ?_
  have fF:(fun w'=>Below zl.heap.size zl w') zl.drew:=Below.drew (fH _ _)
  refine tk [0,1,2,3] fF ?_
  (intro d hd;simp [tkD] at hd;subst hd;simp only [tks,pQ,pZ,pS])
  iterate 4 (refine ⟨?_,?_,?_⟩;rotate_left;· (intro oi ho;simp at ho;subst ho;refine Or.inl ⟨by rfl,fun w' fI=>?_⟩;obtain ⟨e0,e1,f1,h1,f2,h2,f3,h3⟩:=SX.out w' (ai.out.1.trans (fI.mono (ai.out.1).size));go_simp;try with_reducible rfl))
  refine k8 4 8 (by kernel_rfl) ?_ ?_
  ·(intro o4 ho K' hK;simp at ho;subst ho)
   go_simp
   go_at_call 34
   (with_reducible refine (CRm.out zl.drew fF).mono ?_)
   rintro en y1 ⟨xx,yy,rfl,hb,hr⟩
   have fR:Below zl.heap.size zl y1:=fF.trans hb
   (refine hK.out _ _ (fun _=>fR) ?_;clear hK K';try simp only [pQ,pN,pZ,pS])
   refine tk [5,6,7] fR ?_
   (intro d hd;simp [tkD] at hd;subst hd;simp only [tks,pQ,pZ,pS])
   iterate 3 (refine ⟨?_,?_,?_⟩;rotate_left;· (intro oi ho;simp at ho;subst ho;refine Or.inl ⟨by rfl,fun w' fI=>?_⟩;go_simp;try with_reducible rfl))
   (refine on 8 ?_;intro o ho K' hK;simp at ho;subst ho;go_simp)
   (refine hK.out _ _ (fun _=>fR.alloc (fR).size _) ?_;clear hK K';try simp only [pQ,pN,pZ,pS])
   have bz:(y1.alloc (.cells #[.slice none 0 0] 43)).heap[y1.heap.size]? = some (.cells #[.slice none 0 0] 43 (0,0)):=zG _ _
   have sx:=(show _=some _ from by simp only [World.cell?,bz];rfl:(y1.alloc (.cells #[.slice none 0 0] 43)).cell? ⟨y1.heap.size,0,none⟩=some (.slice none 0 0))
   have sy:(y1.alloc (.cells #[.slice none 0 0] 43)).frozen? ⟨y1.heap.size,0,none⟩=false:=by simp only [World.frozen?,bz];rfl
   (refine on 9 ?_;intro o ho K' hK;simp at ho;subst ho;go_simp)
   (refine hK.out _ _ (fun _=>fR.alloc fR.size _) ?_;clear hK K';try simp only [pQ,pN,pZ,pS])
   (refine on 10 ?_;intro o ho K' hK;simp at ho;subst ho;go_simp)
   (refine hK.out _ _ (fun _=>fR.alloc fR.size _) ?_;clear hK K';try simp only [pQ,pN,pZ,pS])
   refine zU (by kernel_rfl) (NoPanic.normal ?_) _
   exact ⟨rfl,⟨y1.heap.size,xx,yy⟩,by rfl,z8.fresh fR (zX.one hr)⟩
  ·(intro o8 ho K' hK;simp at ho;subst ho)
   go_simp
   (refine hK.out _ _ (fun _=>fF.alloc (fP _) _) ?_;clear hK K';try simp only [pQ,pN,pZ,pS])
   (refine on 4 ?_;intro o ho K' hK;simp at ho;subst ho;go_simp)
   go_at_call 34
   have mL:Below zl.heap.size zl (zl.alloc (.cells #[.slice none 0 0] 43)).drew:=fF.alloc (fP _) _
   (with_reducible refine (CRm.out _ mL).mono ?_)
   rintro en y1 ⟨xx,yy,rfl,hb,hr⟩
   have fR:Below zl.heap.size zl y1:=zzT mL hb
   (refine hK.out _ _ (fun _=>fR) ?_;clear hK K';try simp only [pQ,pN,pZ,pS])
   refine tk [5,6,7] fR ?_
   (intro d hd;simp [tkD] at hd;subst hd;simp only [tks,pQ,pZ,pS])
   iterate 3 (refine ⟨?_,?_,?_⟩;rotate_left;· (intro oi ho;simp at ho;subst ho;refine Or.inl ⟨by rfl,fun w' fI=>?_⟩;go_simp;try with_reducible rfl))
   have bz:y1.heap[zl.heap.size]? = some (.cells #[.slice none 0 0] 43 (0,0)):=(hb.block _ (show _<_ from by simp)).trans (zG zl (.cells #[.slice none 0 0] 43))
   have sx:=(show _=some _ from by simp only [World.cell?,bz];rfl:(y1).cell? ⟨zl.heap.size,0,none⟩=some (.slice none 0 0))
   have sy:(y1).frozen? ⟨zl.heap.size,0,none⟩=false:=by simp only [World.frozen?,bz];rfl
   (refine on 9 ?_;intro o ho K' hK;simp at ho;subst ho;go_simp)
   (refine hK.out _ _ (fun _=>(fR.setCell (p:=⟨zl.heap.size,0,none⟩) (fP _) _)) ?_;clear hK K';try simp only [pQ,pN,pZ,pS])
   (refine on 10 ?_;intro o ho K' hK;simp at ho;subst ho;go_simp)
   (refine hK.out _ _ (fun _=>(fR.setCell (p:=⟨zl.heap.size,0,none⟩) (fP _) _)) ?_;clear hK K';try simp only [pQ,pN,pZ,pS])
   refine zU (by kernel_rfl) (NoPanic.normal ?_) _
   exact ⟨rfl,⟨zl.heap.size,xx,yy⟩,by rfl,z8.first GE.out mL (by simp) hb (zX.one hr) (but1 _ _ _) (by rw [zA bz];rfl)⟩
 rintro ⟨gm,xm,ym⟩ zm hR
 have Rm:Hid (z8 F zl gm (.cells #[.slice xm km.args.length ym] 43 (0,0)) [kg km] [.slice xm km.args.length ym] zm):=hR
 have nw:Hid (Below W0.heap.size W0 zm/\Below w.heap.size w zm):=⟨ai.out.1.trans (Rm.out.below.mono (ai.out.1).size),ai.out.2.trans (Rm.out.below.mono (ai.out.2).size)⟩
 clear hR CRm
 simp only [Act.put,List.setIfInBounds_toArray,List.set_cons_zero,List.set_cons_succ]
 go_wp2_with fail
 have GQ:=nw
 have CRn:=fX (fun wz (hz:Below zm.heap.size zm wz)=>Cn.out wz (nw.out.2.trans (hz.mono (nw.out.2).size)))
 have DG:Hid (∀ i,F i->i<zm.heap.size):=fun i h=>fC (HP.out.1.old i h) (nw.out.2).size
 refine jI (X:=Nat×Option Addr×Nat) (fun a x=>((((((((((a.put (some 164) (.agg #[.slice na ns.length nc,.slice ka ns.length kc])).put (some 165) (.slice (some ⟨fg,fp,none⟩) 4 qc)).put (some 166) (.pointer (some ⟨fg,fp+6,none⟩))).put (some 167) (.agg #[str s3,.slice a3 n3 c3])).put (some 168) (.tuple #[.agg #[.slice x.2.1 kn.args.length x.2.2],.bool qn])).put (some 163) (.tuple #[.agg #[.slice x.2.1 kn.args.length x.2.2],.bool qn])).put (some 169) (.agg #[.slice x.2.1 kn.args.length x.2.2])).put (some 170) (.bool qn)).put (some 21) (.pointer (some ⟨x.1,0,none⟩))).put (some 22) (.bool qn))) (fun x w'=>z8 F zm x.1 (.cells #[.slice x.2.1 kn.args.length x.2.2] 43 (0,0)) [kg kn] [.slice x.2.1 kn.args.length x.2.2] w') ?_ ?_
 ·refine wp_region_noPanic ?_
  refine zB (fun w'=>Below zm.heap.size zm w') (fun _=>false) (by kernel_rfl) ?_
  have fF:(fun w'=>Below zm.heap.size zm w') zm.drew:=Below.drew (fH _ _)
  refine tk [0,1,2,3] fF ?_
  (intro d hd;simp [tkD] at hd;subst hd;simp only [tks,pQ,pZ,pS])
  iterate 4 (refine ⟨?_,?_,?_⟩;rotate_left;· (intro oi ho;simp at ho;subst ho;refine Or.inl ⟨by rfl,fun w' fI=>?_⟩;obtain ⟨e0,e1,f1,h1,f2,h2,f3,h3⟩:=SX.out w' (nw.out.1.trans (fI.mono (nw.out.1).size));go_simp;try with_reducible rfl))
  refine k8 4 8 (by kernel_rfl) ?_ ?_
  ·(intro o4 ho K' hK;simp at ho;subst ho)
   go_simp
   go_at_call 34
   (with_reducible refine (CRn.out zm.drew fF).mono ?_)
   rintro en y1 ⟨xx,yy,rfl,hb,hr⟩
   have fR:Below zm.heap.size zm y1:=fF.trans hb
   (refine hK.out _ _ (fun _=>fR) ?_;clear hK K';try simp only [pQ,pN,pZ,pS])
   refine tk [5,6,7] fR ?_
   (intro d hd;simp [tkD] at hd;subst hd;simp only [tks,pQ,pZ,pS])
   iterate 3 (refine ⟨?_,?_,?_⟩;rotate_left;· (intro oi ho;simp at ho;subst ho;refine Or.inl ⟨by rfl,fun w' fI=>?_⟩;go_simp;try with_reducible rfl))
   (refine on 8 ?_;intro o ho K' hK;simp at ho;subst ho;go_simp)
   (refine hK.out _ _ (fun _=>fR.alloc (fR).size _) ?_;clear hK K';try simp only [pQ,pN,pZ,pS])
   have bz:(y1.alloc (.cells #[.slice none 0 0] 43)).heap[y1.heap.size]? = some (.cells #[.slice none 0 0] 43 (0,0)):=zG _ _
   have sx:=(show _=some _ from by simp only [World.cell?,bz];rfl:(y1.alloc (.cells #[.slice none 0 0] 43)).cell? ⟨y1.heap.size,0,none⟩=some (.slice none 0 0))
   have sy:(y1.alloc (.cells #[.slice none 0 0] 43)).frozen? ⟨y1.heap.size,0,none⟩=false:=by simp only [World.frozen?,bz];rfl
   (refine on 9 ?_;intro o ho K' hK;simp at ho;subst ho;go_simp)
   (refine hK.out _ _ (fun _=>fR.alloc fR.size _) ?_;clear hK K';try simp only [pQ,pN,pZ,pS])
   (refine on 10 ?_;intro o ho K' hK;simp at ho;subst ho;go_simp)
   (refine hK.out _ _ (fun _=>fR.alloc fR.size _) ?_;clear hK K';try simp only [pQ,pN,pZ,pS])
   refine zU (by kernel_rfl) (NoPanic.normal ?_) _
   exact ⟨rfl,⟨y1.heap.size,xx,yy⟩,by rfl,z8.fresh fR (zX.one hr)⟩
  ·(intro o8 ho K' hK;simp at ho;subst ho)
   go_simp
   (refine hK.out _ _ (fun _=>fF.alloc (fP _) _) ?_;clear hK K';try simp only [pQ,pN,pZ,pS])
   (refine on 4 ?_;intro o ho K' hK;simp at ho;subst ho;go_simp)
   go_at_call 34
   have mL:Below zm.heap.size zm (zm.alloc (.cells #[.slice none 0 0] 43)).drew:=fF.alloc (fP _) _
   (with_reducible refine (CRn.out _ mL).mono ?_)
   rintro en y1 ⟨xx,yy,rfl,hb,hr⟩
   have fR:Below zm.heap.size zm y1:=zzT mL hb
   (refine hK.out _ _ (fun _=>fR) ?_;clear hK K';try simp only [pQ,pN,pZ,pS])
   refine tk [5,6,7] fR ?_
   (intro d hd;simp [tkD] at hd;subst hd;simp only [tks,pQ,pZ,pS])
   iterate 3 (refine ⟨?_,?_,?_⟩;rotate_left;· (intro oi ho;simp at ho;subst ho;refine Or.inl ⟨by rfl,fun w' fI=>?_⟩;go_simp;try with_reducible rfl))
   have bz:y1.heap[zm.heap.size]? = some (.cells #[.slice none 0 0] 43 (0,0)):=(hb.block _ (show _<_ from by simp)).trans (zG zm (.cells #[.slice none 0 0] 43))
   have sx:=(show _=some _ from by simp only [World.cell?,bz];rfl:(y1).cell? ⟨zm.heap.size,0,none⟩=some (.slice none 0 0))
   have sy:(y1).frozen? ⟨zm.heap.size,0,none⟩=false:=by simp only [World.frozen?,bz];rfl
   (refine on 9 ?_;intro o ho K' hK;simp at ho;subst ho;go_simp)
   (refine hK.out _ _ (fun _=>(fR.setCell (p:=⟨zm.heap.size,0,none⟩) (fP _) _)) ?_;clear hK K';try simp only [pQ,pN,pZ,pS])
   (refine on 10 ?_;intro o ho K' hK;simp at ho;subst ho;go_simp)
   (refine hK.out _ _ (fun _=>(fR.setCell (p:=⟨zm.heap.size,0,none⟩) (fP _) _)) ?_;clear hK K';try simp only [pQ,pN,pZ,pS])
   refine zU (by kernel_rfl) (NoPanic.normal ?_) _
   exact ⟨rfl,⟨zm.heap.size,xx,yy⟩,by rfl,z8.first DG.out mL (by simp) hb (zX.one hr) (but1 _ _ _) (by rw [zA bz];rfl)⟩
 rintro ⟨gn,xn,yn⟩ zn hR
 have Rn:Hid (z8 F zm gn (.cells #[.slice xn kn.args.length yn] 43 (0,0)) [kg kn] [.slice xn kn.args.length yn] zn):=hR
 have rH:Hid (Below W0.heap.size W0 zn/\Below w.heap.size w zn):=⟨nw.out.1.trans (Rn.out.below.mono (nw.out.1).size),nw.out.2.trans (Rn.out.below.mono (nw.out.2).size)⟩
 clear hR CRn
 simp only [Act.put,List.setIfInBounds_toArray,List.set_cons_zero,List.set_cons_succ]
 go_wp2_with fail
 have bl:zn.cell? ⟨gl,0,none⟩=some (.slice xl kl.args.length yl):=(Rn.out.below.cell (fG _ _ ((Rm.out.below.cell (fG _ _ (Rl.out.cell0))).trans (Rl.out.cell0)))).trans ((Rm.out.below.cell (fG _ _ (Rl.out.cell0))).trans (Rl.out.cell0))
 have Tl:Hid (Rep (fun i=>F i\/W0.heap.size<=i) zn (kg kl) (.slice xl kl.args.length yl)):=Rep.below (F':=fun i=>F i\/W0.heap.size<=i) Rn.out.below (fun _ h=>h) (Rep.below (F':=fun i=>F i\/W0.heap.size<=i) Rm.out.below (fun _ h=>h) ((zX.get1 Rl.out.rep).weak (G:=fun i=>F i\/W0.heap.size<=i) (fun i h=>h.1.elim .inl (fun h=>.inr (fD (HLl.out.1).size h)))))
 have bm:zn.cell? ⟨gm,0,none⟩=some (.slice xm km.args.length ym):=(Rn.out.below.cell (fG _ _ (Rm.out.cell0))).trans (Rm.out.cell0)
 have Tm:Hid (Rep (fun i=>F i\/W0.heap.size<=i) zn (kg km) (.slice xm km.args.length ym)):=Rep.below (F':=fun i=>F i\/W0.heap.size<=i) Rn.out.below (fun _ h=>h) ((zX.get1 Rm.out.rep).weak (G:=fun i=>F i\/W0.heap.size<=i) (fun i h=>h.1.elim .inl (fun h=>.inr (fD (GR.out.1).size h))))
 have bn:zn.cell? ⟨gn,0,none⟩=some (.slice xn kn.args.length yn):=Rn.out.cell0
 have Tn:Hid (Rep (fun i=>F i\/W0.heap.size<=i) zn (kg kn) (.slice xn kn.args.length yn)):=(zX.get1 Rn.out.rep).weak (G:=fun i=>F i\/W0.heap.size<=i) (fun i h=>h.1.elim .inl (fun h=>.inr (fD (GQ.out.1).size h)))
 have BR:Hid (zn.heap[w.heap.size+1+1]? = some (.cells #[.slice none 0 0] 43 (0,0))):=(rH.out.1.block _ (zZ H0.out.2.2.2)).trans H0.out.2.2.2
 have nJ:zn.frozen? ⟨w.heap.size+1+1,0,none⟩=false:=by simp only [World.frozen?,BR.out];rfl
 have tx:zn.cell? ⟨w.heap.size+1+1,0,none⟩=some (.slice none 0 0):=by simp only [World.cell?,BR.out];rfl
 have HE:=fX (show zc ns (.ite l m n)=(km,ql && qm && qn && decide (kl.args=[]) && decide (zN km=zN kn)) by rw [zc,aB,oF,iV])
 have Eo:=fX (fW aB (fW oF iV))
 have rg:∀ g,W0.heap.size<=g->g≠w.heap.size+1+1:=fun g h e=>by have:=H0.out.2.1;omega
 have nl:gl≠w.heap.size+1+1:=rg _ (fD H1.out.1.size Rl.out.new)
 have nm:gm≠w.heap.size+1+1:=rg _ (fD ai.out.1.size Rm.out.new)
 have nn:gn≠w.heap.size+1+1:=rg _ (fD nw.out.1.size Rn.out.new)
 have nf:zn.drew.frozen? ⟨w.heap.size+1+1,0,none⟩=false:=nJ
 have aA:zn.drew.cell? ⟨w.heap.size+1+1,0,none⟩=some (.slice none 0 0):=tx
 have SBL:Hid (∀ w',Below zn.heap.size zn w'->w'.cell? ⟨gl,0,none⟩=some (.slice xl kl.args.length yl)/\w'.cell? ⟨gm,0,none⟩=some (.slice xm km.args.length ym)/\w'.cell? ⟨gn,0,none⟩=some (.slice xn kn.args.length yn)):=by
  show ∀ w',_->_
  intro w' h
  exact ⟨(h.cell (fG _ _ bl)).trans bl,(h.cell (fG _ _ bm)).trans bm,(h.cell (fG _ _ bn)).trans bn⟩
 clear aB oF iV Cl Cm Cn rg bl bm bn
 cases ql with
 | false =>
   have mp:=fX (show zc ns (.ite l m n)=(km,false) by rw [HE.out];simp)
   refine wp_region_noPanic ?_
   refine zB (fun w'=>w'.cell? ⟨gl,0,none⟩=some (.slice xl kl.args.length yl)/\w'.cell? ⟨gm,0,none⟩=some (.slice xm km.args.length ym)/\w'.cell? ⟨gn,0,none⟩=some (.slice xn kn.args.length yn)) (fun _=>false) (by kernel_rfl) ?_
   have fF:(fun w'=>w'.cell? ⟨gl,0,none⟩=some (.slice xl kl.args.length yl)/\w'.cell? ⟨gm,0,none⟩=some (.slice xm km.args.length ym)/\w'.cell? ⟨gn,0,none⟩=some (.slice xn kn.args.length yn)) zn.drew:=SBL.out zn.drew (Below.drew (fH _ _))
   refine tk [0,1,2,3,4,5,6,7,8,9,10,11,12,13,14,15,16,17,18,19,20] fF ?_
   (intro d hd;simp [tkD] at hd;subst hd;simp only [tks,pQ,pZ,pS])
   iterate 21 (refine ⟨?_,?_,?_⟩;rotate_left;· (intro oi ho;simp at ho;subst ho;first | (refine Or.inr ⟨by rfl,?_⟩;with_reducible rfl) | (refine Or.inl ⟨by rfl,fun w' fI=>?_⟩;obtain ⟨e0,e1,e2⟩:=fI;go_simp;try with_reducible rfl)))
   (refine on 21 ?_;intro o ho K' hK;simp at ho;subst ho;go_simp)
   (refine hK.out _ _ (fun _=>⟨zO (fF).1 nl,zO (fF).2.1 nm,zO (fF).2.2 nn⟩) ?_;clear hK K';try simp only [pQ,pN,pZ,pS])
   (refine on 22 ?_;intro o ho K' hK;simp at ho;subst ho;go_simp)
   (refine hK.out _ _ (fun _=>⟨zO (fF).1 nl,zO (fF).2.1 nm,zO (fF).2.2 nn⟩) ?_;clear hK K';try simp only [pQ,pN,pZ,pS])
   refine zU (by kernel_rfl) (NoPanic.normal ?_) _
   go_wp2_with fail
   obtain ⟨W,hW,s0,fq,fc⟩:=qZ (BR.out) (.slice xm km.args.length ym)
   rw [<- hW]
   refine bodyPost_ret (v:=.tuple #[.agg #[.slice xm km.args.length ym],.bool false]) (by simp [results,Tryz.results34,go_sem,s0]) rfl ?_
   rw [mp.out]
   exact ji (k:=km) HP.out.1.old H0.out.1 H0.out.2.1 rH.out.1 Tm.out (fun B w0 h hB=>(fq B w0 h hB).drew) fc
 | true =>
   cases qm with
   | false =>
     have mp:=fX (show zc ns (.ite l m n)=(km,false) by rw [HE.out];simp)
     refine wp_region_noPanic ?_
     refine zB (fun w'=>w'.cell? ⟨gl,0,none⟩=some (.slice xl kl.args.length yl)/\w'.cell? ⟨gm,0,none⟩=some (.slice xm km.args.length ym)/\w'.cell? ⟨gn,0,none⟩=some (.slice xn kn.args.length yn)) (fun _=>false) (by kernel_rfl) ?_
     have fF:(fun w'=>w'.cell? ⟨gl,0,none⟩=some (.slice xl kl.args.length yl)/\w'.cell? ⟨gm,0,none⟩=some (.slice xm km.args.length ym)/\w'.cell? ⟨gn,0,none⟩=some (.slice xn kn.args.length yn)) zn.drew:=SBL.out zn.drew (Below.drew (fH _ _))
     refine tk [0,1,2,3,4,5,6,7,8,9,10,11,12,13,14,15,16,17,18,19,20] fF ?_
     (intro d hd;simp [tkD] at hd;subst hd;simp only [tks,pQ,pZ,pS])
     iterate 21 (refine ⟨?_,?_,?_⟩;rotate_left;· (intro oi ho;simp at ho;subst ho;first | (refine Or.inr ⟨by rfl,?_⟩;with_reducible rfl) | (refine Or.inl ⟨by rfl,fun w' fI=>?_⟩;obtain ⟨e0,e1,e2⟩:=fI;go_simp;try with_reducible rfl)))
     (refine on 21 ?_;intro o ho K' hK;simp at ho;subst ho;go_simp)
     (refine hK.out _ _ (fun _=>⟨zO (fF).1 nl,zO (fF).2.1 nm,zO (fF).2.2 nn⟩) ?_;clear hK K';try simp only [pQ,pN,pZ,pS])
     (refine on 22 ?_;intro o ho K' hK;simp at ho;subst ho;go_simp)
     (refine hK.out _ _ (fun _=>⟨zO (fF).1 nl,zO (fF).2.1 nm,zO (fF).2.2 nn⟩) ?_;clear hK K';try simp only [pQ,pN,pZ,pS])
     refine zU (by kernel_rfl) (NoPanic.normal ?_) _
     go_wp2_with fail
     obtain ⟨W,hW,s0,fq,fc⟩:=qZ (BR.out) (.slice xm km.args.length ym)
     rw [<- hW]
     refine bodyPost_ret (v:=.tuple #[.agg #[.slice xm km.args.length ym],.bool false]) (by simp [results,Tryz.results34,go_sem,s0]) rfl ?_
     rw [mp.out]
     exact ji (k:=km) HP.out.1.old H0.out.1 H0.out.2.1 rH.out.1 Tm.out (fun B w0 h hB=>(fq B w0 h hB).drew) fc
   | true =>
     cases qn with
     | false =>
       have mp:=fX (show zc ns (.ite l m n)=(km,false) by rw [HE.out];simp)
       refine wp_region_noPanic ?_
       refine zB (fun w'=>w'.cell? ⟨gl,0,none⟩=some (.slice xl kl.args.length yl)/\w'.cell? ⟨gm,0,none⟩=some (.slice xm km.args.length ym)/\w'.cell? ⟨gn,0,none⟩=some (.slice xn kn.args.length yn)) (fun _=>false) (by kernel_rfl) ?_
       have fF:(fun w'=>w'.cell? ⟨gl,0,none⟩=some (.slice xl kl.args.length yl)/\w'.cell? ⟨gm,0,none⟩=some (.slice xm km.args.length ym)/\w'.cell? ⟨gn,0,none⟩=some (.slice xn kn.args.length yn)) zn.drew:=SBL.out zn.drew (Below.drew (fH _ _))
       refine tk [0,1,2,3,4,5,6,7,8,9,10,11,12,13,14,15,16,17,18,19,20] fF ?_
       (intro d hd;simp [tkD] at hd;subst hd;simp only [tks,pQ,pZ,pS])
       iterate 21 (refine ⟨?_,?_,?_⟩;rotate_left;· (intro oi ho;simp at ho;subst ho;first | (refine Or.inr ⟨by rfl,?_⟩;with_reducible rfl) | (refine Or.inl ⟨by rfl,fun w' fI=>?_⟩;obtain ⟨e0,e1,e2⟩:=fI;go_simp;try with_reducible rfl)))
       (refine on 21 ?_;intro o ho K' hK;simp at ho;subst ho;go_simp)
       (refine hK.out _ _ (fun _=>⟨zO (fF).1 nl,zO (fF).2.1 nm,zO (fF).2.2 nn⟩) ?_;clear hK K';try simp only [pQ,pN,pZ,pS])
       (refine on 22 ?_;intro o ho K' hK;simp at ho;subst ho;go_simp)
       (refine hK.out _ _ (fun _=>⟨zO (fF).1 nl,zO (fF).2.1 nm,zO (fF).2.2 nn⟩) ?_;clear hK K';try simp only [pQ,pN,pZ,pS])
       refine zU (by kernel_rfl) (NoPanic.normal ?_) _
       go_wp2_with fail
       obtain ⟨W,hW,s0,fq,fc⟩:=qZ (BR.out) (.slice xm km.args.length ym)
       rw [<- hW]
       refine bodyPost_ret (v:=.tuple #[.agg #[.slice xm km.args.length ym],.bool false]) (by simp [results,Tryz.results34,go_sem,s0]) rfl ?_
       rw [mp.out]
       exact ji (k:=km) HP.out.1.old H0.out.1 H0.out.2.1 rH.out.1 Tm.out (fun B w0 h hB=>(fq B w0 h hB).drew) fc
     | true =>
       have AO:=k9 m ns km HP.out.1.n15 (by have:=uo (t:=m) (ns:=ns) HP.out.2.2.1.2 (by rw [Eo.out.2.1]);rwa [Eo.out.2.1] at this)
       have B_:=k9 n ns kn HP.out.1.n15 (by have:=uo (t:=n) (ns:=ns) HP.out.2.2.2 (by rw [Eo.out.2.2]);rwa [Eo.out.2.2] at this)
       by_cases aX:kl.args=[]
       ·have oK:(((kl.args.length:Nat):Int) == 0)=true:=by rw [aX];rfl
        have A_:=fX (show zc ns (.ite l m n)=(km,decide (zN km=zN kn)) by rw [HE.out,aX];simp)
        have Es:=fX (fun wz (h:Below zn.heap.size zn wz)=>uG 15 km AO (by omega) _ wz _ (Rep.below (F':=fun i=>F i\/W0.heap.size<=i) h (fun _ h=>h) Tm.out))
        have lZ:=fX (fun wz (h:Below zn.heap.size zn wz)=>uG 15 kn B_ (by omega) _ wz _ (Rep.below (F':=fun i=>F i\/W0.heap.size<=i) h (fun _ h=>h) Tn.out))
        clear aX AO B_
        by_cases i8:zN km=zN kn
        ·have mp:=fX (show zc ns (.ite l m n)=(km,true) by rw [A_.out,decide_eq_true i8])
         have q1:(zN km == zN kn)=true:=by rw [beq_iff_eq];exact i8
         clear i8
         obtain ⟨X1,Cw⟩:=zzM (zN km)
         obtain ⟨X2,nR⟩:=zzM (zN kn)
         rw [<- Cw] at Es q1;rw [<- nR] at lZ q1
         clear Cw nR nf aA
         refine wp_region_noPanic ?_
         refine zB (fun w'=>w'.cell? ⟨gl,0,none⟩=some (.slice xl kl.args.length yl)/\w'.cell? ⟨gm,0,none⟩=some (.slice xm km.args.length ym)/\w'.cell? ⟨gn,0,none⟩=some (.slice xn kn.args.length yn)) (fun _=>false) (by kernel_rfl) ?_
         have fF:(fun w'=>w'.cell? ⟨gl,0,none⟩=some (.slice xl kl.args.length yl)/\w'.cell? ⟨gm,0,none⟩=some (.slice xm km.args.length ym)/\w'.cell? ⟨gn,0,none⟩=some (.slice xn kn.args.length yn)) zn.drew:=SBL.out zn.drew (Below.drew (fH _ _))
         refine tk [0,1,2,3,4,5,6,7,8,9,10,11,12,13,14,15,17] fF ?_
         (intro d hd;simp [tkD] at hd;subst hd;simp only [tks,pQ,pZ,pS])
         iterate 17 (refine ⟨?_,?_,?_⟩;rotate_left;· (intro oi ho;simp at ho;subst ho;refine Or.inl ⟨by rfl,fun w' fI=>?_⟩;obtain ⟨e0,e1,e2⟩:=fI;go_simp;try with_reducible rfl))
         (refine on 16 ?_;intro o ho K' hK;simp at ho;subst ho;go_simp)
         go_at_call 46
         (with_reducible refine (Es.out _ (Below.drew (fH zn.heap.size zn))).mono ?_)
         rintro en v1 ⟨rfl,hb⟩
         have rW:Hid (Below zn.heap.size zn v1):=(Below.drew (fH zn.heap.size zn)).trans hb
         clear hb
         (refine hK.out _ _ (fun _=>SBL.out v1 rW.out) ?_;clear hK K';try simp only [pQ,pN,pZ,pS])
         have hS16:=SBL.out v1 rW.out
         (refine on 18 ?_;intro o ho K' hK;simp at ho;subst ho;go_simp)
         go_at_call 46
         (with_reducible refine (lZ.out _ rW.out).mono ?_)
         rintro en v2 ⟨rfl,hb⟩
         have tZ:Hid (Below zn.heap.size zn v2):=zzT rW.out hb
         clear hb
         (refine hK.out _ _ (fun _=>SBL.out v2 tZ.out) ?_;clear hK K';try simp only [pQ,pN,pZ,pS])
         have A2:=SBL.out v2 tZ.out
         have ti:Hid (v2.heap[w.heap.size+1+1]? = some (.cells #[.slice none 0 0] 43 (0,0))):=(tZ.out.block _ (zZ BR.out)).trans BR.out
         have rO:v2.frozen? ⟨w.heap.size+1+1,0,none⟩=false:=by simp only [World.frozen?,ti.out];rfl
         have iI:v2.cell? ⟨w.heap.size+1+1,0,none⟩=some (.slice none 0 0):=by simp only [World.cell?,ti.out];rfl
         have rF:=SBL.out v2 tZ.out
         refine tk [19,20] A2 ?_
         (intro d hd;simp [tkD] at hd;subst hd;simp only [tks,pQ,pZ,pS])
         iterate 2 (refine ⟨?_,?_,?_⟩;rotate_left;· (intro oi ho;simp at ho;subst ho;refine Or.inl ⟨by rfl,fun w' fI=>?_⟩;go_simp;try with_reducible rfl))
         (refine on 21 ?_;intro o ho K' hK;simp at ho;subst ho;go_simp)
         (refine hK.out _ _ (fun _=>⟨zO (rF).1 nl,zO (rF).2.1 nm,zO (rF).2.2 nn⟩) ?_;clear hK K';try simp only [pQ,pN,pZ,pS])
         (refine on 22 ?_;intro o ho K' hK;simp at ho;subst ho;go_simp)
         (refine hK.out _ _ (fun _=>⟨zO (rF).1 nl,zO (rF).2.1 nm,zO (rF).2.2 nn⟩) ?_;clear hK K';try simp only [pQ,pN,pZ,pS])
         refine zU (by kernel_rfl) (NoPanic.normal ?_) _
         have al:Hid (Below W0.heap.size W0 v2):=zzT rH.out.1 tZ.out
         have T2:Hid (Rep (fun i=>F i\/W0.heap.size<=i) v2 (kg km) (.slice xm km.args.length ym)):=Rep.below tZ.out (fun _ h=>h) Tm.out
         go_wp2_with fail
         obtain ⟨W,hW,s0,fq,fc⟩:=qZ (ti.out) (.slice xm km.args.length ym)
         rw [<- hW]
         refine bodyPost_ret (v:=.tuple #[.agg #[.slice xm km.args.length ym],.bool true]) (by simp [results,Tryz.results34,go_sem,s0]) rfl ?_
         rw [mp.out]
         exact ji (k:=km) HP.out.1.old H0.out.1 H0.out.2.1 al.out T2.out fq fc
        ·have mp:=fX (show zc ns (.ite l m n)=(km,false) by rw [A_.out,decide_eq_false i8])
         have q1:(zN km == zN kn)=false:=by rw [beq_eq_false_iff_ne];exact i8
         clear i8
         obtain ⟨X1,Cw⟩:=zzM (zN km)
         obtain ⟨X2,nR⟩:=zzM (zN kn)
         rw [<- Cw] at Es q1;rw [<- nR] at lZ q1
         clear Cw nR nf aA
         refine wp_region_noPanic ?_
         refine zB (fun w'=>w'.cell? ⟨gl,0,none⟩=some (.slice xl kl.args.length yl)/\w'.cell? ⟨gm,0,none⟩=some (.slice xm km.args.length ym)/\w'.cell? ⟨gn,0,none⟩=some (.slice xn kn.args.length yn)) (fun _=>false) (by kernel_rfl) ?_
         have fF:(fun w'=>w'.cell? ⟨gl,0,none⟩=some (.slice xl kl.args.length yl)/\w'.cell? ⟨gm,0,none⟩=some (.slice xm km.args.length ym)/\w'.cell? ⟨gn,0,none⟩=some (.slice xn kn.args.length yn)) zn.drew:=SBL.out zn.drew (Below.drew (fH _ _))
         refine tk [0,1,2,3,4,5,6,7,8,9,10,11,12,13,14,15,17] fF ?_
         (intro d hd;simp [tkD] at hd;subst hd;simp only [tks,pQ,pZ,pS])
         iterate 17 (refine ⟨?_,?_,?_⟩;rotate_left;· (intro oi ho;simp at ho;subst ho;refine Or.inl ⟨by rfl,fun w' fI=>?_⟩;obtain ⟨e0,e1,e2⟩:=fI;go_simp;try with_reducible rfl))
         (refine on 16 ?_;intro o ho K' hK;simp at ho;subst ho;go_simp)
         go_at_call 46
         (with_reducible refine (Es.out _ (Below.drew (fH zn.heap.size zn))).mono ?_)
         rintro en v1 ⟨rfl,hb⟩
         have rW:Hid (Below zn.heap.size zn v1):=(Below.drew (fH zn.heap.size zn)).trans hb
         clear hb
         (refine hK.out _ _ (fun _=>SBL.out v1 rW.out) ?_;clear hK K';try simp only [pQ,pN,pZ,pS])
         have hS16:=SBL.out v1 rW.out
         (refine on 18 ?_;intro o ho K' hK;simp at ho;subst ho;go_simp)
         go_at_call 46
         (with_reducible refine (lZ.out _ rW.out).mono ?_)
         rintro en v2 ⟨rfl,hb⟩
         have tZ:Hid (Below zn.heap.size zn v2):=zzT rW.out hb
         clear hb
         (refine hK.out _ _ (fun _=>SBL.out v2 tZ.out) ?_;clear hK K';try simp only [pQ,pN,pZ,pS])
         have A2:=SBL.out v2 tZ.out
         have ti:Hid (v2.heap[w.heap.size+1+1]? = some (.cells #[.slice none 0 0] 43 (0,0))):=(tZ.out.block _ (zZ BR.out)).trans BR.out
         have rO:v2.frozen? ⟨w.heap.size+1+1,0,none⟩=false:=by simp only [World.frozen?,ti.out];rfl
         have iI:v2.cell? ⟨w.heap.size+1+1,0,none⟩=some (.slice none 0 0):=by simp only [World.cell?,ti.out];rfl
         have rF:=SBL.out v2 tZ.out
         refine tk [19,20] A2 ?_
         (intro d hd;simp [tkD] at hd;subst hd;simp only [tks,pQ,pZ,pS])
         iterate 2 (refine ⟨?_,?_,?_⟩;rotate_left;· (intro oi ho;simp at ho;subst ho;refine Or.inl ⟨by rfl,fun w' fI=>?_⟩;go_simp;try with_reducible rfl))
         (refine on 21 ?_;intro o ho K' hK;simp at ho;subst ho;go_simp)
         (refine hK.out _ _ (fun _=>⟨zO (rF).1 nl,zO (rF).2.1 nm,zO (rF).2.2 nn⟩) ?_;clear hK K';try simp only [pQ,pN,pZ,pS])
         (refine on 22 ?_;intro o ho K' hK;simp at ho;subst ho;go_simp)
         (refine hK.out _ _ (fun _=>⟨zO (rF).1 nl,zO (rF).2.1 nm,zO (rF).2.2 nn⟩) ?_;clear hK K';try simp only [pQ,pN,pZ,pS])
         refine zU (by kernel_rfl) (NoPanic.normal ?_) _
         have al:Hid (Below W0.heap.size W0 v2):=zzT rH.out.1 tZ.out
         have T2:Hid (Rep (fun i=>F i\/W0.heap.size<=i) v2 (kg km) (.slice xm km.args.length ym)):=Rep.below tZ.out (fun _ h=>h) Tm.out
         go_wp2_with fail
         obtain ⟨W,hW,s0,fq,fc⟩:=qZ (ti.out) (.slice xm km.args.length ym)
         rw [<- hW]
         refine bodyPost_ret (v:=.tuple #[.agg #[.slice xm km.args.length ym],.bool false]) (by simp [results,Tryz.results34,go_sem,s0]) rfl ?_
         rw [mp.out]
         exact ji (k:=km) HP.out.1.old H0.out.1 H0.out.2.1 al.out T2.out fq fc
       ·have oK:(((kl.args.length:Nat):Int) == 0)=false:=by
         rw [beq_eq_false_iff_ne]
         cases hc:kl.args with
         | nil=>exact absurd hc aX
         | cons a b=>simp;omega
        have A_:=fX aX
        clear aX
        have mp:=fX (show zc ns (.ite l m n)=(km,false) by rw [HE.out,decide_eq_false A_.out];simp)
        refine wp_region_noPanic ?_
        refine zB (fun w'=>w'.cell? ⟨gl,0,none⟩=some (.slice xl kl.args.length yl)/\w'.cell? ⟨gm,0,none⟩=some (.slice xm km.args.length ym)/\w'.cell? ⟨gn,0,none⟩=some (.slice xn kn.args.length yn)) (fun _=>false) (by kernel_rfl) ?_
        have fF:(fun w'=>w'.cell? ⟨gl,0,none⟩=some (.slice xl kl.args.length yl)/\w'.cell? ⟨gm,0,none⟩=some (.slice xm km.args.length ym)/\w'.cell? ⟨gn,0,none⟩=some (.slice xn kn.args.length yn)) zn.drew:=SBL.out zn.drew (Below.drew (fH _ _))
        refine tk [0,1,2,3,4,5,6,7,8,9,10,11,12,13,14,15,16,17,18,19,20] fF ?_
        (intro d hd;simp [tkD] at hd;subst hd;simp only [tks,pQ,pZ,pS])
        iterate 21 (refine ⟨?_,?_,?_⟩;rotate_left;· (intro oi ho;simp at ho;subst ho;first | (refine Or.inr ⟨by rfl,?_⟩;with_reducible rfl) | (refine Or.inl ⟨by rfl,fun w' fI=>?_⟩;obtain ⟨e0,e1,e2⟩:=fI;go_simp;try with_reducible rfl)))
        (refine on 21 ?_;intro o ho K' hK;simp at ho;subst ho;go_simp)
        (refine hK.out _ _ (fun _=>⟨zO (fF).1 nl,zO (fF).2.1 nm,zO (fF).2.2 nn⟩) ?_;clear hK K';try simp only [pQ,pN,pZ,pS])
        (refine on 22 ?_;intro o ho K' hK;simp at ho;subst ho;go_simp)
        (refine hK.out _ _ (fun _=>⟨zO (fF).1 nl,zO (fF).2.1 nm,zO (fF).2.2 nn⟩) ?_;clear hK K';try simp only [pQ,pN,pZ,pS])
        refine zU (by kernel_rfl) (NoPanic.normal ?_) _
        go_wp2_with fail
        obtain ⟨W,hW,s0,fq,fc⟩:=qZ (BR.out) (.slice xm km.args.length ym)
        rw [<- hW]
        refine bodyPost_ret (v:=.tuple #[.agg #[.slice xm km.args.length ym],.bool false]) (by simp [results,Tryz.results34,go_sem,s0]) rfl ?_
        rw [mp.out]
        exact ji (k:=km) HP.out.1.old H0.out.1 H0.out.2.1 rH.out.1 Tm.out (fun B w0 h hB=>(fq B w0 h hB).drew) fc
theorem withNames (F:Nat->Prop) (ns:List Nm) (x:Bs) (k:Ty) (nv tv:Value) (ta:Option Addr) (tc:Nat) (w:World) (rn:Rep F w (.sl 9 1 ns.length (ns.map fun p=>DV.val (str p.1))) nv) (rk:Rep F w (.sl 43 1 ns.length (qH (kinds ns))) tv) (ra:Rep F w (kg k) (.slice ta k.args.length tc)) (hn:ns.length<=1000) :
 Calls Tryz.prog 40 #[.agg #[nv,tv],str x,.agg #[.slice ta k.args.length tc]] w fun en w'=>∃ a5 c5 a6 c6,en=.returned (.agg #[.slice a5 (ns.length+1) c5,.slice a6 (ns.length+1) c6])/\Below w.heap.size w w' /\
  Rep (fun i=>F i\/w.heap.size<=i) w' (.sl 9 1 (ns++[(x,k)]).length ((ns++[(x,k)]).map fun p=>DV.val (str p.1))) (.slice a5 (ns.length+1) c5)/\Rep (fun i=>F i\/w.heap.size<=i) w' (.sl 43 1 (ns++[(x,k)]).length (qH (kinds (ns++[(x,k)])))) (.slice a6 (ns.length+1) c6):=by
 obtain ⟨xs,il,hsx⟩:=zq.ofRep rn (fun us hu u hm=>by
  obtain ⟨j,hj⟩:=List.mem_iff_getElem?.1 hm
  have Am:=(List.getElem?_eq_some_iff.1 hj).1
  have hlen:=hu.length
  rw [List.length_map] at hlen
  have hd:(ns.map fun p=>DV.val (str p.1))[j]? = some (.val (str (ns[j]'(by omega)).1)):=by rw [List.getElem?_map,List.getElem?_eq_getElem (by omega)];rfl
  obtain ⟨v,hv,hr⟩:=zX.at hu hd
  rw [hj] at hv
  obtain rfl:=Option.some.inj hv
  rw [zH] at hr
  subst hr
  simp [str,Value.oneCell'])
 obtain ⟨ys,hys,hsy⟩:=zq.ofRep rk (v_ _)
 refine (l5With_any ns.length ns.length nv tv xs ys x ta k.args.length tc w hsx hsy (by omega) (by omega)).mono ?_
 rintro en w' ⟨a5,c5,a6,c6,rfl,hb,sk,Du,sj,DA⟩
 refine ⟨a5,c5,a6,c6,rfl,hb,?_,?_⟩
 ·rw [List.length_append,List.map_append]
  exact sk.rep (fun g hg=>.inr (sj g hg)) ((zX.below hb (fun _ h=>.inl h) il).append (zQ.2 ⟨_,_,rfl,zH.2 rfl,zC.2 rfl⟩))
 ·rw [List.length_append,jG,bi]
  refine Du.rep (fun g hg=>.inr (DA g hg)) ((zX.below hb (fun _ h=>.inl h) hys).append ?_)
  rw [qH,qH]
  exact zQ.2 ⟨_,_,rfl,Rep.below hb (fun _ h=>.inl h) ra,zC.2 rfl⟩
set_option maxRecDepth 100000 in
theorem kd_lam (N:Nat) (ih:KdSaid N) (F:Nat->Prop) (x:Bs) (k:Ty) (t:Tm) (ns:List Nm) (nv tv s pv:Value) (w:World) (hN:zM (.lam x k t)<=N+1) (hp:wI F (.lam x k t) ns nv tv s pv w):Calls Tryz.prog 34 #[.agg #[nv,tv],.agg #[s,pv]] w (vo F w (zc ns (.lam x k t)).1 (zc ns (.lam x k t)).2):=by
 have hold:=hp.old
 obtain ⟨na,nc,rfl,_,_,mi⟩:=zP hp.rn
 obtain ⟨ka,kc,rfl,_,_,nG⟩:=zP hp.rk
 have mG:=hp.rt
 rw [z_] at mG
 obtain ⟨qa,qc,e,fh⟩:=qz mG
 simp only [qJ,qr,List.cons.injEq,and_true] at e fh
 obtain ⟨rfl,rfl⟩:=e
 obtain ⟨_,_,e,fM⟩:=uh.of fh
 simp only [Value.slice.injEq,true_and] at e
 obtain ⟨rfl,rfl⟩:=e
 obtain ⟨fg,fp,s1,a1,n1,c1,d1,t_,mt,sH,sC,iz,rz,AA,BD⟩:=fM 1 (by simp)
 simp only [List.getElem?_cons_zero,List.getElem?_cons_succ,Option.some.injEq] at sH
 subst sH
 subst t_
 obtain ⟨FD,FB,s2,a2,n2,c2,d2,t6,lJ,tl,aZ,iO,tV,Bz,BC⟩:=fM 2 (by simp)
 simp only [List.getElem?_cons_zero,List.getElem?_cons_succ,Option.some.injEq] at tl
 subst tl
 simp only [Option.some.injEq,Addr.mk.injEq,and_true] at t6
 obtain ⟨rfl,rfl⟩:=t6
 obtain ⟨pb3,po3,s3,a3,n3,c3,d3,BE,Fz,BB,BH,BG,BA,FA,FC⟩:=fM 3 (by simp)
 simp only [List.getElem?_cons_zero,List.getElem?_cons_succ,Option.some.injEq] at BB
 subst BB
 simp only [Option.some.injEq,Addr.mk.injEq,and_true] at BE
 obtain ⟨rfl,rfl⟩:=BE
 simp only [qJ] at AA
 subst AA
 have fo:=hp.room
 have fa:=hp.ok
 have ml:=hp.sm
 have hak:=kh k
 rw [zM] at fo hN
 rw [kV,Bool.and_eq_true,decide_eq_true_eq] at ml
 obtain ⟨W0,mQ⟩:=zzM (((w.alloc (.cells #[.slice na ns.length nc,.slice ka ns.length kc] 53)).alloc (.cells #[str [],.slice (some ⟨fg,fp,none⟩) 4 qc] 40)).alloc (.cells #[.slice none 0 0] 43))
 obtain ⟨fd,z0,bA,bB,bC⟩:=yT w (.cells #[.slice na ns.length nc,.slice ka ns.length kc] 53) (.cells #[str [],.slice (some ⟨fg,fp,none⟩) 4 qc] 40) (.cells #[.slice none 0 0] 43)
 rw [<- mQ] at fd z0 bA bB bC
 have CH:=fX (show Calls Tryz.prog 37 #[.agg #[str [],.slice (some ⟨fg,fp,none⟩) 4 qc]] W0 (fun en w'=>en=.returned (str (yD (z_ (.lam s1 k t))))/\Below W0.heap.size W0 w') from uP (z_ (.lam s1 k t)) (vU _ hp.ok) F W0 _ _ (zX.below fd (fun _ h=>h) hp.rt))
 have CQ:yD (z_ (.lam s1 k t))=[108,97,109]:=by rw [z_];rfl
 rw [CQ] at CH
 have H0:=fX (fW fd (fW z0 (fW bA bC)))
 have e0:W0.cell? ⟨w.heap.size,0,none⟩=some (.slice na ns.length nc):=by simp [World.cell?,bA]
 have e1:W0.cell? ⟨w.heap.size,1,none⟩=some (.slice ka ns.length kc):=by simp [World.cell?,bA]
 have SX:Hid (∀ w',Below W0.heap.size W0 w'->w'.cell? ⟨w.heap.size,0,none⟩=some (.slice na ns.length nc)/\w'.cell? ⟨w.heap.size,1,none⟩=some (.slice ka ns.length kc)/\w'.cell? ⟨fg,fp+2,none⟩=some (str s1)/\w'.cell? ⟨fg,fp+4,none⟩=some (str s2)/\w'.cell? ⟨fg,fp+5,none⟩=some (.slice a2 n2 c2)/\w'.cell? ⟨fg,fp+6,none⟩=some (str s3)/\w'.cell? ⟨fg,fp+7,none⟩=some (.slice a3 n3 c3)):=by
  show ∀ w',_->_
  intro w' fx
  have mZ:=zzT fd fx
  exact ⟨(fx.cell (fG W0 _ e0)).trans e0,(fx.cell (fG W0 _ e1)).trans e1,(mZ.cell (p:=⟨fg,fp+2,none⟩) mt).trans sC,(mZ.cell (p:=⟨fg,fp+4,none⟩) mt).trans aZ,(mZ.cell (p:=⟨fg,fp+5,none⟩) mt).trans iO,(mZ.cell (p:=⟨fg,fp+6,none⟩) mt).trans BH,(mZ.cell (p:=⟨fg,fp+7,none⟩) mt).trans BG⟩
 have Hc:=jy 15 k ml.1
 have CX:Hid (∀ wz,Below w.heap.size w wz->Calls Tryz.prog 39 #[.agg #[str s2,.slice a2 n2 c2]] wz fun en w'=>en=.returned (str (zN k))/\Below wz.heap.size wz w'):=by
  show ∀ wz,_->_
  intro wz hz
  have h:=gx (zL (trT k)).length (trT k) (fP _) (show _<=_ by rw [ju];omega) (gz k) F wz _ _ (zX.below hz (fun _ h=>h) tV)
  rw [ju] at h
  exact h
 have CY:Hid (∀ wz,Calls Tryz.prog 38 #[str (zN k)] wz fun en w'=>∃ ta tc,en=.returned (.tuple #[.agg #[.slice ta k.args.length tc],.bool true])/\Below wz.heap.size wz w'/\Rep (wz.heap.size<=·) w' (kg k) (.slice ta k.args.length tc)):=by
  show ∀ wz,_
  intro wz
  refine (xK (zN k) (show _<=_ by omega) wz).mono ?_
  rintro en w' ⟨v,rfl,hb,hr⟩
  rw [v8 ml.1] at hr ⊢
  obtain ⟨ta,tc,rfl⟩:=kJ hr
  exact ⟨ta,tc,rfl,hb,hr⟩
 obtain ⟨X,hX⟩:=zzM (zN k)
 rw [<- hX] at CX CY
 have HP:=fX (fW hp (fW fa (fW ml (fW BA hN))))
 have IH:=fX ih
 have hlen:ns.length<=99:=by omega
 clear mi nG fh fM mG hp fa ml ih hN fd z0 bA bB bC e0 e1 rz sC iz BD tV aZ iO Bz BC BA BH BG FA FC mt lJ Fz hX Hc
 go_enter Tryz.func34,Tryz.ntmps34
 go_wp2_with fail
 rw [<- mQ]
 clear mQ
 (with_reducible refine CH.out.mono ?_)
 rintro en w1 ⟨rfl,fA⟩
 have H1:=fX (fW fA (zzT H0.out.1 fA))
 have Lb:=fX (CX.out w1 H1.out.2)
 obtain ⟨e0,e1,f1,f2,h2,f3,h3⟩:=SX.out w1 H1.out.1
 clear fA CH CX e0 e1 f1 f3 h3
 go_wp2_with fail
 (with_reducible refine Lb.out.mono ?_)
 rintro en w2 ⟨rfl,fN⟩
 have H2:=fX (fW (zzT H1.out.1 fN) (zzT H1.out.2 fN))
 clear fN f2 h2 Lb
 go_wp2_with fail
 (with_reducible refine (CY.out w2).mono ?_)
 rintro en w3 ⟨ta,tc,rfl,fv,tN⟩
 have H3:=fX (fW (zzT H2.out.1 fv) (fW (zzT H2.out.2 fv) (tN.weak (G:=fun i=>F i\/W0.heap.size<=i) (fun i h=>.inr (fD H2.out.1.size h)))))
 clear fv tN CY
 go_wp2_with fail
 obtain ⟨V,hV⟩:=zzN (w3.alloc (.cells #[.slice ta k.args.length tc] 43))
 rw [hV]
 have As:Below w3.heap.size w3 V:=by rw [<- hV];exact (fH _ _).alloc (fP _) _
 obtain ⟨ga,JE⟩:=zzN (w3.heap.size)
 have E4:V.cell? ⟨ga,0,none⟩=some (.slice ta k.args.length tc):=by rw [<- hV,<- JE];simp
 have HV:=fX (fW (zzT H3.out.1 As) (zzT H3.out.2.1 As))
 have TA:Hid (Rep (fun i=>i<V.heap.size/\(F i\/W0.heap.size<=i)) V (kg k) (.slice ta k.args.length tc)):=(Rep.keep fun i x h hx=>⟨⟨zZ hx,h⟩,hx⟩).1 _ _ (Rep.below (F':=fun i=>F i\/W0.heap.size<=i) As (fun _ h=>h) H3.out.2.2)
 rw [JE]
 have SV:Hid (∀ w',Below V.heap.size V w'->w'.cell? ⟨w.heap.size,0,none⟩=some (.slice na ns.length nc)/\w'.cell? ⟨w.heap.size,1,none⟩=some (.slice ka ns.length kc)/\w'.cell? ⟨fg,fp+2,none⟩=some (str s1)/\w'.cell? ⟨fg,fp+6,none⟩=some (str s3)/\w'.cell? ⟨fg,fp+7,none⟩=some (.slice a3 n3 c3)/\w'.cell? ⟨ga,0,none⟩=some (.slice ta k.args.length tc)):=by
  show ∀ w',_->_
  intro w' h
  obtain ⟨e0,e1,f1,_,_,f3,h3⟩:=SX.out w' (zzT HV.out.1 h)
  exact ⟨e0,e1,f1,f3,h3,(h.cell (fG _ _ E4)).trans E4⟩
 have oldV:Hid (∀ i,F i->i<V.heap.size):=fun i h=>fC (HP.out.1.old i h) HV.out.2.size
 have CW:=fX (fun wz (hz:Below V.heap.size V wz)=>withNames (fun i=>i<V.heap.size/\(F i\/W0.heap.size<=i)) ns s1 k (.slice na ns.length nc) (.slice ka ns.length kc) ta tc wz ((Rep.keep fun i x (h:F i) hx=>⟨⟨oldV.out i h,.inl h⟩,hx⟩).1 _ _ (Rep.below (F':=F) (zzT HV.out.2 hz) (fun _ h=>h) HP.out.1.rn)) ((Rep.keep fun i x (h:F i) hx=>⟨⟨oldV.out i h,.inl h⟩,hx⟩).1 _ _ (Rep.below (F':=F) (zzT HV.out.2 hz) (fun _ h=>h) HP.out.1.rk)) (Rep.below (F':=fun i=>i<V.heap.size/\(F i\/W0.heap.size<=i)) hz (fun _ h=>h) TA.out) (by omega))
 obtain ⟨kt,qt,ES⟩:∃ a b,zc (ns++[(s1,k)]) t=(a,b):=⟨_,_,rfl⟩
 have CZ:Hid (∀ (B:Nat) (A1:World) (a5 a6:Option Addr) (c5 c6:Nat),V.heap.size<=B->Below V.heap.size V A1 ->
  Rep (fun i=>((i<V.heap.size/\(F i\/W0.heap.size<=i))\/B<=i)/\i<A1.heap.size) A1 (.sl 9 1 (ns++[(s1,k)]).length ((ns++[(s1,k)]).map fun p=>DV.val (str p.1))) (.slice a5 (ns.length+1) c5) ->
  Rep (fun i=>((i<V.heap.size/\(F i\/W0.heap.size<=i))\/B<=i)/\i<A1.heap.size) A1 (.sl 43 1 (ns++[(s1,k)]).length (qH (kinds (ns++[(s1,k)])))) (.slice a6 (ns.length+1) c6)->∀ (E:Nat->Prop),(∀ i,F i->E i)->(∀ i,(((i<V.heap.size/\(F i\/W0.heap.size<=i))\/B<=i)/\i<A1.heap.size)->∀ x,A1.heap[i]? = some x->E i)->(∀ i,E i->i<A1.heap.size) ->
  Calls Tryz.prog 34 #[.agg #[.slice a5 (ns.length+1) c5,.slice a6 (ns.length+1) c6],.agg #[str s3,.slice a3 n3 c3]] A1 (vo E A1 kt qt)):=by
  show ∀ _,_
  intro B A1 a5 a6 c5 c6 hB hz h5 h6 E hFE hE hEl
  have AD:=zzT HV.out.2 hz
  have h:=IH.out E t (ns++[(s1,k)]) _ _ _ _ A1 (by have:=HP.out.2.2.2.2;omega) ⟨hEl,zX.below AD hFE HP.out.2.2.2.1,(Rep.keep fun i x hi hx=>⟨hE i hi x hx,hx⟩).1 _ _ h5,(Rep.keep fun i x hi hx=>⟨hE i hi x hx,hx⟩).1 _ _ h6,HP.out.2.1.2,HP.out.2.2.1.2,(fun p hm=>by
   rcases List.mem_append.1 hm with hm | hm
   ·exact HP.out.1.nm p hm
   ·simp at hm;subst hm;exact HP.out.2.1.1),(fun a ha=>by
   rw [jG] at ha
   rcases List.mem_append.1 ha with ha | ha
   ·exact HP.out.1.n15 a ha
   ·simp at ha;subst ha;exact HP.out.2.2.1.1),by rw [List.length_append];simp;omega⟩
  rw [ES] at h
  exact h
 have CK2:Hid (∀ (A1:World) (a5 a6:Option Addr) (c5 c6 y:Nat),Below V.heap.size V A1->y<=A1.heap.size->V.heap.size<=y ->
  Rep (fun i=>((i<V.heap.size/\(F i\/W0.heap.size<=i))\/V.heap.size<=i)/\i<y) A1 (.sl 9 1 (ns++[(s1,k)]).length ((ns++[(s1,k)]).map fun p=>DV.val (str p.1))) (.slice a5 (ns.length+1) c5) ->
  Rep (fun i=>((i<V.heap.size/\(F i\/W0.heap.size<=i))\/V.heap.size<=i)/\i<y) A1 (.sl 43 1 (ns++[(s1,k)]).length (qH (kinds (ns++[(s1,k)])))) (.slice a6 (ns.length+1) c6) ->
  Calls Tryz.prog 34 #[.agg #[.slice a5 (ns.length+1) c5,.slice a6 (ns.length+1) c6],.agg #[str s3,.slice a3 n3 c3]] A1 (vo (fun i=>((i<V.heap.size/\(F i\/W0.heap.size<=i))\/V.heap.size<=i)/\i<y) A1 kt qt)):=by
  show ∀ _,_
  intro A1 a5 a6 c5 c6 y hz hy hVy h5 h6
  have AD:=zzT HV.out.2 hz
  have h:=IH.out (fun i=>((i<V.heap.size/\(F i\/W0.heap.size<=i))\/V.heap.size<=i)/\i<y) t (ns++[(s1,k)]) _ _ _ _ A1 (by have:=HP.out.2.2.2.2;omega) ⟨fun i h=>by have:=h.2;omega,zX.below AD (fun i h=>⟨.inl ⟨oldV.out i h,.inl h⟩,fC (oldV.out i h) hVy⟩) HP.out.2.2.2.1,h5,h6,HP.out.2.1.2,HP.out.2.2.1.2,(fun p hm=>by
   rcases List.mem_append.1 hm with hm | hm
   ·exact HP.out.1.nm p hm
   ·simp at hm;subst hm;exact HP.out.2.1.1),(fun a ha=>by
   rw [jG] at ha
   rcases List.mem_append.1 ha with ha | ha
   ·exact HP.out.1.n15 a ha
   ·simp at ha;subst ha;exact HP.out.2.2.1.1),by rw [List.length_append];simp;omega⟩
  rw [ES] at h
  exact h
 have HKT:=fX ES
 clear ES H1 H2 H3 As hV IH SX
 refine jI (X:=Nat×Option Addr×Nat×Option Addr×Nat×Option Addr×Nat) (fun a x=>((((((((((((((((a.put (some 76) (.agg #[.slice na ns.length nc,.slice ka ns.length kc])).put (some 77) (.slice (some ⟨fg,fp,none⟩) 4 qc)).put (some 78) (.pointer (some ⟨fg,fp+2,none⟩))).put (some 79) (.pointer (some ⟨fg,fp+2,none⟩))).put (some 80) (str s1)).put (some 81) (.agg #[.slice ta k.args.length tc])).put (some 82) (.agg #[.slice x.2.1 (ns.length+1) x.2.2.1,.slice x.2.2.2.1 (ns.length+1) x.2.2.2.2.1])).put (some 83) (.slice (some ⟨fg,fp,none⟩) 4 qc)).put (some 84) (.pointer (some ⟨fg,fp+6,none⟩))).put (some 85) (.agg #[str s3,.slice a3 n3 c3])).put (some 86) (.tuple #[.agg #[.slice x.2.2.2.2.2.1 kt.args.length x.2.2.2.2.2.2],.bool qt])).put (some 75) (.tuple #[.agg #[.slice x.2.2.2.2.2.1 kt.args.length x.2.2.2.2.2.2],.bool qt])).put (some 87) (.agg #[.slice x.2.2.2.2.2.1 kt.args.length x.2.2.2.2.2.2])).put (some 88) (.bool qt)).put (some 10) (.pointer (some ⟨x.1,0,none⟩))).put (some 11) (.bool qt))) (fun x w'=>z8 (fun i=>i<V.heap.size/\(F i\/W0.heap.size<=i)) V x.1 (.cells #[.slice x.2.2.2.2.2.1 kt.args.length x.2.2.2.2.2.2] 43 (0,0)) [kg kt] [.slice x.2.2.2.2.2.1 kt.args.length x.2.2.2.2.2.2] w') ?_ ?_
 ·refine wp_region_noPanic ?_
  refine zB (fun w'=>Below V.heap.size V w') (fun _=>false) (by kernel_rfl) ?_
  have fF:(fun w'=>Below V.heap.size V w') V.drew:=Below.drew (fH _ _)
  refine tk [0,1,2,3,4,5,7,8,9] fF ?_
  (intro d hd;simp [tkD] at hd;subst hd;simp only [tks,pQ,pZ,pS])
  iterate 9 (refine ⟨?_,?_,?_⟩;rotate_left;· (intro oi ho;simp at ho;subst ho;refine Or.inl ⟨by rfl,fun w' fI=>?_⟩;obtain ⟨e0,e1,f1,f3,h3,e8⟩:=SV.out w' fI;go_simp;try with_reducible rfl))
  refine k8 6 14 (by kernel_rfl) ?_ ?_
  ·(intro o6 ho K' hK;simp at ho;subst ho)
   go_simp
   go_at_call 40
   (with_reducible refine (CW.out _ fF).mono ?_)
   rintro en y1 ⟨aq,cq,ar,cr,rfl,f_,G9,G8⟩
   have fR:Below V.heap.size V y1:=fF.trans (f_.mono (fF).size)
   (refine hK.out _ _ (fun _=>fR) ?_;clear hK K';try simp only [pQ,pN,pZ,pS])
   refine k8 10 14 (by kernel_rfl) ?_ ?_
   ·have oG:Rep (fun i=>((i<V.heap.size/\(F i\/W0.heap.size<=i))\/V.heap.size<=i)/\i<y1.heap.size) y1 (.sl 9 1 (ns++[(s1,k)]).length ((ns++[(s1,k)]).map fun p=>DV.val (str p.1))) (.slice aq (ns.length+1) cq):=(Rep.keep fun i x hi hx=>⟨⟨hi,zZ hx⟩,hx⟩).1 _ _ G9
    have oP:Rep (fun i=>((i<V.heap.size/\(F i\/W0.heap.size<=i))\/V.heap.size<=i)/\i<y1.heap.size) y1 (.sl 43 1 (ns++[(s1,k)]).length (qH (kinds (ns++[(s1,k)])))) (.slice ar (ns.length+1) cr):=(Rep.keep fun i x hi hx=>⟨⟨hi,zZ hx⟩,hx⟩).1 _ _ G8
    have Bb:=CZ.out V.heap.size y1 aq ar cq cr (fP _) fR oG oP (fun i=>((i<V.heap.size/\(F i\/W0.heap.size<=i))\/V.heap.size<=i)/\i<y1.heap.size) (fun i h=>⟨.inl ⟨oldV.out i h,.inl h⟩,fC (oldV.out i h) fR.size⟩) (fun i h _ _=>h) (fun i h=>h.2)
    (intro o10 ho K' hK;simp at ho;subst ho)
    go_simp
    go_at_call 34
    (with_reducible refine Bb.mono ?_)
    rintro en y2 ⟨xx,yy,rfl,hbk,mz⟩
    have nL:Below V.heap.size V y2:=zzT fR hbk
    (refine hK.out _ _ (fun _=>nL) ?_;clear hK K';try simp only [pQ,pN,pZ,pS])
    refine tk [11,12,13] nL ?_
    (intro d hd;simp [tkD] at hd;subst hd;simp only [tks,pQ,pZ,pS])
    iterate 3 (refine ⟨?_,?_,?_⟩;rotate_left;· (intro oi ho;simp at ho;subst ho;refine Or.inl ⟨by rfl,fun w' fI=>?_⟩;go_simp;try with_reducible rfl))
    (refine on 14 ?_;intro o ho K' hK;simp at ho;subst ho;go_simp)
    (refine hK.out _ _ (fun _=>nL.alloc nL.size _) ?_;clear hK K';try simp only [pQ,pN,pZ,pS])
    (refine on 15 ?_;intro o ho K' hK;simp at ho;subst ho;go_simp)
    (refine hK.out _ _ (fun _=>nL.alloc nL.size _) ?_;clear hK K';try simp only [pQ,pN,pZ,pS])
    (refine on 16 ?_;intro o ho K' hK;simp at ho;subst ho;go_simp)
    (refine hK.out _ _ (fun _=>nL.alloc nL.size _) ?_;clear hK K';try simp only [pQ,pN,pZ,pS])
    refine zU (by kernel_rfl) (NoPanic.normal ?_) _
    exact ⟨rfl,⟨y2.heap.size,aq,cq,ar,cr,xx,yy⟩,by rfl,z8.fresh nL (zX.one (mz.weak fun i h=>by rcases h with h | h;exact h.1;exact .inr (fD fR.size h)))⟩
   ·(intro o14 ho K' hK;simp at ho;subst ho)
    go_simp
    (refine hK.out _ _ (fun _=>fR.alloc fR.size _) ?_;clear hK K';try simp only [pQ,pN,pZ,pS])
    have hA:Below V.heap.size V (y1.alloc (.cells #[.slice none 0 0] 43)):=fR.alloc fR.size _
    have lz:(y1.alloc (.cells #[.slice none 0 0] 43)).heap.size=y1.heap.size+1:=by simp
    have GI:(y1.alloc (.cells #[.slice none 0 0] 43)).heap[y1.heap.size]? = some (.cells #[.slice none 0 0] 43 (0,0)):=zG _ _
    refine qi 10 (by kernel_rfl) ?_
    have oG:Rep (fun i=>((i<V.heap.size/\(F i\/W0.heap.size<=i))\/V.heap.size<=i)/\i<y1.heap.size) (y1.alloc (.cells #[.slice none 0 0] 43)) (.sl 9 1 (ns++[(s1,k)]).length ((ns++[(s1,k)]).map fun p=>DV.val (str p.1))) (.slice aq (ns.length+1) cq):=(Rep.keep fun i x hi hx=>⟨⟨hi,zZ hx⟩,zY hx⟩).1 _ _ G9
    have oP:Rep (fun i=>((i<V.heap.size/\(F i\/W0.heap.size<=i))\/V.heap.size<=i)/\i<y1.heap.size) (y1.alloc (.cells #[.slice none 0 0] 43)) (.sl 43 1 (ns++[(s1,k)]).length (qH (kinds (ns++[(s1,k)])))) (.slice ar (ns.length+1) cr):=(Rep.keep fun i x hi hx=>⟨⟨hi,zZ hx⟩,zY hx⟩).1 _ _ G8
    have Bb:=CK2.out (y1.alloc (.cells #[.slice none 0 0] 43)) aq ar cq cr y1.heap.size hA (by rw [lz];omega) fR.size oG oP
    (intro o10 ho K' hK;simp at ho;subst ho)
    go_simp
    go_at_call 34
    (with_reducible refine Bb.mono ?_)
    rintro en y2 ⟨xx,yy,rfl,hbk,mz⟩
    have nL:Below V.heap.size V y2:=zzT hA hbk
    have bz:y2.heap[y1.heap.size]? = some (.cells #[.slice none 0 0] 43 (0,0)):=(hbk.block _ (by rw [lz];omega)).trans GI
    (refine hK.out _ _ (fun _=>nL) ?_;clear hK K';try simp only [pQ,pN,pZ,pS])
    refine tk [11,12,13] nL ?_
    (intro d hd;simp [tkD] at hd;subst hd;simp only [tks,pQ,pZ,pS])
    iterate 3 (refine ⟨?_,?_,?_⟩;rotate_left;· (intro oi ho;simp at ho;subst ho;refine Or.inl ⟨by rfl,fun w' fI=>?_⟩;go_simp;try with_reducible rfl))
    have sx:(y2).cell? ⟨y1.heap.size,0,none⟩=some (.slice none 0 0):=by simp only [World.cell?,bz];rfl
    have sy:(y2).frozen? ⟨y1.heap.size,0,none⟩=false:=by simp only [World.frozen?,bz];rfl
    (refine on 15 ?_;intro o ho K' hK;simp at ho;subst ho;go_simp)
    (refine hK.out _ _ (fun _=>(nL.setCell (p:=⟨y1.heap.size,0,none⟩) fR.size _)) ?_;clear hK K';try simp only [pQ,pN,pZ,pS])
    (refine on 16 ?_;intro o ho K' hK;simp at ho;subst ho;go_simp)
    (refine hK.out _ _ (fun _=>(nL.setCell (p:=⟨y1.heap.size,0,none⟩) fR.size _)) ?_;clear hK K';try simp only [pQ,pN,pZ,pS])
    refine zU (by kernel_rfl) (NoPanic.normal ?_) _
    exact ⟨rfl,⟨y1.heap.size,aq,cq,ar,cr,xx,yy⟩,by rfl,nL.setCell (p:=⟨y1.heap.size,0,none⟩) fR.size _,fR.size,(by rw [zA bz];rfl),(Rep.keep fun i x hi hx=>by
     have hne:i≠y1.heap.size:=by rcases hi with h | h;have:=h.2;omega;rw [lz] at h;omega
     exact ⟨⟨by rcases hi with h | h;exact h.1;exact .inr (fD hA.size h),hne⟩,by rw [(but1 _ _ _).block i (zZ hx) hne];exact hx⟩).2 _ _ (zX.one mz)⟩
  ·(intro o14 ho K' hK;simp at ho;subst ho)
   go_simp
   (refine hK.out _ _ (fun _=>fF.alloc (fP _) _) ?_;clear hK K';try simp only [pQ,pN,pZ,pS])
   have hA:Below V.heap.size V (V.alloc (.cells #[.slice none 0 0] 43)).drew:=fF.alloc (fP _) _
   have lz:(V.alloc (.cells #[.slice none 0 0] 43)).drew.heap.size=V.heap.size+1:=by simp
   (refine on 6 ?_;intro o ho K' hK;simp at ho;subst ho;go_simp)
   go_at_call 40
   (with_reducible refine (CW.out _ hA).mono ?_)
   rintro en y1 ⟨aq,cq,ar,cr,rfl,f_,G9,G8⟩
   have fR:Below V.heap.size V y1:=hA.trans (f_.mono (hA).size)
   have GI:y1.heap[V.heap.size]? = some (.cells #[.slice none 0 0] 43 (0,0)):=(f_.block _ (by rw [lz];omega)).trans (zG V (.cells #[.slice none 0 0] 43))
   (refine hK.out _ _ (fun _=>fR) ?_;clear hK K';try simp only [pQ,pN,pZ,pS])
   refine qi 10 (by kernel_rfl) ?_
   have oG:Rep (fun i=>((i<V.heap.size/\(F i\/W0.heap.size<=i))\/V.heap.size+1<=i)/\i<y1.heap.size) y1 (.sl 9 1 (ns++[(s1,k)]).length ((ns++[(s1,k)]).map fun p=>DV.val (str p.1))) (.slice aq (ns.length+1) cq):=(Rep.keep fun i x hi hx=>⟨⟨hi.elim .inl (fun h=>.inr (by rw [lz] at h;exact h)),zZ hx⟩,hx⟩).1 _ _ G9
   have oP:Rep (fun i=>((i<V.heap.size/\(F i\/W0.heap.size<=i))\/V.heap.size+1<=i)/\i<y1.heap.size) y1 (.sl 43 1 (ns++[(s1,k)]).length (qH (kinds (ns++[(s1,k)])))) (.slice ar (ns.length+1) cr):=(Rep.keep fun i x hi hx=>⟨⟨hi.elim .inl (fun h=>.inr (by rw [lz] at h;exact h)),zZ hx⟩,hx⟩).1 _ _ G8
   have Bb:=CZ.out (V.heap.size+1) y1 aq ar cq cr (by omega) fR oG oP (fun i=>((i<V.heap.size/\(F i\/W0.heap.size<=i))\/V.heap.size+1<=i)/\i<y1.heap.size) (fun i h=>⟨.inl ⟨oldV.out i h,.inl h⟩,fC (oldV.out i h) fR.size⟩) (fun i h _ _=>h) (fun i h=>h.2)
   (intro o10 ho K' hK;simp at ho;subst ho)
   go_simp
   go_at_call 34
   (with_reducible refine Bb.mono ?_)
   rintro en y2 ⟨xx,yy,rfl,hbk,mz⟩
   have nL:Below V.heap.size V y2:=zzT fR hbk
   have ly1:V.heap.size+1<=y1.heap.size:=by have:=f_.size;rw [lz] at this;exact this
   have bz:y2.heap[V.heap.size]? = some (.cells #[.slice none 0 0] 43 (0,0)):=(hbk.block _ (by omega)).trans GI
   (refine hK.out _ _ (fun _=>nL) ?_;clear hK K';try simp only [pQ,pN,pZ,pS])
   refine tk [11,12,13] nL ?_
   (intro d hd;simp [tkD] at hd;subst hd;simp only [tks,pQ,pZ,pS])
   iterate 3 (refine ⟨?_,?_,?_⟩;rotate_left;· (intro oi ho;simp at ho;subst ho;refine Or.inl ⟨by rfl,fun w' fI=>?_⟩;go_simp;try with_reducible rfl))
   have sx:(y2).cell? ⟨V.heap.size,0,none⟩=some (.slice none 0 0):=by simp only [World.cell?,bz];rfl
   have sy:(y2).frozen? ⟨V.heap.size,0,none⟩=false:=by simp only [World.frozen?,bz];rfl
   (refine on 15 ?_;intro o ho K' hK;simp at ho;subst ho;go_simp)
   (refine hK.out _ _ (fun _=>(nL.setCell (p:=⟨V.heap.size,0,none⟩) (fP _) _)) ?_;clear hK K';try simp only [pQ,pN,pZ,pS])
   (refine on 16 ?_;intro o ho K' hK;simp at ho;subst ho;go_simp)
   (refine hK.out _ _ (fun _=>(nL.setCell (p:=⟨V.heap.size,0,none⟩) (fP _) _)) ?_;clear hK K';try simp only [pQ,pN,pZ,pS])
   refine zU (by kernel_rfl) (NoPanic.normal ?_) _
   exact ⟨rfl,⟨V.heap.size,aq,cq,ar,cr,xx,yy⟩,by rfl,nL.setCell (p:=⟨V.heap.size,0,none⟩) (fP _) _,fP _,(by rw [zA bz];rfl),(Rep.keep fun i x hi hx=>by
    have hne:i≠V.heap.size:=by rcases hi with h | h;rcases h.1 with h1 | h1;have:=h1.1;omega;omega;omega
    exact ⟨⟨by rcases hi with h | h;rcases h.1 with h1 | h1;exact .inl h1;exact .inr (by omega);exact .inr (by omega),hne⟩,by rw [(but1 _ _ _).block i (zZ hx) hne];exact hx⟩).2 _ _ (zX.one mz)⟩
 rintro ⟨gg,aq,cq,ar,cr,xx,yy⟩ z hR
 have R:Hid (z8 (fun i=>i<V.heap.size/\(F i\/W0.heap.size<=i)) V gg (.cells #[.slice xx kt.args.length yy] 43 (0,0)) [kg kt] [.slice xx kt.args.length yy] z):=hR
 have HZ:Hid (Below W0.heap.size W0 z/\Below w.heap.size w z):=⟨zzT HV.out.1 R.out.below,zzT HV.out.2 R.out.below⟩
 have g0:z.cell? ⟨gg,0,none⟩=some (.slice xx kt.args.length yy):=R.out.cell0
 have a8:z.cell? ⟨ga,0,none⟩=some (.slice ta k.args.length tc):=(R.out.below.cell (fG _ _ E4)).trans E4
 have TT:Hid (Rep (fun i=>F i\/W0.heap.size<=i) z (kg kt) (.slice xx kt.args.length yy)):=(zX.get1 R.out.rep).weak fun i h=>by rcases h.1 with h | h;exact h.2;exact .inr (fD HV.out.1.size h)
 have TA2:Hid (Rep (fun i=>F i\/W0.heap.size<=i) z (kg k) (.slice ta k.args.length tc)):=(Rep.below (F':=fun i=>i<V.heap.size/\(F i\/W0.heap.size<=i)) R.out.below (fun _ h=>h) TA.out).weak fun i h=>h.2
 have hktl:kt.args.length<=200:=by
  have h:=pm t (ns++[(s1,k)]) (fun a ha=>by
   rw [jG] at ha
   rcases List.mem_append.1 ha with ha | ha
   ·have:=uT (HP.out.1.n15 a ha);omega
   ·simp at ha;subst ha;have:=uT HP.out.2.2.1.1;omega) HP.out.2.2.1.2
  rw [HKT.out] at h
  simp only at h
  omega
 have hrS:=TT.out
 rw [qy] at hrS
 obtain ⟨news,nX,mu⟩:=zq.ofRep hrS (v_ _)
 have HN:=fX nX;have HSR:=fX mu
 have HE:=fX (show zc ns (.lam s1 k t)=(zd k kt,qt && decide (zV (zd k kt)<=15)) by rw [zc,HKT.out])
 have g0':(z.alloc (.cells #[.slice ta k.args.length tc] 43)).cell? ⟨gg,0,none⟩=some (.slice xx kt.args.length yy):=zJ g0
 clear hR CW CZ CK2 SV hrS nX mu E4
 simp only [Act.put,List.setIfInBounds_toArray,List.set_cons_zero,List.set_cons_succ]
 go_wp2_with (at_builtin;refine zE rfl _ _ 41 rfl 43 (.agg #[.slice none 0 0]) 1 24 Tryz.underlying41 Tryz.infoS rfl (by decide) _ 1 [.slice ta k.args.length tc] rfl ?c1 _ kt.args.length news rfl ?c2 ?c3 ?c4 ?_)
 case c1=>exact Own.litAt #[.slice ta k.args.length tc] 1 _ (by simp) (by decide) rfl
 case c2=>exact HSR.out.alloc _
 case c3=>unfold maxLen;omega
 case c4=>omega
 intro a' c' w' ho hb hg
 have lf:Below z.heap.size z w':=((fH _ _).alloc (fP _) _).trans (hb.toBelow (by simp) fun i hi e=>by simp [Value.ownBlock] at e;omega)
 have tf:∀ g,(Value.slice a' (1+kt.args.length) c').ownBlock=some g->z.heap.size<=g:=fun g h=>by
  rcases hg g h with e | e
  ·simp [Value.ownBlock] at e;omega
  ·rw [e];simp
 have f7:=HZ.out.1.size
 have HA:Hid (Rep (fun i=>F i\/W0.heap.size<=i) w' (kg (zd k kt)) (.slice a' (1+kt.args.length) c')):=by
  show Rep _ _ _ _
  rw [qy,show (zd k kt).args.length=1+kt.args.length from by simp [zd,Ty.args,Nat.add_comm]]
  refine ho.rep (fun g h=>.inr (fD f7 (tf g h))) ?_
  show zX _ _ (kg k::qH kt.args) _
  exact zQ.2 ⟨_,_,rfl,Rep.below lf (fun _ h=>h) TA2.out,zX.below lf (fun _ h=>h) HN.out⟩
 have HW':Hid (Below W0.heap.size W0 w'):=zzT HZ.out.1 lf
 clear ho hb hg lf tf g0 g0' a8
 go_wp2_with fail
 obtain ⟨Y,hY⟩:=zzN (w'.alloc (.cells #[.slice a' (1+kt.args.length) c'] 43))
 rw [hY]
 have A0:Below w'.heap.size w' Y:=by rw [<- hY];exact (fH _ _).alloc (fP _) _
 obtain ⟨gO,hgO⟩:=zzN (w'.heap.size)
 have o0:Y.cell? ⟨gO,0,none⟩=some (.slice a' (1+kt.args.length) c'):=by rw [<- hY,<- hgO];simp
 rw [hgO]
 have hlo:W0.heap.size<=gO:=by rw [<- hgO];exact HW'.out.size
 have i_:Hid (Below W0.heap.size W0 Y):=zzT HW'.out A0
 have HYA:Hid (Rep (fun i=>F i\/W0.heap.size<=i) Y (kg (zd k kt)) (.slice a' (1+kt.args.length) c')):=Rep.below A0 (fun _ h=>h) HA.out
 have BR:Hid (Y.heap[w.heap.size+1+1]? = some (.cells #[.slice none 0 0] 43 (0,0))):=(i_.out.block _ (zZ H0.out.2.2.2)).trans H0.out.2.2.2
 have nf:Y.drew.frozen? ⟨w.heap.size+1+1,0,none⟩=false:=by show Y.frozen? _=_;simp only [World.frozen?,BR.out];rfl
 have aA:Y.drew.cell? ⟨w.heap.size+1+1,0,none⟩=some (.slice none 0 0):=by show Y.cell? _=_;simp only [World.cell?,BR.out];rfl
 have GY:gO≠w.heap.size+1+1:=by have:=H0.out.2.1;omega
 have eL:1+kt.args.length=(zd k kt).args.length:=by simp [zd,Ty.args,Nat.add_comm]
 have HEL:=fX eL
 clear hY A0 hgO HA HW' eL
 have GL:Hid (Rep (fun i=>F i\/W0.heap.size<=i) Y (kg (zd k kt)) (.slice a' (zd k kt).args.length c')):=by
  have h:=HYA.out
  rw [HEL.out] at h
  exact h
 cases qt with
 | false =>
   have mp:=fX (show zc ns (.lam s1 k t)=(zd k kt,false) by rw [HE.out];rfl)
   refine wp_region_noPanic ?_
   refine zB (fun w'=>w'.cell? ⟨gO,0,none⟩=some (.slice a' (1+kt.args.length) c')) (fun _=>false) (by kernel_rfl) ?_
   have fF:(fun w'=>w'.cell? ⟨gO,0,none⟩=some (.slice a' (1+kt.args.length) c')) Y.drew:=o0
   refine tk [0,1,2,3,4,5,6] fF ?_
   (intro d hd;simp [tkD] at hd;subst hd;simp only [tks,pQ,pZ,pS])
   iterate 7 (refine ⟨?_,?_,?_⟩;rotate_left;· (intro oi ho;simp at ho;subst ho;first | (refine Or.inr ⟨by rfl,?_⟩;with_reducible rfl) | (refine Or.inl ⟨by rfl,fun w' fI=>?_⟩;have e0:=fI;go_simp;try with_reducible rfl)))
   (refine on 7 ?_;intro o ho K' hK;simp at ho;subst ho;go_simp)
   (refine hK.out _ _ (fun _=>zO fF GY) ?_;clear hK K';try simp only [pQ,pN,pZ,pS])
   (refine on 8 ?_;intro o ho K' hK;simp at ho;subst ho;go_simp)
   (refine hK.out _ _ (fun _=>zO fF GY) ?_;clear hK K';try simp only [pQ,pN,pZ,pS])
   refine zU (by kernel_rfl) (NoPanic.normal ?_) _
   go_wp2_with fail
   obtain ⟨W,hW,s0,fq,fc⟩:=qZ (BR.out) (.slice a' (1+kt.args.length) c')
   rw [<- hW]
   refine bodyPost_ret (v:=.tuple #[.agg #[.slice a' (1+kt.args.length) c'],.bool false]) (by simp [results,Tryz.results34,go_sem,s0]) rfl ?_
   rw [mp.out,HEL.out]
   exact ji (k:=zd k kt) HP.out.1.old H0.out.1 H0.out.2.1 i_.out GL.out (fun B w0 h hB=>(fq B w0 h hB).drew) fc
 | true =>
   have iK:=k9 t (ns++[(s1,k)]) kt (fun a ha=>by
    rw [jG] at ha
    rcases List.mem_append.1 ha with ha | ha
    ·exact HP.out.1.n15 a ha
    ·simp at ha;subst ha;exact HP.out.2.2.1.1) (by have:=uo (t:=t) (ns:=ns++[(s1,k)]) HP.out.2.2.1.2 (by rw [HKT.out]);rwa [HKT.out] at this)
   have lm:zV (zd k kt)<=1000:=by have h1:=HP.out.2.2.1.1;have:=cZ k kt;omega
   have CS:=fX (fun wz (h:Below Y.heap.size Y wz)=>eC 1000 (zd k kt) lm (by unfold Lim;omega) _ wz _ (Rep.below (F':=fun i=>F i\/W0.heap.size<=i) h (fun _ h=>h) HYA.out))
   clear nf aA
   by_cases fu:zV (zd k kt)<=15
   ·have mp:=fX (show zc ns (.lam s1 k t)=(zd k kt,true) by rw [HE.out,decide_eq_true fu];rfl)
    have h1:decide (((zV (zd k kt):Nat):Int)<=15)=true:=decide_eq_true (by omega)
    clear fu lm iK
    obtain ⟨A,hA⟩:=zzM (zV (zd k kt))
    rw [<- hA] at h1 CS
    clear hA
    refine wp_region_noPanic ?_
    refine zB (fun w'=>w'.cell? ⟨gO,0,none⟩=some (.slice a' (1+kt.args.length) c')) (fun _=>false) (by kernel_rfl) ?_
    have fF:(fun w'=>w'.cell? ⟨gO,0,none⟩=some (.slice a' (1+kt.args.length) c')) Y.drew:=o0
    refine tk [0,1,2,3] fF ?_
    (intro d hd;simp [tkD] at hd;subst hd;simp only [tks,pQ,pZ,pS])
    iterate 4 (refine ⟨?_,?_,?_⟩;rotate_left;· (intro oi ho;simp at ho;subst ho;refine Or.inl ⟨by rfl,fun w' fI=>?_⟩;have e0:=fI;go_simp;try with_reducible rfl))
    (refine on 4 ?_;intro o ho K' hK;simp at ho;subst ho;go_simp)
    go_at_call 64
    (with_reducible refine (CS.out _ (Below.drew (fH Y.heap.size Y))).mono ?_)
    rintro en v1 ⟨rfl,hb⟩
    have rW:Hid (Below Y.heap.size Y v1):=(Below.drew (fH Y.heap.size Y)).trans hb
    clear hb
    (refine hK.out _ _ (fun _=>(rW.out.cell (fG _ _ o0)).trans o0) ?_;clear hK K';try simp only [pQ,pN,pZ,pS])
    have hS4:=(rW.out.cell (fG _ _ o0)).trans o0
    have ti:Hid (v1.heap[w.heap.size+1+1]? = some (.cells #[.slice none 0 0] 43 (0,0))):=(rW.out.block _ (zZ BR.out)).trans BR.out
    have rO:v1.frozen? ⟨w.heap.size+1+1,0,none⟩=false:=by simp only [World.frozen?,ti.out];rfl
    have iI:v1.cell? ⟨w.heap.size+1+1,0,none⟩=some (.slice none 0 0):=by simp only [World.cell?,ti.out];rfl
    have rF:=(rW.out.cell (fG _ _ o0)).trans o0
    refine tk [5,6] hS4 ?_
    (intro d hd;simp [tkD] at hd;subst hd;simp only [tks,pQ,pZ,pS])
    iterate 2 (refine ⟨?_,?_,?_⟩;rotate_left;· (intro oi ho;simp at ho;subst ho;refine Or.inl ⟨by rfl,fun w' fI=>?_⟩;go_simp;try with_reducible rfl))
    (refine on 7 ?_;intro o ho K' hK;simp at ho;subst ho;go_simp)
    (refine hK.out _ _ (fun _=>zO rF GY) ?_;clear hK K';try simp only [pQ,pN,pZ,pS])
    (refine on 8 ?_;intro o ho K' hK;simp at ho;subst ho;go_simp)
    (refine hK.out _ _ (fun _=>zO rF GY) ?_;clear hK K';try simp only [pQ,pN,pZ,pS])
    refine zU (by kernel_rfl) (NoPanic.normal ?_) _
    have al:Hid (Below W0.heap.size W0 v1):=zzT i_.out rW.out
    have T2:Hid (Rep (fun i=>F i\/W0.heap.size<=i) v1 (kg (zd k kt)) (.slice a' (zd k kt).args.length c')):=Rep.below rW.out (fun _ h=>h) GL.out
    go_wp2_with fail
    obtain ⟨W,hW,s0,fq,fc⟩:=qZ (ti.out) (.slice a' (1+kt.args.length) c')
    rw [<- hW]
    refine bodyPost_ret (v:=.tuple #[.agg #[.slice a' (1+kt.args.length) c'],.bool true]) (by simp [results,Tryz.results34,go_sem,s0]) rfl ?_
    rw [mp.out,HEL.out]
    exact ji (k:=zd k kt) HP.out.1.old H0.out.1 H0.out.2.1 al.out T2.out fq fc
   ·have mp:=fX (show zc ns (.lam s1 k t)=(zd k kt,false) by rw [HE.out,decide_eq_false fu];rfl)
    have h1:decide (((zV (zd k kt):Nat):Int)<=15)=false:=decide_eq_false (by omega)
    clear fu lm iK
    obtain ⟨A,hA⟩:=zzM (zV (zd k kt))
    rw [<- hA] at h1 CS
    clear hA
    refine wp_region_noPanic ?_
    refine zB (fun w'=>w'.cell? ⟨gO,0,none⟩=some (.slice a' (1+kt.args.length) c')) (fun _=>false) (by kernel_rfl) ?_
    have fF:(fun w'=>w'.cell? ⟨gO,0,none⟩=some (.slice a' (1+kt.args.length) c')) Y.drew:=o0
    refine tk [0,1,2,3] fF ?_
    (intro d hd;simp [tkD] at hd;subst hd;simp only [tks,pQ,pZ,pS])
    iterate 4 (refine ⟨?_,?_,?_⟩;rotate_left;· (intro oi ho;simp at ho;subst ho;refine Or.inl ⟨by rfl,fun w' fI=>?_⟩;have e0:=fI;go_simp;try with_reducible rfl))
    (refine on 4 ?_;intro o ho K' hK;simp at ho;subst ho;go_simp)
    go_at_call 64
    (with_reducible refine (CS.out _ (Below.drew (fH Y.heap.size Y))).mono ?_)
    rintro en v1 ⟨rfl,hb⟩
    have rW:Hid (Below Y.heap.size Y v1):=(Below.drew (fH Y.heap.size Y)).trans hb
    clear hb
    (refine hK.out _ _ (fun _=>(rW.out.cell (fG _ _ o0)).trans o0) ?_;clear hK K';try simp only [pQ,pN,pZ,pS])
    have hS4:=(rW.out.cell (fG _ _ o0)).trans o0
    have ti:Hid (v1.heap[w.heap.size+1+1]? = some (.cells #[.slice none 0 0] 43 (0,0))):=(rW.out.block _ (zZ BR.out)).trans BR.out
    have rO:v1.frozen? ⟨w.heap.size+1+1,0,none⟩=false:=by simp only [World.frozen?,ti.out];rfl
    have iI:v1.cell? ⟨w.heap.size+1+1,0,none⟩=some (.slice none 0 0):=by simp only [World.cell?,ti.out];rfl
    have rF:=(rW.out.cell (fG _ _ o0)).trans o0
    refine tk [5,6] hS4 ?_
    (intro d hd;simp [tkD] at hd;subst hd;simp only [tks,pQ,pZ,pS])
    iterate 2 (refine ⟨?_,?_,?_⟩;rotate_left;· (intro oi ho;simp at ho;subst ho;refine Or.inl ⟨by rfl,fun w' fI=>?_⟩;go_simp;try with_reducible rfl))
    (refine on 7 ?_;intro o ho K' hK;simp at ho;subst ho;go_simp)
    (refine hK.out _ _ (fun _=>zO rF GY) ?_;clear hK K';try simp only [pQ,pN,pZ,pS])
    (refine on 8 ?_;intro o ho K' hK;simp at ho;subst ho;go_simp)
    (refine hK.out _ _ (fun _=>zO rF GY) ?_;clear hK K';try simp only [pQ,pN,pZ,pS])
    refine zU (by kernel_rfl) (NoPanic.normal ?_) _
    have al:Hid (Below W0.heap.size W0 v1):=zzT i_.out rW.out
    have T2:Hid (Rep (fun i=>F i\/W0.heap.size<=i) v1 (kg (zd k kt)) (.slice a' (zd k kt).args.length c')):=Rep.below rW.out (fun _ h=>h) GL.out
    go_wp2_with fail
    obtain ⟨W,hW,s0,fq,fc⟩:=qZ (ti.out) (.slice a' (1+kt.args.length) c')
    rw [<- hW]
    refine bodyPost_ret (v:=.tuple #[.agg #[.slice a' (1+kt.args.length) c'],.bool false]) (by simp [results,Tryz.results34,go_sem,s0]) rfl ?_
    rw [mp.out,HEL.out]
    exact ji (k:=zd k kt) HP.out.1.old H0.out.1 H0.out.2.1 al.out T2.out fq fc
theorem gw (N:Nat):KdSaid N:=by
 induction N with
 | zero=>exact fun F t ns nv tv s pv w h=>by cases t <;> simp only [zM] at h <;> omega
 | succ N ih =>
   intro F t ns nv tv s pv w h hp
   cases t with
   | nm x=>exact kd_nm F x ns nv tv s pv w hp
   | wd u=>exact kd_wd F u ns nv tv s pv w hp
   | lam x k t=>exact kd_lam N ih F x k t ns nv tv s pv w h hp
   | app m n=>exact kd_app N ih F m n ns nv tv s pv w h hp
   | ite l m n=>exact kd_ite N ih F l m n ns nv tv s pv w h hp
end Go.Proofs.YtjggkhmojjaomaaGreatDoor

/- Walks of functions that the statement reaches, and plain words. No conditions. -/
import Derived.Test.YtjggkhmojjaomaaGreatDoorQ18
set_option linter.unusedVariables false
set_option linter.unusedSimpArgs false
set_option maxHeartbeats 4000000
namespace Go.Proofs.YtjggkhmojjaomaaGreatDoor
open Go.RowKit
def OfSaid (M:Nat):Prop:=∀ (F:Nat->Prop) (t:Tm) (ns:List Nm) (k:Ty) (nv tv s pv:Value) (w:World),zM t<=M->wI F t ns nv tv s pv w->typeOf ns t=some k ->
 Calls Tryz.prog 17 #[.agg #[nv,tv],.agg #[s,pv]] w (qu F (zD ns t) w)
theorem uq {F:Nat->Prop} {w W0 Z W:World} {o:Option Bd} {s:Bs} {v:Int} {a1:Option Addr} {n1 c1:Nat} {a2:Option Addr} {n2 c2:Nat} (hF:∀ i,F i->i<w.heap.size) (h0:Below w.heap.size w W0) (hz:W0.heap.size=w.heap.size+1+1+1) (hb:Below W0.heap.size W0 Z) (hr:∀ x,o=some x->zX (fun i=>F i\/W0.heap.size<=i) Z (kR x) [str s,.int .i64 v,.slice a1 n1 c1,.slice a2 n2 c2])
 (fq:∀ B w0,Below B w0 Z->B<=w.heap.size+1+1->Below B w0 W) (fc:∀ i x,i≠w.heap.size+1+1->Z.heap[i]? = some x->W.heap[i]? = some x):qu F o w (.returned (.tuple #[.agg #[str s,.int .i64 v,.slice a1 n1 c1,.slice a2 n2 c2],.bool o.isSome])) W :=
 ⟨s,v,a1,n1,c1,a2,n2,c2,rfl,fq _ _ (zzT h0 hb) (by omega),fun x hx=>(Rep.keep fun i u hi hu=>⟨hi.elim .inl (fun h=>.inr (by omega)),fc i u (by rcases hi with h | h;have:=hF i h;omega;omega) hu⟩).2 _ _ (hr x hx)⟩
theorem uM {w:World} {g c:Nat} {x:Obj} (h:w.heap[g]? = some x) (hg:g≠c) (u0 u1 u2 u3:Value):((((w.setCell ⟨c,0,none⟩ u0).setCell ⟨c,1,none⟩ u1).setCell ⟨c,2,none⟩ u2).setCell ⟨c,3,none⟩ u3).heap[g]? = some x:=by
 rw [fB _ _ _ _ (by simpa using hg),fB _ _ _ _ (by simpa using hg),fB _ _ _ _ (by simpa using hg),fB _ _ _ _ (by simpa using hg)];exact h
theorem zX.weakS {F G:Nat->Prop} {w:World} {d:List DV} {v:List Value} (h:zX F w d v) (k:∀ i,F i->G i):zX G w d v:=(Rep.keep fun _ _ hf ho=>⟨k _ hf,ho⟩).2 _ _ h
set_option maxRecDepth 100000 in
theorem of_nm (F:Nat->Prop) (x:Bs) (ns:List Nm) (k0:Ty) (nv tv s pv:Value) (w:World) (hp:wI F (.nm x) ns nv tv s pv w) (tU:typeOf ns (.nm x)=some k0):Calls Tryz.prog 17 #[.agg #[nv,tv],.agg #[s,pv]] w (qu F (zD ns (.nm x)) w):=by
 have hold:=hp.old
 obtain ⟨na,nc,rfl,_,_,mi⟩:=zP hp.rn
 obtain ⟨ka,kc,rfl,_,_,nG⟩:=zP hp.rk
 have mG:=hp.rt
 rw [z_] at mG
 obtain ⟨qa,qc,e,fh⟩:=qz mG
 simp only [qJ,qr,List.cons.injEq,and_true] at e fh
 obtain ⟨rfl,rfl⟩:=e
 have lX:x≠[]:=(yB hp.ok).1
 obtain ⟨W0,mQ⟩:=zzM (((w.alloc (.cells #[.slice na ns.length nc,.slice ka ns.length kc] 53)).alloc (.cells #[str x,.slice qa 0 qc] 40)).alloc (.cells #[str [],.int .i64 0,.slice none 0 0,.slice none 0 0] 48))
 obtain ⟨fd,z0,bA,bB,bC⟩:=yT w (.cells #[.slice na ns.length nc,.slice ka ns.length kc] 53) (.cells #[str x,.slice qa 0 qc] 40) (.cells #[str [],.int .i64 0,.slice none 0 0,.slice none 0 0] 48)
 rw [<- mQ] at fd z0 bA bB bC
 have e0:W0.cell? ⟨w.heap.size,0,none⟩=some (.slice na ns.length nc):=by simp [World.cell?,bA]
 have e1:W0.cell? ⟨w.heap.size,1,none⟩=some (.slice ka ns.length kc):=by simp [World.cell?,bA]
 have t0:W0.cell? ⟨w.heap.size+1,0,none⟩=some (str x):=by simp [World.cell?,bB]
 have H0:=fX (fW fd (fW z0 bC))
 have hne:(x != [])=true:=by rw [bne_iff_ne];exact lX
 have AM:(!x.isEmpty)=true:=by cases x with | nil=>exact absurd rfl lX | cons a b=>rfl
 have iw:x.isEmpty=false:=by cases x with | nil=>exact absurd rfl lX | cons a b=>rfl
 have AN:=fX mi
 have AK:=fX nG
 have iE:ns.length<=100:=by have:=hp.room;omega
 have HP:=fX hp
 clear mi nG fd z0 bA bB bC hp
 go_enter Tryz.func17,Tryz.ntmps17
 go_wp2_with fail
 rw [<- mQ]
 clear mQ
 go_loopw [7] (fun i wz=>∃ (k:Nat) (wr:World),wr=wz/\k<=ns.length/\i=.int .i64 ((k:Int)-1)/\FoundR ns x k/\Below W0.heap.size W0 wr) (fun i _=>(intOf i+1).toNat)
 case atStart=>exact ⟨ns.length,_,rfl,fP _,rfl,rfl,fH _ _⟩
 case round =>
  obtain ⟨k,wr,ewr,hk,rfl,hf,rP⟩:=hrel
  subst ewr
  have e0':=(rP.cell (fG W0 _ e0)).trans e0
  have e1':=(rP.cell (fG W0 _ e1)).trans e1
  have Ex:=(rP.cell (fG W0 _ t0)).trans t0
  have BR:z9 (w.heap.size+1+1) 0 (.slice none 0 0) (.slice none 0 0) wr:=z9.below (B:=W0.heap.size) H0.out.2.2 rP (zZ H0.out.2.2)
  have Ay:=fX BR
  have HB:=fX rP
  have ft:=fX (zzT H0.out.1 rP)
  clear rP e0 e1 t0 BR
  cases k with
  | zero =>
    have hz:((0:Nat):Int)-1 = -1:=rfl
    rw [hz]
    have HN:=fX (show q_ ns x=none from hf)
    clear hf hz
    exfalso
    rw [typeOf,HN.out] at tU
    simp at tU
  | succ j =>
    have hj:j<ns.length:=by omega
    rw [show ((j+1:Nat):Int)-1=(j:Int) from by omega]
    obtain ⟨nb,no,nu,nd,e,_,F2,Bg,aw,th⟩:=AN.out j hj
    subst e
    rw [List.getElem?_map,Option.map_eq_some_iff] at Bg
    obtain ⟨⟨y,t⟩,hy,rfl⟩:=Bg
    rw [zH] at th
    subst th
    have q0:wr.cell? ⟨nb,no+j,none⟩=some (str y):=(ft.out.cell (p:=⟨nb,no+j,none⟩) F2).trans aw
    have JA:(j:Int)<(ns.length:Int):=by omega
    have ff:ke ns x (j+1)=if y=x then some j else ke ns x j:=by
     rw [ke,hy];simp
    by_cases aI:y=x
    ·subst aI
     have q:(y == y)=true:=by simp
     have HS:=fX (show q_ ns y=some j by rw [show q_ ns y=ke ns y (j+1) from hf,ff,if_pos rfl])
     obtain ⟨kb,ko,ku,kd,e,_,rZ,i7,AP,iF⟩:=AK.out j hj
     subst e
     rw [vx,Option.map_eq_some_iff] at i7
     obtain ⟨t2,FM,rfl⟩:=i7
     have et:t2=t:=by rw [uK hy] at FM;exact (Option.some.inj FM).symm
     subst et
     obtain ⟨xa,xc,rfl⟩:=kJ iF
     have q1:wr.cell? ⟨kb,ko+j,none⟩=some (.slice xa t2.args.length xc):=(ft.out.cell (p:=⟨kb,ko+j,none⟩) rZ).trans AP
     have fu:=HP.out.n15 t2 (List.mem_of_getElem? (uK hy))
     have CE:=fX (l4Eta_any 15 t2 fu fu F (.slice xa t2.args.length xc) j ns.length wr.drew (Rep.below ft.out (fun _ h=>h) iF).drew (by omega) (by omega))
     have HE:=fX (show zD ns (.nm y)=vj (eta t2 j ns.length) by rw [zD,HS.out,Option.bind_some,hy];rfl)
     have f7:zW (eta t2 j ns.length)<=1000000:=by have:=(ez t2 j ns.length).1;omega
     clear hf ff hy aw AP iF FM fu
     go_wp2_with fail
     go_region
     go_wp2_with fail
     (with_reducible refine CE.out.mono ?_)
     rintro en w3 ⟨s6,v6,f1,m1,d1,f2,m2,d2,rfl,fv,tN⟩
     have nh:=fX (HB.out.trans ((Below.drew (fH wr.heap.size wr)).trans fv |>.mono HB.out.size))
     have HR3:=fX (tN.weakS (G:=fun i=>F i\/W0.heap.size<=i) (fun i h=>.inr (fD HB.out.size h)))
     clear fv tN CE q0 q1 e0' e1' Ex
     go_wp2_with fail
     obtain ⟨Y,hY⟩:=zzN (w3.alloc (.cells #[str s6,.int .i64 v6,.slice f1 m1 d1,.slice f2 m2 d2] 48))
     rw [hY]
     have A0:Below w3.heap.size w3 Y:=by rw [<- hY];exact (fH _ _).alloc (fP _) _
     have gB:Y.heap[w3.heap.size]? = some (.cells #[str s6,.int .i64 v6,.slice f1 m1 d1,.slice f2 m2 d2] 48 (0,0)):=by rw [<- hY];exact zG _ _
     have i_:Hid (Below W0.heap.size W0 Y):=zzT nh.out A0
     have GO:=fX (zX.below (F':=fun i=>F i\/W0.heap.size<=i) A0 (fun _ h=>h) HR3.out)
     have NRY:Hid (z9 (w.heap.size+1+1) 0 (.slice none 0 0) (.slice none 0 0) Y):=z9.below (B:=W0.heap.size) H0.out.2.2 i_.out (zZ H0.out.2.2)
     have gne:w3.heap.size≠w.heap.size+1+1:=by have:=nh.out.size;have:=H0.out.2.1;omega
     obtain ⟨g8,JG⟩:=zzN (w3.heap.size)
     rw [JG] at gB gne ⊢
     clear hY A0 JG
     have CS:=fX (fun wz (h:Below Y.heap.size Y wz)=>gr 1000000 (eta t2 j ns.length) f7 (by unfold Lim;omega) _ wz _ _ _ _ _ _ _ _ (zX.below (F':=fun i=>F i\/W0.heap.size<=i) h (fun _ h=>h) (GO.out)))
     have GM:=fX (show zW (eta t2 j ns.length)<=1000000 from f7)
     obtain ⟨SZ,Gw⟩:=zzM (zW (eta t2 j ns.length))
     rw [<- Gw] at CS GM
     have KV:=fX Gw
     clear Gw
     by_cases rI:SZ<=200
     ·have h1:decide (((SZ:Nat):Int)<=200)=true:=decide_eq_true (by omega)
      have mp:=fX (show zD ns (.nm y)=some (eta t2 j ns.length) by rw [HE.out,h_ (by rw [<- KV.out];exact rI)])
      clear rI
      refine wp_region_noPanic ?_
      refine zB (fun w'=>w'.heap[g8]? = some (.cells #[str s6,.int .i64 v6,.slice f1 m1 d1,.slice f2 m2 d2] 48 (0,0))) (fun _=>false) (by kernel_rfl) ?_
      have fF:(fun w'=>w'.heap[g8]? = some (.cells #[str s6,.int .i64 v6,.slice f1 m1 d1,.slice f2 m2 d2] 48 (0,0))) Y.drew:=gB
      refine tk [0,1] fF ?_
      (intro d hd;simp [tkD] at hd;subst hd;simp only [tks,pQ,pZ,pS])
      iterate 2 (refine ⟨?_,?_,?_⟩;rotate_left;· (intro oi ho;simp at ho;subst ho;refine Or.inl ⟨by rfl,fun w' fI=>?_⟩;obtain ⟨e0,e1,e2,e3⟩:=kH fI;go_simp;try with_reducible rfl))
      (refine on 2 ?_;intro o ho K' hK;simp at ho;subst ho;go_simp)
      go_at_call 36
      (with_reducible refine (CS.out _ (Below.drew (fH Y.heap.size Y))).mono ?_)
      rintro en x1 ⟨rfl,hb⟩
      have r7:Hid (Below Y.heap.size Y x1):=(Below.drew (fH Y.heap.size Y)).trans hb
      clear hb
      (refine hK.out _ _ (fun _=>(r7.out.block _ (zZ gB)).trans gB) ?_;clear hK K';try simp only [pQ,pN,pZ,pS])
      have rF:=(r7.out.block _ (zZ gB)).trans gB
      have Ax:Hid (z9 (w.heap.size+1+1) 0 (.slice none 0 0) (.slice none 0 0) x1):=z9.below NRY.out r7.out (zZ NRY.out)
      obtain ⟨tx,aA,iI,Az,_,rff⟩:=Ax.out.cells
      have nJ:=rff 0;have nf:=rff 1;have rO:=rff 2;have tJ:=rff 3
      clear rff
      refine tk [3] rF ?_
      (intro d hd;simp [tkD] at hd;subst hd;simp only [tks,pQ,pZ,pS])
      (refine ⟨?_,?_,?_⟩;rotate_left;· (intro oi ho;simp at ho;subst ho;refine Or.inl ⟨by rfl,fun w' fI=>?_⟩;go_simp;try with_reducible rfl))
      (refine on 4 ?_;intro o ho K' hK;simp at ho;subst ho;go_simp)
      (refine hK.out _ _ (fun _=>uM rF gne _ _ _ _) ?_;clear hK K';try simp only [pQ,pN,pZ,pS])
      (refine on 5 ?_;intro o ho K' hK;simp at ho;subst ho;go_simp)
      (refine hK.out _ _ (fun _=>uM rF gne _ _ _ _) ?_;clear hK K';try simp only [pQ,pN,pZ,pS])
      refine zU (by kernel_rfl) (NoPanic.normal ?_) _
      go_wp2_with fail
      obtain ⟨W,hW,mC,mY,mB,mE,fq,fc⟩:=z9.store (Ax.out) (str s6) (.int .i64 v6) (.slice f1 m1 d1) (.slice f2 m2 d2)
      rw [<- hW]
      refine bodyPost_ret (v:=.tuple #[.agg #[str s6,.int .i64 v6,.slice f1 m1 d1,.slice f2 m2 d2],.bool true]) (by simp [results,Tryz.results17,go_sem,mC,mY,mB,mE]) rfl ?_
      rw [mp.out]
      exact uq (o:=some (eta t2 j ns.length)) HP.out.old H0.out.1 H0.out.2.1 (i_.out.trans (r7.out.mono (i_.out).size)) (fun x hx=>by obtain rfl:=Option.some.inj hx;exact zX.below (F':=fun i=>F i\/W0.heap.size<=i) r7.out (fun _ h=>h) (GO.out)) fq fc
     ·have h1:decide (((SZ:Nat):Int)<=200)=false:=decide_eq_false (by omega)
      have mp:=fX (show zD ns (.nm y)=none by rw [HE.out];unfold vj;rw [if_neg (by rw [<- KV.out];exact rI)])
      clear rI
      refine wp_region_noPanic ?_
      refine zB (fun w'=>w'.heap[g8]? = some (.cells #[str s6,.int .i64 v6,.slice f1 m1 d1,.slice f2 m2 d2] 48 (0,0))) (fun _=>false) (by kernel_rfl) ?_
      have fF:(fun w'=>w'.heap[g8]? = some (.cells #[str s6,.int .i64 v6,.slice f1 m1 d1,.slice f2 m2 d2] 48 (0,0))) Y.drew:=gB
      refine tk [0,1] fF ?_
      (intro d hd;simp [tkD] at hd;subst hd;simp only [tks,pQ,pZ,pS])
      iterate 2 (refine ⟨?_,?_,?_⟩;rotate_left;· (intro oi ho;simp at ho;subst ho;refine Or.inl ⟨by rfl,fun w' fI=>?_⟩;obtain ⟨e0,e1,e2,e3⟩:=kH fI;go_simp;try with_reducible rfl))
      (refine on 2 ?_;intro o ho K' hK;simp at ho;subst ho;go_simp)
      go_at_call 36
      (with_reducible refine (CS.out _ (Below.drew (fH Y.heap.size Y))).mono ?_)
      rintro en x1 ⟨rfl,hb⟩
      have r7:Hid (Below Y.heap.size Y x1):=(Below.drew (fH Y.heap.size Y)).trans hb
      clear hb
      (refine hK.out _ _ (fun _=>(r7.out.block _ (zZ gB)).trans gB) ?_;clear hK K';try simp only [pQ,pN,pZ,pS])
      have rF:=(r7.out.block _ (zZ gB)).trans gB
      have Ax:Hid (z9 (w.heap.size+1+1) 0 (.slice none 0 0) (.slice none 0 0) x1):=z9.below NRY.out r7.out (zZ NRY.out)
      obtain ⟨tx,aA,iI,Az,_,rff⟩:=Ax.out.cells
      have nJ:=rff 0;have nf:=rff 1;have rO:=rff 2;have tJ:=rff 3
      clear rff
      refine tk [3] rF ?_
      (intro d hd;simp [tkD] at hd;subst hd;simp only [tks,pQ,pZ,pS])
      (refine ⟨?_,?_,?_⟩;rotate_left;· (intro oi ho;simp at ho;subst ho;refine Or.inl ⟨by rfl,fun w' fI=>?_⟩;go_simp;try with_reducible rfl))
      (refine on 4 ?_;intro o ho K' hK;simp at ho;subst ho;go_simp)
      (refine hK.out _ _ (fun _=>uM rF gne _ _ _ _) ?_;clear hK K';try simp only [pQ,pN,pZ,pS])
      (refine on 5 ?_;intro o ho K' hK;simp at ho;subst ho;go_simp)
      (refine hK.out _ _ (fun _=>uM rF gne _ _ _ _) ?_;clear hK K';try simp only [pQ,pN,pZ,pS])
      refine zU (by kernel_rfl) (NoPanic.normal ?_) _
      go_wp2_with fail
      obtain ⟨W,hW,mC,mY,mB,mE,fq,fc⟩:=z9.store (Ax.out) (str s6) (.int .i64 v6) (.slice f1 m1 d1) (.slice f2 m2 d2)
      rw [<- hW]
      refine bodyPost_ret (v:=.tuple #[.agg #[str s6,.int .i64 v6,.slice f1 m1 d1,.slice f2 m2 d2],.bool false]) (by simp [results,Tryz.results17,go_sem,mC,mY,mB,mE]) rfl ?_
      rw [mp.out]
      exact uq (o:=none) HP.out.old H0.out.1 H0.out.2.1 (i_.out.trans (r7.out.mono (i_.out).size)) (fun x hx=>by simp at hx) fq fc
    ·have q:(y == x)=false:=by rw [beq_eq_false_iff_ne];exact aI
     have HS:=fX (show q_ ns x=ke ns x j by rw [show q_ ns x=ke ns x (j+1) from hf,ff,if_neg aI])
     clear hf ff hy aI aw
     go_wp2_with fail
     go_region
     go_wp2_with fail
     go_round
     case rel=>exact ⟨j,_,rfl,by omega,by go_num,HS.out,HB.out.drew⟩
     case measure=>simp only [intOf];omega
set_option maxRecDepth 100000 in
theorem of_wd (F:Nat->Prop) (x:Bs) (ns:List Nm) (k0:Ty) (nv tv s pv:Value) (w:World) (hp:wI F (.wd x) ns nv tv s pv w) (tU:typeOf ns (.wd x)=some k0):Calls Tryz.prog 17 #[.agg #[nv,tv],.agg #[s,pv]] w (qu F (zD ns (.wd x)) w):=by
 have hold:=hp.old
 obtain ⟨na,nc,rfl,_,_,mi⟩:=zP hp.rn
 obtain ⟨ka,kc,rfl,_,_,nG⟩:=zP hp.rk
 have mG:=hp.rt
 rw [z_] at mG
 obtain ⟨qa,qc,e,fh⟩:=qz mG
 simp only [qJ,qr,List.cons.injEq,and_true] at e fh
 obtain ⟨rfl,rfl⟩:=e
 have lX:x≠[]:=(x5 hp.ok).1
 have F8:x=[116]\/x=[102]\/x=[117]:=by
  have h:qj x=true:=hp.ok
  simp only [qj,Bool.or_eq_true,beq_iff_eq] at h
  rcases h with (h | h) | h
  ·exact .inl h
  ·exact .inr (.inl h)
  ·exact .inr (.inr h)
 obtain ⟨W0,mQ⟩:=zzM (((w.alloc (.cells #[.slice na ns.length nc,.slice ka ns.length kc] 53)).alloc (.cells #[str x,.slice qa 0 qc] 40)).alloc (.cells #[str [],.int .i64 0,.slice none 0 0,.slice none 0 0] 48))
 obtain ⟨fd,z0,bA,bB,bC⟩:=yT w (.cells #[.slice na ns.length nc,.slice ka ns.length kc] 53) (.cells #[str x,.slice qa 0 qc] 40) (.cells #[str [],.int .i64 0,.slice none 0 0,.slice none 0 0] 48)
 rw [<- mQ] at fd z0 bA bB bC
 have e0:W0.cell? ⟨w.heap.size,0,none⟩=some (.slice na ns.length nc):=by simp [World.cell?,bA]
 have e1:W0.cell? ⟨w.heap.size,1,none⟩=some (.slice ka ns.length kc):=by simp [World.cell?,bA]
 have t0:W0.cell? ⟨w.heap.size+1,0,none⟩=some (str x):=by simp [World.cell?,bB]
 have H0:=fX (fW fd (fW z0 bC))
 have hne:(x != [])=true:=by rw [bne_iff_ne];exact lX
 have AM:(!x.isEmpty)=true:=by cases x with | nil=>exact absurd rfl lX | cons a b=>rfl
 have iw:x.isEmpty=false:=by cases x with | nil=>exact absurd rfl lX | cons a b=>rfl
 have AN:=fX mi
 have AK:=fX nG
 have iE:ns.length<=100:=by have:=hp.room;omega
 have HP:=fX hp
 clear mi nG fd z0 bA bB bC hp
 go_enter Tryz.func17,Tryz.ntmps17
 go_wp2_with fail
 rw [<- mQ]
 clear mQ
 go_loopw [7] (fun i wz=>∃ (k:Nat) (wr:World),wr=wz/\k<=ns.length/\i=.int .i64 ((k:Int)-1)/\FoundR ns x k/\Below W0.heap.size W0 wr) (fun i _=>(intOf i+1).toNat)
 case atStart=>exact ⟨ns.length,_,rfl,fP _,rfl,rfl,fH _ _⟩
 case round =>
  obtain ⟨k,wr,ewr,hk,rfl,hf,rP⟩:=hrel
  subst ewr
  have e0':=(rP.cell (fG W0 _ e0)).trans e0
  have e1':=(rP.cell (fG W0 _ e1)).trans e1
  have Ex:=(rP.cell (fG W0 _ t0)).trans t0
  have BR:z9 (w.heap.size+1+1) 0 (.slice none 0 0) (.slice none 0 0) wr:=z9.below (B:=W0.heap.size) H0.out.2.2 rP (zZ H0.out.2.2)
  have Ay:=fX BR
  have HB:=fX rP
  have ft:=fX (zzT H0.out.1 rP)
  clear rP e0 e1 t0 BR
  cases k with
  | zero =>
    have hz:((0:Nat):Int)-1 = -1:=rfl
    rw [hz]
    have HN:=fX (show q_ ns x=none from hf)
    clear hf hz
    clear lX hne AM iw HN
    rcases F8 with rfl | rfl | rfl
    ·have mp:=fX (show zD ns (.wd [116])=some (.leaf 116) by rw [zD];rfl)
     obtain ⟨tx,aA,iI,Az,_,rff⟩:=Ay.out.cells
     have nJ:=rff 0;have nf:=rff 1;have rO:=rff 2;have tJ:=rff 3
     clear rff
     go_wp2_with fail
     obtain ⟨W,hW,mC,mY,mB,mE,fq,fc⟩:=z9.store (Ay.out) (str [116]) (.int .i64 0) (.slice none 0 0) (.slice none 0 0)
     rw [<- hW]
     refine bodyPost_ret (v:=.tuple #[.agg #[str [116],.int .i64 0,.slice none 0 0,.slice none 0 0],.bool true]) (by simp [results,Tryz.results17,go_sem,mC,mY,mB,mE]) rfl ?_
     rw [mp.out]
     exact uq (o:=some (.leaf 116)) HP.out.old H0.out.1 H0.out.2.1 HB.out (fun x hx=>by
      obtain rfl:=Option.some.inj hx
      rw [kR]
      exact zQ.2 ⟨_,_,rfl,zH.2 rfl,zQ.2 ⟨_,_,rfl,zH.2 rfl,zQ.2 ⟨_,_,rfl,zp.2 ⟨rfl,none,0,rfl,fP _,fun _=>rfl,.inl rfl⟩,zQ.2 ⟨_,_,rfl,zp.2 ⟨rfl,none,0,rfl,fP _,fun _=>rfl,.inl rfl⟩,zC.2 rfl⟩⟩⟩⟩) fq fc
    ·have mp:=fX (show zD ns (.wd [102])=some (.leaf 102) by rw [zD];rfl)
     obtain ⟨tx,aA,iI,Az,_,rff⟩:=Ay.out.cells
     have nJ:=rff 0;have nf:=rff 1;have rO:=rff 2;have tJ:=rff 3
     clear rff
     go_wp2_with fail
     obtain ⟨W,hW,mC,mY,mB,mE,fq,fc⟩:=z9.store (Ay.out) (str [102]) (.int .i64 0) (.slice none 0 0) (.slice none 0 0)
     rw [<- hW]
     refine bodyPost_ret (v:=.tuple #[.agg #[str [102],.int .i64 0,.slice none 0 0,.slice none 0 0],.bool true]) (by simp [results,Tryz.results17,go_sem,mC,mY,mB,mE]) rfl ?_
     rw [mp.out]
     exact uq (o:=some (.leaf 102)) HP.out.old H0.out.1 H0.out.2.1 HB.out (fun x hx=>by
      obtain rfl:=Option.some.inj hx
      rw [kR]
      exact zQ.2 ⟨_,_,rfl,zH.2 rfl,zQ.2 ⟨_,_,rfl,zH.2 rfl,zQ.2 ⟨_,_,rfl,zp.2 ⟨rfl,none,0,rfl,fP _,fun _=>rfl,.inl rfl⟩,zQ.2 ⟨_,_,rfl,zp.2 ⟨rfl,none,0,rfl,fP _,fun _=>rfl,.inl rfl⟩,zC.2 rfl⟩⟩⟩⟩) fq fc
    ·have mp:=fX (show zD ns (.wd [117])=some (.leaf 117) by rw [zD];rfl)
     obtain ⟨tx,aA,iI,Az,_,rff⟩:=Ay.out.cells
     have nJ:=rff 0;have nf:=rff 1;have rO:=rff 2;have tJ:=rff 3
     clear rff
     go_wp2_with fail
     obtain ⟨W,hW,mC,mY,mB,mE,fq,fc⟩:=z9.store (Ay.out) (str [117]) (.int .i64 0) (.slice none 0 0) (.slice none 0 0)
     rw [<- hW]
     refine bodyPost_ret (v:=.tuple #[.agg #[str [117],.int .i64 0,.slice none 0 0,.slice none 0 0],.bool true]) (by simp [results,Tryz.results17,go_sem,mC,mY,mB,mE]) rfl ?_
     rw [mp.out]
     exact uq (o:=some (.leaf 117)) HP.out.old H0.out.1 H0.out.2.1 HB.out (fun x hx=>by
      obtain rfl:=Option.some.inj hx
      rw [kR]
      exact zQ.2 ⟨_,_,rfl,zH.2 rfl,zQ.2 ⟨_,_,rfl,zH.2 rfl,zQ.2 ⟨_,_,rfl,zp.2 ⟨rfl,none,0,rfl,fP _,fun _=>rfl,.inl rfl⟩,zQ.2 ⟨_,_,rfl,zp.2 ⟨rfl,none,0,rfl,fP _,fun _=>rfl,.inl rfl⟩,zC.2 rfl⟩⟩⟩⟩) fq fc
  | succ j =>
    have hj:j<ns.length:=by omega
    rw [show ((j+1:Nat):Int)-1=(j:Int) from by omega]
    obtain ⟨nb,no,nu,nd,e,_,F2,Bg,aw,th⟩:=AN.out j hj
    subst e
    rw [List.getElem?_map,Option.map_eq_some_iff] at Bg
    obtain ⟨⟨y,t⟩,hy,rfl⟩:=Bg
    rw [zH] at th
    subst th
    have q0:wr.cell? ⟨nb,no+j,none⟩=some (str y):=(ft.out.cell (p:=⟨nb,no+j,none⟩) F2).trans aw
    have JA:(j:Int)<(ns.length:Int):=by omega
    have ff:ke ns x (j+1)=if y=x then some j else ke ns x j:=by
     rw [ke,hy];simp
    have aI:y≠x:=by
     rintro rfl
     have h1:=HP.out.nm (y,t) (List.mem_of_getElem? hy)
     have h2:=yw (show qj y=true from HP.out.ok)
     rw [show qG y=true from h1] at h2;exact absurd h2 (by decide)
    have q:(y == x)=false:=by rw [beq_eq_false_iff_ne];exact aI
    have HS:=fX (show q_ ns x=ke ns x j by rw [show q_ ns x=ke ns x (j+1) from hf,ff,if_neg aI])
    clear hf ff hy aI aw
    go_wp2_with fail
    go_region
    go_wp2_with fail
    go_round
    case rel=>exact ⟨j,_,rfl,by omega,by go_num,HS.out,HB.out.drew⟩
    case measure=>simp only [intOf];omega
set_option maxRecDepth 100000 in
theorem of_lam (M:Nat) (ih:OfSaid M) (F:Nat->Prop) (x:Bs) (k:Ty) (t:Tm) (ns:List Nm) (nv tv s pv:Value) (w:World) (kt:Ty) (hN:zM (.lam x k t)<=M+1) (hp:wI F (.lam x k t) ns nv tv s pv w) (tU:typeOf ns (.lam x k t)=some kt):Calls Tryz.prog 17 #[.agg #[nv,tv],.agg #[s,pv]] w (qu F (zD ns (.lam x k t)) w):=by
 have hold:=hp.old
 obtain ⟨na,nc,rfl,_,_,mi⟩:=zP hp.rn
 obtain ⟨ka,kc,rfl,_,_,nG⟩:=zP hp.rk
 have mG:=hp.rt
 rw [z_] at mG
 obtain ⟨qa,qc,e,fh⟩:=qz mG
 simp only [qJ,qr,List.cons.injEq,and_true] at e fh
 obtain ⟨rfl,rfl⟩:=e
 obtain ⟨_,_,e,fM⟩:=uh.of fh
 simp only [Value.slice.injEq,true_and] at e
 obtain ⟨rfl,rfl⟩:=e
 obtain ⟨fg,fp,s1,a1,n1,c1,d1,t_,mt,sH,sC,iz,rz,AA,BD⟩:=fM 1 (by simp)
 simp only [List.getElem?_cons_zero,List.getElem?_cons_succ,Option.some.injEq] at sH
 subst sH
 subst t_
 obtain ⟨FD,FB,s2,a2,n2,c2,d2,t6,lJ,tl,aZ,iO,tV,Bz,BC⟩:=fM 2 (by simp)
 simp only [List.getElem?_cons_zero,List.getElem?_cons_succ,Option.some.injEq] at tl
 subst tl
 simp only [Option.some.injEq,Addr.mk.injEq,and_true] at t6
 obtain ⟨rfl,rfl⟩:=t6
 obtain ⟨pb3,po3,s3,a3,n3,c3,d3,BE,Fz,BB,BH,BG,BA,FA,FC⟩:=fM 3 (by simp)
 simp only [List.getElem?_cons_zero,List.getElem?_cons_succ,Option.some.injEq] at BB
 subst BB
 simp only [Option.some.injEq,Addr.mk.injEq,and_true] at BE
 obtain ⟨rfl,rfl⟩:=BE
 simp only [qJ] at AA
 subst AA
 have fo:=hp.room
 have fa:=hp.ok
 have ml:=hp.sm
 have hak:=kh k
 rw [zM] at fo hN
 rw [kV,Bool.and_eq_true,decide_eq_true_eq] at ml
 obtain ⟨W0,mQ⟩:=zzM (((w.alloc (.cells #[.slice na ns.length nc,.slice ka ns.length kc] 53)).alloc (.cells #[str [],.slice (some ⟨fg,fp,none⟩) 4 qc] 40)).alloc (.cells #[str [],.int .i64 0,.slice none 0 0,.slice none 0 0] 48))
 obtain ⟨fd,z0,bA,bB,bC⟩:=yT w (.cells #[.slice na ns.length nc,.slice ka ns.length kc] 53) (.cells #[str [],.slice (some ⟨fg,fp,none⟩) 4 qc] 40) (.cells #[str [],.int .i64 0,.slice none 0 0,.slice none 0 0] 48)
 rw [<- mQ] at fd z0 bA bB bC
 have CH:=fX (show Calls Tryz.prog 37 #[.agg #[str [],.slice (some ⟨fg,fp,none⟩) 4 qc]] W0 (fun en w'=>en=.returned (str (yD (z_ (.lam s1 k t))))/\Below W0.heap.size W0 w') from uP (z_ (.lam s1 k t)) (vU _ hp.ok) F W0 _ _ (zX.below fd (fun _ h=>h) hp.rt))
 have CQ:yD (z_ (.lam s1 k t))=[108,97,109]:=by rw [z_];rfl
 rw [CQ] at CH
 have H0:=fX (fW fd (fW z0 (fW bA bC)))
 have e0:W0.cell? ⟨w.heap.size,0,none⟩=some (.slice na ns.length nc):=by simp [World.cell?,bA]
 have e1:W0.cell? ⟨w.heap.size,1,none⟩=some (.slice ka ns.length kc):=by simp [World.cell?,bA]
 have SX:Hid (∀ w',Below W0.heap.size W0 w'->w'.cell? ⟨w.heap.size,0,none⟩=some (.slice na ns.length nc)/\w'.cell? ⟨w.heap.size,1,none⟩=some (.slice ka ns.length kc)/\w'.cell? ⟨fg,fp+2,none⟩=some (str s1)/\w'.cell? ⟨fg,fp+4,none⟩=some (str s2)/\w'.cell? ⟨fg,fp+5,none⟩=some (.slice a2 n2 c2)/\w'.cell? ⟨fg,fp+6,none⟩=some (str s3)/\w'.cell? ⟨fg,fp+7,none⟩=some (.slice a3 n3 c3)):=by
  show ∀ w',_->_
  intro w' fx
  have mZ:=zzT fd fx
  exact ⟨(fx.cell (fG W0 _ e0)).trans e0,(fx.cell (fG W0 _ e1)).trans e1,(mZ.cell (p:=⟨fg,fp+2,none⟩) mt).trans sC,(mZ.cell (p:=⟨fg,fp+4,none⟩) mt).trans aZ,(mZ.cell (p:=⟨fg,fp+5,none⟩) mt).trans iO,(mZ.cell (p:=⟨fg,fp+6,none⟩) mt).trans BH,(mZ.cell (p:=⟨fg,fp+7,none⟩) mt).trans BG⟩
 have Hc:=jy 15 k ml.1
 have CX:Hid (∀ wz,Below w.heap.size w wz->Calls Tryz.prog 39 #[.agg #[str s2,.slice a2 n2 c2]] wz fun en w'=>en=.returned (str (zN k))/\Below wz.heap.size wz w'):=by
  show ∀ wz,_->_
  intro wz hz
  have h:=gx (zL (trT k)).length (trT k) (fP _) (show _<=_ by rw [ju];omega) (gz k) F wz _ _ (zX.below hz (fun _ h=>h) tV)
  rw [ju] at h
  exact h
 have CY:Hid (∀ wz,Calls Tryz.prog 38 #[str (zN k)] wz fun en w'=>∃ ta tc,en=.returned (.tuple #[.agg #[.slice ta k.args.length tc],.bool true])/\Below wz.heap.size wz w'/\Rep (wz.heap.size<=·) w' (kg k) (.slice ta k.args.length tc)):=by
  show ∀ wz,_
  intro wz
  refine (xK (zN k) (show _<=_ by omega) wz).mono ?_
  rintro en w' ⟨v,rfl,hb,hr⟩
  rw [v8 ml.1] at hr ⊢
  obtain ⟨ta,tc,rfl⟩:=kJ hr
  exact ⟨ta,tc,rfl,hb,hr⟩
 obtain ⟨X,hX⟩:=zzM (zN k)
 rw [<- hX] at CX CY
 have HP:=fX (fW hp (fW fa (fW ml (fW BA hN))))
 have IH:=fX ih
 have hlen:ns.length<=99:=by omega
 clear mi nG fh fM mG hp fa ml ih hN fd z0 bA bB bC e0 e1 rz sC iz BD tV aZ iO Bz BC BA BH BG FA FC mt lJ Fz hX Hc
 go_enter Tryz.func17,Tryz.ntmps17
 go_wp2_with fail
 rw [<- mQ]
 clear mQ
 (with_reducible refine CH.out.mono ?_)
 rintro en w1 ⟨rfl,fA⟩
 have H1:=fX (fW fA (zzT H0.out.1 fA))
 have Lb:=fX (CX.out w1 H1.out.2)
 obtain ⟨e0,e1,f1,f2,h2,f3,h3⟩:=SX.out w1 H1.out.1
 clear fA CH CX e0 e1 f1 f3 h3
 go_wp2_with fail
 (with_reducible refine Lb.out.mono ?_)
 rintro en w2 ⟨rfl,fN⟩
 have H2:=fX (fW (zzT H1.out.1 fN) (zzT H1.out.2 fN))
 clear fN f2 h2 Lb
 go_wp2_with fail
 (with_reducible refine (CY.out w2).mono ?_)
 rintro en w3 ⟨ta,tc,rfl,fv,tN⟩
 have H3:=fX (fW (zzT H2.out.1 fv) (fW (zzT H2.out.2 fv) (tN.weak (G:=fun i=>F i\/W0.heap.size<=i) (fun i h=>.inr (fD H2.out.1.size h)))))
 clear fv tN CY
 go_wp2_with fail
 obtain ⟨V,hV⟩:=zzN (w3.alloc (.cells #[.slice ta k.args.length tc] 43))
 rw [hV]
 have As:Below w3.heap.size w3 V:=by rw [<- hV];exact (fH _ _).alloc (fP _) _
 obtain ⟨ga,JE⟩:=zzN (w3.heap.size)
 have E4:V.cell? ⟨ga,0,none⟩=some (.slice ta k.args.length tc):=by rw [<- hV,<- JE];simp
 have HV:=fX (fW (zzT H3.out.1 As) (zzT H3.out.2.1 As))
 have TA:Hid (Rep (fun i=>i<V.heap.size/\(F i\/W0.heap.size<=i)) V (kg k) (.slice ta k.args.length tc)):=(Rep.keep fun i x h hx=>⟨⟨zZ hx,h⟩,hx⟩).1 _ _ (Rep.below (F':=fun i=>F i\/W0.heap.size<=i) As (fun _ h=>h) H3.out.2.2)
 rw [JE]
 have SV:Hid (∀ w',Below V.heap.size V w'->w'.cell? ⟨w.heap.size,0,none⟩=some (.slice na ns.length nc)/\w'.cell? ⟨w.heap.size,1,none⟩=some (.slice ka ns.length kc)/\w'.cell? ⟨fg,fp+2,none⟩=some (str s1)/\w'.cell? ⟨fg,fp+6,none⟩=some (str s3)/\w'.cell? ⟨fg,fp+7,none⟩=some (.slice a3 n3 c3)/\w'.cell? ⟨ga,0,none⟩=some (.slice ta k.args.length tc)):=by
  show ∀ w',_->_
  intro w' h
  obtain ⟨e0,e1,f1,_,_,f3,h3⟩:=SX.out w' (zzT HV.out.1 h)
  exact ⟨e0,e1,f1,f3,h3,(h.cell (fG _ _ E4)).trans E4⟩
 have oldV:Hid (∀ i,F i->i<V.heap.size):=fun i h=>fC (HP.out.1.old i h) HV.out.2.size
 have CW:=fX (fun wz (hz:Below V.heap.size V wz)=>withNames (fun i=>i<V.heap.size/\(F i\/W0.heap.size<=i)) ns s1 k (.slice na ns.length nc) (.slice ka ns.length kc) ta tc wz ((Rep.keep fun i x (h:F i) hx=>⟨⟨oldV.out i h,.inl h⟩,hx⟩).1 _ _ (Rep.below (F':=F) (zzT HV.out.2 hz) (fun _ h=>h) HP.out.1.rn)) ((Rep.keep fun i x (h:F i) hx=>⟨⟨oldV.out i h,.inl h⟩,hx⟩).1 _ _ (Rep.below (F':=F) (zzT HV.out.2 hz) (fun _ h=>h) HP.out.1.rk)) (Rep.below (F':=fun i=>i<V.heap.size/\(F i\/W0.heap.size<=i)) hz (fun _ h=>h) TA.out) (by omega))
 obtain ⟨_,kb0,Js,_⟩:=xv tU
 have hML:zD ns (.lam s1 k t)=zD (ns++[(s1,k)]) t:=by rw [zD]
 obtain ⟨om,oH⟩:=zzM (zD (ns++[(s1,k)]) t)
 rw [<- oH] at hML
 have CZ:Hid (∀ (A1:World) (a5 a6:Option Addr) (c5 c6:Nat),Below V.heap.size V A1 ->
  Rep (fun i=>((i<V.heap.size/\(F i\/W0.heap.size<=i))\/V.heap.size<=i)/\i<A1.heap.size) A1 (.sl 9 1 (ns++[(s1,k)]).length ((ns++[(s1,k)]).map fun p=>DV.val (str p.1))) (.slice a5 (ns.length+1) c5) ->
  Rep (fun i=>((i<V.heap.size/\(F i\/W0.heap.size<=i))\/V.heap.size<=i)/\i<A1.heap.size) A1 (.sl 43 1 (ns++[(s1,k)]).length (qH (kinds (ns++[(s1,k)])))) (.slice a6 (ns.length+1) c6) ->
  Calls Tryz.prog 17 #[.agg #[.slice a5 (ns.length+1) c5,.slice a6 (ns.length+1) c6],.agg #[str s3,.slice a3 n3 c3]] A1 (qu (fun i=>((i<V.heap.size/\(F i\/W0.heap.size<=i))\/V.heap.size<=i)/\i<A1.heap.size) om A1)):=by
  show ∀ _,_
  intro A1 a5 a6 c5 c6 hz h5 h6
  have AD:=zzT HV.out.2 hz
  have h:=IH.out (fun i=>((i<V.heap.size/\(F i\/W0.heap.size<=i))\/V.heap.size<=i)/\i<A1.heap.size) t (ns++[(s1,k)]) kb0 _ _ _ _ A1 (by have:=HP.out.2.2.2.2;omega) ⟨fun i h=>h.2,zX.below AD (fun i h=>⟨.inl ⟨oldV.out i h,.inl h⟩,fC (oldV.out i h) hz.size⟩) HP.out.2.2.2.1,h5,h6,HP.out.2.1.2,HP.out.2.2.1.2,(fun p hm=>by
   rcases List.mem_append.1 hm with hm | hm
   ·exact HP.out.1.nm p hm
   ·simp at hm;subst hm;exact HP.out.2.1.1),(fun a ha=>by
   rw [jG] at ha
   rcases List.mem_append.1 ha with ha | ha
   ·exact HP.out.1.n15 a ha
   ·simp at ha;subst ha;exact HP.out.2.2.1.1),by rw [List.length_append];simp;omega⟩ Js
  rw [<- oH] at h
  exact h
 have HML:=fX hML
 clear hML oH H1 H2 H3 As hV IH SX Js
 refine wp_region_noPanic ?_
 refine zB (fun w'=>Below V.heap.size V w') (fun i=>i == 13 || i == 14) (by kernel_rfl) ?_
 have fF:(fun w'=>Below V.heap.size V w') V.drew:=Below.drew (fH _ _)
 refine tk [0,1,2,3,4,5,7,8,9] fF ?_
 (intro d hd;simp [tkD] at hd;subst hd;simp only [tks,pQ,pZ,pS])
 iterate 9 (refine ⟨?_,?_,?_⟩;rotate_left;· (intro oi ho;simp at ho;subst ho;refine Or.inl ⟨by rfl,fun w' fI=>?_⟩;obtain ⟨e0,e1,f1,f3,h3,e8⟩:=SV.out w' fI;go_simp;try with_reducible rfl))
 (refine on 6 ?_;intro o ho K' hK;simp at ho;subst ho;go_simp)
 go_at_call 40
 (with_reducible refine (CW.out _ fF).mono ?_)
 rintro en y1 ⟨aq,cq,ar,cr,rfl,f_,G9,G8⟩
 have fR:Below V.heap.size V y1:=fF.trans f_
 (refine hK.out _ _ (fun _=>fR) ?_;clear hK K';try simp only [pQ,pN,pZ,pS])
 have hS6:=fR
 (refine on 10 ?_;intro o ho K' hK;simp at ho;subst ho)
 have oG:Rep (fun i=>((i<V.heap.size/\(F i\/W0.heap.size<=i))\/V.heap.size<=i)/\i<y1.heap.size) y1 (.sl 9 1 (ns++[(s1,k)]).length ((ns++[(s1,k)]).map fun p=>DV.val (str p.1))) (.slice aq (ns.length+1) cq):=(Rep.keep fun i x hi hx=>⟨⟨hi,zZ hx⟩,hx⟩).1 _ _ G9
 have oP:Rep (fun i=>((i<V.heap.size/\(F i\/W0.heap.size<=i))\/V.heap.size<=i)/\i<y1.heap.size) y1 (.sl 43 1 (ns++[(s1,k)]).length (qH (kinds (ns++[(s1,k)])))) (.slice ar (ns.length+1) cr):=(Rep.keep fun i x hi hx=>⟨⟨hi,zZ hx⟩,hx⟩).1 _ _ G8
 have Bb:=CZ.out y1 aq ar cq cr fR oG oP
 go_simp
 go_at_call 17
 (with_reducible refine Bb.mono ?_)
 rintro en y2 ⟨ss,vv,aa,an,ac,ba,bn,bc,rfl,hbk,mz⟩
 have nL:Below V.heap.size V y2:=zzT fR hbk
 (refine hK.out _ _ (fun _=>nL) ?_;clear hK K';try simp only [pQ,pN,pZ,pS])
 have GA:=nL
 have E5:Hid (Below W0.heap.size W0 y2):=zzT HV.out.1 nL
 have NRY:Hid (z9 (w.heap.size+1+1) 0 (.slice none 0 0) (.slice none 0 0) y2):=z9.below (B:=W0.heap.size) H0.out.2.2.2 E5.out (zZ H0.out.2.2.2)
 have HRK:Hid (∀ x,om=some x->zX (fun i=>F i\/W0.heap.size<=i) y2 (kR x) [str ss,.int .i64 vv,.slice aa an ac,.slice ba bn bc]):=fun x hx=>(mz x hx).weakS fun i h=>by
  have z1:=HV.out.1.size
  have z2:=fR.size
  rcases h with h | h
  ·rcases h.1 with h1 | h1
   ·exact h1.2
   ·exact .inr (by omega)
  ·exact .inr (by omega)
 obtain ⟨tx,aA,iI,Az,_,rff⟩:=NRY.out.cells
 have nJ:=rff 0;have nf:=rff 1;have rO:=rff 2;have tJ:=rff 3
 clear rff
 refine tk [11,12] GA ?_
 (intro d hd;simp [tkD] at hd;subst hd;simp only [tks,pQ,pZ,pS])
 iterate 2 (refine ⟨?_,?_,?_⟩;rotate_left;· (intro oi ho;simp at ho;subst ho;refine Or.inl ⟨by rfl,fun w' fI=>?_⟩;go_simp;try with_reducible rfl))
 (refine on 13 ?_;intro o ho K' hK;simp at ho;subst ho;go_simp)
 (refine hK.out _ _ (fun h=>by simp at h) ?_;clear hK K';try simp only [pQ,pN,pZ,pS])
 (refine on 14 ?_;intro o ho K' hK;simp at ho;subst ho;go_simp)
 (refine hK.out _ _ (fun h=>by simp at h) ?_;clear hK K';try simp only [pQ,pN,pZ,pS])
 refine zU (by kernel_rfl) (NoPanic.normal ?_) _
 go_wp2_with fail
 obtain ⟨W,hW,mC,mY,mB,mE,fq,fc⟩:=z9.store (NRY.out) (str ss) (.int .i64 vv) (.slice aa an ac) (.slice ba bn bc)
 rw [<- hW]
 refine bodyPost_ret (v:=.tuple #[.agg #[str ss,.int .i64 vv,.slice aa an ac,.slice ba bn bc],.bool om.isSome]) (by simp [results,Tryz.results17,go_sem,mC,mY,mB,mE]) rfl ?_
 rw [HML.out]
 exact uq HP.out.1.old H0.out.1 H0.out.2.1 E5.out HRK.out fq fc
def dO:Option Bd->List DV
 | some x=>kR x
 | none=>[]
def vO:Option Bd->List Value->List Value
 | some _,vs=>vs
 | none,_=>[]
theorem repO {F:Nat->Prop} {w:World} {o:Option Bd} {vs:List Value} (h:∀ x,o=some x->zX F w (kR x) vs):zX F w (dO o) (vO o vs):=by
 cases o with
 | none=>exact zC.2 rfl
 | some x=>exact h x rfl
set_option maxRecDepth 100000 in
theorem of_app (M:Nat) (ih:OfSaid M) (F:Nat->Prop) (m n:Tm) (ns:List Nm) (nv tv s pv:Value) (w:World) (k0:Ty) (hN:zM (.app m n)<=M+1) (hp:wI F (.app m n) ns nv tv s pv w) (tU:typeOf ns (.app m n)=some k0):Calls Tryz.prog 17 #[.agg #[nv,tv],.agg #[s,pv]] w (qu F (zD ns (.app m n)) w):=by
 have hold:=hp.old
 obtain ⟨na,nc,rfl,_,_,mi⟩:=zP hp.rn
 obtain ⟨ka,kc,rfl,_,_,nG⟩:=zP hp.rk
 have mG:=hp.rt
 rw [z_] at mG
 obtain ⟨qa,qc,e,fh⟩:=qz mG
 simp only [qJ,qr,List.cons.injEq,and_true] at e fh
 obtain ⟨rfl,rfl⟩:=e
 obtain ⟨_,_,e,fM⟩:=uh.of fh
 simp only [Value.slice.injEq,true_and] at e
 obtain ⟨rfl,rfl⟩:=e
 obtain ⟨fg,fp,s1,a1,n1,c1,d1,t_,mt,sH,sC,iz,rz,AA,BD⟩:=fM 1 (by simp)
 simp only [List.getElem?_cons_zero,List.getElem?_cons_succ,Option.some.injEq] at sH
 subst sH
 subst t_
 obtain ⟨FD,FB,s2,a2,n2,c2,d2,t6,lJ,tl,aZ,iO,tV,Bz,BC⟩:=fM 2 (by simp)
 simp only [List.getElem?_cons_zero,List.getElem?_cons_succ,Option.some.injEq] at tl
 subst tl
 simp only [Option.some.injEq,Addr.mk.injEq,and_true] at t6
 obtain ⟨rfl,rfl⟩:=t6
 have fo:=hp.room
 have fa:=hp.ok
 have ml:=hp.sm
 rw [zM] at fo hN
 rw [kV] at ml
 simp only [Bool.and_eq_true] at ml
 obtain ⟨KT,Iq,rest,tym,tyn,mN,_⟩:=xy tU
 obtain ⟨W0,mQ⟩:=zzM (((w.alloc (.cells #[.slice na ns.length nc,.slice ka ns.length kc] 53)).alloc (.cells #[str [],.slice (some ⟨fg,fp,none⟩) 3 qc] 40)).alloc (.cells #[str [],.int .i64 0,.slice none 0 0,.slice none 0 0] 48))
 obtain ⟨fd,z0,bA,bB,bC⟩:=yT w (.cells #[.slice na ns.length nc,.slice ka ns.length kc] 53) (.cells #[str [],.slice (some ⟨fg,fp,none⟩) 3 qc] 40) (.cells #[str [],.int .i64 0,.slice none 0 0,.slice none 0 0] 48)
 rw [<- mQ] at fd z0 bA bB bC
 have CH:=fX (show Calls Tryz.prog 37 #[.agg #[str [],.slice (some ⟨fg,fp,none⟩) 3 qc]] W0 (fun en w'=>en=.returned (str (yD (z_ (.app m n))))/\Below W0.heap.size W0 w') from uP (z_ (.app m n)) (vU _ hp.ok) F W0 _ _ (zX.below fd (fun _ h=>h) hp.rt))
 have CQ:yD (z_ (.app m n))=[97,112,112]:=by rw [z_];rfl
 rw [CQ] at CH
 have H0:=fX (fW fd (fW z0 (fW bA bC)))
 obtain ⟨om,oH⟩:=zzN (zD ns m)
 have Cm:Hid (∀ wz,Below w.heap.size w wz->Calls Tryz.prog 17 #[.agg #[.slice na ns.length nc,.slice ka ns.length kc],.agg #[str s1,.slice a1 n1 c1]] wz (qu F om wz)):=by
  show ∀ wz,_->_
  intro wz hz
  have h:=ih F m ns _ _ _ _ _ wz (by omega) ⟨fun i h=>fC (hp.old i h) hz.size,zX.below hz (fun _ h=>h) rz,Rep.below hz (fun _ h=>h) hp.rn,Rep.below hz (fun _ h=>h) hp.rk,fa.1,ml.1,hp.nm,hp.n15,by omega⟩ tym
  rw [oH] at h
  exact h
 have CKK:Hid (∀ wz,Below w.heap.size w wz->Calls Tryz.prog 34 #[.agg #[.slice na ns.length nc,.slice ka ns.length kc],.agg #[str s1,.slice a1 n1 c1]] wz (vo F wz KT true)):=by
  show ∀ wz,_->_
  intro wz hz
  have h:=gw (zM m) F m ns _ _ _ _ wz (fP _) ⟨fun i h=>fC (hp.old i h) hz.size,zX.below hz (fun _ h=>h) rz,Rep.below hz (fun _ h=>h) hp.rn,Rep.below hz (fun _ h=>h) hp.rk,fa.1,ml.1,hp.nm,hp.n15,by omega⟩
  rw [kindR_of tym] at h
  exact h
 obtain ⟨oN,lB⟩:=zzN (zD ns n)
 have Cn:Hid (∀ wz,Below w.heap.size w wz->Calls Tryz.prog 17 #[.agg #[.slice na ns.length nc,.slice ka ns.length kc],.agg #[str s2,.slice a2 n2 c2]] wz (qu F oN wz)):=by
  show ∀ wz,_->_
  intro wz hz
  have h:=ih F n ns _ _ _ _ _ wz (by omega) ⟨fun i h=>fC (hp.old i h) hz.size,zX.below hz (fun _ h=>h) tV,Rep.below hz (fun _ h=>h) hp.rn,Rep.below hz (fun _ h=>h) hp.rk,fa.2,ml.2,hp.nm,hp.n15,by omega⟩ tyn
  rw [lB] at h
  exact h
 have e0:W0.cell? ⟨w.heap.size,0,none⟩=some (.slice na ns.length nc):=by simp [World.cell?,bA]
 have e1:W0.cell? ⟨w.heap.size,1,none⟩=some (.slice ka ns.length kc):=by simp [World.cell?,bA]
 have SX:Hid (∀ w',Below W0.heap.size W0 w'->w'.cell? ⟨w.heap.size,0,none⟩=some (.slice na ns.length nc)/\w'.cell? ⟨w.heap.size,1,none⟩=some (.slice ka ns.length kc)/\w'.cell? ⟨fg,fp+2,none⟩=some (str s1)/\w'.cell? ⟨fg,fp+3,none⟩=some (.slice a1 n1 c1)/\w'.cell? ⟨fg,fp+4,none⟩=some (str s2)/\w'.cell? ⟨fg,fp+5,none⟩=some (.slice a2 n2 c2)):=by
  show ∀ w',_->_
  intro w' fx
  have mZ:=zzT fd fx
  exact ⟨(fx.cell (fG W0 _ e0)).trans e0,(fx.cell (fG W0 _ e1)).trans e1,(mZ.cell (p:=⟨fg,fp+2,none⟩) mt).trans sC,(mZ.cell (p:=⟨fg,fp+3,none⟩) mt).trans iz,(mZ.cell (p:=⟨fg,fp+4,none⟩) mt).trans aZ,(mZ.cell (p:=⟨fg,fp+5,none⟩) mt).trans iO⟩
 have HP:=fX (fW hp (fW fa ml))
 have hlen:ns.length<=100:=by omega
 have iS:=fX (fW tym (fW tyn (fW mN (fW oH (lB)))))
 clear tym tyn mN oH lB tU
 clear mi nG fh fM mG hp fa ml ih hN fd z0 bA bB bC e0 e1 rz sC iz AA BD mt tV aZ iO Bz BC lJ
 go_enter Tryz.func17,Tryz.ntmps17
 go_wp2_with fail
 rw [<- mQ]
 clear mQ
 (with_reducible refine CH.out.mono ?_)
 rintro en w1 ⟨rfl,fA⟩
 have H1:=fX (fW fA (zzT H0.out.1 fA))
 clear fA CH
 go_wp2_with fail
 have CRK:=fX (fun wz (hz:Below w1.heap.size w1 wz)=>CKK.out wz (H1.out.2.trans (hz.mono (H1.out.2).size)))
 have hFK:Hid (∀ i,F i->i<w1.heap.size):=fun i h=>fC (HP.out.1.old i h) (H1.out.2).size
 refine jI (X:=Nat×Option Addr×Nat) (fun a x=>((((((((((a.put (some 92) (.agg #[.slice na ns.length nc,.slice ka ns.length kc])).put (some 93) (.slice (some ⟨fg,fp,none⟩) 3 qc)).put (some 94) (.pointer (some ⟨fg,fp+2,none⟩))).put (some 95) (.agg #[str s1,.slice a1 n1 c1])).put (some 96) (.tuple #[.agg #[.slice x.2.1 (KT).args.length x.2.2],.bool true])).put (some 91) (.tuple #[.agg #[.slice x.2.1 (KT).args.length x.2.2],.bool true])).put (some 97) (.agg #[.slice x.2.1 (KT).args.length x.2.2])).put (some 98) (.bool true)).put (some 12) (.pointer (some ⟨x.1,0,none⟩))).put (some 13) (.bool true))) (fun x w'=>z8 F w1 x.1 (.cells #[.slice x.2.1 (KT).args.length x.2.2] 43 (0,0)) [kg KT] [.slice x.2.1 (KT).args.length x.2.2] w') ?_ ?_
 ·refine wp_region_noPanic ?_
  refine zB (fun w'=>Below w1.heap.size w1 w') (fun _=>false) (by kernel_rfl) ?_
  have fF:(fun w'=>Below w1.heap.size w1 w') w1.drew:=Below.drew (fH _ _)
  refine tk [0,1,2,3] fF ?_
  (intro d hd;simp [tkD] at hd;subst hd;simp only [tks,pQ,pZ,pS])
  iterate 4 (refine ⟨?_,?_,?_⟩;rotate_left;· (intro oi ho;simp at ho;subst ho;refine Or.inl ⟨by rfl,fun w' fI=>?_⟩;obtain ⟨e0,e1,f1,h1,f2,h2⟩:=SX.out w' (H1.out.1.trans (fI.mono (H1.out.1).size));go_simp;try with_reducible rfl))
  refine k8 4 8 (by kernel_rfl) ?_ ?_
  ·(intro o4 ho K' hK;simp at ho;subst ho)
   go_simp
   go_at_call 34
   (with_reducible refine (CRK.out w1.drew fF).mono ?_)
   rintro en y1 ⟨xx,yy,rfl,hb,hr⟩
   have fR:Below w1.heap.size w1 y1:=fF.trans hb
   (refine hK.out _ _ (fun _=>fR) ?_;clear hK K';try simp only [pQ,pN,pZ,pS])
   refine tk [5,6,7] fR ?_
   (intro d hd;simp [tkD] at hd;subst hd;simp only [tks,pQ,pZ,pS])
   iterate 3 (refine ⟨?_,?_,?_⟩;rotate_left;· (intro oi ho;simp at ho;subst ho;refine Or.inl ⟨by rfl,fun w' fI=>?_⟩;go_simp;try with_reducible rfl))
   (refine on 8 ?_;intro o ho K' hK;simp at ho;subst ho;go_simp)
   (refine hK.out _ _ (fun _=>fR.alloc (fR).size _) ?_;clear hK K';try simp only [pQ,pN,pZ,pS])
   have bz:(y1.alloc (.cells #[.slice none 0 0] 43)).heap[y1.heap.size]? = some (.cells #[.slice none 0 0] 43 (0,0)):=zG _ _
   have sx:=(show _=some _ from by simp only [World.cell?,bz];rfl:(y1.alloc (.cells #[.slice none 0 0] 43)).cell? ⟨y1.heap.size,0,none⟩=some (.slice none 0 0))
   have sy:(y1.alloc (.cells #[.slice none 0 0] 43)).frozen? ⟨y1.heap.size,0,none⟩=false:=by simp only [World.frozen?,bz];rfl
   (refine on 9 ?_;intro o ho K' hK;simp at ho;subst ho;go_simp)
   (refine hK.out _ _ (fun _=>fR.alloc fR.size _) ?_;clear hK K';try simp only [pQ,pN,pZ,pS])
   (refine on 10 ?_;intro o ho K' hK;simp at ho;subst ho;go_simp)
   (refine hK.out _ _ (fun _=>fR.alloc fR.size _) ?_;clear hK K';try simp only [pQ,pN,pZ,pS])
   refine zU (by kernel_rfl) (NoPanic.normal ?_) _
   exact ⟨rfl,⟨y1.heap.size,xx,yy⟩,by rfl,z8.fresh fR (zX.one hr)⟩
  ·(intro o8 ho K' hK;simp at ho;subst ho)
   go_simp
   (refine hK.out _ _ (fun _=>fF.alloc (fP _) _) ?_;clear hK K';try simp only [pQ,pN,pZ,pS])
   (refine on 4 ?_;intro o ho K' hK;simp at ho;subst ho;go_simp)
   go_at_call 34
   have mL:Below w1.heap.size w1 (w1.alloc (.cells #[.slice none 0 0] 43)).drew:=fF.alloc (fP _) _
   (with_reducible refine (CRK.out _ mL).mono ?_)
   rintro en y1 ⟨xx,yy,rfl,hb,hr⟩
   have fR:Below w1.heap.size w1 y1:=zzT mL hb
   (refine hK.out _ _ (fun _=>fR) ?_;clear hK K';try simp only [pQ,pN,pZ,pS])
   refine tk [5,6,7] fR ?_
   (intro d hd;simp [tkD] at hd;subst hd;simp only [tks,pQ,pZ,pS])
   iterate 3 (refine ⟨?_,?_,?_⟩;rotate_left;· (intro oi ho;simp at ho;subst ho;refine Or.inl ⟨by rfl,fun w' fI=>?_⟩;go_simp;try with_reducible rfl))
   have bz:y1.heap[w1.heap.size]? = some (.cells #[.slice none 0 0] 43 (0,0)):=(hb.block _ (show _<_ from by simp)).trans (zG w1 (.cells #[.slice none 0 0] 43))
   have sx:=(show _=some _ from by simp only [World.cell?,bz];rfl:(y1).cell? ⟨w1.heap.size,0,none⟩=some (.slice none 0 0))
   have sy:(y1).frozen? ⟨w1.heap.size,0,none⟩=false:=by simp only [World.frozen?,bz];rfl
   (refine on 9 ?_;intro o ho K' hK;simp at ho;subst ho;go_simp)
   (refine hK.out _ _ (fun _=>(fR.setCell (p:=⟨w1.heap.size,0,none⟩) (fP _) _)) ?_;clear hK K';try simp only [pQ,pN,pZ,pS])
   (refine on 10 ?_;intro o ho K' hK;simp at ho;subst ho;go_simp)
   (refine hK.out _ _ (fun _=>(fR.setCell (p:=⟨w1.heap.size,0,none⟩) (fP _) _)) ?_;clear hK K';try simp only [pQ,pN,pZ,pS])
   refine zU (by kernel_rfl) (NoPanic.normal ?_) _
   exact ⟨rfl,⟨w1.heap.size,xx,yy⟩,by rfl,z8.first hFK.out mL (by simp) hb (zX.one hr) (but1 _ _ _) (by rw [zA bz];rfl)⟩
 rintro ⟨gk,xk,yk⟩ zk hR
 have Rk:Hid (z8 F w1 gk (.cells #[.slice xk (KT).args.length yk] 43 (0,0)) [kg KT] [.slice xk (KT).args.length yk] zk):=hR
 have iC:Hid (Below W0.heap.size W0 zk/\Below w.heap.size w zk):=⟨H1.out.1.trans (Rk.out.below.mono (H1.out.1).size),H1.out.2.trans (Rk.out.below.mono (H1.out.2).size)⟩
 have HLk:Hid (W0.heap.size<=w1.heap.size):=(H1.out.1).size
 clear hR CRK
 simp only [Act.put,List.setIfInBounds_toArray,List.set_cons_zero,List.set_cons_succ]
 go_wp2_with fail
 have CRm:=fX (fun wz (hz:Below zk.heap.size zk wz)=>Cm.out wz (iC.out.2.trans (hz.mono (iC.out.2).size)))
 have GE:Hid (∀ i,F i->i<zk.heap.size):=fun i h=>fC (HP.out.1.old i h) (iC.out.2).size
 refine jI (X:=Nat×Bs×Int×Option Addr×Nat×Nat×Option Addr×Nat×Nat) (fun a x=>((((((((((a.put (some 100) (.agg #[.slice na ns.length nc,.slice ka ns.length kc])).put (some 101) (.slice (some ⟨fg,fp,none⟩) 3 qc)).put (some 102) (.pointer (some ⟨fg,fp+2,none⟩))).put (some 103) (.agg #[str s1,.slice a1 n1 c1])).put (some 104) (.tuple #[.agg #[str x.2.1,.int .i64 x.2.2.1,.slice x.2.2.2.1 x.2.2.2.2.1 x.2.2.2.2.2.1,.slice x.2.2.2.2.2.2.1 x.2.2.2.2.2.2.2.1 x.2.2.2.2.2.2.2.2],.bool om.isSome])).put (some 99) (.tuple #[.agg #[str x.2.1,.int .i64 x.2.2.1,.slice x.2.2.2.1 x.2.2.2.2.1 x.2.2.2.2.2.1,.slice x.2.2.2.2.2.2.1 x.2.2.2.2.2.2.2.1 x.2.2.2.2.2.2.2.2],.bool om.isSome])).put (some 105) (.agg #[str x.2.1,.int .i64 x.2.2.1,.slice x.2.2.2.1 x.2.2.2.2.1 x.2.2.2.2.2.1,.slice x.2.2.2.2.2.2.1 x.2.2.2.2.2.2.2.1 x.2.2.2.2.2.2.2.2])).put (some 106) (.bool om.isSome)).put (some 14) (.pointer (some ⟨x.1,0,none⟩))).put (some 15) (.bool om.isSome))) (fun x w'=>z8 F zk x.1 (.cells #[str x.2.1,.int .i64 x.2.2.1,.slice x.2.2.2.1 x.2.2.2.2.1 x.2.2.2.2.2.1,.slice x.2.2.2.2.2.2.1 x.2.2.2.2.2.2.2.1 x.2.2.2.2.2.2.2.2] 48 (0,0)) (dO om) (vO om [str x.2.1,.int .i64 x.2.2.1,.slice x.2.2.2.1 x.2.2.2.2.1 x.2.2.2.2.2.1,.slice x.2.2.2.2.2.2.1 x.2.2.2.2.2.2.2.1 x.2.2.2.2.2.2.2.2]) w') ?_ ?_
 ·refine wp_region_noPanic ?_
  refine zB (fun w'=>Below zk.heap.size zk w') (fun _=>false) (by kernel_rfl) ?_
  have fF:(fun w'=>Below zk.heap.size zk w') zk.drew:=Below.drew (fH _ _)
  refine tk [0,1,2,3] fF ?_
  (intro d hd;simp [tkD] at hd;subst hd;simp only [tks,pQ,pZ,pS])
  iterate 4 (refine ⟨?_,?_,?_⟩;rotate_left;· (intro oi ho;simp at ho;subst ho;refine Or.inl ⟨by rfl,fun w' fI=>?_⟩;obtain ⟨e0,e1,f1,h1,f2,h2⟩:=SX.out w' (iC.out.1.trans (fI.mono (iC.out.1).size));go_simp;try with_reducible rfl))
  refine k8 4 8 (by kernel_rfl) ?_ ?_
  ·(intro o4 ho K' hK;simp at ho;subst ho)
   go_simp
   go_at_call 17
   (with_reducible refine (CRm.out zk.drew fF).mono ?_)
   rintro en y1 ⟨ss,vv,aa,an,ac,ba,bn,bc,rfl,hb,hr⟩
   have fR:Below zk.heap.size zk y1:=fF.trans hb
   (refine hK.out _ _ (fun _=>fR) ?_;clear hK K';try simp only [pQ,pN,pZ,pS])
   refine tk [5,6,7] fR ?_
   (intro d hd;simp [tkD] at hd;subst hd;simp only [tks,pQ,pZ,pS])
   iterate 3 (refine ⟨?_,?_,?_⟩;rotate_left;· (intro oi ho;simp at ho;subst ho;refine Or.inl ⟨by rfl,fun w' fI=>?_⟩;go_simp;try with_reducible rfl))
   (refine on 8 ?_;intro o ho K' hK;simp at ho;subst ho;go_simp)
   (refine hK.out _ _ (fun _=>fR.alloc (fR).size _) ?_;clear hK K';try simp only [pQ,pN,pZ,pS])
   have bz:(y1.alloc (.cells #[str [],.int .i64 0,.slice none 0 0,.slice none 0 0] 48)).heap[y1.heap.size]? = some (.cells #[str [],.int .i64 0,.slice none 0 0,.slice none 0 0] 48 (0,0)):=zG _ _
   have sx:=(show _=some _ from by simp only [World.cell?,bz];rfl:(y1.alloc (.cells #[str [],.int .i64 0,.slice none 0 0,.slice none 0 0] 48)).cell? ⟨y1.heap.size,0,none⟩=some (str []))
   have sy:(y1.alloc (.cells #[str [],.int .i64 0,.slice none 0 0,.slice none 0 0] 48)).frozen? ⟨y1.heap.size,0,none⟩=false:=by simp only [World.frozen?,bz];rfl
   have Bw:=(show _=some _ from by simp only [World.cell?,bz];rfl:(y1.alloc (.cells #[str [],.int .i64 0,.slice none 0 0,.slice none 0 0] 48)).cell? ⟨y1.heap.size,1,none⟩=some (.int .i64 0))
   have og:(y1.alloc (.cells #[str [],.int .i64 0,.slice none 0 0,.slice none 0 0] 48)).frozen? ⟨y1.heap.size,1,none⟩=false:=by simp only [World.frozen?,bz];rfl
   have Bv:=(show _=some _ from by simp only [World.cell?,bz];rfl:(y1.alloc (.cells #[str [],.int .i64 0,.slice none 0 0,.slice none 0 0] 48)).cell? ⟨y1.heap.size,2,none⟩=some (.slice none 0 0))
   have Bt:(y1.alloc (.cells #[str [],.int .i64 0,.slice none 0 0,.slice none 0 0] 48)).frozen? ⟨y1.heap.size,2,none⟩=false:=by simp only [World.frozen?,bz];rfl
   have Bu:=(show _=some _ from by simp only [World.cell?,bz];rfl:(y1.alloc (.cells #[str [],.int .i64 0,.slice none 0 0,.slice none 0 0] 48)).cell? ⟨y1.heap.size,3,none⟩=some (.slice none 0 0))
   have Br:(y1.alloc (.cells #[str [],.int .i64 0,.slice none 0 0,.slice none 0 0] 48)).frozen? ⟨y1.heap.size,3,none⟩=false:=by simp only [World.frozen?,bz];rfl
   (refine on 9 ?_;intro o ho K' hK;simp at ho;subst ho;go_simp)
   (refine hK.out _ _ (fun _=>fR.alloc fR.size _) ?_;clear hK K';try simp only [pQ,pN,pZ,pS])
   (refine on 10 ?_;intro o ho K' hK;simp at ho;subst ho;go_simp)
   (refine hK.out _ _ (fun _=>fR.alloc fR.size _) ?_;clear hK K';try simp only [pQ,pN,pZ,pS])
   refine zU (by kernel_rfl) (NoPanic.normal ?_) _
   exact ⟨rfl,⟨y1.heap.size,ss,vv,aa,an,ac,ba,bn,bc⟩,by rfl,z8.fresh fR (repO hr)⟩
  ·(intro o8 ho K' hK;simp at ho;subst ho)
   go_simp
   (refine hK.out _ _ (fun _=>fF.alloc (fP _) _) ?_;clear hK K';try simp only [pQ,pN,pZ,pS])
   (refine on 4 ?_;intro o ho K' hK;simp at ho;subst ho;go_simp)
   go_at_call 17
   have mL:Below zk.heap.size zk (zk.alloc (.cells #[str [],.int .i64 0,.slice none 0 0,.slice none 0 0] 48)).drew:=fF.alloc (fP _) _
   (with_reducible refine (CRm.out _ mL).mono ?_)
   rintro en y1 ⟨ss,vv,aa,an,ac,ba,bn,bc,rfl,hb,hr⟩
   have fR:Below zk.heap.size zk y1:=zzT mL hb
   (refine hK.out _ _ (fun _=>fR) ?_;clear hK K';try simp only [pQ,pN,pZ,pS])
   refine tk [5,6,7] fR ?_
   (intro d hd;simp [tkD] at hd;subst hd;simp only [tks,pQ,pZ,pS])
   iterate 3 (refine ⟨?_,?_,?_⟩;rotate_left;· (intro oi ho;simp at ho;subst ho;refine Or.inl ⟨by rfl,fun w' fI=>?_⟩;go_simp;try with_reducible rfl))
   have bz:y1.heap[zk.heap.size]? = some (.cells #[str [],.int .i64 0,.slice none 0 0,.slice none 0 0] 48 (0,0)):=(hb.block _ (show _<_ from by simp)).trans (zG zk (.cells #[str [],.int .i64 0,.slice none 0 0,.slice none 0 0] 48))
   have sx:=(show _=some _ from by simp only [World.cell?,bz];rfl:(y1).cell? ⟨zk.heap.size,0,none⟩=some (str []))
   have sy:(y1).frozen? ⟨zk.heap.size,0,none⟩=false:=by simp only [World.frozen?,bz];rfl
   have Bw:=(show _=some _ from by simp only [World.cell?,bz];rfl:(y1).cell? ⟨zk.heap.size,1,none⟩=some (.int .i64 0))
   have og:(y1).frozen? ⟨zk.heap.size,1,none⟩=false:=by simp only [World.frozen?,bz];rfl
   have Bv:=(show _=some _ from by simp only [World.cell?,bz];rfl:(y1).cell? ⟨zk.heap.size,2,none⟩=some (.slice none 0 0))
   have Bt:(y1).frozen? ⟨zk.heap.size,2,none⟩=false:=by simp only [World.frozen?,bz];rfl
   have Bu:=(show _=some _ from by simp only [World.cell?,bz];rfl:(y1).cell? ⟨zk.heap.size,3,none⟩=some (.slice none 0 0))
   have Br:(y1).frozen? ⟨zk.heap.size,3,none⟩=false:=by simp only [World.frozen?,bz];rfl
   (refine on 9 ?_;intro o ho K' hK;simp at ho;subst ho;go_simp)
   (refine hK.out _ _ (fun _=>((((fR.setCell (p:=⟨zk.heap.size,0,none⟩) (fP _) _).setCell (p:=⟨zk.heap.size,1,none⟩) (fP _) _).setCell (p:=⟨zk.heap.size,2,none⟩) (fP _) _).setCell (p:=⟨zk.heap.size,3,none⟩) (fP _) _)) ?_;clear hK K';try simp only [pQ,pN,pZ,pS])
   (refine on 10 ?_;intro o ho K' hK;simp at ho;subst ho;go_simp)
   (refine hK.out _ _ (fun _=>((((fR.setCell (p:=⟨zk.heap.size,0,none⟩) (fP _) _).setCell (p:=⟨zk.heap.size,1,none⟩) (fP _) _).setCell (p:=⟨zk.heap.size,2,none⟩) (fP _) _).setCell (p:=⟨zk.heap.size,3,none⟩) (fP _) _)) ?_;clear hK K';try simp only [pQ,pN,pZ,pS])
   refine zU (by kernel_rfl) (NoPanic.normal ?_) _
   exact ⟨rfl,⟨zk.heap.size,ss,vv,aa,an,ac,ba,bn,bc⟩,by rfl,z8.first GE.out mL (by simp) hb (repO hr) (but4 _ _ _ _ _ _) (by rw [zA (zA (zA (zA bz)))];rfl)⟩
 rintro ⟨gm,ssm,vvm,aam,anm,acm,bam,bnm,bcm⟩ zm hR
 have Rm:Hid (z8 F zk gm (.cells #[str ssm,.int .i64 vvm,.slice aam anm acm,.slice bam bnm bcm] 48 (0,0)) (dO om) (vO om [str ssm,.int .i64 vvm,.slice aam anm acm,.slice bam bnm bcm]) zm):=hR
 have nw:Hid (Below W0.heap.size W0 zm/\Below w.heap.size w zm):=⟨iC.out.1.trans (Rm.out.below.mono (iC.out.1).size),iC.out.2.trans (Rm.out.below.mono (iC.out.2).size)⟩
 have GR:Hid (W0.heap.size<=zk.heap.size):=(iC.out.1).size
 clear hR CRm
 simp only [Act.put,List.setIfInBounds_toArray,List.set_cons_zero,List.set_cons_succ]
 go_wp2_with fail
 have CRn:=fX (fun wz (hz:Below zm.heap.size zm wz)=>Cn.out wz (nw.out.2.trans (hz.mono (nw.out.2).size)))
 have DG:Hid (∀ i,F i->i<zm.heap.size):=fun i h=>fC (HP.out.1.old i h) (nw.out.2).size
 refine jI (X:=Nat×Bs×Int×Option Addr×Nat×Nat×Option Addr×Nat×Nat) (fun a x=>((((((((((a.put (some 108) (.agg #[.slice na ns.length nc,.slice ka ns.length kc])).put (some 109) (.slice (some ⟨fg,fp,none⟩) 3 qc)).put (some 110) (.pointer (some ⟨fg,fp+4,none⟩))).put (some 111) (.agg #[str s2,.slice a2 n2 c2])).put (some 112) (.tuple #[.agg #[str x.2.1,.int .i64 x.2.2.1,.slice x.2.2.2.1 x.2.2.2.2.1 x.2.2.2.2.2.1,.slice x.2.2.2.2.2.2.1 x.2.2.2.2.2.2.2.1 x.2.2.2.2.2.2.2.2],.bool oN.isSome])).put (some 107) (.tuple #[.agg #[str x.2.1,.int .i64 x.2.2.1,.slice x.2.2.2.1 x.2.2.2.2.1 x.2.2.2.2.2.1,.slice x.2.2.2.2.2.2.1 x.2.2.2.2.2.2.2.1 x.2.2.2.2.2.2.2.2],.bool oN.isSome])).put (some 113) (.agg #[str x.2.1,.int .i64 x.2.2.1,.slice x.2.2.2.1 x.2.2.2.2.1 x.2.2.2.2.2.1,.slice x.2.2.2.2.2.2.1 x.2.2.2.2.2.2.2.1 x.2.2.2.2.2.2.2.2])).put (some 114) (.bool oN.isSome)).put (some 16) (.pointer (some ⟨x.1,0,none⟩))).put (some 17) (.bool oN.isSome))) (fun x w'=>z8 F zm x.1 (.cells #[str x.2.1,.int .i64 x.2.2.1,.slice x.2.2.2.1 x.2.2.2.2.1 x.2.2.2.2.2.1,.slice x.2.2.2.2.2.2.1 x.2.2.2.2.2.2.2.1 x.2.2.2.2.2.2.2.2] 48 (0,0)) (dO oN) (vO oN [str x.2.1,.int .i64 x.2.2.1,.slice x.2.2.2.1 x.2.2.2.2.1 x.2.2.2.2.2.1,.slice x.2.2.2.2.2.2.1 x.2.2.2.2.2.2.2.1 x.2.2.2.2.2.2.2.2]) w') ?_ ?_
 ·refine wp_region_noPanic ?_
  refine zB (fun w'=>Below zm.heap.size zm w') (fun _=>false) (by kernel_rfl) ?_
  have fF:(fun w'=>Below zm.heap.size zm w') zm.drew:=Below.drew (fH _ _)
  refine tk [0,1,2,3] fF ?_
  (intro d hd;simp [tkD] at hd;subst hd;simp only [tks,pQ,pZ,pS])
  iterate 4 (refine ⟨?_,?_,?_⟩;rotate_left;· (intro oi ho;simp at ho;subst ho;refine Or.inl ⟨by rfl,fun w' fI=>?_⟩;obtain ⟨e0,e1,f1,h1,f2,h2⟩:=SX.out w' (nw.out.1.trans (fI.mono (nw.out.1).size));go_simp;try with_reducible rfl))
  refine k8 4 8 (by kernel_rfl) ?_ ?_
  ·(intro o4 ho K' hK;simp at ho;subst ho)
   go_simp
   go_at_call 17
   (with_reducible refine (CRn.out zm.drew fF).mono ?_)
   rintro en y1 ⟨ss,vv,aa,an,ac,ba,bn,bc,rfl,hb,hr⟩
   have fR:Below zm.heap.size zm y1:=fF.trans hb
   (refine hK.out _ _ (fun _=>fR) ?_;clear hK K';try simp only [pQ,pN,pZ,pS])
   refine tk [5,6,7] fR ?_
   (intro d hd;simp [tkD] at hd;subst hd;simp only [tks,pQ,pZ,pS])
   iterate 3 (refine ⟨?_,?_,?_⟩;rotate_left;· (intro oi ho;simp at ho;subst ho;refine Or.inl ⟨by rfl,fun w' fI=>?_⟩;go_simp;try with_reducible rfl))
   (refine on 8 ?_;intro o ho K' hK;simp at ho;subst ho;go_simp)
   (refine hK.out _ _ (fun _=>fR.alloc (fR).size _) ?_;clear hK K';try simp only [pQ,pN,pZ,pS])
   have bz:(y1.alloc (.cells #[str [],.int .i64 0,.slice none 0 0,.slice none 0 0] 48)).heap[y1.heap.size]? = some (.cells #[str [],.int .i64 0,.slice none 0 0,.slice none 0 0] 48 (0,0)):=zG _ _
   have sx:=(show _=some _ from by simp only [World.cell?,bz];rfl:(y1.alloc (.cells #[str [],.int .i64 0,.slice none 0 0,.slice none 0 0] 48)).cell? ⟨y1.heap.size,0,none⟩=some (str []))
   have sy:(y1.alloc (.cells #[str [],.int .i64 0,.slice none 0 0,.slice none 0 0] 48)).frozen? ⟨y1.heap.size,0,none⟩=false:=by simp only [World.frozen?,bz];rfl
   have Bw:=(show _=some _ from by simp only [World.cell?,bz];rfl:(y1.alloc (.cells #[str [],.int .i64 0,.slice none 0 0,.slice none 0 0] 48)).cell? ⟨y1.heap.size,1,none⟩=some (.int .i64 0))
   have og:(y1.alloc (.cells #[str [],.int .i64 0,.slice none 0 0,.slice none 0 0] 48)).frozen? ⟨y1.heap.size,1,none⟩=false:=by simp only [World.frozen?,bz];rfl
   have Bv:=(show _=some _ from by simp only [World.cell?,bz];rfl:(y1.alloc (.cells #[str [],.int .i64 0,.slice none 0 0,.slice none 0 0] 48)).cell? ⟨y1.heap.size,2,none⟩=some (.slice none 0 0))
   have Bt:(y1.alloc (.cells #[str [],.int .i64 0,.slice none 0 0,.slice none 0 0] 48)).frozen? ⟨y1.heap.size,2,none⟩=false:=by simp only [World.frozen?,bz];rfl
   have Bu:=(show _=some _ from by simp only [World.cell?,bz];rfl:(y1.alloc (.cells #[str [],.int .i64 0,.slice none 0 0,.slice none 0 0] 48)).cell? ⟨y1.heap.size,3,none⟩=some (.slice none 0 0))
   have Br:(y1.alloc (.cells #[str [],.int .i64 0,.slice none 0 0,.slice none 0 0] 48)).frozen? ⟨y1.heap.size,3,none⟩=false:=by simp only [World.frozen?,bz];rfl
   (refine on 9 ?_;intro o ho K' hK;simp at ho;subst ho;go_simp)
   (refine hK.out _ _ (fun _=>fR.alloc fR.size _) ?_;clear hK K';try simp only [pQ,pN,pZ,pS])
   (refine on 10 ?_;intro o ho K' hK;simp at ho;subst ho;go_simp)
   (refine hK.out _ _ (fun _=>fR.alloc fR.size _) ?_;clear hK K';try simp only [pQ,pN,pZ,pS])
   refine zU (by kernel_rfl) (NoPanic.normal ?_) _
   exact ⟨rfl,⟨y1.heap.size,ss,vv,aa,an,ac,ba,bn,bc⟩,by rfl,z8.fresh fR (repO hr)⟩
  ·(intro o8 ho K' hK;simp at ho;subst ho)
   go_simp
   (refine hK.out _ _ (fun _=>fF.alloc (fP _) _) ?_;clear hK K';try simp only [pQ,pN,pZ,pS])
   (refine on 4 ?_;intro o ho K' hK;simp at ho;subst ho;go_simp)
   go_at_call 17
   have mL:Below zm.heap.size zm (zm.alloc (.cells #[str [],.int .i64 0,.slice none 0 0,.slice none 0 0] 48)).drew:=fF.alloc (fP _) _
   (with_reducible refine (CRn.out _ mL).mono ?_)
   rintro en y1 ⟨ss,vv,aa,an,ac,ba,bn,bc,rfl,hb,hr⟩
   have fR:Below zm.heap.size zm y1:=zzT mL hb
   (refine hK.out _ _ (fun _=>fR) ?_;clear hK K';try simp only [pQ,pN,pZ,pS])
   refine tk [5,6,7] fR ?_
   (intro d hd;simp [tkD] at hd;subst hd;simp only [tks,pQ,pZ,pS])
   iterate 3 (refine ⟨?_,?_,?_⟩;rotate_left;· (intro oi ho;simp at ho;subst ho;refine Or.inl ⟨by rfl,fun w' fI=>?_⟩;go_simp;try with_reducible rfl))
   have bz:y1.heap[zm.heap.size]? = some (.cells #[str [],.int .i64 0,.slice none 0 0,.slice none 0 0] 48 (0,0)):=(hb.block _ (show _<_ from by simp)).trans (zG zm (.cells #[str [],.int .i64 0,.slice none 0 0,.slice none 0 0] 48))
   have sx:=(show _=some _ from by simp only [World.cell?,bz];rfl:(y1).cell? ⟨zm.heap.size,0,none⟩=some (str []))
   have sy:(y1).frozen? ⟨zm.heap.size,0,none⟩=false:=by simp only [World.frozen?,bz];rfl
   have Bw:=(show _=some _ from by simp only [World.cell?,bz];rfl:(y1).cell? ⟨zm.heap.size,1,none⟩=some (.int .i64 0))
   have og:(y1).frozen? ⟨zm.heap.size,1,none⟩=false:=by simp only [World.frozen?,bz];rfl
   have Bv:=(show _=some _ from by simp only [World.cell?,bz];rfl:(y1).cell? ⟨zm.heap.size,2,none⟩=some (.slice none 0 0))
   have Bt:(y1).frozen? ⟨zm.heap.size,2,none⟩=false:=by simp only [World.frozen?,bz];rfl
   have Bu:=(show _=some _ from by simp only [World.cell?,bz];rfl:(y1).cell? ⟨zm.heap.size,3,none⟩=some (.slice none 0 0))
   have Br:(y1).frozen? ⟨zm.heap.size,3,none⟩=false:=by simp only [World.frozen?,bz];rfl
   (refine on 9 ?_;intro o ho K' hK;simp at ho;subst ho;go_simp)
   (refine hK.out _ _ (fun _=>((((fR.setCell (p:=⟨zm.heap.size,0,none⟩) (fP _) _).setCell (p:=⟨zm.heap.size,1,none⟩) (fP _) _).setCell (p:=⟨zm.heap.size,2,none⟩) (fP _) _).setCell (p:=⟨zm.heap.size,3,none⟩) (fP _) _)) ?_;clear hK K';try simp only [pQ,pN,pZ,pS])
   (refine on 10 ?_;intro o ho K' hK;simp at ho;subst ho;go_simp)
   (refine hK.out _ _ (fun _=>((((fR.setCell (p:=⟨zm.heap.size,0,none⟩) (fP _) _).setCell (p:=⟨zm.heap.size,1,none⟩) (fP _) _).setCell (p:=⟨zm.heap.size,2,none⟩) (fP _) _).setCell (p:=⟨zm.heap.size,3,none⟩) (fP _) _)) ?_;clear hK K';try simp only [pQ,pN,pZ,pS])
   refine zU (by kernel_rfl) (NoPanic.normal ?_) _
   exact ⟨rfl,⟨zm.heap.size,ss,vv,aa,an,ac,ba,bn,bc⟩,by rfl,z8.first DG.out mL (by simp) hb (repO hr) (but4 _ _ _ _ _ _) (by rw [zA (zA (zA (zA bz)))];rfl)⟩
 rintro ⟨gn,ssn,vvn,aan,ann,acn,ban,bnn,bcn⟩ zn hR
 have Rn:Hid (z8 F zm gn (.cells #[str ssn,.int .i64 vvn,.slice aan ann acn,.slice ban bnn bcn] 48 (0,0)) (dO oN) (vO oN [str ssn,.int .i64 vvn,.slice aan ann acn,.slice ban bnn bcn]) zn):=hR
 have rH:Hid (Below W0.heap.size W0 zn/\Below w.heap.size w zn):=⟨nw.out.1.trans (Rn.out.below.mono (nw.out.1).size),nw.out.2.trans (Rn.out.below.mono (nw.out.2).size)⟩
 have GQ:Hid (W0.heap.size<=zm.heap.size):=(nw.out.1).size
 clear hR CRn
 simp only [Act.put,List.setIfInBounds_toArray,List.set_cons_zero,List.set_cons_succ]
 have Bk:zn.heap[gk]? = some (.cells #[.slice xk KT.args.length yk] 43 (0,0)):=(Rn.out.below.block _ (zZ ((Rm.out.below.block _ (zZ (Rk.out.blk))).trans (Rk.out.blk)))).trans ((Rm.out.below.block _ (zZ (Rk.out.blk))).trans (Rk.out.blk))
 have Tk:Hid (Rep (fun i=>F i\/W0.heap.size<=i) zn (kg (KT)) (.slice xk (KT).args.length yk)):=Rep.below (F':=fun i=>F i\/W0.heap.size<=i) Rn.out.below (fun _ h=>h) (Rep.below (F':=fun i=>F i\/W0.heap.size<=i) Rm.out.below (fun _ h=>h) ((zX.get1 Rk.out.rep).weak (G:=fun i=>F i\/W0.heap.size<=i) (fun i h=>h.1.elim .inl (fun h=>.inr (fD HLk.out h)))))
 have Bm:zn.heap[gm]? = some (.cells #[str ssm,.int .i64 vvm,.slice aam anm acm,.slice bam bnm bcm] 48 (0,0)):=(Rn.out.below.block _ (zZ (Rm.out.blk))).trans (Rm.out.blk)
 have Tm:Hid (zX (fun i=>F i\/W0.heap.size<=i) zn (dO om) (vO om [str ssm,.int .i64 vvm,.slice aam anm acm,.slice bam bnm bcm])):=zX.below (F':=fun i=>F i\/W0.heap.size<=i) Rn.out.below (fun _ h=>h) ((Rm.out.rep.weakS (G:=fun i=>F i\/W0.heap.size<=i) (fun i h=>h.1.elim .inl (fun h=>.inr (fD GR.out h)))))
 have Bn:zn.heap[gn]? = some (.cells #[str ssn,.int .i64 vvn,.slice aan ann acn,.slice ban bnn bcn] 48 (0,0)):=Rn.out.blk
 have Tn:Hid (zX (fun i=>F i\/W0.heap.size<=i) zn (dO oN) (vO oN [str ssn,.int .i64 vvn,.slice aan ann acn,.slice ban bnn bcn])):=(Rn.out.rep.weakS (G:=fun i=>F i\/W0.heap.size<=i) (fun i h=>h.1.elim .inl (fun h=>.inr (fD GQ.out h))))
 have NRz:Hid (z9 (w.heap.size+1+1) 0 (.slice none 0 0) (.slice none 0 0) zn):=z9.below (B:=W0.heap.size) H0.out.2.2.2 rH.out.1 (zZ H0.out.2.2.2)
 clear Cm Cn CKK
 cases om with
 | none =>
   have mp:=fX (show zD ns (.app m n)=none by rw [zD,iS.out.2.2.2.1];rfl)
   obtain ⟨tx,aA,iI,Az,_,rff⟩:=NRz.out.cells
   have nJ:=rff 0;have nf:=rff 1;have rO:=rff 2;have tJ:=rff 3
   clear rff
   obtain ⟨q0,q1,q2,q3⟩:=kH Bm
   simp only [Option.isSome_none,Option.isSome_some]
   go_wp2_with fail
   obtain ⟨W,hW,mC,mY,mB,mE,fq,fc⟩:=z9.store (NRz.out) (str ssm) (.int .i64 vvm) (.slice aam anm acm) (.slice bam bnm bcm)
   rw [<- hW]
   refine bodyPost_ret (v:=.tuple #[.agg #[str ssm,.int .i64 vvm,.slice aam anm acm,.slice bam bnm bcm],.bool false]) (by simp [results,Tryz.results17,go_sem,mC,mY,mB,mE]) rfl ?_
   rw [mp.out]
   exact uq (o:=none) HP.out.1.old H0.out.1 H0.out.2.1 rH.out.1 (fun x hx=>by simp at hx) fq fc
 | some p =>
   cases oN with
   | none =>
     have mp:=fX (show zD ns (.app m n)=none by rw [zD,iS.out.2.2.2.1,iS.out.2.2.2.2];rfl)
     obtain ⟨tx,aA,iI,Az,_,rff⟩:=NRz.out.cells
     have nJ:=rff 0;have nf:=rff 1;have rO:=rff 2;have tJ:=rff 3
     clear rff
     obtain ⟨q0,q1,q2,q3⟩:=kH Bm
     simp only [Option.isSome_none,Option.isSome_some]
     go_wp2_with fail
     obtain ⟨W,hW,mC,mY,mB,mE,fq,fc⟩:=z9.store (NRz.out) (str ssm) (.int .i64 vvm) (.slice aam anm acm) (.slice bam bnm bcm)
     rw [<- hW]
     refine bodyPost_ret (v:=.tuple #[.agg #[str ssm,.int .i64 vvm,.slice aam anm acm,.slice bam bnm bcm],.bool false]) (by simp [results,Tryz.results17,go_sem,mC,mY,mB,mE]) rfl ?_
     rw [mp.out]
     exact uq (o:=none) HP.out.1.old H0.out.1 H0.out.2.1 rH.out.1 (fun x hx=>by simp at hx) fq fc
   | some q =>
     obtain ⟨tym,tyn,mN,oH,lB⟩:=iS.out
     obtain ⟨f1,Ie,mY⟩:=jR m ns KT p HP.out.2.1.1 HP.out.1.n15 tym oH
     obtain ⟨f2,w2',mB⟩:=jR n ns Iq q HP.out.2.1.2 HP.out.1.n15 tyn lB
     rw [mN] at f1
     have n7:=pM f2 f1
     have nH:=k9 m ns KT HP.out.1.n15 tym
     have hF':∀ i,((F i\/W0.heap.size<=i)/\i<zn.heap.size)->i<zn.heap.size:=fun i h=>h.2
     have CA:Hid (Calls Tryz.prog 41 #[.agg #[.slice xk KT.args.length yk],.agg #[str ssm,.int .i64 vvm,.slice aam anm acm,.slice bam bnm bcm],.agg #[str ssn,.int .i64 vvn,.slice aan ann acn,.slice ban bnn bcn],.slice ka ns.length kc] zn (qu (fun i=>(F i\/W0.heap.size<=i)/\i<zn.heap.size) (jB p (zS (kinds ns) Iq q rest) (ns.length+rest.length)) zn)):=by
      have h:=l4Apply_any (fun i=>(F i\/W0.heap.size<=i)/\i<zn.heap.size) KT Iq rest (kinds ns) p q (.slice xk KT.args.length yk) (.slice ka ns.length kc) ssm ssn vvm vvn aam bam aan ban anm acm bnm bcm ann acn bnn bcn zn
       { ts:=mN,t15:=nH,bl:=(by rw [qL];omega),b15:=HP.out.1.n15,fit:=n7,wm:=Ie,wn:=w2',
         rt:=(Rep.keep fun i x h hx=>⟨⟨h,zZ hx⟩,hx⟩).1 _ _ Tk.out,
         rm:=(Rep.keep fun i x h hx=>⟨⟨h,zZ hx⟩,hx⟩).2 _ _ Tm.out,
         rn:=(Rep.keep fun i x h hx=>⟨⟨h,zZ hx⟩,hx⟩).2 _ _ Tn.out,
         rb:=(by rw [qL];exact (Rep.keep fun i x h hx=>⟨⟨.inl h,zZ hx⟩,hx⟩).1 _ _ (Rep.below (F':=F) rH.out.2 (fun _ h=>h) HP.out.1.rk)),
         hF:=hF' }
      rw [become_writes,qL] at h
      exact h
     have mp:=fX (show zD ns (.app m n)=jB p (zS (kinds ns) Iq q rest) (ns.length+rest.length) by
      rw [zD,oH,lB,Option.bind_some,Option.bind_some,tym,Option.bind_some,mN])
     obtain ⟨R,hR⟩:=zzM (jB p (zS (kinds ns) Iq q rest) (ns.length+rest.length))
     rw [<- hR] at CA mp
     obtain ⟨qk,_⟩:zn.cell? ⟨gk,0,none⟩=some (.slice xk KT.args.length yk)/\True:=⟨by simp only [World.cell?,Bk];rfl,trivial⟩
     obtain ⟨q0,q1,q2,q3⟩:=kH Bm
     obtain ⟨p0,p1,p2,p3⟩:=kH Bn
     obtain ⟨e0,e1,_⟩:=SX.out zn rH.out.1
     simp only [Option.isSome_some]
     clear hR f1 f2 Ie w2' mY mB n7 nH mN hF' tym tyn oH lB
     go_wp2_with fail
     (with_reducible refine CA.out.mono ?_)
     rintro en x1 ⟨ss,vv,aa,an,ac,ba,bn,bc,rfl,hb,hr⟩
     have r7:Hid (Below W0.heap.size W0 x1):=zzT rH.out.1 hb
     have E_:Hid (∀ x,R=some x->zX (fun i=>F i\/W0.heap.size<=i) x1 (kR x) [str ss,.int .i64 vv,.slice aa an ac,.slice ba bn bc]):=fun x hx=>(hr x hx).weakS fun i h=>by
      rcases h with h | h
      ·exact h.1
      ·exact .inr (fD rH.out.1.size h)
     have Ax:Hid (z9 (w.heap.size+1+1) 0 (.slice none 0 0) (.slice none 0 0) x1):=z9.below NRz.out hb (zZ NRz.out)
     obtain ⟨tx,aA,iI,Az,_,rff⟩:=Ax.out.cells
     have nJ:=rff 0;have nf:=rff 1;have rO:=rff 2;have tJ:=rff 3
     clear rff
     clear hb hr q0 q1 q2 q3 p0 p1 p2 p3 e0 e1 qk
     go_wp2_with fail
     obtain ⟨W,hW,mC,mY,mB,mE,fq,fc⟩:=z9.store (Ax.out) (str ss) (.int .i64 vv) (.slice aa an ac) (.slice ba bn bc)
     rw [<- hW]
     refine bodyPost_ret (v:=.tuple #[.agg #[str ss,.int .i64 vv,.slice aa an ac,.slice ba bn bc],.bool R.isSome]) (by simp [results,Tryz.results17,go_sem,mC,mY,mB,mE]) rfl ?_
     rw [mp.out]
     exact uq HP.out.1.old H0.out.1 H0.out.2.1 r7.out E_.out fq fc
theorem lvBs_ofR:∀ xs:List Bd,(∀ b∈xs,lvB b)->gu xs
 | [],_=>by rw [gu];trivial
 | b::bs,h=>by rw [gu];exact ⟨h b (by simp),lvBs_ofR bs fun x hx=>h x (by simp [hx])⟩
theorem fit_lvR (n:Nat):∀ (b:Bd) (h:List Ty),zW b<=n->jH h b->(∀ t∈h,zV t<=15)->h.length+15*n<=10000->lvB b:=by
 induction n with
 | zero=>intro b h hs;have:=kW b;omega
 | succ n ih =>
   intro b h hs hf ha hl
   cases b with
   | leaf c=>rw [lvB];trivial
   | ask v ss y no =>
     rw [jH] at hf
     obtain ⟨t,ht,f1,f2,f3⟩:=hf
     rw [zW] at hs
     have hy:=kW y
     have hn:=kW no
     have hv:=(List.getElem?_eq_some_iff.1 ht).1
     have iK:=ha t (List.mem_of_getElem? ht)
     rw [lvB]
     refine ⟨by omega,lvBs_ofR ss fun b hb=>?_,ih y h (by omega) f2 ha (by omega),ih no h (by omega) f3 ha (by omega)⟩
     have f7:=vu hb
     obtain ⟨k,hk⟩:=List.mem_iff_getElem?.1 hb
     obtain ⟨x,hx,hxf⟩:=pG _ _ f1 k b hk
     simp only [jN,List.getElem?_map,Option.map_eq_some_iff] at hx
     obtain ⟨a,lm,rfl⟩:=hx
     have nH:=(zi iK).1 a (List.mem_of_getElem? lm)
     have lA:=zi nH
     refine ih b (h++a.args) (by omega) hxf (fun t ht=>?_) (by rw [List.length_append];omega)
     rcases List.mem_append.1 ht with h | h
     ·exact ha t h
     ·exact lA.1 t h
set_option maxRecDepth 100000 in
theorem of_ite (M:Nat) (ih:OfSaid M) (F:Nat->Prop) (l m n:Tm) (ns:List Nm) (nv tv s pv:Value) (w:World) (k0:Ty) (hN:zM (.ite l m n)<=M+1) (hp:wI F (.ite l m n) ns nv tv s pv w) (tU:typeOf ns (.ite l m n)=some k0):Calls Tryz.prog 17 #[.agg #[nv,tv],.agg #[s,pv]] w (qu F (zD ns (.ite l m n)) w):=by
 have hold:=hp.old
 obtain ⟨na,nc,rfl,_,_,mi⟩:=zP hp.rn
 obtain ⟨ka,kc,rfl,_,_,nG⟩:=zP hp.rk
 have mG:=hp.rt
 rw [z_] at mG
 obtain ⟨qa,qc,e,fh⟩:=qz mG
 simp only [qJ,qr,List.cons.injEq,and_true] at e fh
 obtain ⟨rfl,rfl⟩:=e
 obtain ⟨_,_,e,fM⟩:=uh.of fh
 simp only [Value.slice.injEq,true_and] at e
 obtain ⟨rfl,rfl⟩:=e
 obtain ⟨fg,fp,s1,a1,n1,c1,d1,t_,mt,sH,sC,iz,rz,AA,BD⟩:=fM 1 (by simp)
 simp only [List.getElem?_cons_zero,List.getElem?_cons_succ,Option.some.injEq] at sH
 subst sH
 subst t_
 obtain ⟨FD,FB,s2,a2,n2,c2,d2,t6,lJ,tl,aZ,iO,tV,Bz,BC⟩:=fM 2 (by simp)
 simp only [List.getElem?_cons_zero,List.getElem?_cons_succ,Option.some.injEq] at tl
 subst tl
 simp only [Option.some.injEq,Addr.mk.injEq,and_true] at t6
 obtain ⟨rfl,rfl⟩:=t6
 obtain ⟨pb3,po3,s3,a3,n3,c3,d3,BE,Fz,BB,BH,BG,BA,FA,FC⟩:=fM 3 (by simp)
 simp only [List.getElem?_cons_zero,List.getElem?_cons_succ,Option.some.injEq] at BB
 subst BB
 simp only [Option.some.injEq,Addr.mk.injEq,and_true] at BE
 obtain ⟨rfl,rfl⟩:=BE
 have fo:=hp.room
 have fa:=hp.ok
 have ml:=hp.sm
 rw [zM] at fo hN
 rw [kV] at ml
 simp only [Bool.and_eq_true] at ml
 obtain ⟨tyl,tym,tyn⟩:=xu tU
 obtain ⟨W0,mQ⟩:=zzM (((w.alloc (.cells #[.slice na ns.length nc,.slice ka ns.length kc] 53)).alloc (.cells #[str [],.slice (some ⟨fg,fp,none⟩) 4 qc] 40)).alloc (.cells #[str [],.int .i64 0,.slice none 0 0,.slice none 0 0] 48))
 obtain ⟨fd,z0,bA,bB,bC⟩:=yT w (.cells #[.slice na ns.length nc,.slice ka ns.length kc] 53) (.cells #[str [],.slice (some ⟨fg,fp,none⟩) 4 qc] 40) (.cells #[str [],.int .i64 0,.slice none 0 0,.slice none 0 0] 48)
 rw [<- mQ] at fd z0 bA bB bC
 have CH:=fX (show Calls Tryz.prog 37 #[.agg #[str [],.slice (some ⟨fg,fp,none⟩) 4 qc]] W0 (fun en w'=>en=.returned (str (yD (z_ (.ite l m n))))/\Below W0.heap.size W0 w') from uP (z_ (.ite l m n)) (vU _ hp.ok) F W0 _ _ (zX.below fd (fun _ h=>h) hp.rt))
 have CQ:yD (z_ (.ite l m n))=[105,102]:=by rw [z_];rfl
 rw [CQ] at CH
 have H0:=fX (fW fd (fW z0 (fW bA bC)))
 obtain ⟨ol,az⟩:=zzN (zD ns l)
 have Cl:Hid (∀ wz,Below w.heap.size w wz->Calls Tryz.prog 17 #[.agg #[.slice na ns.length nc,.slice ka ns.length kc],.agg #[str s1,.slice a1 n1 c1]] wz (qu F ol wz)):=by
  show ∀ wz,_->_
  intro wz hz
  have h:=ih F l ns _ _ _ _ _ wz (by omega) ⟨fun i h=>fC (hp.old i h) hz.size,zX.below hz (fun _ h=>h) rz,Rep.below hz (fun _ h=>h) hp.rn,Rep.below hz (fun _ h=>h) hp.rk,fa.1,ml.1.1,hp.nm,hp.n15,by omega⟩ tyl
  rw [az] at h
  exact h
 obtain ⟨om,oH⟩:=zzN (zD ns m)
 have Cm:Hid (∀ wz,Below w.heap.size w wz->Calls Tryz.prog 17 #[.agg #[.slice na ns.length nc,.slice ka ns.length kc],.agg #[str s2,.slice a2 n2 c2]] wz (qu F om wz)):=by
  show ∀ wz,_->_
  intro wz hz
  have h:=ih F m ns _ _ _ _ _ wz (by omega) ⟨fun i h=>fC (hp.old i h) hz.size,zX.below hz (fun _ h=>h) tV,Rep.below hz (fun _ h=>h) hp.rn,Rep.below hz (fun _ h=>h) hp.rk,fa.2.1,ml.1.2,hp.nm,hp.n15,by omega⟩ tym
  rw [oH] at h
  exact h
 have CKK:Hid (∀ wz,Below w.heap.size w wz->Calls Tryz.prog 34 #[.agg #[.slice na ns.length nc,.slice ka ns.length kc],.agg #[str s2,.slice a2 n2 c2]] wz (vo F wz k0 true)):=by
  show ∀ wz,_->_
  intro wz hz
  have h:=gw (zM m) F m ns _ _ _ _ wz (fP _) ⟨fun i h=>fC (hp.old i h) hz.size,zX.below hz (fun _ h=>h) tV,Rep.below hz (fun _ h=>h) hp.rn,Rep.below hz (fun _ h=>h) hp.rk,fa.2.1,ml.1.2,hp.nm,hp.n15,by omega⟩
  rw [kindR_of tym] at h
  exact h
 obtain ⟨oN,lB⟩:=zzN (zD ns n)
 have Cn:Hid (∀ wz,Below w.heap.size w wz->Calls Tryz.prog 17 #[.agg #[.slice na ns.length nc,.slice ka ns.length kc],.agg #[str s3,.slice a3 n3 c3]] wz (qu F oN wz)):=by
  show ∀ wz,_->_
  intro wz hz
  have h:=ih F n ns _ _ _ _ _ wz (by omega) ⟨fun i h=>fC (hp.old i h) hz.size,zX.below hz (fun _ h=>h) BA,Rep.below hz (fun _ h=>h) hp.rn,Rep.below hz (fun _ h=>h) hp.rk,fa.2.2,ml.2,hp.nm,hp.n15,by omega⟩ tyn
  rw [lB] at h
  exact h
 have e0:W0.cell? ⟨w.heap.size,0,none⟩=some (.slice na ns.length nc):=by simp [World.cell?,bA]
 have e1:W0.cell? ⟨w.heap.size,1,none⟩=some (.slice ka ns.length kc):=by simp [World.cell?,bA]
 have SX:Hid (∀ w',Below W0.heap.size W0 w'->w'.cell? ⟨w.heap.size,0,none⟩=some (.slice na ns.length nc)/\w'.cell? ⟨w.heap.size,1,none⟩=some (.slice ka ns.length kc)/\w'.cell? ⟨fg,fp+2,none⟩=some (str s1)/\w'.cell? ⟨fg,fp+3,none⟩=some (.slice a1 n1 c1)/\w'.cell? ⟨fg,fp+4,none⟩=some (str s2)/\w'.cell? ⟨fg,fp+5,none⟩=some (.slice a2 n2 c2)/\w'.cell? ⟨fg,fp+6,none⟩=some (str s3)/\w'.cell? ⟨fg,fp+7,none⟩=some (.slice a3 n3 c3)):=by
  show ∀ w',_->_
  intro w' fx
  have mZ:=zzT fd fx
  exact ⟨(fx.cell (fG W0 _ e0)).trans e0,(fx.cell (fG W0 _ e1)).trans e1,(mZ.cell (p:=⟨fg,fp+2,none⟩) mt).trans sC,(mZ.cell (p:=⟨fg,fp+3,none⟩) mt).trans iz,(mZ.cell (p:=⟨fg,fp+4,none⟩) mt).trans aZ,(mZ.cell (p:=⟨fg,fp+5,none⟩) mt).trans iO,(mZ.cell (p:=⟨fg,fp+6,none⟩) mt).trans BH,(mZ.cell (p:=⟨fg,fp+7,none⟩) mt).trans BG⟩
 have HP:=fX (fW hp (fW fa ml))
 have hlen:ns.length<=100:=by omega
 have iS:=fX (fW tyl (fW tym (fW tyn (fW az (fW oH (lB))))))
 clear tyl tym tyn az oH lB tU
 clear mi nG fh fM mG hp fa ml ih hN fd z0 bA bB bC e0 e1 rz sC iz AA BD mt tV aZ iO Bz BC lJ BA BH BG FA FC Fz
 go_enter Tryz.func17,Tryz.ntmps17
 go_wp2_with fail
 rw [<- mQ]
 clear mQ
 (with_reducible refine CH.out.mono ?_)
 rintro en w1 ⟨rfl,fA⟩
 have H1:=fX (fW fA (zzT H0.out.1 fA))
 clear fA CH
 go_wp2_with fail
 have CRK:=fX (fun wz (hz:Below w1.heap.size w1 wz)=>CKK.out wz (H1.out.2.trans (hz.mono (H1.out.2).size)))
 have hFK:Hid (∀ i,F i->i<w1.heap.size):=fun i h=>fC (HP.out.1.old i h) (H1.out.2).size
 refine jI (X:=Nat×Option Addr×Nat) (fun a x=>((((((((((a.put (some 131) (.agg #[.slice na ns.length nc,.slice ka ns.length kc])).put (some 132) (.slice (some ⟨fg,fp,none⟩) 4 qc)).put (some 133) (.pointer (some ⟨fg,fp+4,none⟩))).put (some 134) (.agg #[str s2,.slice a2 n2 c2])).put (some 135) (.tuple #[.agg #[.slice x.2.1 (k0).args.length x.2.2],.bool true])).put (some 130) (.tuple #[.agg #[.slice x.2.1 (k0).args.length x.2.2],.bool true])).put (some 136) (.agg #[.slice x.2.1 (k0).args.length x.2.2])).put (some 137) (.bool true)).put (some 18) (.pointer (some ⟨x.1,0,none⟩))).put (some 19) (.bool true))) (fun x w'=>z8 F w1 x.1 (.cells #[.slice x.2.1 (k0).args.length x.2.2] 43 (0,0)) [kg k0] [.slice x.2.1 (k0).args.length x.2.2] w') ?_ ?_
 ·refine wp_region_noPanic ?_
  refine zB (fun w'=>Below w1.heap.size w1 w') (fun _=>false) (by kernel_rfl) ?_
  have fF:(fun w'=>Below w1.heap.size w1 w') w1.drew:=Below.drew (fH _ _)
  refine tk [0,1,2,3] fF ?_
  (intro d hd;simp [tkD] at hd;subst hd;simp only [tks,pQ,pZ,pS])
  iterate 4 (refine ⟨?_,?_,?_⟩;rotate_left;· (intro oi ho;simp at ho;subst ho;refine Or.inl ⟨by rfl,fun w' fI=>?_⟩;obtain ⟨e0,e1,f1,h1,f2,h2,f3,h3⟩:=SX.out w' (H1.out.1.trans (fI.mono (H1.out.1).size));go_simp;try with_reducible rfl))
  refine k8 4 8 (by kernel_rfl) ?_ ?_
  ·(intro o4 ho K' hK;simp at ho;subst ho)
   go_simp
   go_at_call 34
   (with_reducible refine (CRK.out w1.drew fF).mono ?_)
   rintro en y1 ⟨xx,yy,rfl,hb,hr⟩
   have fR:Below w1.heap.size w1 y1:=fF.trans hb
   (refine hK.out _ _ (fun _=>fR) ?_;clear hK K';try simp only [pQ,pN,pZ,pS])
   refine tk [5,6,7] fR ?_
   (intro d hd;simp [tkD] at hd;subst hd;simp only [tks,pQ,pZ,pS])
   iterate 3 (refine ⟨?_,?_,?_⟩;rotate_left;· (intro oi ho;simp at ho;subst ho;refine Or.inl ⟨by rfl,fun w' fI=>?_⟩;go_simp;try with_reducible rfl))
   (refine on 8 ?_;intro o ho K' hK;simp at ho;subst ho;go_simp)
   (refine hK.out _ _ (fun _=>fR.alloc (fR).size _) ?_;clear hK K';try simp only [pQ,pN,pZ,pS])
   have bz:(y1.alloc (.cells #[.slice none 0 0] 43)).heap[y1.heap.size]? = some (.cells #[.slice none 0 0] 43 (0,0)):=zG _ _
   have sx:=(show _=some _ from by simp only [World.cell?,bz];rfl:(y1.alloc (.cells #[.slice none 0 0] 43)).cell? ⟨y1.heap.size,0,none⟩=some (.slice none 0 0))
   have sy:(y1.alloc (.cells #[.slice none 0 0] 43)).frozen? ⟨y1.heap.size,0,none⟩=false:=by simp only [World.frozen?,bz];rfl
   (refine on 9 ?_;intro o ho K' hK;simp at ho;subst ho;go_simp)
   (refine hK.out _ _ (fun _=>fR.alloc fR.size _) ?_;clear hK K';try simp only [pQ,pN,pZ,pS])
   (refine on 10 ?_;intro o ho K' hK;simp at ho;subst ho;go_simp)
   (refine hK.out _ _ (fun _=>fR.alloc fR.size _) ?_;clear hK K';try simp only [pQ,pN,pZ,pS])
   refine zU (by kernel_rfl) (NoPanic.normal ?_) _
   exact ⟨rfl,⟨y1.heap.size,xx,yy⟩,by rfl,z8.fresh fR (zX.one hr)⟩
  ·(intro o8 ho K' hK;simp at ho;subst ho)
   go_simp
   (refine hK.out _ _ (fun _=>fF.alloc (fP _) _) ?_;clear hK K';try simp only [pQ,pN,pZ,pS])
   (refine on 4 ?_;intro o ho K' hK;simp at ho;subst ho;go_simp)
   go_at_call 34
   have mL:Below w1.heap.size w1 (w1.alloc (.cells #[.slice none 0 0] 43)).drew:=fF.alloc (fP _) _
   (with_reducible refine (CRK.out _ mL).mono ?_)
   rintro en y1 ⟨xx,yy,rfl,hb,hr⟩
   have fR:Below w1.heap.size w1 y1:=zzT mL hb
   (refine hK.out _ _ (fun _=>fR) ?_;clear hK K';try simp only [pQ,pN,pZ,pS])
   refine tk [5,6,7] fR ?_
   (intro d hd;simp [tkD] at hd;subst hd;simp only [tks,pQ,pZ,pS])
   iterate 3 (refine ⟨?_,?_,?_⟩;rotate_left;· (intro oi ho;simp at ho;subst ho;refine Or.inl ⟨by rfl,fun w' fI=>?_⟩;go_simp;try with_reducible rfl))
   have bz:y1.heap[w1.heap.size]? = some (.cells #[.slice none 0 0] 43 (0,0)):=(hb.block _ (show _<_ from by simp)).trans (zG w1 (.cells #[.slice none 0 0] 43))
   have sx:=(show _=some _ from by simp only [World.cell?,bz];rfl:(y1).cell? ⟨w1.heap.size,0,none⟩=some (.slice none 0 0))
   have sy:(y1).frozen? ⟨w1.heap.size,0,none⟩=false:=by simp only [World.frozen?,bz];rfl
   (refine on 9 ?_;intro o ho K' hK;simp at ho;subst ho;go_simp)
   (refine hK.out _ _ (fun _=>(fR.setCell (p:=⟨w1.heap.size,0,none⟩) (fP _) _)) ?_;clear hK K';try simp only [pQ,pN,pZ,pS])
   (refine on 10 ?_;intro o ho K' hK;simp at ho;subst ho;go_simp)
   (refine hK.out _ _ (fun _=>(fR.setCell (p:=⟨w1.heap.size,0,none⟩) (fP _) _)) ?_;clear hK K';try simp only [pQ,pN,pZ,pS])
   refine zU (by kernel_rfl) (NoPanic.normal ?_) _
   exact ⟨rfl,⟨w1.heap.size,xx,yy⟩,by rfl,z8.first hFK.out mL (by simp) hb (zX.one hr) (but1 _ _ _) (by rw [zA bz];rfl)⟩
 rintro ⟨gk,xk,yk⟩ zk hR
 have Rk:Hid (z8 F w1 gk (.cells #[.slice xk (k0).args.length yk] 43 (0,0)) [kg k0] [.slice xk (k0).args.length yk] zk):=hR
 have iC:Hid (Below W0.heap.size W0 zk/\Below w.heap.size w zk):=⟨H1.out.1.trans (Rk.out.below.mono (H1.out.1).size),H1.out.2.trans (Rk.out.below.mono (H1.out.2).size)⟩
 have HLk:Hid (W0.heap.size<=w1.heap.size):=(H1.out.1).size
 clear hR CRK
 simp only [Act.put,List.setIfInBounds_toArray,List.set_cons_zero,List.set_cons_succ]
 go_wp2_with fail
 have CRl:=fX (fun wz (hz:Below zk.heap.size zk wz)=>Cl.out wz (iC.out.2.trans (hz.mono (iC.out.2).size)))
 have hFl:Hid (∀ i,F i->i<zk.heap.size):=fun i h=>fC (HP.out.1.old i h) (iC.out.2).size
 refine jI (X:=Nat×Bs×Int×Option Addr×Nat×Nat×Option Addr×Nat×Nat) (fun a x=>((((((((((a.put (some 139) (.agg #[.slice na ns.length nc,.slice ka ns.length kc])).put (some 140) (.slice (some ⟨fg,fp,none⟩) 4 qc)).put (some 141) (.pointer (some ⟨fg,fp+2,none⟩))).put (some 142) (.agg #[str s1,.slice a1 n1 c1])).put (some 143) (.tuple #[.agg #[str x.2.1,.int .i64 x.2.2.1,.slice x.2.2.2.1 x.2.2.2.2.1 x.2.2.2.2.2.1,.slice x.2.2.2.2.2.2.1 x.2.2.2.2.2.2.2.1 x.2.2.2.2.2.2.2.2],.bool ol.isSome])).put (some 138) (.tuple #[.agg #[str x.2.1,.int .i64 x.2.2.1,.slice x.2.2.2.1 x.2.2.2.2.1 x.2.2.2.2.2.1,.slice x.2.2.2.2.2.2.1 x.2.2.2.2.2.2.2.1 x.2.2.2.2.2.2.2.2],.bool ol.isSome])).put (some 144) (.agg #[str x.2.1,.int .i64 x.2.2.1,.slice x.2.2.2.1 x.2.2.2.2.1 x.2.2.2.2.2.1,.slice x.2.2.2.2.2.2.1 x.2.2.2.2.2.2.2.1 x.2.2.2.2.2.2.2.2])).put (some 145) (.bool ol.isSome)).put (some 20) (.pointer (some ⟨x.1,0,none⟩))).put (some 21) (.bool ol.isSome))) (fun x w'=>z8 F zk x.1 (.cells #[str x.2.1,.int .i64 x.2.2.1,.slice x.2.2.2.1 x.2.2.2.2.1 x.2.2.2.2.2.1,.slice x.2.2.2.2.2.2.1 x.2.2.2.2.2.2.2.1 x.2.2.2.2.2.2.2.2] 48 (0,0)) (dO ol) (vO ol [str x.2.1,.int .i64 x.2.2.1,.slice x.2.2.2.1 x.2.2.2.2.1 x.2.2.2.2.2.1,.slice x.2.2.2.2.2.2.1 x.2.2.2.2.2.2.2.1 x.2.2.2.2.2.2.2.2]) w') ?_ ?_
 ·refine wp_region_noPanic ?_
  refine zB (fun w'=>Below zk.heap.size zk w') (fun _=>false) (by kernel_rfl) ?_
  have fF:(fun w'=>Below zk.heap.size zk w') zk.drew:=Below.drew (fH _ _)
  refine tk [0,1,2,3] fF ?_
  (intro d hd;simp [tkD] at hd;subst hd;simp only [tks,pQ,pZ,pS])
  iterate 4 (refine ⟨?_,?_,?_⟩;rotate_left;· (intro oi ho;simp at ho;subst ho;refine Or.inl ⟨by rfl,fun w' fI=>?_⟩;obtain ⟨e0,e1,f1,h1,f2,h2,f3,h3⟩:=SX.out w' (iC.out.1.trans (fI.mono (iC.out.1).size));go_simp;try with_reducible rfl))
  refine k8 4 8 (by kernel_rfl) ?_ ?_
  ·(intro o4 ho K' hK;simp at ho;subst ho)
   go_simp
   go_at_call 17
   (with_reducible refine (CRl.out zk.drew fF).mono ?_)
   rintro en y1 ⟨ss,vv,aa,an,ac,ba,bn,bc,rfl,hb,hr⟩
   have fR:Below zk.heap.size zk y1:=fF.trans hb
   (refine hK.out _ _ (fun _=>fR) ?_;clear hK K';try simp only [pQ,pN,pZ,pS])
   refine tk [5,6,7] fR ?_
   (intro d hd;simp [tkD] at hd;subst hd;simp only [tks,pQ,pZ,pS])
   iterate 3 (refine ⟨?_,?_,?_⟩;rotate_left;· (intro oi ho;simp at ho;subst ho;refine Or.inl ⟨by rfl,fun w' fI=>?_⟩;go_simp;try with_reducible rfl))
   (refine on 8 ?_;intro o ho K' hK;simp at ho;subst ho;go_simp)
   (refine hK.out _ _ (fun _=>fR.alloc (fR).size _) ?_;clear hK K';try simp only [pQ,pN,pZ,pS])
   have bz:(y1.alloc (.cells #[str [],.int .i64 0,.slice none 0 0,.slice none 0 0] 48)).heap[y1.heap.size]? = some (.cells #[str [],.int .i64 0,.slice none 0 0,.slice none 0 0] 48 (0,0)):=zG _ _
   have sx:=(show _=some _ from by simp only [World.cell?,bz];rfl:(y1.alloc (.cells #[str [],.int .i64 0,.slice none 0 0,.slice none 0 0] 48)).cell? ⟨y1.heap.size,0,none⟩=some (str []))
   have sy:(y1.alloc (.cells #[str [],.int .i64 0,.slice none 0 0,.slice none 0 0] 48)).frozen? ⟨y1.heap.size,0,none⟩=false:=by simp only [World.frozen?,bz];rfl
   have Bw:=(show _=some _ from by simp only [World.cell?,bz];rfl:(y1.alloc (.cells #[str [],.int .i64 0,.slice none 0 0,.slice none 0 0] 48)).cell? ⟨y1.heap.size,1,none⟩=some (.int .i64 0))
   have og:(y1.alloc (.cells #[str [],.int .i64 0,.slice none 0 0,.slice none 0 0] 48)).frozen? ⟨y1.heap.size,1,none⟩=false:=by simp only [World.frozen?,bz];rfl
   have Bv:=(show _=some _ from by simp only [World.cell?,bz];rfl:(y1.alloc (.cells #[str [],.int .i64 0,.slice none 0 0,.slice none 0 0] 48)).cell? ⟨y1.heap.size,2,none⟩=some (.slice none 0 0))
   have Bt:(y1.alloc (.cells #[str [],.int .i64 0,.slice none 0 0,.slice none 0 0] 48)).frozen? ⟨y1.heap.size,2,none⟩=false:=by simp only [World.frozen?,bz];rfl
   have Bu:=(show _=some _ from by simp only [World.cell?,bz];rfl:(y1.alloc (.cells #[str [],.int .i64 0,.slice none 0 0,.slice none 0 0] 48)).cell? ⟨y1.heap.size,3,none⟩=some (.slice none 0 0))
   have Br:(y1.alloc (.cells #[str [],.int .i64 0,.slice none 0 0,.slice none 0 0] 48)).frozen? ⟨y1.heap.size,3,none⟩=false:=by simp only [World.frozen?,bz];rfl
   (refine on 9 ?_;intro o ho K' hK;simp at ho;subst ho;go_simp)
   (refine hK.out _ _ (fun _=>fR.alloc fR.size _) ?_;clear hK K';try simp only [pQ,pN,pZ,pS])
   (refine on 10 ?_;intro o ho K' hK;simp at ho;subst ho;go_simp)
   (refine hK.out _ _ (fun _=>fR.alloc fR.size _) ?_;clear hK K';try simp only [pQ,pN,pZ,pS])
   refine zU (by kernel_rfl) (NoPanic.normal ?_) _
   exact ⟨rfl,⟨y1.heap.size,ss,vv,aa,an,ac,ba,bn,bc⟩,by rfl,z8.fresh fR (repO hr)⟩
  ·(intro o8 ho K' hK;simp at ho;subst ho)
   go_simp
   (refine hK.out _ _ (fun _=>fF.alloc (fP _) _) ?_;clear hK K';try simp only [pQ,pN,pZ,pS])
   (refine on 4 ?_;intro o ho K' hK;simp at ho;subst ho;go_simp)
   go_at_call 17
   have mL:Below zk.heap.size zk (zk.alloc (.cells #[str [],.int .i64 0,.slice none 0 0,.slice none 0 0] 48)).drew:=fF.alloc (fP _) _
   (with_reducible refine (CRl.out _ mL).mono ?_)
   rintro en y1 ⟨ss,vv,aa,an,ac,ba,bn,bc,rfl,hb,hr⟩
   have fR:Below zk.heap.size zk y1:=zzT mL hb
   (refine hK.out _ _ (fun _=>fR) ?_;clear hK K';try simp only [pQ,pN,pZ,pS])
   refine tk [5,6,7] fR ?_
   (intro d hd;simp [tkD] at hd;subst hd;simp only [tks,pQ,pZ,pS])
   iterate 3 (refine ⟨?_,?_,?_⟩;rotate_left;· (intro oi ho;simp at ho;subst ho;refine Or.inl ⟨by rfl,fun w' fI=>?_⟩;go_simp;try with_reducible rfl))
   have bz:y1.heap[zk.heap.size]? = some (.cells #[str [],.int .i64 0,.slice none 0 0,.slice none 0 0] 48 (0,0)):=(hb.block _ (show _<_ from by simp)).trans (zG zk (.cells #[str [],.int .i64 0,.slice none 0 0,.slice none 0 0] 48))
   have sx:=(show _=some _ from by simp only [World.cell?,bz];rfl:(y1).cell? ⟨zk.heap.size,0,none⟩=some (str []))
   have sy:(y1).frozen? ⟨zk.heap.size,0,none⟩=false:=by simp only [World.frozen?,bz];rfl
   have Bw:=(show _=some _ from by simp only [World.cell?,bz];rfl:(y1).cell? ⟨zk.heap.size,1,none⟩=some (.int .i64 0))
   have og:(y1).frozen? ⟨zk.heap.size,1,none⟩=false:=by simp only [World.frozen?,bz];rfl
   have Bv:=(show _=some _ from by simp only [World.cell?,bz];rfl:(y1).cell? ⟨zk.heap.size,2,none⟩=some (.slice none 0 0))
   have Bt:(y1).frozen? ⟨zk.heap.size,2,none⟩=false:=by simp only [World.frozen?,bz];rfl
   have Bu:=(show _=some _ from by simp only [World.cell?,bz];rfl:(y1).cell? ⟨zk.heap.size,3,none⟩=some (.slice none 0 0))
   have Br:(y1).frozen? ⟨zk.heap.size,3,none⟩=false:=by simp only [World.frozen?,bz];rfl
   (refine on 9 ?_;intro o ho K' hK;simp at ho;subst ho;go_simp)
   (refine hK.out _ _ (fun _=>((((fR.setCell (p:=⟨zk.heap.size,0,none⟩) (fP _) _).setCell (p:=⟨zk.heap.size,1,none⟩) (fP _) _).setCell (p:=⟨zk.heap.size,2,none⟩) (fP _) _).setCell (p:=⟨zk.heap.size,3,none⟩) (fP _) _)) ?_;clear hK K';try simp only [pQ,pN,pZ,pS])
   (refine on 10 ?_;intro o ho K' hK;simp at ho;subst ho;go_simp)
   (refine hK.out _ _ (fun _=>((((fR.setCell (p:=⟨zk.heap.size,0,none⟩) (fP _) _).setCell (p:=⟨zk.heap.size,1,none⟩) (fP _) _).setCell (p:=⟨zk.heap.size,2,none⟩) (fP _) _).setCell (p:=⟨zk.heap.size,3,none⟩) (fP _) _)) ?_;clear hK K';try simp only [pQ,pN,pZ,pS])
   refine zU (by kernel_rfl) (NoPanic.normal ?_) _
   exact ⟨rfl,⟨zk.heap.size,ss,vv,aa,an,ac,ba,bn,bc⟩,by rfl,z8.first hFl.out mL (by simp) hb (repO hr) (but4 _ _ _ _ _ _) (by rw [zA (zA (zA (zA bz)))];rfl)⟩
 rintro ⟨gl,ssl,vvl,aal,anl,acl,bal,bnl,bcl⟩ zl hR
 have Rl:Hid (z8 F zk gl (.cells #[str ssl,.int .i64 vvl,.slice aal anl acl,.slice bal bnl bcl] 48 (0,0)) (dO ol) (vO ol [str ssl,.int .i64 vvl,.slice aal anl acl,.slice bal bnl bcl]) zl):=hR
 have ai:Hid (Below W0.heap.size W0 zl/\Below w.heap.size w zl):=⟨iC.out.1.trans (Rl.out.below.mono (iC.out.1).size),iC.out.2.trans (Rl.out.below.mono (iC.out.2).size)⟩
 have HLl:Hid (W0.heap.size<=zk.heap.size):=(iC.out.1).size
 clear hR CRl
 simp only [Act.put,List.setIfInBounds_toArray,List.set_cons_zero,List.set_cons_succ]
 go_wp2_with fail
 have CRm:=fX (fun wz (hz:Below zl.heap.size zl wz)=>Cm.out wz (ai.out.2.trans (hz.mono (ai.out.2).size)))
 have GE:Hid (∀ i,F i->i<zl.heap.size):=fun i h=>fC (HP.out.1.old i h) (ai.out.2).size
 refine jI (X:=Nat×Bs×Int×Option Addr×Nat×Nat×Option Addr×Nat×Nat) (fun a x=>((((((((((a.put (some 147) (.agg #[.slice na ns.length nc,.slice ka ns.length kc])).put (some 148) (.slice (some ⟨fg,fp,none⟩) 4 qc)).put (some 149) (.pointer (some ⟨fg,fp+4,none⟩))).put (some 150) (.agg #[str s2,.slice a2 n2 c2])).put (some 151) (.tuple #[.agg #[str x.2.1,.int .i64 x.2.2.1,.slice x.2.2.2.1 x.2.2.2.2.1 x.2.2.2.2.2.1,.slice x.2.2.2.2.2.2.1 x.2.2.2.2.2.2.2.1 x.2.2.2.2.2.2.2.2],.bool om.isSome])).put (some 146) (.tuple #[.agg #[str x.2.1,.int .i64 x.2.2.1,.slice x.2.2.2.1 x.2.2.2.2.1 x.2.2.2.2.2.1,.slice x.2.2.2.2.2.2.1 x.2.2.2.2.2.2.2.1 x.2.2.2.2.2.2.2.2],.bool om.isSome])).put (some 152) (.agg #[str x.2.1,.int .i64 x.2.2.1,.slice x.2.2.2.1 x.2.2.2.2.1 x.2.2.2.2.2.1,.slice x.2.2.2.2.2.2.1 x.2.2.2.2.2.2.2.1 x.2.2.2.2.2.2.2.2])).put (some 153) (.bool om.isSome)).put (some 22) (.pointer (some ⟨x.1,0,none⟩))).put (some 23) (.bool om.isSome))) (fun x w'=>z8 F zl x.1 (.cells #[str x.2.1,.int .i64 x.2.2.1,.slice x.2.2.2.1 x.2.2.2.2.1 x.2.2.2.2.2.1,.slice x.2.2.2.2.2.2.1 x.2.2.2.2.2.2.2.1 x.2.2.2.2.2.2.2.2] 48 (0,0)) (dO om) (vO om [str x.2.1,.int .i64 x.2.2.1,.slice x.2.2.2.1 x.2.2.2.2.1 x.2.2.2.2.2.1,.slice x.2.2.2.2.2.2.1 x.2.2.2.2.2.2.2.1 x.2.2.2.2.2.2.2.2]) w') ?_ ?_
 ·refine wp_region_noPanic ?_
  refine zB (fun w'=>Below zl.heap.size zl w') (fun _=>false) (by kernel_rfl) ?_
  have fF:(fun w'=>Below zl.heap.size zl w') zl.drew:=Below.drew (fH _ _)
  refine tk [0,1,2,3] fF ?_
  (intro d hd;simp [tkD] at hd;subst hd;simp only [tks,pQ,pZ,pS])
  iterate 4 (refine ⟨?_,?_,?_⟩;rotate_left;· (intro oi ho;simp at ho;subst ho;refine Or.inl ⟨by rfl,fun w' fI=>?_⟩;obtain ⟨e0,e1,f1,h1,f2,h2,f3,h3⟩:=SX.out w' (ai.out.1.trans (fI.mono (ai.out.1).size));go_simp;try with_reducible rfl))
  refine k8 4 8 (by kernel_rfl) ?_ ?_
  ·(intro o4 ho K' hK;simp at ho;subst ho)
   go_simp
   go_at_call 17
   (with_reducible refine (CRm.out zl.drew fF).mono ?_)
   rintro en y1 ⟨ss,vv,aa,an,ac,ba,bn,bc,rfl,hb,hr⟩
   have fR:Below zl.heap.size zl y1:=fF.trans hb
   (refine hK.out _ _ (fun _=>fR) ?_;clear hK K';try simp only [pQ,pN,pZ,pS])
   refine tk [5,6,7] fR ?_
   (intro d hd;simp [tkD] at hd;subst hd;simp only [tks,pQ,pZ,pS])
   iterate 3 (refine ⟨?_,?_,?_⟩;rotate_left;· (intro oi ho;simp at ho;subst ho;refine Or.inl ⟨by rfl,fun w' fI=>?_⟩;go_simp;try with_reducible rfl))
   (refine on 8 ?_;intro o ho K' hK;simp at ho;subst ho;go_simp)
   (refine hK.out _ _ (fun _=>fR.alloc (fR).size _) ?_;clear hK K';try simp only [pQ,pN,pZ,pS])
   have bz:(y1.alloc (.cells #[str [],.int .i64 0,.slice none 0 0,.slice none 0 0] 48)).heap[y1.heap.size]? = some (.cells #[str [],.int .i64 0,.slice none 0 0,.slice none 0 0] 48 (0,0)):=zG _ _
   have sx:=(show _=some _ from by simp only [World.cell?,bz];rfl:(y1.alloc (.cells #[str [],.int .i64 0,.slice none 0 0,.slice none 0 0] 48)).cell? ⟨y1.heap.size,0,none⟩=some (str []))
   have sy:(y1.alloc (.cells #[str [],.int .i64 0,.slice none 0 0,.slice none 0 0] 48)).frozen? ⟨y1.heap.size,0,none⟩=false:=by simp only [World.frozen?,bz];rfl
   have Bw:=(show _=some _ from by simp only [World.cell?,bz];rfl:(y1.alloc (.cells #[str [],.int .i64 0,.slice none 0 0,.slice none 0 0] 48)).cell? ⟨y1.heap.size,1,none⟩=some (.int .i64 0))
   have og:(y1.alloc (.cells #[str [],.int .i64 0,.slice none 0 0,.slice none 0 0] 48)).frozen? ⟨y1.heap.size,1,none⟩=false:=by simp only [World.frozen?,bz];rfl
   have Bv:=(show _=some _ from by simp only [World.cell?,bz];rfl:(y1.alloc (.cells #[str [],.int .i64 0,.slice none 0 0,.slice none 0 0] 48)).cell? ⟨y1.heap.size,2,none⟩=some (.slice none 0 0))
   have Bt:(y1.alloc (.cells #[str [],.int .i64 0,.slice none 0 0,.slice none 0 0] 48)).frozen? ⟨y1.heap.size,2,none⟩=false:=by simp only [World.frozen?,bz];rfl
   have Bu:=(show _=some _ from by simp only [World.cell?,bz];rfl:(y1.alloc (.cells #[str [],.int .i64 0,.slice none 0 0,.slice none 0 0] 48)).cell? ⟨y1.heap.size,3,none⟩=some (.slice none 0 0))
   have Br:(y1.alloc (.cells #[str [],.int .i64 0,.slice none 0 0,.slice none 0 0] 48)).frozen? ⟨y1.heap.size,3,none⟩=false:=by simp only [World.frozen?,bz];rfl
   (refine on 9 ?_;intro o ho K' hK;simp at ho;subst ho;go_simp)
   (refine hK.out _ _ (fun _=>fR.alloc fR.size _) ?_;clear hK K';try simp only [pQ,pN,pZ,pS])
   (refine on 10 ?_;intro o ho K' hK;simp at ho;subst ho;go_simp)
   (refine hK.out _ _ (fun _=>fR.alloc fR.size _) ?_;clear hK K';try simp only [pQ,pN,pZ,pS])
   refine zU (by kernel_rfl) (NoPanic.normal ?_) _
   exact ⟨rfl,⟨y1.heap.size,ss,vv,aa,an,ac,ba,bn,bc⟩,by rfl,z8.fresh fR (repO hr)⟩
  ·(intro o8 ho K' hK;simp at ho;subst ho)
   go_simp
   (refine hK.out _ _ (fun _=>fF.alloc (fP _) _) ?_;clear hK K';try simp only [pQ,pN,pZ,pS])
   (refine on 4 ?_;intro o ho K' hK;simp at ho;subst ho;go_simp)
   go_at_call 17
   have mL:Below zl.heap.size zl (zl.alloc (.cells #[str [],.int .i64 0,.slice none 0 0,.slice none 0 0] 48)).drew:=fF.alloc (fP _) _
   (with_reducible refine (CRm.out _ mL).mono ?_)
   rintro en y1 ⟨ss,vv,aa,an,ac,ba,bn,bc,rfl,hb,hr⟩
   have fR:Below zl.heap.size zl y1:=zzT mL hb
   (refine hK.out _ _ (fun _=>fR) ?_;clear hK K';try simp only [pQ,pN,pZ,pS])
   refine tk [5,6,7] fR ?_
   (intro d hd;simp [tkD] at hd;subst hd;simp only [tks,pQ,pZ,pS])
   iterate 3 (refine ⟨?_,?_,?_⟩;rotate_left;· (intro oi ho;simp at ho;subst ho;refine Or.inl ⟨by rfl,fun w' fI=>?_⟩;go_simp;try with_reducible rfl))
   have bz:y1.heap[zl.heap.size]? = some (.cells #[str [],.int .i64 0,.slice none 0 0,.slice none 0 0] 48 (0,0)):=(hb.block _ (show _<_ from by simp)).trans (zG zl (.cells #[str [],.int .i64 0,.slice none 0 0,.slice none 0 0] 48))
   have sx:=(show _=some _ from by simp only [World.cell?,bz];rfl:(y1).cell? ⟨zl.heap.size,0,none⟩=some (str []))
   have sy:(y1).frozen? ⟨zl.heap.size,0,none⟩=false:=by simp only [World.frozen?,bz];rfl
   have Bw:=(show _=some _ from by simp only [World.cell?,bz];rfl:(y1).cell? ⟨zl.heap.size,1,none⟩=some (.int .i64 0))
   have og:(y1).frozen? ⟨zl.heap.size,1,none⟩=false:=by simp only [World.frozen?,bz];rfl
   have Bv:=(show _=some _ from by simp only [World.cell?,bz];rfl:(y1).cell? ⟨zl.heap.size,2,none⟩=some (.slice none 0 0))
   have Bt:(y1).frozen? ⟨zl.heap.size,2,none⟩=false:=by simp only [World.frozen?,bz];rfl
   have Bu:=(show _=some _ from by simp only [World.cell?,bz];rfl:(y1).cell? ⟨zl.heap.size,3,none⟩=some (.slice none 0 0))
   have Br:(y1).frozen? ⟨zl.heap.size,3,none⟩=false:=by simp only [World.frozen?,bz];rfl
   (refine on 9 ?_;intro o ho K' hK;simp at ho;subst ho;go_simp)
   (refine hK.out _ _ (fun _=>((((fR.setCell (p:=⟨zl.heap.size,0,none⟩) (fP _) _).setCell (p:=⟨zl.heap.size,1,none⟩) (fP _) _).setCell (p:=⟨zl.heap.size,2,none⟩) (fP _) _).setCell (p:=⟨zl.heap.size,3,none⟩) (fP _) _)) ?_;clear hK K';try simp only [pQ,pN,pZ,pS])
   (refine on 10 ?_;intro o ho K' hK;simp at ho;subst ho;go_simp)
   (refine hK.out _ _ (fun _=>((((fR.setCell (p:=⟨zl.heap.size,0,none⟩) (fP _) _).setCell (p:=⟨zl.heap.size,1,none⟩) (fP _) _).setCell (p:=⟨zl.heap.size,2,none⟩) (fP _) _).setCell (p:=⟨zl.heap.size,3,none⟩) (fP _) _)) ?_;clear hK K';try simp only [pQ,pN,pZ,pS])
   refine zU (by kernel_rfl) (NoPanic.normal ?_) _
   exact ⟨rfl,⟨zl.heap.size,ss,vv,aa,an,ac,ba,bn,bc⟩,by rfl,z8.first GE.out mL (by simp) hb (repO hr) (but4 _ _ _ _ _ _) (by rw [zA (zA (zA (zA bz)))];rfl)⟩
 rintro ⟨gm,ssm,vvm,aam,anm,acm,bam,bnm,bcm⟩ zm hR
 have Rm:Hid (z8 F zl gm (.cells #[str ssm,.int .i64 vvm,.slice aam anm acm,.slice bam bnm bcm] 48 (0,0)) (dO om) (vO om [str ssm,.int .i64 vvm,.slice aam anm acm,.slice bam bnm bcm]) zm):=hR
 have nw:Hid (Below W0.heap.size W0 zm/\Below w.heap.size w zm):=⟨ai.out.1.trans (Rm.out.below.mono (ai.out.1).size),ai.out.2.trans (Rm.out.below.mono (ai.out.2).size)⟩
 have GR:Hid (W0.heap.size<=zl.heap.size):=(ai.out.1).size
 clear hR CRm
 simp only [Act.put,List.setIfInBounds_toArray,List.set_cons_zero,List.set_cons_succ]
 go_wp2_with fail
 have CRn:=fX (fun wz (hz:Below zm.heap.size zm wz)=>Cn.out wz (nw.out.2.trans (hz.mono (nw.out.2).size)))
 have DG:Hid (∀ i,F i->i<zm.heap.size):=fun i h=>fC (HP.out.1.old i h) (nw.out.2).size
 refine jI (X:=Nat×Bs×Int×Option Addr×Nat×Nat×Option Addr×Nat×Nat) (fun a x=>((((((((((a.put (some 155) (.agg #[.slice na ns.length nc,.slice ka ns.length kc])).put (some 156) (.slice (some ⟨fg,fp,none⟩) 4 qc)).put (some 157) (.pointer (some ⟨fg,fp+6,none⟩))).put (some 158) (.agg #[str s3,.slice a3 n3 c3])).put (some 159) (.tuple #[.agg #[str x.2.1,.int .i64 x.2.2.1,.slice x.2.2.2.1 x.2.2.2.2.1 x.2.2.2.2.2.1,.slice x.2.2.2.2.2.2.1 x.2.2.2.2.2.2.2.1 x.2.2.2.2.2.2.2.2],.bool oN.isSome])).put (some 154) (.tuple #[.agg #[str x.2.1,.int .i64 x.2.2.1,.slice x.2.2.2.1 x.2.2.2.2.1 x.2.2.2.2.2.1,.slice x.2.2.2.2.2.2.1 x.2.2.2.2.2.2.2.1 x.2.2.2.2.2.2.2.2],.bool oN.isSome])).put (some 160) (.agg #[str x.2.1,.int .i64 x.2.2.1,.slice x.2.2.2.1 x.2.2.2.2.1 x.2.2.2.2.2.1,.slice x.2.2.2.2.2.2.1 x.2.2.2.2.2.2.2.1 x.2.2.2.2.2.2.2.2])).put (some 161) (.bool oN.isSome)).put (some 24) (.pointer (some ⟨x.1,0,none⟩))).put (some 25) (.bool oN.isSome))) (fun x w'=>z8 F zm x.1 (.cells #[str x.2.1,.int .i64 x.2.2.1,.slice x.2.2.2.1 x.2.2.2.2.1 x.2.2.2.2.2.1,.slice x.2.2.2.2.2.2.1 x.2.2.2.2.2.2.2.1 x.2.2.2.2.2.2.2.2] 48 (0,0)) (dO oN) (vO oN [str x.2.1,.int .i64 x.2.2.1,.slice x.2.2.2.1 x.2.2.2.2.1 x.2.2.2.2.2.1,.slice x.2.2.2.2.2.2.1 x.2.2.2.2.2.2.2.1 x.2.2.2.2.2.2.2.2]) w') ?_ ?_
 ·refine wp_region_noPanic ?_
  refine zB (fun w'=>Below zm.heap.size zm w') (fun _=>false) (by kernel_rfl) ?_
  have fF:(fun w'=>Below zm.heap.size zm w') zm.drew:=Below.drew (fH _ _)
  refine tk [0,1,2,3] fF ?_
  (intro d hd;simp [tkD] at hd;subst hd;simp only [tks,pQ,pZ,pS])
  iterate 4 (refine ⟨?_,?_,?_⟩;rotate_left;· (intro oi ho;simp at ho;subst ho;refine Or.inl ⟨by rfl,fun w' fI=>?_⟩;obtain ⟨e0,e1,f1,h1,f2,h2,f3,h3⟩:=SX.out w' (nw.out.1.trans (fI.mono (nw.out.1).size));go_simp;try with_reducible rfl))
  refine k8 4 8 (by kernel_rfl) ?_ ?_
  ·(intro o4 ho K' hK;simp at ho;subst ho)
   go_simp
   go_at_call 17
   (with_reducible refine (CRn.out zm.drew fF).mono ?_)
   rintro en y1 ⟨ss,vv,aa,an,ac,ba,bn,bc,rfl,hb,hr⟩
   have fR:Below zm.heap.size zm y1:=fF.trans hb
   (refine hK.out _ _ (fun _=>fR) ?_;clear hK K';try simp only [pQ,pN,pZ,pS])
   refine tk [5,6,7] fR ?_
   (intro d hd;simp [tkD] at hd;subst hd;simp only [tks,pQ,pZ,pS])
   iterate 3 (refine ⟨?_,?_,?_⟩;rotate_left;· (intro oi ho;simp at ho;subst ho;refine Or.inl ⟨by rfl,fun w' fI=>?_⟩;go_simp;try with_reducible rfl))
   (refine on 8 ?_;intro o ho K' hK;simp at ho;subst ho;go_simp)
   (refine hK.out _ _ (fun _=>fR.alloc (fR).size _) ?_;clear hK K';try simp only [pQ,pN,pZ,pS])
   have bz:(y1.alloc (.cells #[str [],.int .i64 0,.slice none 0 0,.slice none 0 0] 48)).heap[y1.heap.size]? = some (.cells #[str [],.int .i64 0,.slice none 0 0,.slice none 0 0] 48 (0,0)):=zG _ _
   have sx:=(show _=some _ from by simp only [World.cell?,bz];rfl:(y1.alloc (.cells #[str [],.int .i64 0,.slice none 0 0,.slice none 0 0] 48)).cell? ⟨y1.heap.size,0,none⟩=some (str []))
   have sy:(y1.alloc (.cells #[str [],.int .i64 0,.slice none 0 0,.slice none 0 0] 48)).frozen? ⟨y1.heap.size,0,none⟩=false:=by simp only [World.frozen?,bz];rfl
   have Bw:=(show _=some _ from by simp only [World.cell?,bz];rfl:(y1.alloc (.cells #[str [],.int .i64 0,.slice none 0 0,.slice none 0 0] 48)).cell? ⟨y1.heap.size,1,none⟩=some (.int .i64 0))
   have og:(y1.alloc (.cells #[str [],.int .i64 0,.slice none 0 0,.slice none 0 0] 48)).frozen? ⟨y1.heap.size,1,none⟩=false:=by simp only [World.frozen?,bz];rfl
   have Bv:=(show _=some _ from by simp only [World.cell?,bz];rfl:(y1.alloc (.cells #[str [],.int .i64 0,.slice none 0 0,.slice none 0 0] 48)).cell? ⟨y1.heap.size,2,none⟩=some (.slice none 0 0))
   have Bt:(y1.alloc (.cells #[str [],.int .i64 0,.slice none 0 0,.slice none 0 0] 48)).frozen? ⟨y1.heap.size,2,none⟩=false:=by simp only [World.frozen?,bz];rfl
   have Bu:=(show _=some _ from by simp only [World.cell?,bz];rfl:(y1.alloc (.cells #[str [],.int .i64 0,.slice none 0 0,.slice none 0 0] 48)).cell? ⟨y1.heap.size,3,none⟩=some (.slice none 0 0))
   have Br:(y1.alloc (.cells #[str [],.int .i64 0,.slice none 0 0,.slice none 0 0] 48)).frozen? ⟨y1.heap.size,3,none⟩=false:=by simp only [World.frozen?,bz];rfl
   (refine on 9 ?_;intro o ho K' hK;simp at ho;subst ho;go_simp)
   (refine hK.out _ _ (fun _=>fR.alloc fR.size _) ?_;clear hK K';try simp only [pQ,pN,pZ,pS])
   (refine on 10 ?_;intro o ho K' hK;simp at ho;subst ho;go_simp)
   (refine hK.out _ _ (fun _=>fR.alloc fR.size _) ?_;clear hK K';try simp only [pQ,pN,pZ,pS])
   refine zU (by kernel_rfl) (NoPanic.normal ?_) _
   exact ⟨rfl,⟨y1.heap.size,ss,vv,aa,an,ac,ba,bn,bc⟩,by rfl,z8.fresh fR (repO hr)⟩
  ·(intro o8 ho K' hK;simp at ho;subst ho)
   go_simp
   (refine hK.out _ _ (fun _=>fF.alloc (fP _) _) ?_;clear hK K';try simp only [pQ,pN,pZ,pS])
   (refine on 4 ?_;intro o ho K' hK;simp at ho;subst ho;go_simp)
   go_at_call 17
   have mL:Below zm.heap.size zm (zm.alloc (.cells #[str [],.int .i64 0,.slice none 0 0,.slice none 0 0] 48)).drew:=fF.alloc (fP _) _
   (with_reducible refine (CRn.out _ mL).mono ?_)
   rintro en y1 ⟨ss,vv,aa,an,ac,ba,bn,bc,rfl,hb,hr⟩
   have fR:Below zm.heap.size zm y1:=zzT mL hb
   (refine hK.out _ _ (fun _=>fR) ?_;clear hK K';try simp only [pQ,pN,pZ,pS])
   refine tk [5,6,7] fR ?_
   (intro d hd;simp [tkD] at hd;subst hd;simp only [tks,pQ,pZ,pS])
   iterate 3 (refine ⟨?_,?_,?_⟩;rotate_left;· (intro oi ho;simp at ho;subst ho;refine Or.inl ⟨by rfl,fun w' fI=>?_⟩;go_simp;try with_reducible rfl))
   have bz:y1.heap[zm.heap.size]? = some (.cells #[str [],.int .i64 0,.slice none 0 0,.slice none 0 0] 48 (0,0)):=(hb.block _ (show _<_ from by simp)).trans (zG zm (.cells #[str [],.int .i64 0,.slice none 0 0,.slice none 0 0] 48))
   have sx:=(show _=some _ from by simp only [World.cell?,bz];rfl:(y1).cell? ⟨zm.heap.size,0,none⟩=some (str []))
   have sy:(y1).frozen? ⟨zm.heap.size,0,none⟩=false:=by simp only [World.frozen?,bz];rfl
   have Bw:=(show _=some _ from by simp only [World.cell?,bz];rfl:(y1).cell? ⟨zm.heap.size,1,none⟩=some (.int .i64 0))
   have og:(y1).frozen? ⟨zm.heap.size,1,none⟩=false:=by simp only [World.frozen?,bz];rfl
   have Bv:=(show _=some _ from by simp only [World.cell?,bz];rfl:(y1).cell? ⟨zm.heap.size,2,none⟩=some (.slice none 0 0))
   have Bt:(y1).frozen? ⟨zm.heap.size,2,none⟩=false:=by simp only [World.frozen?,bz];rfl
   have Bu:=(show _=some _ from by simp only [World.cell?,bz];rfl:(y1).cell? ⟨zm.heap.size,3,none⟩=some (.slice none 0 0))
   have Br:(y1).frozen? ⟨zm.heap.size,3,none⟩=false:=by simp only [World.frozen?,bz];rfl
   (refine on 9 ?_;intro o ho K' hK;simp at ho;subst ho;go_simp)
   (refine hK.out _ _ (fun _=>((((fR.setCell (p:=⟨zm.heap.size,0,none⟩) (fP _) _).setCell (p:=⟨zm.heap.size,1,none⟩) (fP _) _).setCell (p:=⟨zm.heap.size,2,none⟩) (fP _) _).setCell (p:=⟨zm.heap.size,3,none⟩) (fP _) _)) ?_;clear hK K';try simp only [pQ,pN,pZ,pS])
   (refine on 10 ?_;intro o ho K' hK;simp at ho;subst ho;go_simp)
   (refine hK.out _ _ (fun _=>((((fR.setCell (p:=⟨zm.heap.size,0,none⟩) (fP _) _).setCell (p:=⟨zm.heap.size,1,none⟩) (fP _) _).setCell (p:=⟨zm.heap.size,2,none⟩) (fP _) _).setCell (p:=⟨zm.heap.size,3,none⟩) (fP _) _)) ?_;clear hK K';try simp only [pQ,pN,pZ,pS])
   refine zU (by kernel_rfl) (NoPanic.normal ?_) _
   exact ⟨rfl,⟨zm.heap.size,ss,vv,aa,an,ac,ba,bn,bc⟩,by rfl,z8.first DG.out mL (by simp) hb (repO hr) (but4 _ _ _ _ _ _) (by rw [zA (zA (zA (zA bz)))];rfl)⟩
 rintro ⟨gn,ssn,vvn,aan,ann,acn,ban,bnn,bcn⟩ zn hR
 have Rn:Hid (z8 F zm gn (.cells #[str ssn,.int .i64 vvn,.slice aan ann acn,.slice ban bnn bcn] 48 (0,0)) (dO oN) (vO oN [str ssn,.int .i64 vvn,.slice aan ann acn,.slice ban bnn bcn]) zn):=hR
 have rH:Hid (Below W0.heap.size W0 zn/\Below w.heap.size w zn):=⟨nw.out.1.trans (Rn.out.below.mono (nw.out.1).size),nw.out.2.trans (Rn.out.below.mono (nw.out.2).size)⟩
 have GQ:Hid (W0.heap.size<=zm.heap.size):=(nw.out.1).size
 clear hR CRn
 simp only [Act.put,List.setIfInBounds_toArray,List.set_cons_zero,List.set_cons_succ]
 have Bk:zn.heap[gk]? = some (.cells #[.slice xk k0.args.length yk] 43 (0,0)):=(Rn.out.below.block _ (zZ ((Rm.out.below.block _ (zZ ((Rl.out.below.block _ (zZ (Rk.out.blk))).trans (Rk.out.blk)))).trans ((Rl.out.below.block _ (zZ (Rk.out.blk))).trans (Rk.out.blk))))).trans ((Rm.out.below.block _ (zZ ((Rl.out.below.block _ (zZ (Rk.out.blk))).trans (Rk.out.blk)))).trans ((Rl.out.below.block _ (zZ (Rk.out.blk))).trans (Rk.out.blk)))
 have Tk:Hid (Rep (fun i=>F i\/W0.heap.size<=i) zn (kg (k0)) (.slice xk (k0).args.length yk)):=Rep.below (F':=fun i=>F i\/W0.heap.size<=i) Rn.out.below (fun _ h=>h) (Rep.below (F':=fun i=>F i\/W0.heap.size<=i) Rm.out.below (fun _ h=>h) (Rep.below (F':=fun i=>F i\/W0.heap.size<=i) Rl.out.below (fun _ h=>h) ((zX.get1 Rk.out.rep).weak (G:=fun i=>F i\/W0.heap.size<=i) (fun i h=>h.1.elim .inl (fun h=>.inr (fD HLk.out h))))))
 have Bl:zn.heap[gl]? = some (.cells #[str ssl,.int .i64 vvl,.slice aal anl acl,.slice bal bnl bcl] 48 (0,0)):=(Rn.out.below.block _ (zZ ((Rm.out.below.block _ (zZ (Rl.out.blk))).trans (Rl.out.blk)))).trans ((Rm.out.below.block _ (zZ (Rl.out.blk))).trans (Rl.out.blk))
 have Tl:Hid (zX (fun i=>F i\/W0.heap.size<=i) zn (dO ol) (vO ol [str ssl,.int .i64 vvl,.slice aal anl acl,.slice bal bnl bcl])):=zX.below (F':=fun i=>F i\/W0.heap.size<=i) Rn.out.below (fun _ h=>h) (zX.below (F':=fun i=>F i\/W0.heap.size<=i) Rm.out.below (fun _ h=>h) ((Rl.out.rep.weakS (G:=fun i=>F i\/W0.heap.size<=i) (fun i h=>h.1.elim .inl (fun h=>.inr (fD HLl.out h))))))
 have Bm:zn.heap[gm]? = some (.cells #[str ssm,.int .i64 vvm,.slice aam anm acm,.slice bam bnm bcm] 48 (0,0)):=(Rn.out.below.block _ (zZ (Rm.out.blk))).trans (Rm.out.blk)
 have Tm:Hid (zX (fun i=>F i\/W0.heap.size<=i) zn (dO om) (vO om [str ssm,.int .i64 vvm,.slice aam anm acm,.slice bam bnm bcm])):=zX.below (F':=fun i=>F i\/W0.heap.size<=i) Rn.out.below (fun _ h=>h) ((Rm.out.rep.weakS (G:=fun i=>F i\/W0.heap.size<=i) (fun i h=>h.1.elim .inl (fun h=>.inr (fD GR.out h)))))
 have Bn:zn.heap[gn]? = some (.cells #[str ssn,.int .i64 vvn,.slice aan ann acn,.slice ban bnn bcn] 48 (0,0)):=Rn.out.blk
 have Tn:Hid (zX (fun i=>F i\/W0.heap.size<=i) zn (dO oN) (vO oN [str ssn,.int .i64 vvn,.slice aan ann acn,.slice ban bnn bcn])):=(Rn.out.rep.weakS (G:=fun i=>F i\/W0.heap.size<=i) (fun i h=>h.1.elim .inl (fun h=>.inr (fD GQ.out h))))
 have NRz:Hid (z9 (w.heap.size+1+1) 0 (.slice none 0 0) (.slice none 0 0) zn):=z9.below (B:=W0.heap.size) H0.out.2.2.2 rH.out.1 (zZ H0.out.2.2.2)
 clear Cl Cm Cn CKK
 cases ol with
 | none =>
   have mp:=fX (show zD ns (.ite l m n)=none by rw [zD,iS.out.2.2.2.1];rfl)
   obtain ⟨tx,aA,iI,Az,_,rff⟩:=NRz.out.cells
   have nJ:=rff 0;have nf:=rff 1;have rO:=rff 2;have tJ:=rff 3
   clear rff
   obtain ⟨q0,q1,q2,q3⟩:=kH Bl
   simp only [Option.isSome_none,Option.isSome_some]
   go_wp2_with fail
   obtain ⟨W,hW,mC,mY,mB,mE,fq,fc⟩:=z9.store (NRz.out) (str ssl) (.int .i64 vvl) (.slice aal anl acl) (.slice bal bnl bcl)
   rw [<- hW]
   refine bodyPost_ret (v:=.tuple #[.agg #[str ssl,.int .i64 vvl,.slice aal anl acl,.slice bal bnl bcl],.bool false]) (by simp [results,Tryz.results17,go_sem,mC,mY,mB,mE]) rfl ?_
   rw [mp.out]
   exact uq (o:=none) HP.out.1.old H0.out.1 H0.out.2.1 rH.out.1 (fun x hx=>by simp at hx) fq fc
 | some p =>
   cases om with
   | none =>
     have mp:=fX (show zD ns (.ite l m n)=none by rw [zD,iS.out.2.2.2.1,iS.out.2.2.2.2.1];rfl)
     obtain ⟨tx,aA,iI,Az,_,rff⟩:=NRz.out.cells
     have nJ:=rff 0;have nf:=rff 1;have rO:=rff 2;have tJ:=rff 3
     clear rff
     obtain ⟨q0,q1,q2,q3⟩:=kH Bl
     simp only [Option.isSome_none,Option.isSome_some]
     go_wp2_with fail
     obtain ⟨W,hW,mC,mY,mB,mE,fq,fc⟩:=z9.store (NRz.out) (str ssl) (.int .i64 vvl) (.slice aal anl acl) (.slice bal bnl bcl)
     rw [<- hW]
     refine bodyPost_ret (v:=.tuple #[.agg #[str ssl,.int .i64 vvl,.slice aal anl acl,.slice bal bnl bcl],.bool false]) (by simp [results,Tryz.results17,go_sem,mC,mY,mB,mE]) rfl ?_
     rw [mp.out]
     exact uq (o:=none) HP.out.1.old H0.out.1 H0.out.2.1 rH.out.1 (fun x hx=>by simp at hx) fq fc
   | some q =>
     cases oN with
     | none =>
       have mp:=fX (show zD ns (.ite l m n)=none by rw [zD,iS.out.2.2.2.1,iS.out.2.2.2.2.1,iS.out.2.2.2.2.2];rfl)
       obtain ⟨tx,aA,iI,Az,_,rff⟩:=NRz.out.cells
       have nJ:=rff 0;have nf:=rff 1;have rO:=rff 2;have tJ:=rff 3
       clear rff
       obtain ⟨q0,q1,q2,q3⟩:=kH Bl
       simp only [Option.isSome_none,Option.isSome_some]
       go_wp2_with fail
       obtain ⟨W,hW,mC,mY,mB,mE,fq,fc⟩:=z9.store (NRz.out) (str ssl) (.int .i64 vvl) (.slice aal anl acl) (.slice bal bnl bcl)
       rw [<- hW]
       refine bodyPost_ret (v:=.tuple #[.agg #[str ssl,.int .i64 vvl,.slice aal anl acl,.slice bal bnl bcl],.bool false]) (by simp [results,Tryz.results17,go_sem,mC,mY,mB,mE]) rfl ?_
       rw [mp.out]
       exact uq (o:=none) HP.out.1.old H0.out.1 H0.out.2.1 rH.out.1 (fun x hx=>by simp at hx) fq fc
     | some r =>
       have HE:=fX (show zD ns (.ite l m n)=vj (kz (zo p ns.length k0.args.length) q r) by rw [zD,iS.out.2.2.2.1,iS.out.2.2.2.2.1,iS.out.2.2.2.2.2,Option.bind_some,Option.bind_some,Option.bind_some,iS.out.2.1,Option.bind_some])
       obtain ⟨f1,Ie,mY⟩:=jR l ns _ p HP.out.2.1.1 HP.out.1.n15 iS.out.1 iS.out.2.2.2.1
       have mB:=jm _ _ _ iS.out.2.2.2.2.1
       have mE:=jm _ _ _ iS.out.2.2.2.2.2
       have Cd:=k9 m ns k0 HP.out.1.n15 iS.out.2.1
       have aB:=uT Cd
       have ru:lvB p:=fit_lvR 200 p (kinds ns++(Ty.mk []).args) mY f1 (fun t ht=>by
        rcases List.mem_append.1 ht with ht | ht
        ·exact HP.out.1.n15 t ht
        ·simp [Ty.args] at ht) (by rw [List.length_append,qL];simp [Ty.args];omega)
       have f7:zW (kz (zo p ns.length k0.args.length) q r)<=1000000:=by
        have h4:=xM (zo p ns.length k0.args.length) q r
        rw [yW] at h4
        have h5:zW p*(zW q+zW r)<=200*400:=Nat.mul_le_mul mY (by omega)
        omega
       have SHC:=fX (fun wz (hz:Below zn.heap.size zn wz)=>shift_any (zW p) (fun i=>i<zn.heap.size/\(F i\/W0.heap.size<=i)) p ns.length k0.args.length _ _ _ _ wz (fP _) (fun i h=>fC h.1 hz.size) (by omega) ru (by omega) (by omega) (zX.below (F':=(fun i=>i<zn.heap.size/\(F i\/W0.heap.size<=i))) hz (fun _ h=>h) ((Rep.keep fun i x h hx=>⟨⟨zZ hx,h⟩,hx⟩).2 _ _ Tl.out)))
       have GRC:Hid (∀ (A1:World) (E:Nat->Prop) (sq:Bs) (vq:Int) (aq:Option Addr) (nq cq:Nat) (bq:Option Addr) (mq dq:Nat),Below zn.heap.size zn A1->(∀ i,E i->i<A1.heap.size)->(∀ i,(i<zn.heap.size/\(F i\/W0.heap.size<=i))->E i)->zX E A1 (kR (zo p ns.length k0.args.length)) [str sq,.int .i64 vq,.slice aq nq cq,.slice bq mq dq] ->
        Calls Tryz.prog 42 #[.agg #[str sq,.int .i64 vq,.slice aq nq cq,.slice bq mq dq],.agg #[str ssm,.int .i64 vvm,.slice aam anm acm,.slice bam bnm bcm],.agg #[str ssn,.int .i64 vvn,.slice aan ann acn,.slice ban bnn bcn]] A1 (NdPost E A1 (kz (zo p ns.length k0.args.length) q r))):=by
        show ∀ _,_
        intro A1 E sq vq aq nq cq bq mq dq hz hE hFE hr
        exact graft_any _ E (zo p ns.length k0.args.length) q r _ _ _ _ _ _ _ _ _ _ _ _ A1 (fP _) hE (xd _ _ _ Ie) hr (zX.below hz hFE ((Rep.keep fun i x h hx=>⟨⟨zZ hx,h⟩,hx⟩).2 _ _ Tm.out)) (zX.below hz hFE ((Rep.keep fun i x h hx=>⟨⟨zZ hx,h⟩,hx⟩).2 _ _ Tn.out))
       have SY:Hid (∀ w',Below zn.heap.size zn w'->(w'.cell? ⟨gl,0,none⟩=some (str ssl)/\w'.cell? ⟨gl,1,none⟩=some (.int .i64 vvl)/\w'.cell? ⟨gl,2,none⟩=some (.slice aal anl acl)/\w'.cell? ⟨gl,3,none⟩=some (.slice bal bnl bcl))/\(w'.cell? ⟨gm,0,none⟩=some (str ssm)/\w'.cell? ⟨gm,1,none⟩=some (.int .i64 vvm)/\w'.cell? ⟨gm,2,none⟩=some (.slice aam anm acm)/\w'.cell? ⟨gm,3,none⟩=some (.slice bam bnm bcm))/\(w'.cell? ⟨gn,0,none⟩=some (str ssn)/\w'.cell? ⟨gn,1,none⟩=some (.int .i64 vvn)/\w'.cell? ⟨gn,2,none⟩=some (.slice aan ann acn)/\w'.cell? ⟨gn,3,none⟩=some (.slice ban bnn bcn))/\w'.cell? ⟨gk,0,none⟩=some (.slice xk k0.args.length yk)):=by
        show ∀ w',_->_
        intro w' h
        exact ⟨kH ((h.block _ (zZ Bl)).trans Bl),kH ((h.block _ (zZ Bm)).trans Bm),kH ((h.block _ (zZ Bn)).trans Bn),by simp only [World.cell?,(h.block _ (zZ Bk)).trans Bk];rfl⟩
       simp only [Option.isSome_some]
       clear f1 Ie mY mB mE Cd ru Bl Bm Bn Bk
       go_wp2_with fail
       refine jI (X:=Nat×Bs×Int×Option Addr×Nat×Nat×Option Addr×Nat×Nat×Bs×Int×Option Addr×Nat×Nat×Option Addr×Nat×Nat) (fun a x=>((((((((((a.put (some 173) (.agg #[str ssl,.int .i64 vvl,.slice aal anl acl,.slice bal bnl bcl])).put (some 174) (.int .i64 ((ns.length:Nat):Int))).put (some 175) (.pointer (some ⟨gk,0,none⟩))).put (some 176) (.slice xk k0.args.length yk)).put (some 177) (.int .i64 ((k0.args.length:Nat):Int))).put (some 178) (.agg #[str x.2.1,.int .i64 x.2.2.1,.slice x.2.2.2.1 x.2.2.2.2.1 x.2.2.2.2.2.1,.slice x.2.2.2.2.2.2.1 x.2.2.2.2.2.2.2.1 x.2.2.2.2.2.2.2.2.1])).put (some 179) (.agg #[str ssm,.int .i64 vvm,.slice aam anm acm,.slice bam bnm bcm])).put (some 180) (.agg #[str ssn,.int .i64 vvn,.slice aan ann acn,.slice ban bnn bcn])).put (some 181) (.agg #[str x.2.2.2.2.2.2.2.2.2.1,.int .i64 x.2.2.2.2.2.2.2.2.2.2.1,.slice x.2.2.2.2.2.2.2.2.2.2.2.1 x.2.2.2.2.2.2.2.2.2.2.2.2.1 x.2.2.2.2.2.2.2.2.2.2.2.2.2.1,.slice x.2.2.2.2.2.2.2.2.2.2.2.2.2.2.1 x.2.2.2.2.2.2.2.2.2.2.2.2.2.2.2.1 x.2.2.2.2.2.2.2.2.2.2.2.2.2.2.2.2])).put (some 26) (.pointer (some ⟨x.1,0,none⟩)))) (fun x w'=>z8 (fun i=>i<zn.heap.size/\(F i\/W0.heap.size<=i)) zn x.1 (.cells #[str x.2.2.2.2.2.2.2.2.2.1,.int .i64 x.2.2.2.2.2.2.2.2.2.2.1,.slice x.2.2.2.2.2.2.2.2.2.2.2.1 x.2.2.2.2.2.2.2.2.2.2.2.2.1 x.2.2.2.2.2.2.2.2.2.2.2.2.2.1,.slice x.2.2.2.2.2.2.2.2.2.2.2.2.2.2.1 x.2.2.2.2.2.2.2.2.2.2.2.2.2.2.2.1 x.2.2.2.2.2.2.2.2.2.2.2.2.2.2.2.2] 48 (0,0)) (kR (kz (zo p ns.length k0.args.length) q r)) [str x.2.2.2.2.2.2.2.2.2.1,.int .i64 x.2.2.2.2.2.2.2.2.2.2.1,.slice x.2.2.2.2.2.2.2.2.2.2.2.1 x.2.2.2.2.2.2.2.2.2.2.2.2.1 x.2.2.2.2.2.2.2.2.2.2.2.2.2.1,.slice x.2.2.2.2.2.2.2.2.2.2.2.2.2.2.1 x.2.2.2.2.2.2.2.2.2.2.2.2.2.2.2.1 x.2.2.2.2.2.2.2.2.2.2.2.2.2.2.2.2] w') ?_ ?_
       ·refine wp_region_noPanic ?_
        refine zB (fun w'=>Below zn.heap.size zn w') (fun _=>false) (by kernel_rfl) ?_
        have fF:(fun w'=>Below zn.heap.size zn w') zn.drew:=Below.drew (fH _ _)
        refine tk [0,1,2,3,4,6,7] fF ?_
        (intro d hd;simp [tkD] at hd;subst hd;simp only [tks,pQ,pZ,pS])
        iterate 7 (refine ⟨?_,?_,?_⟩;rotate_left;· (intro oi ho;simp at ho;subst ho;refine Or.inl ⟨by rfl,fun w' fI=>?_⟩;obtain ⟨⟨l0,l1,l2,l3⟩,⟨m0,m1,m2,m3⟩,⟨n0,n1,n2,n3⟩,c0⟩:=SY.out w' fI;go_simp;try with_reducible rfl))
        refine k8 5 9 (by kernel_rfl) ?_ ?_
        ·(intro o5 ho K' hK;simp at ho;subst ho)
         go_simp
         go_at_call 43
         (with_reducible refine (SHC.out _ fF).mono ?_)
         rintro en y1 ⟨sq,vq,aq,nq,cq,bq,mq,dq,rfl,f_,hqr⟩
         have fR:Below zn.heap.size zn y1:=fF.trans (f_.mono (fF).size)
         (refine hK.out _ _ (fun _=>fR) ?_;clear hK K';try simp only [pQ,pN,pZ,pS])
         have hq1:zX (fun i=>((i<zn.heap.size/\(F i\/W0.heap.size<=i))\/zn.heap.size<=i)/\i<y1.heap.size) y1 (kR (zo p ns.length k0.args.length)) [str sq,.int .i64 vq,.slice aq nq cq,.slice bq mq dq]:=(Rep.keep fun i x hi hx=>⟨⟨hi,zZ hx⟩,hx⟩).2 _ _ hqr
         refine k8 8 9 (by kernel_rfl) ?_ ?_
         ·have Bb:=GRC.out y1 (fun i=>((i<zn.heap.size/\(F i\/W0.heap.size<=i))\/zn.heap.size<=i)/\i<y1.heap.size) sq vq aq nq cq bq mq dq fR (fun i h=>h.2) (fun i h=>⟨.inl h,fC h.1 fR.size⟩) hq1
          (intro o8 ho K' hK;simp at ho;subst ho)
          go_simp
          go_at_call 42
          (with_reducible refine Bb.mono ?_)
          rintro en y2 ⟨sr,vr,ar,nr,cr,br,mr,dr,rfl,hbk,mz⟩
          have nL:Below zn.heap.size zn y2:=zzT fR hbk
          (refine hK.out _ _ (fun _=>nL) ?_;clear hK K';try simp only [pQ,pN,pZ,pS])
          (refine on 9 ?_;intro o ho K' hK;simp at ho;subst ho;go_simp)
          (refine hK.out _ _ (fun _=>nL.alloc nL.size _) ?_;clear hK K';try simp only [pQ,pN,pZ,pS])
          (refine on 10 ?_;intro o ho K' hK;simp at ho;subst ho;go_simp)
          (refine hK.out _ _ (fun _=>nL.alloc nL.size _) ?_;clear hK K';try simp only [pQ,pN,pZ,pS])
          refine zU (by kernel_rfl) (NoPanic.normal ?_) _
          exact ⟨rfl,⟨y2.heap.size,sq,vq,aq,nq,cq,bq,mq,dq,sr,vr,ar,nr,cr,br,mr,dr⟩,by rfl,z8.fresh nL (mz.weakS fun i h=>by rcases h with h | h;exact h.1;exact .inr (fD fR.size h))⟩
         ·(intro o9 ho K' hK;simp at ho;subst ho)
          go_simp
          (refine hK.out _ _ (fun _=>fR.alloc fR.size _) ?_;clear hK K';try simp only [pQ,pN,pZ,pS])
          have hA:Below zn.heap.size zn (y1.alloc (.cells #[str [],.int .i64 0,.slice none 0 0,.slice none 0 0] 48)):=fR.alloc fR.size _
          have lz:(y1.alloc (.cells #[str [],.int .i64 0,.slice none 0 0,.slice none 0 0] 48)).heap.size=y1.heap.size+1:=by simp
          have GI:(y1.alloc (.cells #[str [],.int .i64 0,.slice none 0 0,.slice none 0 0] 48)).heap[y1.heap.size]? = some (.cells #[str [],.int .i64 0,.slice none 0 0,.slice none 0 0] 48 (0,0)):=zG _ _
          have I5:zX (fun i=>((i<zn.heap.size/\(F i\/W0.heap.size<=i))\/zn.heap.size<=i)/\i<y1.heap.size) (y1.alloc (.cells #[str [],.int .i64 0,.slice none 0 0,.slice none 0 0] 48)) (kR (zo p ns.length k0.args.length)) [str sq,.int .i64 vq,.slice aq nq cq,.slice bq mq dq]:=(Rep.keep fun i x hi hx=>⟨hi,zY hx⟩).2 _ _ hq1
          have Bb:=GRC.out (y1.alloc (.cells #[str [],.int .i64 0,.slice none 0 0,.slice none 0 0] 48)) (fun i=>((i<zn.heap.size/\(F i\/W0.heap.size<=i))\/zn.heap.size<=i)/\i<y1.heap.size) sq vq aq nq cq bq mq dq hA (fun i h=>by rw [lz];have:=h.2;omega) (fun i h=>⟨.inl h,fC h.1 fR.size⟩) I5
          (refine on 8 ?_;intro o ho K' hK;simp at ho;subst ho;go_simp)
          go_at_call 42
          (with_reducible refine Bb.mono ?_)
          rintro en y2 ⟨sr,vr,ar,nr,cr,br,mr,dr,rfl,hbk,mz⟩
          have nL:Below zn.heap.size zn y2:=zzT hA hbk
          have bz:y2.heap[y1.heap.size]? = some (.cells #[str [],.int .i64 0,.slice none 0 0,.slice none 0 0] 48 (0,0)):=(hbk.block _ (by rw [lz];omega)).trans GI
          (refine hK.out _ _ (fun _=>nL) ?_;clear hK K';try simp only [pQ,pN,pZ,pS])
          have sx:(y2).cell? ⟨y1.heap.size,0,none⟩=some (str []):=by simp only [World.cell?,bz];rfl
          have sy:(y2).frozen? ⟨y1.heap.size,0,none⟩=false:=by simp only [World.frozen?,bz];rfl
          have Bw:(y2).cell? ⟨y1.heap.size,1,none⟩=some (.int .i64 0):=by simp only [World.cell?,bz];rfl
          have og:(y2).frozen? ⟨y1.heap.size,1,none⟩=false:=by simp only [World.frozen?,bz];rfl
          have Bv:(y2).cell? ⟨y1.heap.size,2,none⟩=some (.slice none 0 0):=by simp only [World.cell?,bz];rfl
          have Bt:(y2).frozen? ⟨y1.heap.size,2,none⟩=false:=by simp only [World.frozen?,bz];rfl
          have Bu:(y2).cell? ⟨y1.heap.size,3,none⟩=some (.slice none 0 0):=by simp only [World.cell?,bz];rfl
          have Br:(y2).frozen? ⟨y1.heap.size,3,none⟩=false:=by simp only [World.frozen?,bz];rfl
          (refine on 10 ?_;intro o ho K' hK;simp at ho;subst ho;go_simp)
          (refine hK.out _ _ (fun _=>((((nL.setCell (p:=⟨y1.heap.size,0,none⟩) fR.size _).setCell (p:=⟨y1.heap.size,1,none⟩) fR.size _).setCell (p:=⟨y1.heap.size,2,none⟩) fR.size _).setCell (p:=⟨y1.heap.size,3,none⟩) fR.size _)) ?_;clear hK K';try simp only [pQ,pN,pZ,pS])
          refine zU (by kernel_rfl) (NoPanic.normal ?_) _
          exact ⟨rfl,⟨y1.heap.size,sq,vq,aq,nq,cq,bq,mq,dq,sr,vr,ar,nr,cr,br,mr,dr⟩,by rfl,((((nL.setCell (p:=⟨y1.heap.size,0,none⟩) fR.size _).setCell (p:=⟨y1.heap.size,1,none⟩) fR.size _).setCell (p:=⟨y1.heap.size,2,none⟩) fR.size _).setCell (p:=⟨y1.heap.size,3,none⟩) fR.size _),fR.size,(by rw [zA (zA (zA (zA bz)))];rfl),(Rep.keep fun i x hi hx=>by
           have hne:i≠y1.heap.size:=by rcases hi with h | h;have:=h.2;omega;rw [lz] at h;omega
           exact ⟨⟨by rcases hi with h | h;exact h.1;exact .inr (fD hA.size h),hne⟩,by rw [(but4 _ _ _ _ _ _).block i (zZ hx) hne];exact hx⟩).2 _ _ mz⟩
        ·(intro o9 ho K' hK;simp at ho;subst ho)
         go_simp
         (refine hK.out _ _ (fun _=>fF.alloc (fP _) _) ?_;clear hK K';try simp only [pQ,pN,pZ,pS])
         have hA:Below zn.heap.size zn (zn.alloc (.cells #[str [],.int .i64 0,.slice none 0 0,.slice none 0 0] 48)).drew:=fF.alloc (fP _) _
         have lz:(zn.alloc (.cells #[str [],.int .i64 0,.slice none 0 0,.slice none 0 0] 48)).drew.heap.size=zn.heap.size+1:=by simp
         (refine on 5 ?_;intro o ho K' hK;simp at ho;subst ho;go_simp)
         go_at_call 43
         (with_reducible refine (SHC.out _ hA).mono ?_)
         rintro en y1 ⟨sq,vq,aq,nq,cq,bq,mq,dq,rfl,f_,hqr⟩
         have fR:Below zn.heap.size zn y1:=hA.trans (f_.mono (hA).size)
         have GI:y1.heap[zn.heap.size]? = some (.cells #[str [],.int .i64 0,.slice none 0 0,.slice none 0 0] 48 (0,0)):=(f_.block _ (by rw [lz];omega)).trans (zG zn (.cells #[str [],.int .i64 0,.slice none 0 0,.slice none 0 0] 48))
         have ly1:zn.heap.size+1<=y1.heap.size:=by have:=f_.size;rw [lz] at this;exact this
         (refine hK.out _ _ (fun _=>fR) ?_;clear hK K';try simp only [pQ,pN,pZ,pS])
         have I5:zX (fun i=>((i<zn.heap.size/\(F i\/W0.heap.size<=i))\/zn.heap.size+1<=i)/\i<y1.heap.size) y1 (kR (zo p ns.length k0.args.length)) [str sq,.int .i64 vq,.slice aq nq cq,.slice bq mq dq]:=(Rep.keep fun i x hi hx=>⟨⟨hi.elim .inl (fun h=>.inr (by rw [lz] at h;exact h)),zZ hx⟩,hx⟩).2 _ _ hqr
         have Bb:=GRC.out y1 (fun i=>((i<zn.heap.size/\(F i\/W0.heap.size<=i))\/zn.heap.size+1<=i)/\i<y1.heap.size) sq vq aq nq cq bq mq dq fR (fun i h=>h.2) (fun i h=>⟨.inl h,fC h.1 fR.size⟩) I5
         (refine on 8 ?_;intro o ho K' hK;simp at ho;subst ho;go_simp)
         go_at_call 42
         (with_reducible refine Bb.mono ?_)
         rintro en y2 ⟨sr,vr,ar,nr,cr,br,mr,dr,rfl,hbk,mz⟩
         have nL:Below zn.heap.size zn y2:=zzT fR hbk
         have bz:y2.heap[zn.heap.size]? = some (.cells #[str [],.int .i64 0,.slice none 0 0,.slice none 0 0] 48 (0,0)):=(hbk.block _ (by omega)).trans GI
         (refine hK.out _ _ (fun _=>nL) ?_;clear hK K';try simp only [pQ,pN,pZ,pS])
         have sx:(y2).cell? ⟨zn.heap.size,0,none⟩=some (str []):=by simp only [World.cell?,bz];rfl
         have sy:(y2).frozen? ⟨zn.heap.size,0,none⟩=false:=by simp only [World.frozen?,bz];rfl
         have Bw:(y2).cell? ⟨zn.heap.size,1,none⟩=some (.int .i64 0):=by simp only [World.cell?,bz];rfl
         have og:(y2).frozen? ⟨zn.heap.size,1,none⟩=false:=by simp only [World.frozen?,bz];rfl
         have Bv:(y2).cell? ⟨zn.heap.size,2,none⟩=some (.slice none 0 0):=by simp only [World.cell?,bz];rfl
         have Bt:(y2).frozen? ⟨zn.heap.size,2,none⟩=false:=by simp only [World.frozen?,bz];rfl
         have Bu:(y2).cell? ⟨zn.heap.size,3,none⟩=some (.slice none 0 0):=by simp only [World.cell?,bz];rfl
         have Br:(y2).frozen? ⟨zn.heap.size,3,none⟩=false:=by simp only [World.frozen?,bz];rfl
         (refine on 10 ?_;intro o ho K' hK;simp at ho;subst ho;go_simp)
         (refine hK.out _ _ (fun _=>((((nL.setCell (p:=⟨zn.heap.size,0,none⟩) (fP _) _).setCell (p:=⟨zn.heap.size,1,none⟩) (fP _) _).setCell (p:=⟨zn.heap.size,2,none⟩) (fP _) _).setCell (p:=⟨zn.heap.size,3,none⟩) (fP _) _)) ?_;clear hK K';try simp only [pQ,pN,pZ,pS])
         refine zU (by kernel_rfl) (NoPanic.normal ?_) _
         exact ⟨rfl,⟨zn.heap.size,sq,vq,aq,nq,cq,bq,mq,dq,sr,vr,ar,nr,cr,br,mr,dr⟩,by rfl,((((nL.setCell (p:=⟨zn.heap.size,0,none⟩) (fP _) _).setCell (p:=⟨zn.heap.size,1,none⟩) (fP _) _).setCell (p:=⟨zn.heap.size,2,none⟩) (fP _) _).setCell (p:=⟨zn.heap.size,3,none⟩) (fP _) _),fP _,(by rw [zA (zA (zA (zA bz)))];rfl),(Rep.keep fun i x hi hx=>by
          have hne:i≠zn.heap.size:=by rcases hi with h | h;rcases h.1 with h1 | h1;have:=h1.1;omega;omega;omega
          exact ⟨⟨by rcases hi with h | h;rcases h.1 with h1 | h1;exact .inl h1;exact .inr (by omega);exact .inr (by omega),hne⟩,by rw [(but4 _ _ _ _ _ _).block i (zZ hx) hne];exact hx⟩).2 _ _ mz⟩
       rintro ⟨gq,sq,vq,aq,nq,cq,bq,mq,dq,sr,vr,ar,nr,cr,br,mr,dr⟩ Y hR
       have R:Hid (z8 (fun i=>i<zn.heap.size/\(F i\/W0.heap.size<=i)) zn gq (.cells #[str sr,.int .i64 vr,.slice ar nr cr,.slice br mr dr] 48 (0,0)) (kR (kz (zo p ns.length k0.args.length) q r)) [str sr,.int .i64 vr,.slice ar nr cr,.slice br mr dr] Y):=hR
       have gB:Y.heap[gq]? = some (.cells #[str sr,.int .i64 vr,.slice ar nr cr,.slice br mr dr] 48 (0,0)):=R.out.blk
       have i_:Hid (Below W0.heap.size W0 Y):=zzT rH.out.1 R.out.below
       have GO:Hid (zX (fun i=>F i\/W0.heap.size<=i) Y (kR (kz (zo p ns.length k0.args.length) q r)) [str sr,.int .i64 vr,.slice ar nr cr,.slice br mr dr]):=R.out.rep.weakS fun i h=>by
        rcases h.1 with h1 | h1
        ·exact h1.2
        ·exact .inr (fD rH.out.1.size h1)
       have NRY:Hid (z9 (w.heap.size+1+1) 0 (.slice none 0 0) (.slice none 0 0) Y):=z9.below (B:=W0.heap.size) H0.out.2.2.2 i_.out (zZ H0.out.2.2.2)
       have gne:gq≠w.heap.size+1+1:=by have:=R.out.new;have:=rH.out.1.size;have:=H0.out.2.1;omega
       clear hR SHC GRC SY
       simp only [Act.put,List.setIfInBounds_toArray,List.set_cons_zero,List.set_cons_succ]
       go_wp2_with fail
       have CS:=fX (fun wz (h:Below Y.heap.size Y wz)=>gr 1000000 (kz (zo p ns.length k0.args.length) q r) f7 (by unfold Lim;omega) _ wz _ _ _ _ _ _ _ _ (zX.below (F':=fun i=>F i\/W0.heap.size<=i) h (fun _ h=>h) (GO.out)))
       have GM:=fX (show zW (kz (zo p ns.length k0.args.length) q r)<=1000000 from f7)
       obtain ⟨SZ,Gw⟩:=zzM (zW (kz (zo p ns.length k0.args.length) q r))
       rw [<- Gw] at CS GM
       have KV:=fX Gw
       clear Gw
       by_cases rI:SZ<=200
       ·have h1:decide (((SZ:Nat):Int)<=200)=true:=decide_eq_true (by omega)
        have mp:=fX (show zD ns (.ite l m n)=some (kz (zo p ns.length k0.args.length) q r) by rw [HE.out,h_ (by rw [<- KV.out];exact rI)])
        clear rI
        refine wp_region_noPanic ?_
        refine zB (fun w'=>w'.heap[gq]? = some (.cells #[str sr,.int .i64 vr,.slice ar nr cr,.slice br mr dr] 48 (0,0))) (fun _=>false) (by kernel_rfl) ?_
        have fF:(fun w'=>w'.heap[gq]? = some (.cells #[str sr,.int .i64 vr,.slice ar nr cr,.slice br mr dr] 48 (0,0))) Y.drew:=gB
        refine tk [0,1] fF ?_
        (intro d hd;simp [tkD] at hd;subst hd;simp only [tks,pQ,pZ,pS])
        iterate 2 (refine ⟨?_,?_,?_⟩;rotate_left;· (intro oi ho;simp at ho;subst ho;refine Or.inl ⟨by rfl,fun w' fI=>?_⟩;obtain ⟨e0,e1,e2,e3⟩:=kH fI;go_simp;try with_reducible rfl))
        (refine on 2 ?_;intro o ho K' hK;simp at ho;subst ho;go_simp)
        go_at_call 36
        (with_reducible refine (CS.out _ (Below.drew (fH Y.heap.size Y))).mono ?_)
        rintro en x1 ⟨rfl,hb⟩
        have r7:Hid (Below Y.heap.size Y x1):=(Below.drew (fH Y.heap.size Y)).trans hb
        clear hb
        (refine hK.out _ _ (fun _=>(r7.out.block _ (zZ gB)).trans gB) ?_;clear hK K';try simp only [pQ,pN,pZ,pS])
        have rF:=(r7.out.block _ (zZ gB)).trans gB
        have Ax:Hid (z9 (w.heap.size+1+1) 0 (.slice none 0 0) (.slice none 0 0) x1):=z9.below NRY.out r7.out (zZ NRY.out)
        obtain ⟨tx,aA,iI,Az,_,rff⟩:=Ax.out.cells
        have nJ:=rff 0;have nf:=rff 1;have rO:=rff 2;have tJ:=rff 3
        clear rff
        refine tk [3] rF ?_
        (intro d hd;simp [tkD] at hd;subst hd;simp only [tks,pQ,pZ,pS])
        (refine ⟨?_,?_,?_⟩;rotate_left;· (intro oi ho;simp at ho;subst ho;refine Or.inl ⟨by rfl,fun w' fI=>?_⟩;go_simp;try with_reducible rfl))
        (refine on 4 ?_;intro o ho K' hK;simp at ho;subst ho;go_simp)
        (refine hK.out _ _ (fun _=>uM rF gne _ _ _ _) ?_;clear hK K';try simp only [pQ,pN,pZ,pS])
        (refine on 5 ?_;intro o ho K' hK;simp at ho;subst ho;go_simp)
        (refine hK.out _ _ (fun _=>uM rF gne _ _ _ _) ?_;clear hK K';try simp only [pQ,pN,pZ,pS])
        refine zU (by kernel_rfl) (NoPanic.normal ?_) _
        go_wp2_with fail
        obtain ⟨W,hW,mC,mY,mB,mE,fq,fc⟩:=z9.store (Ax.out) (str sr) (.int .i64 vr) (.slice ar nr cr) (.slice br mr dr)
        rw [<- hW]
        refine bodyPost_ret (v:=.tuple #[.agg #[str sr,.int .i64 vr,.slice ar nr cr,.slice br mr dr],.bool true]) (by simp [results,Tryz.results17,go_sem,mC,mY,mB,mE]) rfl ?_
        rw [mp.out]
        exact uq (o:=some (kz (zo p ns.length k0.args.length) q r)) HP.out.1.old H0.out.1 H0.out.2.1 (i_.out.trans (r7.out.mono (i_.out).size)) (fun x hx=>by obtain rfl:=Option.some.inj hx;exact zX.below (F':=fun i=>F i\/W0.heap.size<=i) r7.out (fun _ h=>h) (GO.out)) fq fc
       ·have h1:decide (((SZ:Nat):Int)<=200)=false:=decide_eq_false (by omega)
        have mp:=fX (show zD ns (.ite l m n)=none by rw [HE.out];unfold vj;rw [if_neg (by rw [<- KV.out];exact rI)])
        clear rI
        refine wp_region_noPanic ?_
        refine zB (fun w'=>w'.heap[gq]? = some (.cells #[str sr,.int .i64 vr,.slice ar nr cr,.slice br mr dr] 48 (0,0))) (fun _=>false) (by kernel_rfl) ?_
        have fF:(fun w'=>w'.heap[gq]? = some (.cells #[str sr,.int .i64 vr,.slice ar nr cr,.slice br mr dr] 48 (0,0))) Y.drew:=gB
        refine tk [0,1] fF ?_
        (intro d hd;simp [tkD] at hd;subst hd;simp only [tks,pQ,pZ,pS])
        iterate 2 (refine ⟨?_,?_,?_⟩;rotate_left;· (intro oi ho;simp at ho;subst ho;refine Or.inl ⟨by rfl,fun w' fI=>?_⟩;obtain ⟨e0,e1,e2,e3⟩:=kH fI;go_simp;try with_reducible rfl))
        (refine on 2 ?_;intro o ho K' hK;simp at ho;subst ho;go_simp)
        go_at_call 36
        (with_reducible refine (CS.out _ (Below.drew (fH Y.heap.size Y))).mono ?_)
        rintro en x1 ⟨rfl,hb⟩
        have r7:Hid (Below Y.heap.size Y x1):=(Below.drew (fH Y.heap.size Y)).trans hb
        clear hb
        (refine hK.out _ _ (fun _=>(r7.out.block _ (zZ gB)).trans gB) ?_;clear hK K';try simp only [pQ,pN,pZ,pS])
        have rF:=(r7.out.block _ (zZ gB)).trans gB
        have Ax:Hid (z9 (w.heap.size+1+1) 0 (.slice none 0 0) (.slice none 0 0) x1):=z9.below NRY.out r7.out (zZ NRY.out)
        obtain ⟨tx,aA,iI,Az,_,rff⟩:=Ax.out.cells
        have nJ:=rff 0;have nf:=rff 1;have rO:=rff 2;have tJ:=rff 3
        clear rff
        refine tk [3] rF ?_
        (intro d hd;simp [tkD] at hd;subst hd;simp only [tks,pQ,pZ,pS])
        (refine ⟨?_,?_,?_⟩;rotate_left;· (intro oi ho;simp at ho;subst ho;refine Or.inl ⟨by rfl,fun w' fI=>?_⟩;go_simp;try with_reducible rfl))
        (refine on 4 ?_;intro o ho K' hK;simp at ho;subst ho;go_simp)
        (refine hK.out _ _ (fun _=>uM rF gne _ _ _ _) ?_;clear hK K';try simp only [pQ,pN,pZ,pS])
        (refine on 5 ?_;intro o ho K' hK;simp at ho;subst ho;go_simp)
        (refine hK.out _ _ (fun _=>uM rF gne _ _ _ _) ?_;clear hK K';try simp only [pQ,pN,pZ,pS])
        refine zU (by kernel_rfl) (NoPanic.normal ?_) _
        go_wp2_with fail
        obtain ⟨W,hW,mC,mY,mB,mE,fq,fc⟩:=z9.store (Ax.out) (str sr) (.int .i64 vr) (.slice ar nr cr) (.slice br mr dr)
        rw [<- hW]
        refine bodyPost_ret (v:=.tuple #[.agg #[str sr,.int .i64 vr,.slice ar nr cr,.slice br mr dr],.bool false]) (by simp [results,Tryz.results17,go_sem,mC,mY,mB,mE]) rfl ?_
        rw [mp.out]
        exact uq (o:=none) HP.out.1.old H0.out.1 H0.out.2.1 (i_.out.trans (r7.out.mono (i_.out).size)) (fun x hx=>by simp at hx) fq fc
theorem l5Of_any (M:Nat):OfSaid M:=by
 induction M with
 | zero=>exact fun F t ns k nv tv s pv w h=>by cases t <;> simp only [zM] at h <;> omega
 | succ M ih =>
   intro F t ns k nv tv s pv w h hp tU
   cases t with
   | nm x=>exact of_nm F x ns k nv tv s pv w hp tU
   | wd u=>exact of_wd F u ns k nv tv s pv w hp tU
   | lam x k1 t=>exact of_lam M ih F x k1 t ns nv tv s pv w k h hp tU
   | app m n=>exact of_app M ih F m n ns nv tv s pv w k h hp tU
   | ite l m n=>exact of_ite M ih F l m n ns nv tv s pv w k h hp tU
def clOf (s:Bs):Option (Tm×Ty):=(qD s).bind fun t=>(typeOf [] t).map fun k=>(t,k)
def ClPost (w:World) (o:Option (Tm×Ty)) (en:Ending) (w':World):Prop :=
 ∃ (s1:Bs) (a:Option Addr) (n c:Nat) (ka:Option Addr) (kn kc:Nat),en=.returned (.tuple #[.agg #[str s1,.slice a n c],.agg #[.slice ka kn kc],.bool o.isSome])/\Below w.heap.size w w' /\
   ∀ t k,o=some (t,k)->(uZ t/\kV t=true/\zM t<=60/\typeOf [] t=some k/\kn=k.args.length)/\zX (w.heap.size<=·) w' (jg (z_ t)) [str s1,.slice a n c]/\Rep (w.heap.size<=·) w' (kg k) (.slice ka kn kc)
theorem clOf_none {s:Bs} (h:qS s=none):clOf s=none:=by
 rw [term_eq] at h
 unfold clOf
 cases hq:qD s with
 | none=>rfl
 | some t =>
   rw [hq] at h
   simp only [Option.bind_some] at h ⊢
   cases hk:typeOf [] t with
   | none=>rfl
   | some k=>rw [yU t [] k hk] at h;simp at h
theorem clOf_some {s:Bs} {tr:Tr} (h:qS s=some tr):∃ t,tr=z_ t/\uZ t/\zM t<=60/\kV t=true/\clOf s=if (zc [] t).2=true then some (t,(zc [] t).1) else none:=by
 obtain ⟨t,e,rfl,ho,h6,hs⟩:=gU h
 refine ⟨t,e,ho,h6,hs,?_⟩
 unfold clOf
 rw [gG ho h6,Option.bind_some,uj t [] hs]
 split <;> rfl
theorem dd {w:World} {g1 g2:Nat} {x0 x1 x2:Value} {TA TB:TypeId} (h1:w.heap[g1]? = some (.cells #[x0,x1] TA (0,0))) (h2:w.heap[g2]? = some (.cells #[x2] TB (0,0))) (hne:g1≠g2) (u0 u1 u2:Value) :
 ∃ W,W=(((w.setCell ⟨g1,0,none⟩ u0).setCell ⟨g1,1,none⟩ u1).setCell ⟨g2,0,none⟩ u2)/\W.cell? ⟨g1,0,none⟩=some u0/\W.cell? ⟨g1,1,none⟩=some u1/\W.cell? ⟨g2,0,none⟩=some u2 /\
   (∀ B w0,Below B w0 w->B<=g1->B<=g2->Below B w0 W)/\(∀ i x,i≠g1->i≠g2->w.heap[i]? = some x->W.heap[i]? = some x):=by
 have rx:((w.setCell ⟨g1,0,none⟩ u0).setCell ⟨g1,1,none⟩ u1).heap[g2]? = some (.cells #[x2] TB (0,0)):=by
  rw [fB _ _ _ _ (by simpa using Ne.symm hne),fB _ _ _ _ (by simpa using Ne.symm hne)];exact h2
 have D8:(((w.setCell ⟨g1,0,none⟩ u0).setCell ⟨g1,1,none⟩ u1).setCell ⟨g2,0,none⟩ u2).heap[g2]? = some (.cells #[u2] TB (0,0)):=by rw [zA rx];rfl
 have rD:(((w.setCell ⟨g1,0,none⟩ u0).setCell ⟨g1,1,none⟩ u1).setCell ⟨g2,0,none⟩ u2).heap[g1]? = some (.cells #[u0,u1] TA (0,0)):=by
  rw [fB _ _ _ _ (by simpa using hne),zA (zA h1)];rfl
 refine ⟨_,rfl,by simp only [World.cell?,rD];rfl,by simp only [World.cell?,rD];rfl,by simp only [World.cell?,D8];rfl,fun B w0 hb hB Hu=>?_,fun i x hi Hh hx=>?_⟩
 ·exact ((hb.setCell (p:=⟨g1,0,none⟩) hB _).setCell (p:=⟨g1,1,none⟩) hB _).setCell (p:=⟨g2,0,none⟩) Hu _
 ·rw [fB _ _ _ _ (by simpa using Hh),fB _ _ _ _ (by simpa using hi),fB _ _ _ _ (by simpa using hi)];exact hx
theorem yg {w:World} {g c:Nat} {x:Obj} (h:w.heap[g]? = some x) (hg:g≠c) (u0 u1:Value):((w.setCell ⟨c,0,none⟩ u0).setCell ⟨c,1,none⟩ u1).heap[g]? = some x:=by
 rw [fB _ _ _ _ (by simpa using hg),fB _ _ _ _ (by simpa using hg)];exact h
theorem pr {w:World} {g c:Nat} {x:Obj} (h:w.heap[g]? = some x) (hg:g≠c) (u0:Value):(w.setCell ⟨c,0,none⟩ u0).heap[g]? = some x:=by
 rw [fB _ _ _ _ (by simpa using hg)];exact h
theorem boxes2 (w:World) (A B:Obj):Below w.heap.size w ((w.alloc A).alloc B)/\((w.alloc A).alloc B).heap.size=w.heap.size+1+1/\((w.alloc A).alloc B).heap[w.heap.size]? = some A/\((w.alloc A).alloc B).heap[w.heap.size+1]? = some B:=by
 refine ⟨((fH _ _).alloc (fP _) _).alloc (by rw [zK];omega) _,by rw [zK,zK],zY (zG _ _),?_⟩
 have h:=zG (w.alloc A) B
 rwa [zK] at h
set_option maxRecDepth 100000 in
theorem l5Closed_any (s:Bs) (w:World) (hs:Lim s.length):Calls Tryz.prog 16 #[str s] w (ClPost w (clOf s)):=by
 obtain ⟨W0,mQ⟩:=zzM ((w.alloc (.cells #[str [],.slice none 0 0] 40)).alloc (.cells #[.slice none 0 0] 43))
 obtain ⟨fd,z0,bA,bB⟩:=boxes2 w (.cells #[str [],.slice none 0 0] 40) (.cells #[.slice none 0 0] 43)
 rw [<- mQ] at fd z0 bA bB
 have C0:=fX (l5Term_any s hs W0)
 have H0:=fX (fW fd (fW z0 (fW bA bB)))
 clear hs fd z0 bA bB
 go_enter Tryz.func16,Tryz.ntmps16
 go_wp2_with fail
 rw [<- mQ]
 clear mQ
 (with_reducible refine C0.out.mono ?_)
 rintro en w1 ⟨s5,a5,n5,c5,rfl,fA,nZ⟩
 obtain ⟨W1,Hp⟩:=zzM (w1.alloc (.cells #[str s5,.slice a5 n5 c5] 40))
 obtain ⟨g1,EV⟩:=zzM (w1.heap.size)
 have z1:=fA.size
 have iP:Below W0.heap.size W0 W1:=by rw [Hp];exact fA.alloc fA.size _
 have zW1:W1.heap.size=g1+1:=by rw [Hp,zK,EV]
 have b1:W1.heap[g1]? = some (.cells #[str s5,.slice a5 n5 c5] 40 (0,0)):=by rw [Hp,EV];exact zG _ _
 have q1:w.heap.size+1<g1:=by have:=H0.out.2.1;omega
 have bA1:W1.heap[w.heap.size]? = some (.cells #[str [],.slice none 0 0] 40 (0,0)):=(iP.block _ (zZ H0.out.2.2.1)).trans H0.out.2.2.1
 have bB1:W1.heap[w.heap.size+1]? = some (.cells #[.slice none 0 0] 43 (0,0)):=(iP.block _ (zZ H0.out.2.2.2)).trans H0.out.2.2.2
 have DT:∀ t,qS s=some t->zX (fun i=>W0.heap.size<=i/\i≠g1) W1 (jg t) [str s5,.slice a5 n5 c5]:=fun t ht=>by
  refine (Rep.keep fun i x hi hx=>⟨⟨hi,fun e'=>?_⟩,?_⟩).2 _ _ (nZ t ht).2
  ·rw [Hp];exact zY hx
  ·have:=zZ hx;omega
 have KL:w1.heap[w.heap.size]? = some (.cells #[str [],.slice none 0 0] 40 (0,0)):=(fA.block _ (zZ H0.out.2.2.1)).trans H0.out.2.2.1
 have bB0:w1.heap[w.heap.size+1]? = some (.cells #[.slice none 0 0] 43 (0,0)):=(fA.block _ (zZ H0.out.2.2.2)).trans H0.out.2.2.2
 have rA0:w1.cell? ⟨w.heap.size,0,none⟩=some (str []):=by simp [World.cell?,KL]
 have rA1:w1.cell? ⟨w.heap.size,1,none⟩=some (.slice none 0 0):=by simp [World.cell?,KL]
 have rB0:w1.cell? ⟨w.heap.size+1,0,none⟩=some (.slice none 0 0):=by simp [World.cell?,bB0]
 have fA0:w1.frozen? ⟨w.heap.size,0,none⟩=false:=by simp [World.frozen?,KL]
 have fA1:w1.frozen? ⟨w.heap.size,1,none⟩=false:=by simp [World.frozen?,KL]
 have fB0:w1.frozen? ⟨w.heap.size+1,0,none⟩=false:=by simp [World.frozen?,bB0]
 have E3:(w1.alloc (.cells #[str s5,.slice a5 n5 c5] 40)).frozen? ⟨w.heap.size,0,none⟩=false:=(frozen?_alloc_cells _ _ _ _).trans fA0
 have Kw:(w1.alloc (.cells #[str s5,.slice a5 n5 c5] 40)).frozen? ⟨w.heap.size,1,none⟩=false:=(frozen?_alloc_cells _ _ _ _).trans fA1
 have Hv:(w1.alloc (.cells #[str s5,.slice a5 n5 c5] 40)).frozen? ⟨w.heap.size+1,0,none⟩=false:=(frozen?_alloc_cells _ _ _ _).trans fB0
 have iA0:(w1.alloc (.cells #[str s5,.slice a5 n5 c5] 40)).cell? ⟨w.heap.size,0,none⟩=some (str []):=zJ rA0
 have iA1:(w1.alloc (.cells #[str s5,.slice a5 n5 c5] 40)).cell? ⟨w.heap.size,1,none⟩=some (.slice none 0 0):=zJ rA1
 have iB0:(w1.alloc (.cells #[str s5,.slice a5 n5 c5] 40)).cell? ⟨w.heap.size+1,0,none⟩=some (.slice none 0 0):=zJ rB0
 have r9:=fX (fW iP (fW zW1 (fW b1 (fW q1 (fW bA1 (fW bB1 DT))))))
 have HG1:=fX EV;have HQ1:=fX Hp
 clear fA nZ z1 iP zW1 b1 q1 bA1 bB1 KL bB0 DT C0 EV Hp
 cases ht:qS s with
 | none =>
   have HC:=fX (clOf_none ht)
   clear ht
   simp only [Option.isSome_none]
   go_wp2_with fail
   rw [<- HQ1.out,<- HG1.out]
   obtain ⟨W,hW,s0,s1,s2,fq,fc⟩:=dd r9.out.2.2.2.2.1 r9.out.2.2.2.2.2.1 (by omega) (str s5) (.slice a5 n5 c5) (.slice none 0 0)
   rw [<- hW]
   refine bodyPost_ret (v:=.tuple #[.agg #[str s5,.slice a5 n5 c5],.agg #[.slice none 0 0],.bool false]) (by simp [results,Tryz.results16,go_sem,s0,s1,s2]) rfl ?_
   rw [HC.out]
   exact ⟨_,_,_,_,_,_,_,rfl,fq _ _ (zzT H0.out.1 r9.out.1) (fP _) (Nat.le_succ _),fun t k h=>by simp at h⟩
 | some tr =>
   obtain ⟨t,rfl,fa,lr,ml,D6⟩:=clOf_some ht
   have mG:=r9.out.2.2.2.2.2.2 _ ht
   have CK:=fX (gw 100 (fun i=>W0.heap.size<=i/\i<W1.heap.size/\i≠g1) t [] (.slice none 0 0) (.slice none 0 0) _ _ W1 (by omega) ⟨fun i h=>h.2.1,(Rep.keep fun i x hi hx=>⟨⟨hi.1,zZ hx,hi.2⟩,hx⟩).2 _ _ mG,zp.2 ⟨rfl,none,0,rfl,fP _,fun _=>rfl,.inl rfl⟩,zp.2 ⟨by simp [kinds,qH],none,0,rfl,fP _,fun _=>rfl,.inl rfl⟩,fa,ml,(fun p h=>by simp at h),(fun a h=>by simp [kinds] at h),by simp;omega⟩)
   have HC:=fX (fW fa (fW ml (fW lr (fW D6 (fW mG (@uo t [] ml))))))
   obtain ⟨k,q,hkq⟩:∃ k q,zc [] t=(k,q):=⟨_,_,rfl⟩
   rw [hkq] at CK HC
   clear ht fa lr ml D6 mG hkq
   simp only [Option.isSome_some]
   go_wp2_with fail
   rw [<- HQ1.out,<- HG1.out]
   clear HQ1 HG1
   (with_reducible refine CK.out.mono ?_)
   rintro en w2 ⟨ka,kc,rfl,fN,nC⟩
   obtain ⟨W2,mV⟩:=zzM (w2.alloc (.cells #[.slice ka k.args.length kc] 43))
   obtain ⟨g2,Hj⟩:=zzM (w2.heap.size)
   have z2:=fN.size
   have zz1:=r9.out.2.1
   have qq1:=r9.out.2.2.2.1
   have iW:Below W1.heap.size W1 W2:=by rw [mV];exact fN.alloc fN.size _
   have iX:Below w.heap.size w W2:=(zzT H0.out.1 r9.out.1).trans (iW.mono (zzT H0.out.1 r9.out.1).size)
   have b2:W2.heap[g2]? = some (.cells #[.slice ka k.args.length kc] 43 (0,0)):=by rw [mV,Hj];exact zG _ _
   have b1':W2.heap[g1]? = some (.cells #[str s5,.slice a5 n5 c5] 40 (0,0)):=(iW.block _ (zZ r9.out.2.2.1)).trans r9.out.2.2.1
   have Hz:W2.heap[w.heap.size]? = some (.cells #[str [],.slice none 0 0] 40 (0,0)):=(iW.block _ (zZ r9.out.2.2.2.2.1)).trans r9.out.2.2.2.2.1
   have bB2:W2.heap[w.heap.size+1]? = some (.cells #[.slice none 0 0] 43 (0,0)):=(iW.block _ (zZ r9.out.2.2.2.2.2.1)).trans r9.out.2.2.2.2.2.1
   have z0':=H0.out.2.1
   have IS:zX (fun i=>w.heap.size+1<i) W2 (jg (z_ t)) [str s5,.slice a5 n5 c5]:=(zX.below (F':=fun i=>W0.heap.size<=i/\i≠g1) iW (fun _ h=>h) HC.out.2.2.2.2.1).weakS fun i h=>by have:=h.1;omega
   have AH:Rep (fun i=>w.heap.size+1<i) W2 (kg k) (.slice ka k.args.length kc):=(Rep.keep fun i x hi hx=>⟨(by rcases hi with h | h;have:=h.1;omega;omega),by rw [mV];exact zY hx⟩).1 _ _ nC
   have s_:=fX (fW iX (fW b2 (fW b1' (fW Hz (fW bB2 (fW IS AH))))))
   have qA0:W2.cell? ⟨w.heap.size,0,none⟩=some (str []):=by simp [World.cell?,Hz]
   have qA1:W2.cell? ⟨w.heap.size,1,none⟩=some (.slice none 0 0):=by simp [World.cell?,Hz]
   have qB0:W2.cell? ⟨w.heap.size+1,0,none⟩=some (.slice none 0 0):=by simp [World.cell?,bB2]
   have eA0:W2.frozen? ⟨w.heap.size,0,none⟩=false:=by simp [World.frozen?,Hz]
   have eA1:W2.frozen? ⟨w.heap.size,1,none⟩=false:=by simp [World.frozen?,Hz]
   have eB0:W2.frozen? ⟨w.heap.size+1,0,none⟩=false:=by simp [World.frozen?,bB2]
   have Dl:g1≠w.heap.size:=by omega
   have sw:g1≠w.heap.size+1:=by omega
   have sI:g2≠w.heap.size:=by omega
   have ne5:g2≠w.heap.size+1:=by omega
   clear fN nC z2 iW iX b2 b1' Hz bB2 IS AH CK rA0 rA1 rB0 fA0 fA1 fB0 E3 Kw Hv iA0 iA1 iB0 qq1 zz1 z0'
   go_wp2_with fail
   rw [<- mV,<- Hj]
   clear mV Hj
   refine wp_region_noPanic ?_
   refine zB (fun w'=>w'.heap[g1]? = some (.cells #[str s5,.slice a5 n5 c5] 40 (0,0))/\w'.heap[g2]? = some (.cells #[.slice ka k.args.length kc] 43 (0,0))) (fun _=>false) (by kernel_rfl) ?_
   have fF:(fun w'=>w'.heap[g1]? = some (.cells #[str s5,.slice a5 n5 c5] 40 (0,0))/\w'.heap[g2]? = some (.cells #[.slice ka k.args.length kc] 43 (0,0))) W2.drew:=⟨s_.out.2.2.1,s_.out.2.1⟩
   refine tk [0] fF ?_
   (intro d hd;simp [tkD] at hd;subst hd;simp only [tks,pQ,pZ,pS])
   (refine ⟨?_,?_,?_⟩;rotate_left;· (intro oi ho;simp at ho;subst ho;refine Or.inl ⟨by rfl,fun w' fI=>?_⟩;have e0:w'.cell? ⟨g1,0,none⟩=some (str s5):=(by simp [World.cell?,fI.1]);have e1:w'.cell? ⟨g1,1,none⟩=some (.slice a5 n5 c5):=(by simp [World.cell?,fI.1]);go_simp;try with_reducible rfl))
   refine tk [1,2] fF ?_
   (intro d hd;simp [tkD] at hd;subst hd;simp only [tks,pQ,pZ,pS])
   iterate 2 (refine ⟨?_,?_,?_⟩;rotate_left;· (intro oi ho;simp at ho;subst ho;refine Or.inl ⟨by rfl,fun w' fI=>?_⟩;have e0:w'.cell? ⟨g2,0,none⟩=some (.slice ka k.args.length kc):=(by simp [World.cell?,fI.2]);go_simp;try with_reducible rfl))
   (refine on 3 ?_;intro o ho K' hK;simp at ho;subst ho;go_simp)
   (refine hK.out _ _ (fun _=>⟨yg fF.1 Dl _ _,yg fF.2 sI _ _⟩) ?_;clear hK K';try simp only [pQ,pN,pZ,pS])
   (refine on 4 ?_;intro o ho K' hK;simp at ho;subst ho;go_simp)
   (refine hK.out _ _ (fun _=>⟨pr (yg fF.1 Dl _ _) sw _,pr (yg fF.2 sI _ _) ne5 _⟩) ?_;clear hK K';try simp only [pQ,pN,pZ,pS])
   (refine on 5 ?_;intro o ho K' hK;simp at ho;subst ho;go_simp)
   (refine hK.out _ _ (fun _=>⟨pr (yg fF.1 Dl _ _) sw _,pr (yg fF.2 sI _ _) ne5 _⟩) ?_;clear hK K';try simp only [pQ,pN,pZ,pS])
   refine zU (by kernel_rfl) (NoPanic.normal ?_) _
   go_wp2_with fail
   obtain ⟨W,hW,s0,s1,s2,fq,fc⟩:=@dd W2 _ _ _ _ _ _ _ s_.out.2.2.2.1 s_.out.2.2.2.2.1 (by omega) (str s5) (.slice a5 n5 c5) (.slice ka k.args.length kc)
   rw [<- hW]
   refine bodyPost_ret (v:=.tuple #[.agg #[str s5,.slice a5 n5 c5],.agg #[.slice ka k.args.length kc],.bool q]) (by simp [results,Tryz.results16,go_sem,s0,s1,s2]) rfl ?_
   have hq:q=(clOf s).isSome:=by rw [HC.out.2.2.2.1];cases q <;> rfl
   rw [hq]
   refine ⟨_,_,_,_,_,_,_,rfl,Below.drew (fq _ _ s_.out.1 (fP _) (Nat.le_add_right _ _)),fun t' k' h=>?_⟩
   have h':=HC.out.2.2.2.1
   rw [h] at h'
   cases FW:q with
   | false=>rw [FW] at h';simp at h'
   | true =>
     rw [FW] at h'
     simp only [if_true,Option.some.injEq,Prod.mk.injEq] at h'
     obtain ⟨rfl,rfl⟩:=h'
     have KP:∀ i x,w.heap.size+1<i->W2.heap[i]? = some x->w.heap.size<=i/\W.drew.heap[i]? = some x:=fun i x hi hx=>⟨by omega,fc i x (by omega) (by omega) hx⟩
     exact ⟨⟨HC.out.1,HC.out.2.1,HC.out.2.2.1,HC.out.2.2.2.2.2 FW,rfl⟩,(Rep.keep KP).2 _ _ s_.out.2.2.2.2.2.1,(Rep.keep KP).1 _ _ s_.out.2.2.2.2.2.2⟩
def cB (s:Bs):Option Bs:=(jw s).map fun x=>kM x.2
theorem strat_cl (s:Bs):cB s=(clOf s).bind fun x=>wrOf x.2 (zD [] x.1):=by
 unfold cB jw clOf wrOf
 cases hq:qD s with
 | none=>rfl
 | some t =>
   obtain ⟨_,ho,_⟩:=jr hq
   simp only [Option.bind_some]
   cases hk:typeOf [] t with
   | none=>rfl
   | some k =>
     simp only [Option.bind_some,Option.map_some]
     cases hb:zD [] t with
     | none=>rfl
     | some b =>
       simp only [Option.bind_some,Option.map_some]
       rw [xB (pV ho hk hb)];rfl
set_option maxRecDepth 20000 in
theorem wu (s:Bs) (w:World) (hs:Lim s.length):Calls Tryz.prog 7 #[str s] w (TxtPost (cB s) w):=by
 have C0:=fX (l5Closed_any s w hs)
 clear hs
 go_enter Tryz.func7,Tryz.ntmps7
 go_wp2_with fail
 (with_reducible refine C0.out.mono ?_)
 rintro en w1 ⟨s5,a5,n5,c5,ka,kn,kc,rfl,fA,hy⟩
 obtain ⟨W,hW⟩:=zzM ((w1.alloc (.cells #[str s5,.slice a5 n5 c5] 40)).alloc (.cells #[.slice ka kn kc] 43))
 have iP:Below w1.heap.size w1 W:=by rw [hW];exact ((fH _ _).alloc (fP _) _).alloc (by rw [zK];omega) _
 have fq:=zzT fA iP
 have HSC:=fX (strat_cl s)
 cases hc:clOf s with
 | none =>
   have HK:=fX (show cB s=none by rw [HSC.out,hc];rfl)
   have HB:=fX fq
   have HW:=fX hW
   clear hc hy fA iP fq hW C0 HSC
   simp only [Option.isSome_none]
   go_wp2_with fail
   rw [<- HW.out]
   go_ret2
   exact ⟨by rw [HK.out];rfl,HB.out⟩
 | some x =>
   obtain ⟨t,k⟩:=x
   obtain ⟨⟨ho,ml,lr,hk,rfl⟩,mG,mz⟩:=hy t k hc
   have fu:=k9 t [] k (by simp [kinds]) hk
   have HK:=fX (show cB s=wrOf k (zD [] t) by rw [HSC.out,hc];rfl)
   have IR:=zX.below (F':=(w.heap.size<=·)) iP (fun _ h=>h) mG
   have IY:=Rep.below (F':=(w.heap.size<=·)) iP (fun _ h=>h) mz
   have CO:=fX (l5Of_any 60 (fun i=>w.heap.size<=i/\i<W.heap.size) t [] k (.slice none 0 0) (.slice none 0 0) _ _ W lr ⟨fun i h=>h.2,(Rep.keep fun i x hi hx=>⟨⟨hi,zZ hx⟩,hx⟩).2 _ _ IR,zp.2 ⟨rfl,none,0,rfl,fP _,fun _=>rfl,.inl rfl⟩,zp.2 ⟨by simp [kinds,qH],none,0,rfl,fP _,fun _=>rfl,.inl rfl⟩,ho,ml,(fun p h=>by simp at h),(fun a h=>by simp [kinds] at h),by simp;omega⟩ hk)
   have HG:=fX (fW fu (fW IY fun b (hb:zD [] t=some b)=>pV ho hk hb))
   have bt:W.cell? ⟨w1.heap.size+1,0,none⟩=some (.slice ka k.args.length kc):=by rw [hW];simp
   have HB:=fX fq
   have HW:=fX hW
   obtain ⟨o,ER⟩:=zzN (zD [] t)
   rw [ER] at CO HG HK
   clear hc hy fA iP fq hW C0 ho ml lr hk mG mz fu IR IY ER HSC
   simp only [Option.isSome_some]
   go_wp2_with fail
   rw [<- HW.out]
   (with_reducible refine CO.out.mono ?_)
   rintro en w2 ⟨ss,vv,aa,an,ac,ba,bn,bc,rfl,fN,nC⟩
   have bt2:w2.cell? ⟨w1.heap.size+1,0,none⟩=some (.slice ka k.args.length kc):=(fN.cell (fG _ _ bt)).trans bt
   have bt3:(w2.alloc (.cells #[str ss,.int .i64 vv,.slice aa an ac,.slice ba bn bc] 48)).cell? ⟨w1.heap.size+1,0,none⟩=some (.slice ka k.args.length kc):=zJ bt2
   obtain ⟨W2,mV⟩:=zzM (w2.alloc (.cells #[str ss,.int .i64 vv,.slice aa an ac,.slice ba bn bc] 48))
   have iW:Below W.heap.size W W2:=by rw [mV];exact fN.alloc fN.size _
   have CW:=fX (l4Written_any (w.heap.size<=·) k o (.slice ka k.args.length kc) ss vv aa an ac ba bn bc W2 HG.out.1 (Rep.below iW (fun _ h=>h) HG.out.2.1) (fun x hx=>⟨(Rep.keep fun i u hi hu=>⟨(by
    rcases hi with h | h
    ·exact h.1
    ·have:=HB.out.size;omega),by rw [mV];exact zY hu⟩).2 _ _ (nC x hx),(by have:=(HG.out.2.2 x hx).size;omega),fit_lvR 200 x k.args (HG.out.2.2 x hx).size (HG.out.2.2 x hx).fit (zi HG.out.1).1 (by have:=(zi HG.out.1).2;omega)⟩))
   have ft:=fX (zzT HB.out iW)
   have s_:=fX mV
   clear fN nC bt CO iW mV HG HB
   go_wp2_with fail
   rw [<- s_.out]
   (with_reducible refine CW.out.mono ?_)
   rintro en w3 ⟨rfl,fv⟩
   have nh:=fX (zzT ft.out fv)
   clear fv CW bt2 bt3
   rw [<- HK.out]
   go_wp2_with fail
   go_ret2
   exact ⟨rfl,nh.out⟩
end Go.Proofs.YtjggkhmojjaomaaGreatDoor

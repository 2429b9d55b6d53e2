/- Walks of functions that the statement reaches, and plain words. No conditions. -/
import Derived.Test.YtjggkhmojjaomaaGreatDoorQ18
set_option linter.unusedVariables false
set_option linter.unusedSimpArgs false
set_option maxHeartbeats 4000000
namespace Go.Proofs.YtjggkhmojjaomaaGreatDoor
open Go.RowKit
def OfSaid (M:Nat):Prop:=∀ (F:Nat->Prop) (t:Tm) (ns:List Nm) (k:Ty) (nv tv s pv:Value) (w:World),zM t<=M->wF F t ns nv tv s pv w->typeOf ns t=some k ->
 Calls Tryz.prog 17 #[.agg #[nv,tv],.agg #[s,pv]] w (qj F (zN ns t) w)
theorem uz {F:Nat->Prop} {w W0 Z W:World} {o:Option Bd} {s:Bs} {v:Int} {a1:Option Addr} {n1 c1:Nat} {a2:Option Addr} {n2 c2:Nat} (hF:∀ i,F i->i<w.heap.size) (h0:Below w.heap.size w W0) (hz:W0.heap.size=w.heap.size+1+1+1) (hb:Below W0.heap.size W0 Z) (hr:∀ x,o=some x->zX (fun i=>F i\/W0.heap.size<=i) Z (kE x) [str s,.int .i64 v,.slice a1 n1 c1,.slice a2 n2 c2])
 (fD:∀ B w0,Below B w0 Z->B<=w.heap.size+1+1->Below B w0 W) (fO:∀ i x,i≠w.heap.size+1+1->Z.heap[i]? = some x->W.heap[i]? = some x):qj F o w (.returned (.tuple #[.agg #[str s,.int .i64 v,.slice a1 n1 c1,.slice a2 n2 c2],.bool o.isSome])) W :=
 ⟨s,v,a1,n1,c1,a2,n2,c2,rfl,fD _ _ (zzT h0 hb) (by omega),fun x hx=>(Rep.keep fun i u hi hu=>⟨hi.elim .inl (fun h=>.inr (by omega)),fO i u (by rcases hi with h | h;have:=hF i h;omega;omega) hu⟩).2 _ _ (hr x hx)⟩
theorem uF {w:World} {g c:Nat} {x:Obj} (h:w.heap[g]? = some x) (hg:g≠c) (u0 u1 u2 u3:Value):((((w.setCell ⟨c,0,none⟩ u0).setCell ⟨c,1,none⟩ u1).setCell ⟨c,2,none⟩ u2).setCell ⟨c,3,none⟩ u3).heap[g]? = some x:=by
 rw [fZ _ _ _ _ (by simpa using hg),fZ _ _ _ _ (by simpa using hg),fZ _ _ _ _ (by simpa using hg),fZ _ _ _ _ (by simpa using hg)];exact h
theorem zX.weakS {F G:Nat->Prop} {w:World} {d:List DV} {v:List Value} (h:zX F w d v) (k:∀ i,F i->G i):zX G w d v:=(Rep.keep fun _ _ hf ho=>⟨k _ hf,ho⟩).2 _ _ h
set_option maxRecDepth 100000 in
theorem of_nm (F:Nat->Prop) (x:Bs) (ns:List Nm) (k0:Ty) (nv tv s pv:Value) (w:World) (hp:wF F (.nm x) ns nv tv s pv w) (si:typeOf ns (.nm x)=some k0):Calls Tryz.prog 17 #[.agg #[nv,tv],.agg #[s,pv]] w (qj F (zN ns (.nm x)) w):=by
 have hold:=hp.old
 obtain ⟨na,nc,rfl,_,_,mz⟩:=zP hp.rn
 obtain ⟨ka,kc,rfl,_,_,mn⟩:=zP hp.rk
 have fa:=hp.rt
 rw [z_] at fa
 obtain ⟨qa,qc,e,fA⟩:=qO fa
 simp only [qQ,qd,List.cons.injEq,and_true] at e fA
 obtain ⟨rfl,rfl⟩:=e
 have i8:x≠[]:=(yD hp.ok).1
 obtain ⟨W0,ff⟩:=zzM (((w.alloc (.cells #[.slice na ns.length nc,.slice ka ns.length kc] 53)).alloc (.cells #[str x,.slice qa 0 qc] 40)).alloc (.cells #[str [],.int .i64 0,.slice none 0 0,.slice none 0 0] 48))
 obtain ⟨fq,z0,bA,bB,bC⟩:=yL w (.cells #[.slice na ns.length nc,.slice ka ns.length kc] 53) (.cells #[str x,.slice qa 0 qc] 40) (.cells #[str [],.int .i64 0,.slice none 0 0,.slice none 0 0] 48)
 rw [<- ff] at fq z0 bA bB bC
 have e0:W0.cell? ⟨w.heap.size,0,none⟩=some (.slice na ns.length nc):=by simp [World.cell?,bA]
 have e1:W0.cell? ⟨w.heap.size,1,none⟩=some (.slice ka ns.length kc):=by simp [World.cell?,bA]
 have t0:W0.cell? ⟨w.heap.size+1,0,none⟩=some (str x):=by simp [World.cell?,bB]
 have H0:=ed (ef fq (ef z0 bC))
 have hne:(x != [])=true:=by rw [bne_iff_ne];exact i8
 have AB:(!x.isEmpty)=true:=by cases x with | nil=>exact absurd rfl i8 | cons a b=>rfl
 have iT:x.isEmpty=false:=by cases x with | nil=>exact absurd rfl i8 | cons a b=>rfl
 have AN:=ed mz
 have AK:=ed mn
 have iY:ns.length<=100:=by have:=hp.room;omega
 have HP:=ed hp
 clear mz mn fq z0 bA bB bC hp
 go_enter Tryz.func17,Tryz.ntmps17
 go_wp2_with fail
 rw [<- ff]
 clear ff
 go_loopw [7] (fun i wz=>∃ (k:Nat) (wr:World),wr=wz/\k<=ns.length/\i=.int .i64 ((k:Int)-1)/\FoundR ns x k/\Below W0.heap.size W0 wr) (fun i _=>(intOf i+1).toNat)
 case atStart=>exact ⟨ns.length,_,rfl,ei _,rfl,rfl,e_ _ _⟩
 case round =>
  obtain ⟨k,wr,ewr,hk,rfl,hf,n7⟩:=hrel
  subst ewr
  have e0':=(n7.cell (e9 W0 _ e0)).trans e0
  have e1':=(n7.cell (e9 W0 _ e1)).trans e1
  have El:=(n7.cell (e9 W0 _ t0)).trans t0
  have BR:z9 (w.heap.size+1+1) 0 (.slice none 0 0) (.slice none 0 0) wr:=z9.below (B:=W0.heap.size) H0.out.2.2 n7 (zZ H0.out.2.2)
  have Aq:=ed BR
  have HB:=ed n7
  have fL:=ed (zzT H0.out.1 n7)
  clear n7 e0 e1 t0 BR
  cases k with
  | zero =>
    have hz:((0:Nat):Int)-1 = -1:=rfl
    rw [hz]
    have HN:=ed (show jQ ns x=none from hf)
    clear hf hz
    exfalso
    rw [typeOf,HN.out] at si
    simp at si
  | succ j =>
    have hj:j<ns.length:=by omega
    rw [show ((j+1:Nat):Int)-1=(j:Int) from by omega]
    obtain ⟨nb,no,nu,nd,e,_,FR,A3,aR,tA⟩:=AN.out j hj
    subst e
    rw [List.getElem?_map,Option.map_eq_some_iff] at A3
    obtain ⟨⟨y,t⟩,hy,rfl⟩:=A3
    rw [zH] at tA
    subst tA
    have q0:wr.cell? ⟨nb,no+j,none⟩=some (str y):=(fL.out.cell (p:=⟨nb,no+j,none⟩) FR).trans aR
    have Jn:(j:Int)<(ns.length:Int):=by omega
    have fj:qJ ns x (j+1)=if y=x then some j else qJ ns x j:=by
     rw [qJ,hy];simp
    by_cases aE:y=x
    ·subst aE
     have q:(y == y)=true:=by simp
     have HS:=ed (show jQ ns y=some j by rw [show jQ ns y=qJ ns y (j+1) from hf,fj,if_pos rfl])
     obtain ⟨kb,ko,ku,kd,e,_,nT,ib,AD,iX⟩:=AK.out j hj
     subst e
     rw [vj,Option.map_eq_some_iff] at ib
     obtain ⟨t2,FC,rfl⟩:=ib
     have et:t2=t:=by rw [uK hy] at FC;exact (Option.some.inj FC).symm
     subst et
     obtain ⟨xa,xc,rfl⟩:=kK iX
     have q1:wr.cell? ⟨kb,ko+j,none⟩=some (.slice xa t2.args.length xc):=(fL.out.cell (p:=⟨kb,ko+j,none⟩) nT).trans AD
     have fM:=HP.out.n15 t2 (List.mem_of_getElem? (uK hy))
     have CE:=ed (l4Eta_any 15 t2 fM fM F (.slice xa t2.args.length xc) j ns.length wr.drew (Rep.below fL.out (fun _ h=>h) iX).drew (by omega) (by omega))
     have HE:=ed (show zN ns (.nm y)=uL (eta t2 j ns.length) by rw [zN,HS.out,Option.bind_some,hy];rfl)
     have hsz:zW (eta t2 j ns.length)<=1000000:=by have:=(eG t2 j ns.length).1;omega
     clear hf fj hy aR AD iX FC fM
     go_wp2_with fail
     go_region
     go_wp2_with fail
     (with_reducible refine CE.out.mono ?_)
     rintro en w3 ⟨s6,v6,f1,m1,d1,f2,m2,d2,rfl,fE,tG⟩
     have mp:=ed (HB.out.trans ((Below.drew (e_ wr.heap.size wr)).trans fE |>.mono HB.out.size))
     have HR3:=ed (tG.weakS (G:=fun i=>F i\/W0.heap.size<=i) (fun i h=>.inr (fQ HB.out.size h)))
     clear fE tG CE q0 q1 e0' e1' El
     go_wp2_with fail
     obtain ⟨Y,hY⟩:=zzN (w3.alloc (.cells #[str s6,.int .i64 v6,.slice f1 m1 d1,.slice f2 m2 d2] 48))
     rw [hY]
     have AM:Below w3.heap.size w3 Y:=by rw [<- hY];exact (e_ _ _).alloc (ei _) _
     have gB:Y.heap[w3.heap.size]? = some (.cells #[str s6,.int .i64 v6,.slice f1 m1 d1,.slice f2 m2 d2] 48 (0,0)):=by rw [<- hY];exact zG _ _
     have ii:Hid (Below W0.heap.size W0 Y):=zzT mp.out AM
     have GC:=ed (zX.below (F':=fun i=>F i\/W0.heap.size<=i) AM (fun _ h=>h) HR3.out)
     have NRY:Hid (z9 (w.heap.size+1+1) 0 (.slice none 0 0) (.slice none 0 0) Y):=z9.below (B:=W0.heap.size) H0.out.2.2 ii.out (zZ H0.out.2.2)
     have gne:w3.heap.size≠w.heap.size+1+1:=by have:=mp.out.size;have:=H0.out.2.1;omega
     obtain ⟨g8,Jt⟩:=zzN (w3.heap.size)
     rw [Jt] at gB gne ⊢
     clear hY AM Jt
     have CS:=ed (fun wz (h:Below Y.heap.size Y wz)=>gR 1000000 (eta t2 j ns.length) hsz (by unfold Lim;omega) _ wz _ _ _ _ _ _ _ _ (zX.below (F':=fun i=>F i\/W0.heap.size<=i) h (fun _ h=>h) (GC.out)))
     have GA:=ed (show zW (eta t2 j ns.length)<=1000000 from hsz)
     obtain ⟨SZ,Gk⟩:=zzM (zW (eta t2 j ns.length))
     rw [<- Gk] at CS GA
     have KH:=ed Gk
     clear Gk
     by_cases rP:SZ<=200
     ·have h1:decide (((SZ:Nat):Int)<=200)=true:=decide_eq_true (by omega)
      have mN:=ed (show zN ns (.nm y)=some (eta t2 j ns.length) by rw [HE.out,gw (by rw [<- KH.out];exact rP)])
      clear rP
      refine wp_region_noPanic ?_
      refine zB (fun w'=>w'.heap[g8]? = some (.cells #[str s6,.int .i64 v6,.slice f1 m1 d1,.slice f2 m2 d2] 48 (0,0))) (fun _=>false) (by kernel_rfl) ?_
      have fV:(fun w'=>w'.heap[g8]? = some (.cells #[str s6,.int .i64 v6,.slice f1 m1 d1,.slice f2 m2 d2] 48 (0,0))) Y.drew:=gB
      refine tk [0,1] fV ?_
      (intro d hd;simp [tkD] at hd;subst hd;simp only [tks,pQ,pZ,pS])
      iterate 2 (refine ⟨?_,?_,?_⟩;rotate_left;· (intro oi ho;simp at ho;subst ho;refine Or.inl ⟨by rfl,fun w' fB=>?_⟩;obtain ⟨e0,e1,e2,e3⟩:=kP fB;go_simp;try with_reducible rfl))
      (refine on 2 ?_;intro o ho K' hK;simp at ho;subst ho;go_simp)
      go_at_call 36
      (with_reducible refine (CS.out _ (Below.drew (e_ Y.heap.size Y))).mono ?_)
      rintro en x1 ⟨rfl,hb⟩
      have rM:Hid (Below Y.heap.size Y x1):=(Below.drew (e_ Y.heap.size Y)).trans hb
      clear hb
      (refine hK.out _ _ (fun _=>(rM.out.block _ (zZ gB)).trans gB) ?_;clear hK K';try simp only [pQ,pN,pZ,pS])
      have rQ:=(rM.out.block _ (zZ gB)).trans gB
      have Ap:Hid (z9 (w.heap.size+1+1) 0 (.slice none 0 0) (.slice none 0 0) x1):=z9.below NRY.out rM.out (zZ NRY.out)
      obtain ⟨tN,aC,iC,Ar,_,rff⟩:=Ap.out.cells
      have mg:=rff 0;have nD:=rff 1;have rG:=rff 2;have sh:=rff 3
      clear rff
      refine tk [3] rQ ?_
      (intro d hd;simp [tkD] at hd;subst hd;simp only [tks,pQ,pZ,pS])
      (refine ⟨?_,?_,?_⟩;rotate_left;· (intro oi ho;simp at ho;subst ho;refine Or.inl ⟨by rfl,fun w' fB=>?_⟩;go_simp;try with_reducible rfl))
      (refine on 4 ?_;intro o ho K' hK;simp at ho;subst ho;go_simp)
      (refine hK.out _ _ (fun _=>uF rQ gne _ _ _ _) ?_;clear hK K';try simp only [pQ,pN,pZ,pS])
      (refine on 5 ?_;intro o ho K' hK;simp at ho;subst ho;go_simp)
      (refine hK.out _ _ (fun _=>uF rQ gne _ _ _ _) ?_;clear hK K';try simp only [pQ,pN,pZ,pS])
      refine zU (by kernel_rfl) (NoPanic.normal ?_) _
      go_wp2_with fail
      obtain ⟨W,hW,f_,fe,f7,mQ,fD,fO⟩:=z9.store (Ap.out) (str s6) (.int .i64 v6) (.slice f1 m1 d1) (.slice f2 m2 d2)
      rw [<- hW]
      refine bodyPost_ret (v:=.tuple #[.agg #[str s6,.int .i64 v6,.slice f1 m1 d1,.slice f2 m2 d2],.bool true]) (by simp [results,Tryz.results17,go_sem,f_,fe,f7,mQ]) rfl ?_
      rw [mN.out]
      exact uz (o:=some (eta t2 j ns.length)) HP.out.old H0.out.1 H0.out.2.1 (ii.out.trans (rM.out.mono (ii.out).size)) (fun x hx=>by obtain rfl:=Option.some.inj hx;exact zX.below (F':=fun i=>F i\/W0.heap.size<=i) rM.out (fun _ h=>h) (GC.out)) fD fO
     ·have h1:decide (((SZ:Nat):Int)<=200)=false:=decide_eq_false (by omega)
      have mN:=ed (show zN ns (.nm y)=none by rw [HE.out];unfold uL;rw [if_neg (by rw [<- KH.out];exact rP)])
      clear rP
      refine wp_region_noPanic ?_
      refine zB (fun w'=>w'.heap[g8]? = some (.cells #[str s6,.int .i64 v6,.slice f1 m1 d1,.slice f2 m2 d2] 48 (0,0))) (fun _=>false) (by kernel_rfl) ?_
      have fV:(fun w'=>w'.heap[g8]? = some (.cells #[str s6,.int .i64 v6,.slice f1 m1 d1,.slice f2 m2 d2] 48 (0,0))) Y.drew:=gB
      refine tk [0,1] fV ?_
      (intro d hd;simp [tkD] at hd;subst hd;simp only [tks,pQ,pZ,pS])
      iterate 2 (refine ⟨?_,?_,?_⟩;rotate_left;· (intro oi ho;simp at ho;subst ho;refine Or.inl ⟨by rfl,fun w' fB=>?_⟩;obtain ⟨e0,e1,e2,e3⟩:=kP fB;go_simp;try with_reducible rfl))
      (refine on 2 ?_;intro o ho K' hK;simp at ho;subst ho;go_simp)
      go_at_call 36
      (with_reducible refine (CS.out _ (Below.drew (e_ Y.heap.size Y))).mono ?_)
      rintro en x1 ⟨rfl,hb⟩
      have rM:Hid (Below Y.heap.size Y x1):=(Below.drew (e_ Y.heap.size Y)).trans hb
      clear hb
      (refine hK.out _ _ (fun _=>(rM.out.block _ (zZ gB)).trans gB) ?_;clear hK K';try simp only [pQ,pN,pZ,pS])
      have rQ:=(rM.out.block _ (zZ gB)).trans gB
      have Ap:Hid (z9 (w.heap.size+1+1) 0 (.slice none 0 0) (.slice none 0 0) x1):=z9.below NRY.out rM.out (zZ NRY.out)
      obtain ⟨tN,aC,iC,Ar,_,rff⟩:=Ap.out.cells
      have mg:=rff 0;have nD:=rff 1;have rG:=rff 2;have sh:=rff 3
      clear rff
      refine tk [3] rQ ?_
      (intro d hd;simp [tkD] at hd;subst hd;simp only [tks,pQ,pZ,pS])
      (refine ⟨?_,?_,?_⟩;rotate_left;· (intro oi ho;simp at ho;subst ho;refine Or.inl ⟨by rfl,fun w' fB=>?_⟩;go_simp;try with_reducible rfl))
      (refine on 4 ?_;intro o ho K' hK;simp at ho;subst ho;go_simp)
      (refine hK.out _ _ (fun _=>uF rQ gne _ _ _ _) ?_;clear hK K';try simp only [pQ,pN,pZ,pS])
      (refine on 5 ?_;intro o ho K' hK;simp at ho;subst ho;go_simp)
      (refine hK.out _ _ (fun _=>uF rQ gne _ _ _ _) ?_;clear hK K';try simp only [pQ,pN,pZ,pS])
      refine zU (by kernel_rfl) (NoPanic.normal ?_) _
      go_wp2_with fail
      obtain ⟨W,hW,f_,fe,f7,mQ,fD,fO⟩:=z9.store (Ap.out) (str s6) (.int .i64 v6) (.slice f1 m1 d1) (.slice f2 m2 d2)
      rw [<- hW]
      refine bodyPost_ret (v:=.tuple #[.agg #[str s6,.int .i64 v6,.slice f1 m1 d1,.slice f2 m2 d2],.bool false]) (by simp [results,Tryz.results17,go_sem,f_,fe,f7,mQ]) rfl ?_
      rw [mN.out]
      exact uz (o:=none) HP.out.old H0.out.1 H0.out.2.1 (ii.out.trans (rM.out.mono (ii.out).size)) (fun x hx=>by simp at hx) fD fO
    ·have q:(y == x)=false:=by rw [beq_eq_false_iff_ne];exact aE
     have HS:=ed (show jQ ns x=qJ ns x j by rw [show jQ ns x=qJ ns x (j+1) from hf,fj,if_neg aE])
     clear hf fj hy aE aR
     go_wp2_with fail
     go_region
     go_wp2_with fail
     go_round
     case rel=>exact ⟨j,_,rfl,by omega,by go_num,HS.out,HB.out.drew⟩
     case measure=>simp only [intOf];omega
set_option maxRecDepth 100000 in
theorem of_wd (F:Nat->Prop) (x:Bs) (ns:List Nm) (k0:Ty) (nv tv s pv:Value) (w:World) (hp:wF F (.wd x) ns nv tv s pv w) (si:typeOf ns (.wd x)=some k0):Calls Tryz.prog 17 #[.agg #[nv,tv],.agg #[s,pv]] w (qj F (zN ns (.wd x)) w):=by
 have hold:=hp.old
 obtain ⟨na,nc,rfl,_,_,mz⟩:=zP hp.rn
 obtain ⟨ka,kc,rfl,_,_,mn⟩:=zP hp.rk
 have fa:=hp.rt
 rw [z_] at fa
 obtain ⟨qa,qc,e,fA⟩:=qO fa
 simp only [qQ,qd,List.cons.injEq,and_true] at e fA
 obtain ⟨rfl,rfl⟩:=e
 have i8:x≠[]:=(xh hp.ok).1
 have FX:x=[116]\/x=[102]\/x=[117]:=by
  have h:qy x=true:=hp.ok
  simp only [qy,Bool.or_eq_true,beq_iff_eq] at h
  rcases h with (h | h) | h
  ·exact .inl h
  ·exact .inr (.inl h)
  ·exact .inr (.inr h)
 obtain ⟨W0,ff⟩:=zzM (((w.alloc (.cells #[.slice na ns.length nc,.slice ka ns.length kc] 53)).alloc (.cells #[str x,.slice qa 0 qc] 40)).alloc (.cells #[str [],.int .i64 0,.slice none 0 0,.slice none 0 0] 48))
 obtain ⟨fq,z0,bA,bB,bC⟩:=yL w (.cells #[.slice na ns.length nc,.slice ka ns.length kc] 53) (.cells #[str x,.slice qa 0 qc] 40) (.cells #[str [],.int .i64 0,.slice none 0 0,.slice none 0 0] 48)
 rw [<- ff] at fq z0 bA bB bC
 have e0:W0.cell? ⟨w.heap.size,0,none⟩=some (.slice na ns.length nc):=by simp [World.cell?,bA]
 have e1:W0.cell? ⟨w.heap.size,1,none⟩=some (.slice ka ns.length kc):=by simp [World.cell?,bA]
 have t0:W0.cell? ⟨w.heap.size+1,0,none⟩=some (str x):=by simp [World.cell?,bB]
 have H0:=ed (ef fq (ef z0 bC))
 have hne:(x != [])=true:=by rw [bne_iff_ne];exact i8
 have AB:(!x.isEmpty)=true:=by cases x with | nil=>exact absurd rfl i8 | cons a b=>rfl
 have iT:x.isEmpty=false:=by cases x with | nil=>exact absurd rfl i8 | cons a b=>rfl
 have AN:=ed mz
 have AK:=ed mn
 have iY:ns.length<=100:=by have:=hp.room;omega
 have HP:=ed hp
 clear mz mn fq z0 bA bB bC hp
 go_enter Tryz.func17,Tryz.ntmps17
 go_wp2_with fail
 rw [<- ff]
 clear ff
 go_loopw [7] (fun i wz=>∃ (k:Nat) (wr:World),wr=wz/\k<=ns.length/\i=.int .i64 ((k:Int)-1)/\FoundR ns x k/\Below W0.heap.size W0 wr) (fun i _=>(intOf i+1).toNat)
 case atStart=>exact ⟨ns.length,_,rfl,ei _,rfl,rfl,e_ _ _⟩
 case round =>
  obtain ⟨k,wr,ewr,hk,rfl,hf,n7⟩:=hrel
  subst ewr
  have e0':=(n7.cell (e9 W0 _ e0)).trans e0
  have e1':=(n7.cell (e9 W0 _ e1)).trans e1
  have El:=(n7.cell (e9 W0 _ t0)).trans t0
  have BR:z9 (w.heap.size+1+1) 0 (.slice none 0 0) (.slice none 0 0) wr:=z9.below (B:=W0.heap.size) H0.out.2.2 n7 (zZ H0.out.2.2)
  have Aq:=ed BR
  have HB:=ed n7
  have fL:=ed (zzT H0.out.1 n7)
  clear n7 e0 e1 t0 BR
  cases k with
  | zero =>
    have hz:((0:Nat):Int)-1 = -1:=rfl
    rw [hz]
    have HN:=ed (show jQ ns x=none from hf)
    clear hf hz
    clear i8 hne AB iT HN
    rcases FX with rfl | rfl | rfl
    ·have mN:=ed (show zN ns (.wd [116])=some (.leaf 116) by rw [zN];rfl)
     obtain ⟨tN,aC,iC,Ar,_,rff⟩:=Aq.out.cells
     have mg:=rff 0;have nD:=rff 1;have rG:=rff 2;have sh:=rff 3
     clear rff
     go_wp2_with fail
     obtain ⟨W,hW,f_,fe,f7,mQ,fD,fO⟩:=z9.store (Aq.out) (str [116]) (.int .i64 0) (.slice none 0 0) (.slice none 0 0)
     rw [<- hW]
     refine bodyPost_ret (v:=.tuple #[.agg #[str [116],.int .i64 0,.slice none 0 0,.slice none 0 0],.bool true]) (by simp [results,Tryz.results17,go_sem,f_,fe,f7,mQ]) rfl ?_
     rw [mN.out]
     exact uz (o:=some (.leaf 116)) HP.out.old H0.out.1 H0.out.2.1 HB.out (fun x hx=>by
      obtain rfl:=Option.some.inj hx
      rw [kE]
      exact zQ.2 ⟨_,_,rfl,zH.2 rfl,zQ.2 ⟨_,_,rfl,zH.2 rfl,zQ.2 ⟨_,_,rfl,zp.2 ⟨rfl,none,0,rfl,ei _,fun _=>rfl,.inl rfl⟩,zQ.2 ⟨_,_,rfl,zp.2 ⟨rfl,none,0,rfl,ei _,fun _=>rfl,.inl rfl⟩,zC.2 rfl⟩⟩⟩⟩) fD fO
    ·have mN:=ed (show zN ns (.wd [102])=some (.leaf 102) by rw [zN];rfl)
     obtain ⟨tN,aC,iC,Ar,_,rff⟩:=Aq.out.cells
     have mg:=rff 0;have nD:=rff 1;have rG:=rff 2;have sh:=rff 3
     clear rff
     go_wp2_with fail
     obtain ⟨W,hW,f_,fe,f7,mQ,fD,fO⟩:=z9.store (Aq.out) (str [102]) (.int .i64 0) (.slice none 0 0) (.slice none 0 0)
     rw [<- hW]
     refine bodyPost_ret (v:=.tuple #[.agg #[str [102],.int .i64 0,.slice none 0 0,.slice none 0 0],.bool true]) (by simp [results,Tryz.results17,go_sem,f_,fe,f7,mQ]) rfl ?_
     rw [mN.out]
     exact uz (o:=some (.leaf 102)) HP.out.old H0.out.1 H0.out.2.1 HB.out (fun x hx=>by
      obtain rfl:=Option.some.inj hx
      rw [kE]
      exact zQ.2 ⟨_,_,rfl,zH.2 rfl,zQ.2 ⟨_,_,rfl,zH.2 rfl,zQ.2 ⟨_,_,rfl,zp.2 ⟨rfl,none,0,rfl,ei _,fun _=>rfl,.inl rfl⟩,zQ.2 ⟨_,_,rfl,zp.2 ⟨rfl,none,0,rfl,ei _,fun _=>rfl,.inl rfl⟩,zC.2 rfl⟩⟩⟩⟩) fD fO
    ·have mN:=ed (show zN ns (.wd [117])=some (.leaf 117) by rw [zN];rfl)
     obtain ⟨tN,aC,iC,Ar,_,rff⟩:=Aq.out.cells
     have mg:=rff 0;have nD:=rff 1;have rG:=rff 2;have sh:=rff 3
     clear rff
     go_wp2_with fail
     obtain ⟨W,hW,f_,fe,f7,mQ,fD,fO⟩:=z9.store (Aq.out) (str [117]) (.int .i64 0) (.slice none 0 0) (.slice none 0 0)
     rw [<- hW]
     refine bodyPost_ret (v:=.tuple #[.agg #[str [117],.int .i64 0,.slice none 0 0,.slice none 0 0],.bool true]) (by simp [results,Tryz.results17,go_sem,f_,fe,f7,mQ]) rfl ?_
     rw [mN.out]
     exact uz (o:=some (.leaf 117)) HP.out.old H0.out.1 H0.out.2.1 HB.out (fun x hx=>by
      obtain rfl:=Option.some.inj hx
      rw [kE]
      exact zQ.2 ⟨_,_,rfl,zH.2 rfl,zQ.2 ⟨_,_,rfl,zH.2 rfl,zQ.2 ⟨_,_,rfl,zp.2 ⟨rfl,none,0,rfl,ei _,fun _=>rfl,.inl rfl⟩,zQ.2 ⟨_,_,rfl,zp.2 ⟨rfl,none,0,rfl,ei _,fun _=>rfl,.inl rfl⟩,zC.2 rfl⟩⟩⟩⟩) fD fO
  | succ j =>
    have hj:j<ns.length:=by omega
    rw [show ((j+1:Nat):Int)-1=(j:Int) from by omega]
    obtain ⟨nb,no,nu,nd,e,_,FR,A3,aR,tA⟩:=AN.out j hj
    subst e
    rw [List.getElem?_map,Option.map_eq_some_iff] at A3
    obtain ⟨⟨y,t⟩,hy,rfl⟩:=A3
    rw [zH] at tA
    subst tA
    have q0:wr.cell? ⟨nb,no+j,none⟩=some (str y):=(fL.out.cell (p:=⟨nb,no+j,none⟩) FR).trans aR
    have Jn:(j:Int)<(ns.length:Int):=by omega
    have fj:qJ ns x (j+1)=if y=x then some j else qJ ns x j:=by
     rw [qJ,hy];simp
    have aE:y≠x:=by
     rintro rfl
     have h1:=HP.out.nm (y,t) (List.mem_of_getElem? hy)
     have h2:=yw (show qy y=true from HP.out.ok)
     rw [show qG y=true from h1] at h2;exact absurd h2 (by decide)
    have q:(y == x)=false:=by rw [beq_eq_false_iff_ne];exact aE
    have HS:=ed (show jQ ns x=qJ ns x j by rw [show jQ ns x=qJ ns x (j+1) from hf,fj,if_neg aE])
    clear hf fj hy aE aR
    go_wp2_with fail
    go_region
    go_wp2_with fail
    go_round
    case rel=>exact ⟨j,_,rfl,by omega,by go_num,HS.out,HB.out.drew⟩
    case measure=>simp only [intOf];omega
set_option maxRecDepth 100000 in
theorem of_lam (M:Nat) (ih:OfSaid M) (F:Nat->Prop) (x:Bs) (k:Ty) (t:Tm) (ns:List Nm) (nv tv s pv:Value) (w:World) (kt:Ty) (hN:zM (.lam x k t)<=M+1) (hp:wF F (.lam x k t) ns nv tv s pv w) (si:typeOf ns (.lam x k t)=some kt):Calls Tryz.prog 17 #[.agg #[nv,tv],.agg #[s,pv]] w (qj F (zN ns (.lam x k t)) w):=by
 have hold:=hp.old
 obtain ⟨na,nc,rfl,_,_,mz⟩:=zP hp.rn
 obtain ⟨ka,kc,rfl,_,_,mn⟩:=zP hp.rk
 have fa:=hp.rt
 rw [z_] at fa
 obtain ⟨qa,qc,e,fA⟩:=qO fa
 simp only [qQ,qd,List.cons.injEq,and_true] at e fA
 obtain ⟨rfl,rfl⟩:=e
 obtain ⟨_,_,e,fU⟩:=ud.of fA
 simp only [Value.slice.injEq,true_and] at e
 obtain ⟨rfl,rfl⟩:=e
 obtain ⟨fT,fS,s1,a1,n1,c1,d1,tp,mL,sJ,sU,iE,rH,As,Br⟩:=fU 1 (by simp)
 simp only [List.getElem?_cons_zero,List.getElem?_cons_succ,Option.some.injEq] at sJ
 subst sJ
 subst tp
 obtain ⟨Fs,Fq,s2,a2,n2,c2,d2,tw,i2,tx,tg,iD,sf,Bj,Bq⟩:=fU 2 (by simp)
 simp only [List.getElem?_cons_zero,List.getElem?_cons_succ,Option.some.injEq] at tx
 subst tx
 simp only [Option.some.injEq,Addr.mk.injEq,and_true] at tw
 obtain ⟨rfl,rfl⟩:=tw
 obtain ⟨pb3,po3,s3,a3,n3,c3,d3,Bt,Fo,Bp,Bw,Bv,Bo,Fp,Fr⟩:=fU 3 (by simp)
 simp only [List.getElem?_cons_zero,List.getElem?_cons_succ,Option.some.injEq] at Bp
 subst Bp
 simp only [Option.some.injEq,Addr.mk.injEq,and_true] at Bt
 obtain ⟨rfl,rfl⟩:=Bt
 simp only [qQ] at As
 subst As
 have fg:=hp.room
 have fw:=hp.ok
 have mO:=hp.sm
 have hak:=kr k
 rw [zM] at fg hN
 rw [kQ,Bool.and_eq_true,decide_eq_true_eq] at mO
 obtain ⟨W0,ff⟩:=zzM (((w.alloc (.cells #[.slice na ns.length nc,.slice ka ns.length kc] 53)).alloc (.cells #[str [],.slice (some ⟨fT,fS,none⟩) 4 qc] 40)).alloc (.cells #[str [],.int .i64 0,.slice none 0 0,.slice none 0 0] 48))
 obtain ⟨fq,z0,bA,bB,bC⟩:=yL w (.cells #[.slice na ns.length nc,.slice ka ns.length kc] 53) (.cells #[str [],.slice (some ⟨fT,fS,none⟩) 4 qc] 40) (.cells #[str [],.int .i64 0,.slice none 0 0,.slice none 0 0] 48)
 rw [<- ff] at fq z0 bA bB bC
 have CH:=ed (show Calls Tryz.prog 37 #[.agg #[str [],.slice (some ⟨fT,fS,none⟩) 4 qc]] W0 (fun en w'=>en=.returned (str (yM (z_ (.lam s1 k t))))/\Below W0.heap.size W0 w') from uG (z_ (.lam s1 k t)) (j_ _ hp.ok) F W0 _ _ (zX.below fq (fun _ h=>h) hp.rt))
 have Cp:yM (z_ (.lam s1 k t))=[108,97,109]:=by rw [z_];rfl
 rw [Cp] at CH
 have H0:=ed (ef fq (ef z0 (ef bA bC)))
 have e0:W0.cell? ⟨w.heap.size,0,none⟩=some (.slice na ns.length nc):=by simp [World.cell?,bA]
 have e1:W0.cell? ⟨w.heap.size,1,none⟩=some (.slice ka ns.length kc):=by simp [World.cell?,bA]
 have SX:Hid (∀ w',Below W0.heap.size W0 w'->w'.cell? ⟨w.heap.size,0,none⟩=some (.slice na ns.length nc)/\w'.cell? ⟨w.heap.size,1,none⟩=some (.slice ka ns.length kc)/\w'.cell? ⟨fT,fS+2,none⟩=some (str s1)/\w'.cell? ⟨fT,fS+4,none⟩=some (str s2)/\w'.cell? ⟨fT,fS+5,none⟩=some (.slice a2 n2 c2)/\w'.cell? ⟨fT,fS+6,none⟩=some (str s3)/\w'.cell? ⟨fT,fS+7,none⟩=some (.slice a3 n3 c3)):=by
  show ∀ w',_->_
  intro w' fN
  have fc:=zzT fq fN
  exact ⟨(fN.cell (e9 W0 _ e0)).trans e0,(fN.cell (e9 W0 _ e1)).trans e1,(fc.cell (p:=⟨fT,fS+2,none⟩) mL).trans sU,(fc.cell (p:=⟨fT,fS+4,none⟩) mL).trans tg,(fc.cell (p:=⟨fT,fS+5,none⟩) mL).trans iD,(fc.cell (p:=⟨fT,fS+6,none⟩) mL).trans Bw,(fc.cell (p:=⟨fT,fS+7,none⟩) mL).trans Bv⟩
 have GZ:=jk 15 k mO.1
 have CX:Hid (∀ wz,Below w.heap.size w wz->Calls Tryz.prog 39 #[.agg #[str s2,.slice a2 n2 c2]] wz fun en w'=>en=.returned (str (zF k))/\Below wz.heap.size wz w'):=by
  show ∀ wz,_->_
  intro wz hz
  have h:=gF (zA (trT k)).length (trT k) (ei _) (show _<=_ by rw [jz];omega) (gP k) F wz _ _ (zX.below hz (fun _ h=>h) sf)
  rw [jz] at h
  exact h
 have CY:Hid (∀ wz,Calls Tryz.prog 38 #[str (zF k)] wz fun en w'=>∃ ta tc,en=.returned (.tuple #[.agg #[.slice ta k.args.length tc],.bool true])/\Below wz.heap.size wz w'/\Rep (wz.heap.size<=·) w' (kz k) (.slice ta k.args.length tc)):=by
  show ∀ wz,_
  intro wz
  refine (xZ (zF k) (show _<=_ by omega) wz).mono ?_
  rintro en w' ⟨v,rfl,hb,hr⟩
  rw [v_ mO.1] at hr ⊢
  obtain ⟨ta,tc,rfl⟩:=kK hr
  exact ⟨ta,tc,rfl,hb,hr⟩
 obtain ⟨X,hX⟩:=zzM (zF k)
 rw [<- hX] at CX CY
 have HP:=ed (ef hp (ef fw (ef mO (ef Bo hN))))
 have IH:=ed ih
 have hlen:ns.length<=99:=by omega
 clear mz mn fA fU fa hp fw mO ih hN fq z0 bA bB bC e0 e1 rH sU iE Br sf tg iD Bj Bq Bo Bw Bv Fp Fr mL i2 Fo hX GZ
 go_enter Tryz.func17,Tryz.ntmps17
 go_wp2_with fail
 rw [<- ff]
 clear ff
 (with_reducible refine CH.out.mono ?_)
 rintro en w1 ⟨rfl,fP⟩
 have H1:=ed (ef fP (zzT H0.out.1 fP))
 have KZ:=ed (CX.out w1 H1.out.2)
 obtain ⟨e0,e1,f1,f2,h2,f3,h3⟩:=SX.out w1 H1.out.1
 clear fP CH CX e0 e1 f1 f3 h3
 go_wp2_with fail
 (with_reducible refine KZ.out.mono ?_)
 rintro en w2 ⟨rfl,fY⟩
 have H2:=ed (ef (zzT H1.out.1 fY) (zzT H1.out.2 fY))
 clear fY f2 h2 KZ
 go_wp2_with fail
 (with_reducible refine (CY.out w2).mono ?_)
 rintro en w3 ⟨ta,tc,rfl,fE,tG⟩
 have H3:=ed (ef (zzT H2.out.1 fE) (ef (zzT H2.out.2 fE) (tG.weak (G:=fun i=>F i\/W0.heap.size<=i) (fun i h=>.inr (fQ H2.out.1.size h)))))
 clear fE tG CY
 go_wp2_with fail
 obtain ⟨V,hV⟩:=zzN (w3.alloc (.cells #[.slice ta k.args.length tc] 43))
 rw [hV]
 have Al:Below w3.heap.size w3 V:=by rw [<- hV];exact (e_ _ _).alloc (ei _) _
 obtain ⟨ga,Jr⟩:=zzN (w3.heap.size)
 have ES:V.cell? ⟨ga,0,none⟩=some (.slice ta k.args.length tc):=by rw [<- hV,<- Jr];simp
 have HV:=ed (ef (zzT H3.out.1 Al) (zzT H3.out.2.1 Al))
 have TA:Hid (Rep (fun i=>i<V.heap.size/\(F i\/W0.heap.size<=i)) V (kz k) (.slice ta k.args.length tc)):=(Rep.keep fun i x h hx=>⟨⟨zZ hx,h⟩,hx⟩).1 _ _ (Rep.below (F':=fun i=>F i\/W0.heap.size<=i) Al (fun _ h=>h) H3.out.2.2)
 rw [Jr]
 have SV:Hid (∀ w',Below V.heap.size V w'->w'.cell? ⟨w.heap.size,0,none⟩=some (.slice na ns.length nc)/\w'.cell? ⟨w.heap.size,1,none⟩=some (.slice ka ns.length kc)/\w'.cell? ⟨fT,fS+2,none⟩=some (str s1)/\w'.cell? ⟨fT,fS+6,none⟩=some (str s3)/\w'.cell? ⟨fT,fS+7,none⟩=some (.slice a3 n3 c3)/\w'.cell? ⟨ga,0,none⟩=some (.slice ta k.args.length tc)):=by
  show ∀ w',_->_
  intro w' h
  obtain ⟨e0,e1,f1,_,_,f3,h3⟩:=SX.out w' (zzT HV.out.1 h)
  exact ⟨e0,e1,f1,f3,h3,(h.cell (e9 _ _ ES)).trans ES⟩
 have oldV:Hid (∀ i,F i->i<V.heap.size):=fun i h=>fK (HP.out.1.old i h) HV.out.2.size
 have CW:=ed (fun wz (hz:Below V.heap.size V wz)=>withNames (fun i=>i<V.heap.size/\(F i\/W0.heap.size<=i)) ns s1 k (.slice na ns.length nc) (.slice ka ns.length kc) ta tc wz ((Rep.keep fun i x (h:F i) hx=>⟨⟨oldV.out i h,.inl h⟩,hx⟩).1 _ _ (Rep.below (F':=F) (zzT HV.out.2 hz) (fun _ h=>h) HP.out.1.rn)) ((Rep.keep fun i x (h:F i) hx=>⟨⟨oldV.out i h,.inl h⟩,hx⟩).1 _ _ (Rep.below (F':=F) (zzT HV.out.2 hz) (fun _ h=>h) HP.out.1.rk)) (Rep.below (F':=fun i=>i<V.heap.size/\(F i\/W0.heap.size<=i)) hz (fun _ h=>h) TA.out) (by omega))
 obtain ⟨_,kb0,Jg,_⟩:=gz si
 have hML:zN ns (.lam s1 k t)=zN (ns++[(s1,k)]) t:=by rw [zN]
 obtain ⟨om,oV⟩:=zzM (zN (ns++[(s1,k)]) t)
 rw [<- oV] at hML
 have CZ:Hid (∀ (A1:World) (a5 a6:Option Addr) (c5 c6:Nat),Below V.heap.size V A1 ->
  Rep (fun i=>((i<V.heap.size/\(F i\/W0.heap.size<=i))\/V.heap.size<=i)/\i<A1.heap.size) A1 (.sl 9 1 (ns++[(s1,k)]).length ((ns++[(s1,k)]).map fun p=>DV.val (str p.1))) (.slice a5 (ns.length+1) c5) ->
  Rep (fun i=>((i<V.heap.size/\(F i\/W0.heap.size<=i))\/V.heap.size<=i)/\i<A1.heap.size) A1 (.sl 43 1 (ns++[(s1,k)]).length (qH (kinds (ns++[(s1,k)])))) (.slice a6 (ns.length+1) c6) ->
  Calls Tryz.prog 17 #[.agg #[.slice a5 (ns.length+1) c5,.slice a6 (ns.length+1) c6],.agg #[str s3,.slice a3 n3 c3]] A1 (qj (fun i=>((i<V.heap.size/\(F i\/W0.heap.size<=i))\/V.heap.size<=i)/\i<A1.heap.size) om A1)):=by
  show ∀ _,_
  intro A1 a5 a6 c5 c6 hz h5 h6
  have Av:=zzT HV.out.2 hz
  have h:=IH.out (fun i=>((i<V.heap.size/\(F i\/W0.heap.size<=i))\/V.heap.size<=i)/\i<A1.heap.size) t (ns++[(s1,k)]) kb0 _ _ _ _ A1 (by have:=HP.out.2.2.2.2;omega) ⟨fun i h=>h.2,zX.below Av (fun i h=>⟨.inl ⟨oldV.out i h,.inl h⟩,fK (oldV.out i h) hz.size⟩) HP.out.2.2.2.1,h5,h6,HP.out.2.1.2,HP.out.2.2.1.2,(fun p hm=>by
   rcases List.mem_append.1 hm with hm | hm
   ·exact HP.out.1.nm p hm
   ·simp at hm;subst hm;exact HP.out.2.1.1),(fun a ha=>by
   rw [jY] at ha
   rcases List.mem_append.1 ha with ha | ha
   ·exact HP.out.1.n15 a ha
   ·simp at ha;subst ha;exact HP.out.2.2.1.1),by rw [List.length_append];simp;omega⟩ Jg
  rw [<- oV] at h
  exact h
 have HML:=ed hML
 clear hML oV H1 H2 H3 Al hV IH SX Jg
 refine wp_region_noPanic ?_
 refine zB (fun w'=>Below V.heap.size V w') (fun i=>i == 13 || i == 14) (by kernel_rfl) ?_
 have fV:(fun w'=>Below V.heap.size V w') V.drew:=Below.drew (e_ _ _)
 refine tk [0,1,2,3,4,5,7,8,9] fV ?_
 (intro d hd;simp [tkD] at hd;subst hd;simp only [tks,pQ,pZ,pS])
 iterate 9 (refine ⟨?_,?_,?_⟩;rotate_left;· (intro oi ho;simp at ho;subst ho;refine Or.inl ⟨by rfl,fun w' fB=>?_⟩;obtain ⟨e0,e1,f1,f3,h3,e8⟩:=SV.out w' fB;go_simp;try with_reducible rfl))
 (refine on 6 ?_;intro o ho K' hK;simp at ho;subst ho;go_simp)
 go_at_call 40
 (with_reducible refine (CW.out _ fV).mono ?_)
 rintro en y1 ⟨aq,cq,ar,cr,rfl,fh,GX,GW⟩
 have fX:Below V.heap.size V y1:=fV.trans fh
 (refine hK.out _ _ (fun _=>fX) ?_;clear hK K';try simp only [pQ,pN,pZ,pS])
 have hS6:=fX
 (refine on 10 ?_;intro o ho K' hK;simp at ho;subst ho)
 have oJ:Rep (fun i=>((i<V.heap.size/\(F i\/W0.heap.size<=i))\/V.heap.size<=i)/\i<y1.heap.size) y1 (.sl 9 1 (ns++[(s1,k)]).length ((ns++[(s1,k)]).map fun p=>DV.val (str p.1))) (.slice aq (ns.length+1) cq):=(Rep.keep fun i x hi hx=>⟨⟨hi,zZ hx⟩,hx⟩).1 _ _ GX
 have oQ:Rep (fun i=>((i<V.heap.size/\(F i\/W0.heap.size<=i))\/V.heap.size<=i)/\i<y1.heap.size) y1 (.sl 43 1 (ns++[(s1,k)]).length (qH (kinds (ns++[(s1,k)])))) (.slice ar (ns.length+1) cr):=(Rep.keep fun i x hi hx=>⟨⟨hi,zZ hx⟩,hx⟩).1 _ _ GW
 have AX:=CZ.out y1 aq ar cq cr fX oJ oQ
 go_simp
 go_at_call 17
 (with_reducible refine AX.mono ?_)
 rintro en y2 ⟨ss,vv,aa,an,ac,ba,bn,bc,rfl,hbk,mD⟩
 have nL:Below V.heap.size V y2:=zzT fX hbk
 (refine hK.out _ _ (fun _=>nL) ?_;clear hK K';try simp only [pQ,pN,pZ,pS])
 have Gp:=nL
 have ET:Hid (Below W0.heap.size W0 y2):=zzT HV.out.1 nL
 have NRY:Hid (z9 (w.heap.size+1+1) 0 (.slice none 0 0) (.slice none 0 0) y2):=z9.below (B:=W0.heap.size) H0.out.2.2.2 ET.out (zZ H0.out.2.2.2)
 have HRK:Hid (∀ x,om=some x->zX (fun i=>F i\/W0.heap.size<=i) y2 (kE x) [str ss,.int .i64 vv,.slice aa an ac,.slice ba bn bc]):=fun x hx=>(mD x hx).weakS fun i h=>by
  have z1:=HV.out.1.size
  have z2:=fX.size
  rcases h with h | h
  ·rcases h.1 with h1 | h1
   ·exact h1.2
   ·exact .inr (by omega)
  ·exact .inr (by omega)
 obtain ⟨tN,aC,iC,Ar,_,rff⟩:=NRY.out.cells
 have mg:=rff 0;have nD:=rff 1;have rG:=rff 2;have sh:=rff 3
 clear rff
 refine tk [11,12] Gp ?_
 (intro d hd;simp [tkD] at hd;subst hd;simp only [tks,pQ,pZ,pS])
 iterate 2 (refine ⟨?_,?_,?_⟩;rotate_left;· (intro oi ho;simp at ho;subst ho;refine Or.inl ⟨by rfl,fun w' fB=>?_⟩;go_simp;try with_reducible rfl))
 (refine on 13 ?_;intro o ho K' hK;simp at ho;subst ho;go_simp)
 (refine hK.out _ _ (fun h=>by simp at h) ?_;clear hK K';try simp only [pQ,pN,pZ,pS])
 (refine on 14 ?_;intro o ho K' hK;simp at ho;subst ho;go_simp)
 (refine hK.out _ _ (fun h=>by simp at h) ?_;clear hK K';try simp only [pQ,pN,pZ,pS])
 refine zU (by kernel_rfl) (NoPanic.normal ?_) _
 go_wp2_with fail
 obtain ⟨W,hW,f_,fe,f7,mQ,fD,fO⟩:=z9.store (NRY.out) (str ss) (.int .i64 vv) (.slice aa an ac) (.slice ba bn bc)
 rw [<- hW]
 refine bodyPost_ret (v:=.tuple #[.agg #[str ss,.int .i64 vv,.slice aa an ac,.slice ba bn bc],.bool om.isSome]) (by simp [results,Tryz.results17,go_sem,f_,fe,f7,mQ]) rfl ?_
 rw [HML.out]
 exact uz HP.out.1.old H0.out.1 H0.out.2.1 ET.out HRK.out fD fO
def dO:Option Bd->List DV
 | some x=>kE x
 | none=>[]
def vO:Option Bd->List Value->List Value
 | some _,vs=>vs
 | none,_=>[]
theorem repO {F:Nat->Prop} {w:World} {o:Option Bd} {vs:List Value} (h:∀ x,o=some x->zX F w (kE x) vs):zX F w (dO o) (vO o vs):=by
 cases o with
 | none=>exact zC.2 rfl
 | some x=>exact h x rfl
set_option maxRecDepth 100000 in
theorem of_app (M:Nat) (ih:OfSaid M) (F:Nat->Prop) (m n:Tm) (ns:List Nm) (nv tv s pv:Value) (w:World) (k0:Ty) (hN:zM (.app m n)<=M+1) (hp:wF F (.app m n) ns nv tv s pv w) (si:typeOf ns (.app m n)=some k0):Calls Tryz.prog 17 #[.agg #[nv,tv],.agg #[s,pv]] w (qj F (zN ns (.app m n)) w):=by
 have hold:=hp.old
 obtain ⟨na,nc,rfl,_,_,mz⟩:=zP hp.rn
 obtain ⟨ka,kc,rfl,_,_,mn⟩:=zP hp.rk
 have fa:=hp.rt
 rw [z_] at fa
 obtain ⟨qa,qc,e,fA⟩:=qO fa
 simp only [qQ,qd,List.cons.injEq,and_true] at e fA
 obtain ⟨rfl,rfl⟩:=e
 obtain ⟨_,_,e,fU⟩:=ud.of fA
 simp only [Value.slice.injEq,true_and] at e
 obtain ⟨rfl,rfl⟩:=e
 obtain ⟨fT,fS,s1,a1,n1,c1,d1,tp,mL,sJ,sU,iE,rH,As,Br⟩:=fU 1 (by simp)
 simp only [List.getElem?_cons_zero,List.getElem?_cons_succ,Option.some.injEq] at sJ
 subst sJ
 subst tp
 obtain ⟨Fs,Fq,s2,a2,n2,c2,d2,tw,i2,tx,tg,iD,sf,Bj,Bq⟩:=fU 2 (by simp)
 simp only [List.getElem?_cons_zero,List.getElem?_cons_succ,Option.some.injEq] at tx
 subst tx
 simp only [Option.some.injEq,Addr.mk.injEq,and_true] at tw
 obtain ⟨rfl,rfl⟩:=tw
 have fg:=hp.room
 have fw:=hp.ok
 have mO:=hp.sm
 rw [zM] at fg hN
 rw [kQ] at mO
 simp only [Bool.and_eq_true] at mO
 obtain ⟨KT,Ig,rest,tym,tyn,mU,_⟩:=wR si
 obtain ⟨W0,ff⟩:=zzM (((w.alloc (.cells #[.slice na ns.length nc,.slice ka ns.length kc] 53)).alloc (.cells #[str [],.slice (some ⟨fT,fS,none⟩) 3 qc] 40)).alloc (.cells #[str [],.int .i64 0,.slice none 0 0,.slice none 0 0] 48))
 obtain ⟨fq,z0,bA,bB,bC⟩:=yL w (.cells #[.slice na ns.length nc,.slice ka ns.length kc] 53) (.cells #[str [],.slice (some ⟨fT,fS,none⟩) 3 qc] 40) (.cells #[str [],.int .i64 0,.slice none 0 0,.slice none 0 0] 48)
 rw [<- ff] at fq z0 bA bB bC
 have CH:=ed (show Calls Tryz.prog 37 #[.agg #[str [],.slice (some ⟨fT,fS,none⟩) 3 qc]] W0 (fun en w'=>en=.returned (str (yM (z_ (.app m n))))/\Below W0.heap.size W0 w') from uG (z_ (.app m n)) (j_ _ hp.ok) F W0 _ _ (zX.below fq (fun _ h=>h) hp.rt))
 have Cp:yM (z_ (.app m n))=[97,112,112]:=by rw [z_];rfl
 rw [Cp] at CH
 have H0:=ed (ef fq (ef z0 (ef bA bC)))
 obtain ⟨om,oV⟩:=zzN (zN ns m)
 have Cm:Hid (∀ wz,Below w.heap.size w wz->Calls Tryz.prog 17 #[.agg #[.slice na ns.length nc,.slice ka ns.length kc],.agg #[str s1,.slice a1 n1 c1]] wz (qj F om wz)):=by
  show ∀ wz,_->_
  intro wz hz
  have h:=ih F m ns _ _ _ _ _ wz (by omega) ⟨fun i h=>fK (hp.old i h) hz.size,zX.below hz (fun _ h=>h) rH,Rep.below hz (fun _ h=>h) hp.rn,Rep.below hz (fun _ h=>h) hp.rk,fw.1,mO.1,hp.nm,hp.n15,by omega⟩ tym
  rw [oV] at h
  exact h
 have CKK:Hid (∀ wz,Below w.heap.size w wz->Calls Tryz.prog 34 #[.agg #[.slice na ns.length nc,.slice ka ns.length kc],.agg #[str s1,.slice a1 n1 c1]] wz (v7 F wz KT true)):=by
  show ∀ wz,_->_
  intro wz hz
  have h:=gM (zM m) F m ns _ _ _ _ wz (ei _) ⟨fun i h=>fK (hp.old i h) hz.size,zX.below hz (fun _ h=>h) rH,Rep.below hz (fun _ h=>h) hp.rn,Rep.below hz (fun _ h=>h) hp.rk,fw.1,mO.1,hp.nm,hp.n15,by omega⟩
  rw [kindR_of tym] at h
  exact h
 obtain ⟨oN,lQ⟩:=zzN (zN ns n)
 have Cn:Hid (∀ wz,Below w.heap.size w wz->Calls Tryz.prog 17 #[.agg #[.slice na ns.length nc,.slice ka ns.length kc],.agg #[str s2,.slice a2 n2 c2]] wz (qj F oN wz)):=by
  show ∀ wz,_->_
  intro wz hz
  have h:=ih F n ns _ _ _ _ _ wz (by omega) ⟨fun i h=>fK (hp.old i h) hz.size,zX.below hz (fun _ h=>h) sf,Rep.below hz (fun _ h=>h) hp.rn,Rep.below hz (fun _ h=>h) hp.rk,fw.2,mO.2,hp.nm,hp.n15,by omega⟩ tyn
  rw [lQ] at h
  exact h
 have e0:W0.cell? ⟨w.heap.size,0,none⟩=some (.slice na ns.length nc):=by simp [World.cell?,bA]
 have e1:W0.cell? ⟨w.heap.size,1,none⟩=some (.slice ka ns.length kc):=by simp [World.cell?,bA]
 have SX:Hid (∀ w',Below W0.heap.size W0 w'->w'.cell? ⟨w.heap.size,0,none⟩=some (.slice na ns.length nc)/\w'.cell? ⟨w.heap.size,1,none⟩=some (.slice ka ns.length kc)/\w'.cell? ⟨fT,fS+2,none⟩=some (str s1)/\w'.cell? ⟨fT,fS+3,none⟩=some (.slice a1 n1 c1)/\w'.cell? ⟨fT,fS+4,none⟩=some (str s2)/\w'.cell? ⟨fT,fS+5,none⟩=some (.slice a2 n2 c2)):=by
  show ∀ w',_->_
  intro w' fN
  have fc:=zzT fq fN
  exact ⟨(fN.cell (e9 W0 _ e0)).trans e0,(fN.cell (e9 W0 _ e1)).trans e1,(fc.cell (p:=⟨fT,fS+2,none⟩) mL).trans sU,(fc.cell (p:=⟨fT,fS+3,none⟩) mL).trans iE,(fc.cell (p:=⟨fT,fS+4,none⟩) mL).trans tg,(fc.cell (p:=⟨fT,fS+5,none⟩) mL).trans iD⟩
 have HP:=ed (ef hp (ef fw mO))
 have hlen:ns.length<=100:=by omega
 have iH:=ed (ef tym (ef tyn (ef mU (ef oV (lQ)))))
 clear tym tyn mU oV lQ si
 clear mz mn fA fU fa hp fw mO ih hN fq z0 bA bB bC e0 e1 rH sU iE As Br mL sf tg iD Bj Bq i2
 go_enter Tryz.func17,Tryz.ntmps17
 go_wp2_with fail
 rw [<- ff]
 clear ff
 (with_reducible refine CH.out.mono ?_)
 rintro en w1 ⟨rfl,fP⟩
 have H1:=ed (ef fP (zzT H0.out.1 fP))
 clear fP CH
 go_wp2_with fail
 have CRK:=ed (fun wz (hz:Below w1.heap.size w1 wz)=>CKK.out wz (H1.out.2.trans (hz.mono (H1.out.2).size)))
 have hFK:Hid (∀ i,F i->i<w1.heap.size):=fun i h=>fK (HP.out.1.old i h) (H1.out.2).size
 refine jR (X:=Nat×Option Addr×Nat) (fun a x=>((((((((((a.put (some 92) (.agg #[.slice na ns.length nc,.slice ka ns.length kc])).put (some 93) (.slice (some ⟨fT,fS,none⟩) 3 qc)).put (some 94) (.pointer (some ⟨fT,fS+2,none⟩))).put (some 95) (.agg #[str s1,.slice a1 n1 c1])).put (some 96) (.tuple #[.agg #[.slice x.2.1 (KT).args.length x.2.2],.bool true])).put (some 91) (.tuple #[.agg #[.slice x.2.1 (KT).args.length x.2.2],.bool true])).put (some 97) (.agg #[.slice x.2.1 (KT).args.length x.2.2])).put (some 98) (.bool true)).put (some 12) (.pointer (some ⟨x.1,0,none⟩))).put (some 13) (.bool true))) (fun x w'=>z8 F w1 x.1 (.cells #[.slice x.2.1 (KT).args.length x.2.2] 43 (0,0)) [kz KT] [.slice x.2.1 (KT).args.length x.2.2] w') ?_ ?_
 ·refine wp_region_noPanic ?_
  refine zB (fun w'=>Below w1.heap.size w1 w') (fun _=>false) (by kernel_rfl) ?_
  have fV:(fun w'=>Below w1.heap.size w1 w') w1.drew:=Below.drew (e_ _ _)
  refine tk [0,1,2,3] fV ?_
  (intro d hd;simp [tkD] at hd;subst hd;simp only [tks,pQ,pZ,pS])
  iterate 4 (refine ⟨?_,?_,?_⟩;rotate_left;· (intro oi ho;simp at ho;subst ho;refine Or.inl ⟨by rfl,fun w' fB=>?_⟩;obtain ⟨e0,e1,f1,h1,f2,h2⟩:=SX.out w' (H1.out.1.trans (fB.mono (H1.out.1).size));go_simp;try with_reducible rfl))
  refine k8 4 8 (by kernel_rfl) ?_ ?_
  ·(intro o4 ho K' hK;simp at ho;subst ho)
   go_simp
   go_at_call 34
   (with_reducible refine (CRK.out w1.drew fV).mono ?_)
   rintro en y1 ⟨xx,yy,rfl,hb,hr⟩
   have fX:Below w1.heap.size w1 y1:=fV.trans hb
   (refine hK.out _ _ (fun _=>fX) ?_;clear hK K';try simp only [pQ,pN,pZ,pS])
   refine tk [5,6,7] fX ?_
   (intro d hd;simp [tkD] at hd;subst hd;simp only [tks,pQ,pZ,pS])
   iterate 3 (refine ⟨?_,?_,?_⟩;rotate_left;· (intro oi ho;simp at ho;subst ho;refine Or.inl ⟨by rfl,fun w' fB=>?_⟩;go_simp;try with_reducible rfl))
   (refine on 8 ?_;intro o ho K' hK;simp at ho;subst ho;go_simp)
   (refine hK.out _ _ (fun _=>fX.alloc (fX).size _) ?_;clear hK K';try simp only [pQ,pN,pZ,pS])
   have bz:(y1.alloc (.cells #[.slice none 0 0] 43)).heap[y1.heap.size]? = some (.cells #[.slice none 0 0] 43 (0,0)):=zG _ _
   have sS:=(show _=some _ from by simp only [World.cell?,bz];rfl:(y1.alloc (.cells #[.slice none 0 0] 43)).cell? ⟨y1.heap.size,0,none⟩=some (.slice none 0 0))
   have sR:(y1.alloc (.cells #[.slice none 0 0] 43)).frozen? ⟨y1.heap.size,0,none⟩=false:=by simp only [World.frozen?,bz];rfl
   (refine on 9 ?_;intro o ho K' hK;simp at ho;subst ho;go_simp)
   (refine hK.out _ _ (fun _=>fX.alloc fX.size _) ?_;clear hK K';try simp only [pQ,pN,pZ,pS])
   (refine on 10 ?_;intro o ho K' hK;simp at ho;subst ho;go_simp)
   (refine hK.out _ _ (fun _=>fX.alloc fX.size _) ?_;clear hK K';try simp only [pQ,pN,pZ,pS])
   refine zU (by kernel_rfl) (NoPanic.normal ?_) _
   exact ⟨rfl,⟨y1.heap.size,xx,yy⟩,by rfl,z8.fresh fX (zX.one hr)⟩
  ·(intro o8 ho K' hK;simp at ho;subst ho)
   go_simp
   (refine hK.out _ _ (fun _=>fV.alloc (ei _) _) ?_;clear hK K';try simp only [pQ,pN,pZ,pS])
   (refine on 4 ?_;intro o ho K' hK;simp at ho;subst ho;go_simp)
   go_at_call 34
   have mP:Below w1.heap.size w1 (w1.alloc (.cells #[.slice none 0 0] 43)).drew:=fV.alloc (ei _) _
   (with_reducible refine (CRK.out _ mP).mono ?_)
   rintro en y1 ⟨xx,yy,rfl,hb,hr⟩
   have fX:Below w1.heap.size w1 y1:=zzT mP hb
   (refine hK.out _ _ (fun _=>fX) ?_;clear hK K';try simp only [pQ,pN,pZ,pS])
   refine tk [5,6,7] fX ?_
   (intro d hd;simp [tkD] at hd;subst hd;simp only [tks,pQ,pZ,pS])
   iterate 3 (refine ⟨?_,?_,?_⟩;rotate_left;· (intro oi ho;simp at ho;subst ho;refine Or.inl ⟨by rfl,fun w' fB=>?_⟩;go_simp;try with_reducible rfl))
   have bz:y1.heap[w1.heap.size]? = some (.cells #[.slice none 0 0] 43 (0,0)):=(hb.block _ (show _<_ from by simp)).trans (zG w1 (.cells #[.slice none 0 0] 43))
   have sS:=(show _=some _ from by simp only [World.cell?,bz];rfl:(y1).cell? ⟨w1.heap.size,0,none⟩=some (.slice none 0 0))
   have sR:(y1).frozen? ⟨w1.heap.size,0,none⟩=false:=by simp only [World.frozen?,bz];rfl
   (refine on 9 ?_;intro o ho K' hK;simp at ho;subst ho;go_simp)
   (refine hK.out _ _ (fun _=>(fX.setCell (p:=⟨w1.heap.size,0,none⟩) (ei _) _)) ?_;clear hK K';try simp only [pQ,pN,pZ,pS])
   (refine on 10 ?_;intro o ho K' hK;simp at ho;subst ho;go_simp)
   (refine hK.out _ _ (fun _=>(fX.setCell (p:=⟨w1.heap.size,0,none⟩) (ei _) _)) ?_;clear hK K';try simp only [pQ,pN,pZ,pS])
   refine zU (by kernel_rfl) (NoPanic.normal ?_) _
   exact ⟨rfl,⟨w1.heap.size,xx,yy⟩,by rfl,z8.first hFK.out mP (by simp) hb (zX.one hr) (but1 _ _ _) (by rw [zT bz];rfl)⟩
 rintro ⟨gk,xk,yk⟩ zk hR
 have Rk:Hid (z8 F w1 gk (.cells #[.slice xk (KT).args.length yk] 43 (0,0)) [kz KT] [.slice xk (KT).args.length yk] zk):=hR
 have iV:Hid (Below W0.heap.size W0 zk/\Below w.heap.size w zk):=⟨H1.out.1.trans (Rk.out.below.mono (H1.out.1).size),H1.out.2.trans (Rk.out.below.mono (H1.out.2).size)⟩
 have HLk:Hid (W0.heap.size<=w1.heap.size):=(H1.out.1).size
 clear hR CRK
 simp only [Act.put,List.setIfInBounds_toArray,List.set_cons_zero,List.set_cons_succ]
 go_wp2_with fail
 have CRm:=ed (fun wz (hz:Below zk.heap.size zk wz)=>Cm.out wz (iV.out.2.trans (hz.mono (iV.out.2).size)))
 have Gs:Hid (∀ i,F i->i<zk.heap.size):=fun i h=>fK (HP.out.1.old i h) (iV.out.2).size
 refine jR (X:=Nat×Bs×Int×Option Addr×Nat×Nat×Option Addr×Nat×Nat) (fun a x=>((((((((((a.put (some 100) (.agg #[.slice na ns.length nc,.slice ka ns.length kc])).put (some 101) (.slice (some ⟨fT,fS,none⟩) 3 qc)).put (some 102) (.pointer (some ⟨fT,fS+2,none⟩))).put (some 103) (.agg #[str s1,.slice a1 n1 c1])).put (some 104) (.tuple #[.agg #[str x.2.1,.int .i64 x.2.2.1,.slice x.2.2.2.1 x.2.2.2.2.1 x.2.2.2.2.2.1,.slice x.2.2.2.2.2.2.1 x.2.2.2.2.2.2.2.1 x.2.2.2.2.2.2.2.2],.bool om.isSome])).put (some 99) (.tuple #[.agg #[str x.2.1,.int .i64 x.2.2.1,.slice x.2.2.2.1 x.2.2.2.2.1 x.2.2.2.2.2.1,.slice x.2.2.2.2.2.2.1 x.2.2.2.2.2.2.2.1 x.2.2.2.2.2.2.2.2],.bool om.isSome])).put (some 105) (.agg #[str x.2.1,.int .i64 x.2.2.1,.slice x.2.2.2.1 x.2.2.2.2.1 x.2.2.2.2.2.1,.slice x.2.2.2.2.2.2.1 x.2.2.2.2.2.2.2.1 x.2.2.2.2.2.2.2.2])).put (some 106) (.bool om.isSome)).put (some 14) (.pointer (some ⟨x.1,0,none⟩))).put (some 15) (.bool om.isSome))) (fun x w'=>z8 F zk x.1 (.cells #[str x.2.1,.int .i64 x.2.2.1,.slice x.2.2.2.1 x.2.2.2.2.1 x.2.2.2.2.2.1,.slice x.2.2.2.2.2.2.1 x.2.2.2.2.2.2.2.1 x.2.2.2.2.2.2.2.2] 48 (0,0)) (dO om) (vO om [str x.2.1,.int .i64 x.2.2.1,.slice x.2.2.2.1 x.2.2.2.2.1 x.2.2.2.2.2.1,.slice x.2.2.2.2.2.2.1 x.2.2.2.2.2.2.2.1 x.2.2.2.2.2.2.2.2]) w') ?_ ?_
 ·refine wp_region_noPanic ?_
  refine zB (fun w'=>Below zk.heap.size zk w') (fun _=>false) (by kernel_rfl) ?_
  have fV:(fun w'=>Below zk.heap.size zk w') zk.drew:=Below.drew (e_ _ _)
  refine tk [0,1,2,3] fV ?_
  (intro d hd;simp [tkD] at hd;subst hd;simp only [tks,pQ,pZ,pS])
  iterate 4 (refine ⟨?_,?_,?_⟩;rotate_left;· (intro oi ho;simp at ho;subst ho;refine Or.inl ⟨by rfl,fun w' fB=>?_⟩;obtain ⟨e0,e1,f1,h1,f2,h2⟩:=SX.out w' (iV.out.1.trans (fB.mono (iV.out.1).size));go_simp;try with_reducible rfl))
  refine k8 4 8 (by kernel_rfl) ?_ ?_
  ·(intro o4 ho K' hK;simp at ho;subst ho)
   go_simp
   go_at_call 17
   (with_reducible refine (CRm.out zk.drew fV).mono ?_)
   rintro en y1 ⟨ss,vv,aa,an,ac,ba,bn,bc,rfl,hb,hr⟩
   have fX:Below zk.heap.size zk y1:=fV.trans hb
   (refine hK.out _ _ (fun _=>fX) ?_;clear hK K';try simp only [pQ,pN,pZ,pS])
   refine tk [5,6,7] fX ?_
   (intro d hd;simp [tkD] at hd;subst hd;simp only [tks,pQ,pZ,pS])
   iterate 3 (refine ⟨?_,?_,?_⟩;rotate_left;· (intro oi ho;simp at ho;subst ho;refine Or.inl ⟨by rfl,fun w' fB=>?_⟩;go_simp;try with_reducible rfl))
   (refine on 8 ?_;intro o ho K' hK;simp at ho;subst ho;go_simp)
   (refine hK.out _ _ (fun _=>fX.alloc (fX).size _) ?_;clear hK K';try simp only [pQ,pN,pZ,pS])
   have bz:(y1.alloc (.cells #[str [],.int .i64 0,.slice none 0 0,.slice none 0 0] 48)).heap[y1.heap.size]? = some (.cells #[str [],.int .i64 0,.slice none 0 0,.slice none 0 0] 48 (0,0)):=zG _ _
   have sS:=(show _=some _ from by simp only [World.cell?,bz];rfl:(y1.alloc (.cells #[str [],.int .i64 0,.slice none 0 0,.slice none 0 0] 48)).cell? ⟨y1.heap.size,0,none⟩=some (str []))
   have sR:(y1.alloc (.cells #[str [],.int .i64 0,.slice none 0 0,.slice none 0 0] 48)).frozen? ⟨y1.heap.size,0,none⟩=false:=by simp only [World.frozen?,bz];rfl
   have Bg:=(show _=some _ from by simp only [World.cell?,bz];rfl:(y1.alloc (.cells #[str [],.int .i64 0,.slice none 0 0,.slice none 0 0] 48)).cell? ⟨y1.heap.size,1,none⟩=some (.int .i64 0))
   have oz:(y1.alloc (.cells #[str [],.int .i64 0,.slice none 0 0,.slice none 0 0] 48)).frozen? ⟨y1.heap.size,1,none⟩=false:=by simp only [World.frozen?,bz];rfl
   have Bf:=(show _=some _ from by simp only [World.cell?,bz];rfl:(y1.alloc (.cells #[str [],.int .i64 0,.slice none 0 0,.slice none 0 0] 48)).cell? ⟨y1.heap.size,2,none⟩=some (.slice none 0 0))
   have Bc:(y1.alloc (.cells #[str [],.int .i64 0,.slice none 0 0,.slice none 0 0] 48)).frozen? ⟨y1.heap.size,2,none⟩=false:=by simp only [World.frozen?,bz];rfl
   have Be:=(show _=some _ from by simp only [World.cell?,bz];rfl:(y1.alloc (.cells #[str [],.int .i64 0,.slice none 0 0,.slice none 0 0] 48)).cell? ⟨y1.heap.size,3,none⟩=some (.slice none 0 0))
   have Bb:(y1.alloc (.cells #[str [],.int .i64 0,.slice none 0 0,.slice none 0 0] 48)).frozen? ⟨y1.heap.size,3,none⟩=false:=by simp only [World.frozen?,bz];rfl
   (refine on 9 ?_;intro o ho K' hK;simp at ho;subst ho;go_simp)
   (refine hK.out _ _ (fun _=>fX.alloc fX.size _) ?_;clear hK K';try simp only [pQ,pN,pZ,pS])
   (refine on 10 ?_;intro o ho K' hK;simp at ho;subst ho;go_simp)
   (refine hK.out _ _ (fun _=>fX.alloc fX.size _) ?_;clear hK K';try simp only [pQ,pN,pZ,pS])
   refine zU (by kernel_rfl) (NoPanic.normal ?_) _
   exact ⟨rfl,⟨y1.heap.size,ss,vv,aa,an,ac,ba,bn,bc⟩,by rfl,z8.fresh fX (repO hr)⟩
  ·(intro o8 ho K' hK;simp at ho;subst ho)
   go_simp
   (refine hK.out _ _ (fun _=>fV.alloc (ei _) _) ?_;clear hK K';try simp only [pQ,pN,pZ,pS])
   (refine on 4 ?_;intro o ho K' hK;simp at ho;subst ho;go_simp)
   go_at_call 17
   have mP:Below zk.heap.size zk (zk.alloc (.cells #[str [],.int .i64 0,.slice none 0 0,.slice none 0 0] 48)).drew:=fV.alloc (ei _) _
   (with_reducible refine (CRm.out _ mP).mono ?_)
   rintro en y1 ⟨ss,vv,aa,an,ac,ba,bn,bc,rfl,hb,hr⟩
   have fX:Below zk.heap.size zk y1:=zzT mP hb
   (refine hK.out _ _ (fun _=>fX) ?_;clear hK K';try simp only [pQ,pN,pZ,pS])
   refine tk [5,6,7] fX ?_
   (intro d hd;simp [tkD] at hd;subst hd;simp only [tks,pQ,pZ,pS])
   iterate 3 (refine ⟨?_,?_,?_⟩;rotate_left;· (intro oi ho;simp at ho;subst ho;refine Or.inl ⟨by rfl,fun w' fB=>?_⟩;go_simp;try with_reducible rfl))
   have bz:y1.heap[zk.heap.size]? = some (.cells #[str [],.int .i64 0,.slice none 0 0,.slice none 0 0] 48 (0,0)):=(hb.block _ (show _<_ from by simp)).trans (zG zk (.cells #[str [],.int .i64 0,.slice none 0 0,.slice none 0 0] 48))
   have sS:=(show _=some _ from by simp only [World.cell?,bz];rfl:(y1).cell? ⟨zk.heap.size,0,none⟩=some (str []))
   have sR:(y1).frozen? ⟨zk.heap.size,0,none⟩=false:=by simp only [World.frozen?,bz];rfl
   have Bg:=(show _=some _ from by simp only [World.cell?,bz];rfl:(y1).cell? ⟨zk.heap.size,1,none⟩=some (.int .i64 0))
   have oz:(y1).frozen? ⟨zk.heap.size,1,none⟩=false:=by simp only [World.frozen?,bz];rfl
   have Bf:=(show _=some _ from by simp only [World.cell?,bz];rfl:(y1).cell? ⟨zk.heap.size,2,none⟩=some (.slice none 0 0))
   have Bc:(y1).frozen? ⟨zk.heap.size,2,none⟩=false:=by simp only [World.frozen?,bz];rfl
   have Be:=(show _=some _ from by simp only [World.cell?,bz];rfl:(y1).cell? ⟨zk.heap.size,3,none⟩=some (.slice none 0 0))
   have Bb:(y1).frozen? ⟨zk.heap.size,3,none⟩=false:=by simp only [World.frozen?,bz];rfl
   (refine on 9 ?_;intro o ho K' hK;simp at ho;subst ho;go_simp)
   (refine hK.out _ _ (fun _=>((((fX.setCell (p:=⟨zk.heap.size,0,none⟩) (ei _) _).setCell (p:=⟨zk.heap.size,1,none⟩) (ei _) _).setCell (p:=⟨zk.heap.size,2,none⟩) (ei _) _).setCell (p:=⟨zk.heap.size,3,none⟩) (ei _) _)) ?_;clear hK K';try simp only [pQ,pN,pZ,pS])
   (refine on 10 ?_;intro o ho K' hK;simp at ho;subst ho;go_simp)
   (refine hK.out _ _ (fun _=>((((fX.setCell (p:=⟨zk.heap.size,0,none⟩) (ei _) _).setCell (p:=⟨zk.heap.size,1,none⟩) (ei _) _).setCell (p:=⟨zk.heap.size,2,none⟩) (ei _) _).setCell (p:=⟨zk.heap.size,3,none⟩) (ei _) _)) ?_;clear hK K';try simp only [pQ,pN,pZ,pS])
   refine zU (by kernel_rfl) (NoPanic.normal ?_) _
   exact ⟨rfl,⟨zk.heap.size,ss,vv,aa,an,ac,ba,bn,bc⟩,by rfl,z8.first Gs.out mP (by simp) hb (repO hr) (but4 _ _ _ _ _ _) (by rw [zT (zT (zT (zT bz)))];rfl)⟩
 rintro ⟨gm,ssm,vvm,aam,anm,acm,bam,bnm,bcm⟩ zm hR
 have Rm:Hid (z8 F zk gm (.cells #[str ssm,.int .i64 vvm,.slice aam anm acm,.slice bam bnm bcm] 48 (0,0)) (dO om) (vO om [str ssm,.int .i64 vvm,.slice aam anm acm,.slice bam bnm bcm]) zm):=hR
 have nC:Hid (Below W0.heap.size W0 zm/\Below w.heap.size w zm):=⟨iV.out.1.trans (Rm.out.below.mono (iV.out.1).size),iV.out.2.trans (Rm.out.below.mono (iV.out.2).size)⟩
 have GF:Hid (W0.heap.size<=zk.heap.size):=(iV.out.1).size
 clear hR CRm
 simp only [Act.put,List.setIfInBounds_toArray,List.set_cons_zero,List.set_cons_succ]
 go_wp2_with fail
 have CRn:=ed (fun wz (hz:Below zm.heap.size zm wz)=>Cn.out wz (nC.out.2.trans (hz.mono (nC.out.2).size)))
 have Du:Hid (∀ i,F i->i<zm.heap.size):=fun i h=>fK (HP.out.1.old i h) (nC.out.2).size
 refine jR (X:=Nat×Bs×Int×Option Addr×Nat×Nat×Option Addr×Nat×Nat) (fun a x=>((((((((((a.put (some 108) (.agg #[.slice na ns.length nc,.slice ka ns.length kc])).put (some 109) (.slice (some ⟨fT,fS,none⟩) 3 qc)).put (some 110) (.pointer (some ⟨fT,fS+4,none⟩))).put (some 111) (.agg #[str s2,.slice a2 n2 c2])).put (some 112) (.tuple #[.agg #[str x.2.1,.int .i64 x.2.2.1,.slice x.2.2.2.1 x.2.2.2.2.1 x.2.2.2.2.2.1,.slice x.2.2.2.2.2.2.1 x.2.2.2.2.2.2.2.1 x.2.2.2.2.2.2.2.2],.bool oN.isSome])).put (some 107) (.tuple #[.agg #[str x.2.1,.int .i64 x.2.2.1,.slice x.2.2.2.1 x.2.2.2.2.1 x.2.2.2.2.2.1,.slice x.2.2.2.2.2.2.1 x.2.2.2.2.2.2.2.1 x.2.2.2.2.2.2.2.2],.bool oN.isSome])).put (some 113) (.agg #[str x.2.1,.int .i64 x.2.2.1,.slice x.2.2.2.1 x.2.2.2.2.1 x.2.2.2.2.2.1,.slice x.2.2.2.2.2.2.1 x.2.2.2.2.2.2.2.1 x.2.2.2.2.2.2.2.2])).put (some 114) (.bool oN.isSome)).put (some 16) (.pointer (some ⟨x.1,0,none⟩))).put (some 17) (.bool oN.isSome))) (fun x w'=>z8 F zm x.1 (.cells #[str x.2.1,.int .i64 x.2.2.1,.slice x.2.2.2.1 x.2.2.2.2.1 x.2.2.2.2.2.1,.slice x.2.2.2.2.2.2.1 x.2.2.2.2.2.2.2.1 x.2.2.2.2.2.2.2.2] 48 (0,0)) (dO oN) (vO oN [str x.2.1,.int .i64 x.2.2.1,.slice x.2.2.2.1 x.2.2.2.2.1 x.2.2.2.2.2.1,.slice x.2.2.2.2.2.2.1 x.2.2.2.2.2.2.2.1 x.2.2.2.2.2.2.2.2]) w') ?_ ?_
 ·refine wp_region_noPanic ?_
  refine zB (fun w'=>Below zm.heap.size zm w') (fun _=>false) (by kernel_rfl) ?_
  have fV:(fun w'=>Below zm.heap.size zm w') zm.drew:=Below.drew (e_ _ _)
  refine tk [0,1,2,3] fV ?_
  (intro d hd;simp [tkD] at hd;subst hd;simp only [tks,pQ,pZ,pS])
  iterate 4 (refine ⟨?_,?_,?_⟩;rotate_left;· (intro oi ho;simp at ho;subst ho;refine Or.inl ⟨by rfl,fun w' fB=>?_⟩;obtain ⟨e0,e1,f1,h1,f2,h2⟩:=SX.out w' (nC.out.1.trans (fB.mono (nC.out.1).size));go_simp;try with_reducible rfl))
  refine k8 4 8 (by kernel_rfl) ?_ ?_
  ·(intro o4 ho K' hK;simp at ho;subst ho)
   go_simp
   go_at_call 17
   (with_reducible refine (CRn.out zm.drew fV).mono ?_)
   rintro en y1 ⟨ss,vv,aa,an,ac,ba,bn,bc,rfl,hb,hr⟩
   have fX:Below zm.heap.size zm y1:=fV.trans hb
   (refine hK.out _ _ (fun _=>fX) ?_;clear hK K';try simp only [pQ,pN,pZ,pS])
   refine tk [5,6,7] fX ?_
   (intro d hd;simp [tkD] at hd;subst hd;simp only [tks,pQ,pZ,pS])
   iterate 3 (refine ⟨?_,?_,?_⟩;rotate_left;· (intro oi ho;simp at ho;subst ho;refine Or.inl ⟨by rfl,fun w' fB=>?_⟩;go_simp;try with_reducible rfl))
   (refine on 8 ?_;intro o ho K' hK;simp at ho;subst ho;go_simp)
   (refine hK.out _ _ (fun _=>fX.alloc (fX).size _) ?_;clear hK K';try simp only [pQ,pN,pZ,pS])
   have bz:(y1.alloc (.cells #[str [],.int .i64 0,.slice none 0 0,.slice none 0 0] 48)).heap[y1.heap.size]? = some (.cells #[str [],.int .i64 0,.slice none 0 0,.slice none 0 0] 48 (0,0)):=zG _ _
   have sS:=(show _=some _ from by simp only [World.cell?,bz];rfl:(y1.alloc (.cells #[str [],.int .i64 0,.slice none 0 0,.slice none 0 0] 48)).cell? ⟨y1.heap.size,0,none⟩=some (str []))
   have sR:(y1.alloc (.cells #[str [],.int .i64 0,.slice none 0 0,.slice none 0 0] 48)).frozen? ⟨y1.heap.size,0,none⟩=false:=by simp only [World.frozen?,bz];rfl
   have Bg:=(show _=some _ from by simp only [World.cell?,bz];rfl:(y1.alloc (.cells #[str [],.int .i64 0,.slice none 0 0,.slice none 0 0] 48)).cell? ⟨y1.heap.size,1,none⟩=some (.int .i64 0))
   have oz:(y1.alloc (.cells #[str [],.int .i64 0,.slice none 0 0,.slice none 0 0] 48)).frozen? ⟨y1.heap.size,1,none⟩=false:=by simp only [World.frozen?,bz];rfl
   have Bf:=(show _=some _ from by simp only [World.cell?,bz];rfl:(y1.alloc (.cells #[str [],.int .i64 0,.slice none 0 0,.slice none 0 0] 48)).cell? ⟨y1.heap.size,2,none⟩=some (.slice none 0 0))
   have Bc:(y1.alloc (.cells #[str [],.int .i64 0,.slice none 0 0,.slice none 0 0] 48)).frozen? ⟨y1.heap.size,2,none⟩=false:=by simp only [World.frozen?,bz];rfl
   have Be:=(show _=some _ from by simp only [World.cell?,bz];rfl:(y1.alloc (.cells #[str [],.int .i64 0,.slice none 0 0,.slice none 0 0] 48)).cell? ⟨y1.heap.size,3,none⟩=some (.slice none 0 0))
   have Bb:(y1.alloc (.cells #[str [],.int .i64 0,.slice none 0 0,.slice none 0 0] 48)).frozen? ⟨y1.heap.size,3,none⟩=false:=by simp only [World.frozen?,bz];rfl
   (refine on 9 ?_;intro o ho K' hK;simp at ho;subst ho;go_simp)
   (refine hK.out _ _ (fun _=>fX.alloc fX.size _) ?_;clear hK K';try simp only [pQ,pN,pZ,pS])
   (refine on 10 ?_;intro o ho K' hK;simp at ho;subst ho;go_simp)
   (refine hK.out _ _ (fun _=>fX.alloc fX.size _) ?_;clear hK K';try simp only [pQ,pN,pZ,pS])
   refine zU (by kernel_rfl) (NoPanic.normal ?_) _
   exact ⟨rfl,⟨y1.heap.size,ss,vv,aa,an,ac,ba,bn,bc⟩,by rfl,z8.fresh fX (repO hr)⟩
  ·(intro o8 ho K' hK;simp at ho;subst ho)
   go_simp
   (refine hK.out _ _ (fun _=>fV.alloc (ei _) _) ?_;clear hK K';try simp only [pQ,pN,pZ,pS])
   (refine on 4 ?_;intro o ho K' hK;simp at ho;subst ho;go_simp)
   go_at_call 17
   have mP:Below zm.heap.size zm (zm.alloc (.cells #[str [],.int .i64 0,.slice none 0 0,.slice none 0 0] 48)).drew:=fV.alloc (ei _) _
   (with_reducible refine (CRn.out _ mP).mono ?_)
   rintro en y1 ⟨ss,vv,aa,an,ac,ba,bn,bc,rfl,hb,hr⟩
   have fX:Below zm.heap.size zm y1:=zzT mP hb
   (refine hK.out _ _ (fun _=>fX) ?_;clear hK K';try simp only [pQ,pN,pZ,pS])
   refine tk [5,6,7] fX ?_
   (intro d hd;simp [tkD] at hd;subst hd;simp only [tks,pQ,pZ,pS])
   iterate 3 (refine ⟨?_,?_,?_⟩;rotate_left;· (intro oi ho;simp at ho;subst ho;refine Or.inl ⟨by rfl,fun w' fB=>?_⟩;go_simp;try with_reducible rfl))
   have bz:y1.heap[zm.heap.size]? = some (.cells #[str [],.int .i64 0,.slice none 0 0,.slice none 0 0] 48 (0,0)):=(hb.block _ (show _<_ from by simp)).trans (zG zm (.cells #[str [],.int .i64 0,.slice none 0 0,.slice none 0 0] 48))
   have sS:=(show _=some _ from by simp only [World.cell?,bz];rfl:(y1).cell? ⟨zm.heap.size,0,none⟩=some (str []))
   have sR:(y1).frozen? ⟨zm.heap.size,0,none⟩=false:=by simp only [World.frozen?,bz];rfl
   have Bg:=(show _=some _ from by simp only [World.cell?,bz];rfl:(y1).cell? ⟨zm.heap.size,1,none⟩=some (.int .i64 0))
   have oz:(y1).frozen? ⟨zm.heap.size,1,none⟩=false:=by simp only [World.frozen?,bz];rfl
   have Bf:=(show _=some _ from by simp only [World.cell?,bz];rfl:(y1).cell? ⟨zm.heap.size,2,none⟩=some (.slice none 0 0))
   have Bc:(y1).frozen? ⟨zm.heap.size,2,none⟩=false:=by simp only [World.frozen?,bz];rfl
   have Be:=(show _=some _ from by simp only [World.cell?,bz];rfl:(y1).cell? ⟨zm.heap.size,3,none⟩=some (.slice none 0 0))
   have Bb:(y1).frozen? ⟨zm.heap.size,3,none⟩=false:=by simp only [World.frozen?,bz];rfl
   (refine on 9 ?_;intro o ho K' hK;simp at ho;subst ho;go_simp)
   (refine hK.out _ _ (fun _=>((((fX.setCell (p:=⟨zm.heap.size,0,none⟩) (ei _) _).setCell (p:=⟨zm.heap.size,1,none⟩) (ei _) _).setCell (p:=⟨zm.heap.size,2,none⟩) (ei _) _).setCell (p:=⟨zm.heap.size,3,none⟩) (ei _) _)) ?_;clear hK K';try simp only [pQ,pN,pZ,pS])
   (refine on 10 ?_;intro o ho K' hK;simp at ho;subst ho;go_simp)
   (refine hK.out _ _ (fun _=>((((fX.setCell (p:=⟨zm.heap.size,0,none⟩) (ei _) _).setCell (p:=⟨zm.heap.size,1,none⟩) (ei _) _).setCell (p:=⟨zm.heap.size,2,none⟩) (ei _) _).setCell (p:=⟨zm.heap.size,3,none⟩) (ei _) _)) ?_;clear hK K';try simp only [pQ,pN,pZ,pS])
   refine zU (by kernel_rfl) (NoPanic.normal ?_) _
   exact ⟨rfl,⟨zm.heap.size,ss,vv,aa,an,ac,ba,bn,bc⟩,by rfl,z8.first Du.out mP (by simp) hb (repO hr) (but4 _ _ _ _ _ _) (by rw [zT (zT (zT (zT bz)))];rfl)⟩
 rintro ⟨gn,ssn,vvn,aan,ann,acn,ban,bnn,bcn⟩ zn hR
 have Rn:Hid (z8 F zm gn (.cells #[str ssn,.int .i64 vvn,.slice aan ann acn,.slice ban bnn bcn] 48 (0,0)) (dO oN) (vO oN [str ssn,.int .i64 vvn,.slice aan ann acn,.slice ban bnn bcn]) zn):=hR
 have n9:Hid (Below W0.heap.size W0 zn/\Below w.heap.size w zn):=⟨nC.out.1.trans (Rn.out.below.mono (nC.out.1).size),nC.out.2.trans (Rn.out.below.mono (nC.out.2).size)⟩
 have GE:Hid (W0.heap.size<=zm.heap.size):=(nC.out.1).size
 clear hR CRn
 simp only [Act.put,List.setIfInBounds_toArray,List.set_cons_zero,List.set_cons_succ]
 have Bk:zn.heap[gk]? = some (.cells #[.slice xk KT.args.length yk] 43 (0,0)):=(Rn.out.below.block _ (zZ ((Rm.out.below.block _ (zZ (Rk.out.blk))).trans (Rk.out.blk)))).trans ((Rm.out.below.block _ (zZ (Rk.out.blk))).trans (Rk.out.blk))
 have Tk:Hid (Rep (fun i=>F i\/W0.heap.size<=i) zn (kz (KT)) (.slice xk (KT).args.length yk)):=Rep.below (F':=fun i=>F i\/W0.heap.size<=i) Rn.out.below (fun _ h=>h) (Rep.below (F':=fun i=>F i\/W0.heap.size<=i) Rm.out.below (fun _ h=>h) ((zX.get1 Rk.out.rep).weak (G:=fun i=>F i\/W0.heap.size<=i) (fun i h=>h.1.elim .inl (fun h=>.inr (fQ HLk.out h)))))
 have Bm:zn.heap[gm]? = some (.cells #[str ssm,.int .i64 vvm,.slice aam anm acm,.slice bam bnm bcm] 48 (0,0)):=(Rn.out.below.block _ (zZ (Rm.out.blk))).trans (Rm.out.blk)
 have Tm:Hid (zX (fun i=>F i\/W0.heap.size<=i) zn (dO om) (vO om [str ssm,.int .i64 vvm,.slice aam anm acm,.slice bam bnm bcm])):=zX.below (F':=fun i=>F i\/W0.heap.size<=i) Rn.out.below (fun _ h=>h) ((Rm.out.rep.weakS (G:=fun i=>F i\/W0.heap.size<=i) (fun i h=>h.1.elim .inl (fun h=>.inr (fQ GF.out h)))))
 have Bn:zn.heap[gn]? = some (.cells #[str ssn,.int .i64 vvn,.slice aan ann acn,.slice ban bnn bcn] 48 (0,0)):=Rn.out.blk
 have Tn:Hid (zX (fun i=>F i\/W0.heap.size<=i) zn (dO oN) (vO oN [str ssn,.int .i64 vvn,.slice aan ann acn,.slice ban bnn bcn])):=(Rn.out.rep.weakS (G:=fun i=>F i\/W0.heap.size<=i) (fun i h=>h.1.elim .inl (fun h=>.inr (fQ GE.out h))))
 have NRz:Hid (z9 (w.heap.size+1+1) 0 (.slice none 0 0) (.slice none 0 0) zn):=z9.below (B:=W0.heap.size) H0.out.2.2.2 n9.out.1 (zZ H0.out.2.2.2)
 clear Cm Cn CKK
 cases om with
 | none =>
   have mN:=ed (show zN ns (.app m n)=none by rw [zN,iH.out.2.2.2.1];rfl)
   obtain ⟨tN,aC,iC,Ar,_,rff⟩:=NRz.out.cells
   have mg:=rff 0;have nD:=rff 1;have rG:=rff 2;have sh:=rff 3
   clear rff
   obtain ⟨q0,q1,q2,q3⟩:=kP Bm
   simp only [Option.isSome_none,Option.isSome_some]
   go_wp2_with fail
   obtain ⟨W,hW,f_,fe,f7,mQ,fD,fO⟩:=z9.store (NRz.out) (str ssm) (.int .i64 vvm) (.slice aam anm acm) (.slice bam bnm bcm)
   rw [<- hW]
   refine bodyPost_ret (v:=.tuple #[.agg #[str ssm,.int .i64 vvm,.slice aam anm acm,.slice bam bnm bcm],.bool false]) (by simp [results,Tryz.results17,go_sem,f_,fe,f7,mQ]) rfl ?_
   rw [mN.out]
   exact uz (o:=none) HP.out.1.old H0.out.1 H0.out.2.1 n9.out.1 (fun x hx=>by simp at hx) fD fO
 | some p =>
   cases oN with
   | none =>
     have mN:=ed (show zN ns (.app m n)=none by rw [zN,iH.out.2.2.2.1,iH.out.2.2.2.2];rfl)
     obtain ⟨tN,aC,iC,Ar,_,rff⟩:=NRz.out.cells
     have mg:=rff 0;have nD:=rff 1;have rG:=rff 2;have sh:=rff 3
     clear rff
     obtain ⟨q0,q1,q2,q3⟩:=kP Bm
     simp only [Option.isSome_none,Option.isSome_some]
     go_wp2_with fail
     obtain ⟨W,hW,f_,fe,f7,mQ,fD,fO⟩:=z9.store (NRz.out) (str ssm) (.int .i64 vvm) (.slice aam anm acm) (.slice bam bnm bcm)
     rw [<- hW]
     refine bodyPost_ret (v:=.tuple #[.agg #[str ssm,.int .i64 vvm,.slice aam anm acm,.slice bam bnm bcm],.bool false]) (by simp [results,Tryz.results17,go_sem,f_,fe,f7,mQ]) rfl ?_
     rw [mN.out]
     exact uz (o:=none) HP.out.1.old H0.out.1 H0.out.2.1 n9.out.1 (fun x hx=>by simp at hx) fD fO
   | some q =>
     obtain ⟨tym,tyn,mU,oV,lQ⟩:=iH.out
     obtain ⟨f1,Ht,fe⟩:=jE m ns KT p HP.out.2.1.1 HP.out.1.n15 tym oV
     obtain ⟨f2,w2',f7⟩:=jE n ns Ig q HP.out.2.1.2 HP.out.1.n15 tyn lQ
     rw [mU] at f1
     have nF:=pX f2 f1
     have mo:=kg m ns KT HP.out.1.n15 tym
     have hF':∀ i,((F i\/W0.heap.size<=i)/\i<zn.heap.size)->i<zn.heap.size:=fun i h=>h.2
     have CA:Hid (Calls Tryz.prog 41 #[.agg #[.slice xk KT.args.length yk],.agg #[str ssm,.int .i64 vvm,.slice aam anm acm,.slice bam bnm bcm],.agg #[str ssn,.int .i64 vvn,.slice aan ann acn,.slice ban bnn bcn],.slice ka ns.length kc] zn (qj (fun i=>(F i\/W0.heap.size<=i)/\i<zn.heap.size) (jp p (zq (kinds ns) Ig q rest) (ns.length+rest.length)) zn)):=by
      have h:=l4Apply_any (fun i=>(F i\/W0.heap.size<=i)/\i<zn.heap.size) KT Ig rest (kinds ns) p q (.slice xk KT.args.length yk) (.slice ka ns.length kc) ssm ssn vvm vvn aam bam aan ban anm acm bnm bcm ann acn bnn bcn zn
       { ts:=mU,t15:=mo,bl:=(by rw [qL];omega),b15:=HP.out.1.n15,fit:=nF,wm:=Ht,wn:=w2',
         rt:=(Rep.keep fun i x h hx=>⟨⟨h,zZ hx⟩,hx⟩).1 _ _ Tk.out,
         rm:=(Rep.keep fun i x h hx=>⟨⟨h,zZ hx⟩,hx⟩).2 _ _ Tm.out,
         rn:=(Rep.keep fun i x h hx=>⟨⟨h,zZ hx⟩,hx⟩).2 _ _ Tn.out,
         rb:=(by rw [qL];exact (Rep.keep fun i x h hx=>⟨⟨.inl h,zZ hx⟩,hx⟩).1 _ _ (Rep.below (F':=F) n9.out.2 (fun _ h=>h) HP.out.1.rk)),
         hF:=hF' }
      rw [become_writes,qL] at h
      exact h
     have mN:=ed (show zN ns (.app m n)=jp p (zq (kinds ns) Ig q rest) (ns.length+rest.length) by
      rw [zN,oV,lQ,Option.bind_some,Option.bind_some,tym,Option.bind_some,mU])
     obtain ⟨R,hR⟩:=zzM (jp p (zq (kinds ns) Ig q rest) (ns.length+rest.length))
     rw [<- hR] at CA mN
     obtain ⟨qk,_⟩:zn.cell? ⟨gk,0,none⟩=some (.slice xk KT.args.length yk)/\True:=⟨by simp only [World.cell?,Bk];rfl,trivial⟩
     obtain ⟨q0,q1,q2,q3⟩:=kP Bm
     obtain ⟨p0,p1,p2,p3⟩:=kP Bn
     obtain ⟨e0,e1,_⟩:=SX.out zn n9.out.1
     simp only [Option.isSome_some]
     clear hR f1 f2 Ht w2' fe f7 nF mo mU hF' tym tyn oV lQ
     go_wp2_with fail
     (with_reducible refine CA.out.mono ?_)
     rintro en x1 ⟨ss,vv,aa,an,ac,ba,bn,bc,rfl,hb,hr⟩
     have rM:Hid (Below W0.heap.size W0 x1):=zzT n9.out.1 hb
     have EY:Hid (∀ x,R=some x->zX (fun i=>F i\/W0.heap.size<=i) x1 (kE x) [str ss,.int .i64 vv,.slice aa an ac,.slice ba bn bc]):=fun x hx=>(hr x hx).weakS fun i h=>by
      rcases h with h | h
      ·exact h.1
      ·exact .inr (fQ n9.out.1.size h)
     have Ap:Hid (z9 (w.heap.size+1+1) 0 (.slice none 0 0) (.slice none 0 0) x1):=z9.below NRz.out hb (zZ NRz.out)
     obtain ⟨tN,aC,iC,Ar,_,rff⟩:=Ap.out.cells
     have mg:=rff 0;have nD:=rff 1;have rG:=rff 2;have sh:=rff 3
     clear rff
     clear hb hr q0 q1 q2 q3 p0 p1 p2 p3 e0 e1 qk
     go_wp2_with fail
     obtain ⟨W,hW,f_,fe,f7,mQ,fD,fO⟩:=z9.store (Ap.out) (str ss) (.int .i64 vv) (.slice aa an ac) (.slice ba bn bc)
     rw [<- hW]
     refine bodyPost_ret (v:=.tuple #[.agg #[str ss,.int .i64 vv,.slice aa an ac,.slice ba bn bc],.bool R.isSome]) (by simp [results,Tryz.results17,go_sem,f_,fe,f7,mQ]) rfl ?_
     rw [mN.out]
     exact uz HP.out.1.old H0.out.1 H0.out.2.1 rM.out EY.out fD fO
theorem lvBs_ofR:∀ xs:List Bd,(∀ b∈xs,lvB b)->gH xs
 | [],_=>by rw [gH];trivial
 | b::bs,h=>by rw [gH];exact ⟨h b (by simp),lvBs_ofR bs fun x hx=>h x (by simp [hx])⟩
theorem fit_lvR (n:Nat):∀ (b:Bd) (h:List Ty),zW b<=n->jP h b->(∀ t∈h,zV t<=15)->h.length+15*n<=10000->lvB b:=by
 induction n with
 | zero=>intro b h hs;have:=kW b;omega
 | succ n ih =>
   intro b h hs hf ha hl
   cases b with
   | leaf c=>rw [lvB];trivial
   | ask v ss y no =>
     rw [jP] at hf
     obtain ⟨t,ht,f1,f2,f3⟩:=hf
     rw [zW] at hs
     have hy:=kW y
     have hn:=kW no
     have hv:=(List.getElem?_eq_some_iff.1 ht).1
     have az:=ha t (List.mem_of_getElem? ht)
     rw [lvB]
     refine ⟨by omega,lvBs_ofR ss fun b hb=>?_,ih y h (by omega) f2 ha (by omega),ih no h (by omega) f3 ha (by omega)⟩
     have hsz:=vL hb
     obtain ⟨k,hk⟩:=List.mem_iff_getElem?.1 hb
     obtain ⟨x,hx,hxf⟩:=w_ _ _ f1 k b hk
     simp only [jg,List.getElem?_map,Option.map_eq_some_iff] at hx
     obtain ⟨a,lq,rfl⟩:=hx
     have mo:=(zo az).1 a (List.mem_of_getElem? lq)
     have lB:=zo mo
     refine ih b (h++a.args) (by omega) hxf (fun t ht=>?_) (by rw [List.length_append];omega)
     rcases List.mem_append.1 ht with h | h
     ·exact ha t h
     ·exact lB.1 t h
set_option maxRecDepth 100000 in
theorem of_ite (M:Nat) (ih:OfSaid M) (F:Nat->Prop) (l m n:Tm) (ns:List Nm) (nv tv s pv:Value) (w:World) (k0:Ty) (hN:zM (.ite l m n)<=M+1) (hp:wF F (.ite l m n) ns nv tv s pv w) (si:typeOf ns (.ite l m n)=some k0):Calls Tryz.prog 17 #[.agg #[nv,tv],.agg #[s,pv]] w (qj F (zN ns (.ite l m n)) w):=by
 have hold:=hp.old
 obtain ⟨na,nc,rfl,_,_,mz⟩:=zP hp.rn
 obtain ⟨ka,kc,rfl,_,_,mn⟩:=zP hp.rk
 have fa:=hp.rt
 rw [z_] at fa
 obtain ⟨qa,qc,e,fA⟩:=qO fa
 simp only [qQ,qd,List.cons.injEq,and_true] at e fA
 obtain ⟨rfl,rfl⟩:=e
 obtain ⟨_,_,e,fU⟩:=ud.of fA
 simp only [Value.slice.injEq,true_and] at e
 obtain ⟨rfl,rfl⟩:=e
 obtain ⟨fT,fS,s1,a1,n1,c1,d1,tp,mL,sJ,sU,iE,rH,As,Br⟩:=fU 1 (by simp)
 simp only [List.getElem?_cons_zero,List.getElem?_cons_succ,Option.some.injEq] at sJ
 subst sJ
 subst tp
 obtain ⟨Fs,Fq,s2,a2,n2,c2,d2,tw,i2,tx,tg,iD,sf,Bj,Bq⟩:=fU 2 (by simp)
 simp only [List.getElem?_cons_zero,List.getElem?_cons_succ,Option.some.injEq] at tx
 subst tx
 simp only [Option.some.injEq,Addr.mk.injEq,and_true] at tw
 obtain ⟨rfl,rfl⟩:=tw
 obtain ⟨pb3,po3,s3,a3,n3,c3,d3,Bt,Fo,Bp,Bw,Bv,Bo,Fp,Fr⟩:=fU 3 (by simp)
 simp only [List.getElem?_cons_zero,List.getElem?_cons_succ,Option.some.injEq] at Bp
 subst Bp
 simp only [Option.some.injEq,Addr.mk.injEq,and_true] at Bt
 obtain ⟨rfl,rfl⟩:=Bt
 have fg:=hp.room
 have fw:=hp.ok
 have mO:=hp.sm
 rw [zM] at fg hN
 rw [kQ] at mO
 simp only [Bool.and_eq_true] at mO
 obtain ⟨tyl,tym,tyn⟩:=gj si
 obtain ⟨W0,ff⟩:=zzM (((w.alloc (.cells #[.slice na ns.length nc,.slice ka ns.length kc] 53)).alloc (.cells #[str [],.slice (some ⟨fT,fS,none⟩) 4 qc] 40)).alloc (.cells #[str [],.int .i64 0,.slice none 0 0,.slice none 0 0] 48))
 obtain ⟨fq,z0,bA,bB,bC⟩:=yL w (.cells #[.slice na ns.length nc,.slice ka ns.length kc] 53) (.cells #[str [],.slice (some ⟨fT,fS,none⟩) 4 qc] 40) (.cells #[str [],.int .i64 0,.slice none 0 0,.slice none 0 0] 48)
 rw [<- ff] at fq z0 bA bB bC
 have CH:=ed (show Calls Tryz.prog 37 #[.agg #[str [],.slice (some ⟨fT,fS,none⟩) 4 qc]] W0 (fun en w'=>en=.returned (str (yM (z_ (.ite l m n))))/\Below W0.heap.size W0 w') from uG (z_ (.ite l m n)) (j_ _ hp.ok) F W0 _ _ (zX.below fq (fun _ h=>h) hp.rt))
 have Cp:yM (z_ (.ite l m n))=[105,102]:=by rw [z_];rfl
 rw [Cp] at CH
 have H0:=ed (ef fq (ef z0 (ef bA bC)))
 obtain ⟨ol,aM⟩:=zzN (zN ns l)
 have Cl:Hid (∀ wz,Below w.heap.size w wz->Calls Tryz.prog 17 #[.agg #[.slice na ns.length nc,.slice ka ns.length kc],.agg #[str s1,.slice a1 n1 c1]] wz (qj F ol wz)):=by
  show ∀ wz,_->_
  intro wz hz
  have h:=ih F l ns _ _ _ _ _ wz (by omega) ⟨fun i h=>fK (hp.old i h) hz.size,zX.below hz (fun _ h=>h) rH,Rep.below hz (fun _ h=>h) hp.rn,Rep.below hz (fun _ h=>h) hp.rk,fw.1,mO.1.1,hp.nm,hp.n15,by omega⟩ tyl
  rw [aM] at h
  exact h
 obtain ⟨om,oV⟩:=zzN (zN ns m)
 have Cm:Hid (∀ wz,Below w.heap.size w wz->Calls Tryz.prog 17 #[.agg #[.slice na ns.length nc,.slice ka ns.length kc],.agg #[str s2,.slice a2 n2 c2]] wz (qj F om wz)):=by
  show ∀ wz,_->_
  intro wz hz
  have h:=ih F m ns _ _ _ _ _ wz (by omega) ⟨fun i h=>fK (hp.old i h) hz.size,zX.below hz (fun _ h=>h) sf,Rep.below hz (fun _ h=>h) hp.rn,Rep.below hz (fun _ h=>h) hp.rk,fw.2.1,mO.1.2,hp.nm,hp.n15,by omega⟩ tym
  rw [oV] at h
  exact h
 have CKK:Hid (∀ wz,Below w.heap.size w wz->Calls Tryz.prog 34 #[.agg #[.slice na ns.length nc,.slice ka ns.length kc],.agg #[str s2,.slice a2 n2 c2]] wz (v7 F wz k0 true)):=by
  show ∀ wz,_->_
  intro wz hz
  have h:=gM (zM m) F m ns _ _ _ _ wz (ei _) ⟨fun i h=>fK (hp.old i h) hz.size,zX.below hz (fun _ h=>h) sf,Rep.below hz (fun _ h=>h) hp.rn,Rep.below hz (fun _ h=>h) hp.rk,fw.2.1,mO.1.2,hp.nm,hp.n15,by omega⟩
  rw [kindR_of tym] at h
  exact h
 obtain ⟨oN,lQ⟩:=zzN (zN ns n)
 have Cn:Hid (∀ wz,Below w.heap.size w wz->Calls Tryz.prog 17 #[.agg #[.slice na ns.length nc,.slice ka ns.length kc],.agg #[str s3,.slice a3 n3 c3]] wz (qj F oN wz)):=by
  show ∀ wz,_->_
  intro wz hz
  have h:=ih F n ns _ _ _ _ _ wz (by omega) ⟨fun i h=>fK (hp.old i h) hz.size,zX.below hz (fun _ h=>h) Bo,Rep.below hz (fun _ h=>h) hp.rn,Rep.below hz (fun _ h=>h) hp.rk,fw.2.2,mO.2,hp.nm,hp.n15,by omega⟩ tyn
  rw [lQ] at h
  exact h
 have e0:W0.cell? ⟨w.heap.size,0,none⟩=some (.slice na ns.length nc):=by simp [World.cell?,bA]
 have e1:W0.cell? ⟨w.heap.size,1,none⟩=some (.slice ka ns.length kc):=by simp [World.cell?,bA]
 have SX:Hid (∀ w',Below W0.heap.size W0 w'->w'.cell? ⟨w.heap.size,0,none⟩=some (.slice na ns.length nc)/\w'.cell? ⟨w.heap.size,1,none⟩=some (.slice ka ns.length kc)/\w'.cell? ⟨fT,fS+2,none⟩=some (str s1)/\w'.cell? ⟨fT,fS+3,none⟩=some (.slice a1 n1 c1)/\w'.cell? ⟨fT,fS+4,none⟩=some (str s2)/\w'.cell? ⟨fT,fS+5,none⟩=some (.slice a2 n2 c2)/\w'.cell? ⟨fT,fS+6,none⟩=some (str s3)/\w'.cell? ⟨fT,fS+7,none⟩=some (.slice a3 n3 c3)):=by
  show ∀ w',_->_
  intro w' fN
  have fc:=zzT fq fN
  exact ⟨(fN.cell (e9 W0 _ e0)).trans e0,(fN.cell (e9 W0 _ e1)).trans e1,(fc.cell (p:=⟨fT,fS+2,none⟩) mL).trans sU,(fc.cell (p:=⟨fT,fS+3,none⟩) mL).trans iE,(fc.cell (p:=⟨fT,fS+4,none⟩) mL).trans tg,(fc.cell (p:=⟨fT,fS+5,none⟩) mL).trans iD,(fc.cell (p:=⟨fT,fS+6,none⟩) mL).trans Bw,(fc.cell (p:=⟨fT,fS+7,none⟩) mL).trans Bv⟩
 have HP:=ed (ef hp (ef fw mO))
 have hlen:ns.length<=100:=by omega
 have iH:=ed (ef tyl (ef tym (ef tyn (ef aM (ef oV (lQ))))))
 clear tyl tym tyn aM oV lQ si
 clear mz mn fA fU fa hp fw mO ih hN fq z0 bA bB bC e0 e1 rH sU iE As Br mL sf tg iD Bj Bq i2 Bo Bw Bv Fp Fr Fo
 go_enter Tryz.func17,Tryz.ntmps17
 go_wp2_with fail
 rw [<- ff]
 clear ff
 (with_reducible refine CH.out.mono ?_)
 rintro en w1 ⟨rfl,fP⟩
 have H1:=ed (ef fP (zzT H0.out.1 fP))
 clear fP CH
 go_wp2_with fail
 have CRK:=ed (fun wz (hz:Below w1.heap.size w1 wz)=>CKK.out wz (H1.out.2.trans (hz.mono (H1.out.2).size)))
 have hFK:Hid (∀ i,F i->i<w1.heap.size):=fun i h=>fK (HP.out.1.old i h) (H1.out.2).size
 refine jR (X:=Nat×Option Addr×Nat) (fun a x=>((((((((((a.put (some 131) (.agg #[.slice na ns.length nc,.slice ka ns.length kc])).put (some 132) (.slice (some ⟨fT,fS,none⟩) 4 qc)).put (some 133) (.pointer (some ⟨fT,fS+4,none⟩))).put (some 134) (.agg #[str s2,.slice a2 n2 c2])).put (some 135) (.tuple #[.agg #[.slice x.2.1 (k0).args.length x.2.2],.bool true])).put (some 130) (.tuple #[.agg #[.slice x.2.1 (k0).args.length x.2.2],.bool true])).put (some 136) (.agg #[.slice x.2.1 (k0).args.length x.2.2])).put (some 137) (.bool true)).put (some 18) (.pointer (some ⟨x.1,0,none⟩))).put (some 19) (.bool true))) (fun x w'=>z8 F w1 x.1 (.cells #[.slice x.2.1 (k0).args.length x.2.2] 43 (0,0)) [kz k0] [.slice x.2.1 (k0).args.length x.2.2] w') ?_ ?_
 ·refine wp_region_noPanic ?_
  refine zB (fun w'=>Below w1.heap.size w1 w') (fun _=>false) (by kernel_rfl) ?_
  have fV:(fun w'=>Below w1.heap.size w1 w') w1.drew:=Below.drew (e_ _ _)
  refine tk [0,1,2,3] fV ?_
  (intro d hd;simp [tkD] at hd;subst hd;simp only [tks,pQ,pZ,pS])
  iterate 4 (refine ⟨?_,?_,?_⟩;rotate_left;· (intro oi ho;simp at ho;subst ho;refine Or.inl ⟨by rfl,fun w' fB=>?_⟩;obtain ⟨e0,e1,f1,h1,f2,h2,f3,h3⟩:=SX.out w' (H1.out.1.trans (fB.mono (H1.out.1).size));go_simp;try with_reducible rfl))
  refine k8 4 8 (by kernel_rfl) ?_ ?_
  ·(intro o4 ho K' hK;simp at ho;subst ho)
   go_simp
   go_at_call 34
   (with_reducible refine (CRK.out w1.drew fV).mono ?_)
   rintro en y1 ⟨xx,yy,rfl,hb,hr⟩
   have fX:Below w1.heap.size w1 y1:=fV.trans hb
   (refine hK.out _ _ (fun _=>fX) ?_;clear hK K';try simp only [pQ,pN,pZ,pS])
   refine tk [5,6,7] fX ?_
   (intro d hd;simp [tkD] at hd;subst hd;simp only [tks,pQ,pZ,pS])
   iterate 3 (refine ⟨?_,?_,?_⟩;rotate_left;· (intro oi ho;simp at ho;subst ho;refine Or.inl ⟨by rfl,fun w' fB=>?_⟩;go_simp;try with_reducible rfl))
   (refine on 8 ?_;intro o ho K' hK;simp at ho;subst ho;go_simp)
   (refine hK.out _ _ (fun _=>fX.alloc (fX).size _) ?_;clear hK K';try simp only [pQ,pN,pZ,pS])
   have bz:(y1.alloc (.cells #[.slice none 0 0] 43)).heap[y1.heap.size]? = some (.cells #[.slice none 0 0] 43 (0,0)):=zG _ _
   have sS:=(show _=some _ from by simp only [World.cell?,bz];rfl:(y1.alloc (.cells #[.slice none 0 0] 43)).cell? ⟨y1.heap.size,0,none⟩=some (.slice none 0 0))
   have sR:(y1.alloc (.cells #[.slice none 0 0] 43)).frozen? ⟨y1.heap.size,0,none⟩=false:=by simp only [World.frozen?,bz];rfl
   (refine on 9 ?_;intro o ho K' hK;simp at ho;subst ho;go_simp)
   (refine hK.out _ _ (fun _=>fX.alloc fX.size _) ?_;clear hK K';try simp only [pQ,pN,pZ,pS])
   (refine on 10 ?_;intro o ho K' hK;simp at ho;subst ho;go_simp)
   (refine hK.out _ _ (fun _=>fX.alloc fX.size _) ?_;clear hK K';try simp only [pQ,pN,pZ,pS])
   refine zU (by kernel_rfl) (NoPanic.normal ?_) _
   exact ⟨rfl,⟨y1.heap.size,xx,yy⟩,by rfl,z8.fresh fX (zX.one hr)⟩
  ·(intro o8 ho K' hK;simp at ho;subst ho)
   go_simp
   (refine hK.out _ _ (fun _=>fV.alloc (ei _) _) ?_;clear hK K';try simp only [pQ,pN,pZ,pS])
   (refine on 4 ?_;intro o ho K' hK;simp at ho;subst ho;go_simp)
   go_at_call 34
   have mP:Below w1.heap.size w1 (w1.alloc (.cells #[.slice none 0 0] 43)).drew:=fV.alloc (ei _) _
   (with_reducible refine (CRK.out _ mP).mono ?_)
   rintro en y1 ⟨xx,yy,rfl,hb,hr⟩
   have fX:Below w1.heap.size w1 y1:=zzT mP hb
   (refine hK.out _ _ (fun _=>fX) ?_;clear hK K';try simp only [pQ,pN,pZ,pS])
   refine tk [5,6,7] fX ?_
   (intro d hd;simp [tkD] at hd;subst hd;simp only [tks,pQ,pZ,pS])
   iterate 3 (refine ⟨?_,?_,?_⟩;rotate_left;· (intro oi ho;simp at ho;subst ho;refine Or.inl ⟨by rfl,fun w' fB=>?_⟩;go_simp;try with_reducible rfl))
   have bz:y1.heap[w1.heap.size]? = some (.cells #[.slice none 0 0] 43 (0,0)):=(hb.block _ (show _<_ from by simp)).trans (zG w1 (.cells #[.slice none 0 0] 43))
   have sS:=(show _=some _ from by simp only [World.cell?,bz];rfl:(y1).cell? ⟨w1.heap.size,0,none⟩=some (.slice none 0 0))
   have sR:(y1).frozen? ⟨w1.heap.size,0,none⟩=false:=by simp only [World.frozen?,bz];rfl
   (refine on 9 ?_;intro o ho K' hK;simp at ho;subst ho;go_simp)
   (refine hK.out _ _ (fun _=>(fX.setCell (p:=⟨w1.heap.size,0,none⟩) (ei _) _)) ?_;clear hK K';try simp only [pQ,pN,pZ,pS])
   (refine on 10 ?_;intro o ho K' hK;simp at ho;subst ho;go_simp)
   (refine hK.out _ _ (fun _=>(fX.setCell (p:=⟨w1.heap.size,0,none⟩) (ei _) _)) ?_;clear hK K';try simp only [pQ,pN,pZ,pS])
   refine zU (by kernel_rfl) (NoPanic.normal ?_) _
   exact ⟨rfl,⟨w1.heap.size,xx,yy⟩,by rfl,z8.first hFK.out mP (by simp) hb (zX.one hr) (but1 _ _ _) (by rw [zT bz];rfl)⟩
 rintro ⟨gk,xk,yk⟩ zk hR
 have Rk:Hid (z8 F w1 gk (.cells #[.slice xk (k0).args.length yk] 43 (0,0)) [kz k0] [.slice xk (k0).args.length yk] zk):=hR
 have iV:Hid (Below W0.heap.size W0 zk/\Below w.heap.size w zk):=⟨H1.out.1.trans (Rk.out.below.mono (H1.out.1).size),H1.out.2.trans (Rk.out.below.mono (H1.out.2).size)⟩
 have HLk:Hid (W0.heap.size<=w1.heap.size):=(H1.out.1).size
 clear hR CRK
 simp only [Act.put,List.setIfInBounds_toArray,List.set_cons_zero,List.set_cons_succ]
 go_wp2_with fail
 have CRl:=ed (fun wz (hz:Below zk.heap.size zk wz)=>Cl.out wz (iV.out.2.trans (hz.mono (iV.out.2).size)))
 have hFl:Hid (∀ i,F i->i<zk.heap.size):=fun i h=>fK (HP.out.1.old i h) (iV.out.2).size
 refine jR (X:=Nat×Bs×Int×Option Addr×Nat×Nat×Option Addr×Nat×Nat) (fun a x=>((((((((((a.put (some 139) (.agg #[.slice na ns.length nc,.slice ka ns.length kc])).put (some 140) (.slice (some ⟨fT,fS,none⟩) 4 qc)).put (some 141) (.pointer (some ⟨fT,fS+2,none⟩))).put (some 142) (.agg #[str s1,.slice a1 n1 c1])).put (some 143) (.tuple #[.agg #[str x.2.1,.int .i64 x.2.2.1,.slice x.2.2.2.1 x.2.2.2.2.1 x.2.2.2.2.2.1,.slice x.2.2.2.2.2.2.1 x.2.2.2.2.2.2.2.1 x.2.2.2.2.2.2.2.2],.bool ol.isSome])).put (some 138) (.tuple #[.agg #[str x.2.1,.int .i64 x.2.2.1,.slice x.2.2.2.1 x.2.2.2.2.1 x.2.2.2.2.2.1,.slice x.2.2.2.2.2.2.1 x.2.2.2.2.2.2.2.1 x.2.2.2.2.2.2.2.2],.bool ol.isSome])).put (some 144) (.agg #[str x.2.1,.int .i64 x.2.2.1,.slice x.2.2.2.1 x.2.2.2.2.1 x.2.2.2.2.2.1,.slice x.2.2.2.2.2.2.1 x.2.2.2.2.2.2.2.1 x.2.2.2.2.2.2.2.2])).put (some 145) (.bool ol.isSome)).put (some 20) (.pointer (some ⟨x.1,0,none⟩))).put (some 21) (.bool ol.isSome))) (fun x w'=>z8 F zk x.1 (.cells #[str x.2.1,.int .i64 x.2.2.1,.slice x.2.2.2.1 x.2.2.2.2.1 x.2.2.2.2.2.1,.slice x.2.2.2.2.2.2.1 x.2.2.2.2.2.2.2.1 x.2.2.2.2.2.2.2.2] 48 (0,0)) (dO ol) (vO ol [str x.2.1,.int .i64 x.2.2.1,.slice x.2.2.2.1 x.2.2.2.2.1 x.2.2.2.2.2.1,.slice x.2.2.2.2.2.2.1 x.2.2.2.2.2.2.2.1 x.2.2.2.2.2.2.2.2]) w') ?_ ?_
 ·refine wp_region_noPanic ?_
  refine zB (fun w'=>Below zk.heap.size zk w') (fun _=>false) (by kernel_rfl) ?_
  have fV:(fun w'=>Below zk.heap.size zk w') zk.drew:=Below.drew (e_ _ _)
  refine tk [0,1,2,3] fV ?_
  (intro d hd;simp [tkD] at hd;subst hd;simp only [tks,pQ,pZ,pS])
  iterate 4 (refine ⟨?_,?_,?_⟩;rotate_left;· (intro oi ho;simp at ho;subst ho;refine Or.inl ⟨by rfl,fun w' fB=>?_⟩;obtain ⟨e0,e1,f1,h1,f2,h2,f3,h3⟩:=SX.out w' (iV.out.1.trans (fB.mono (iV.out.1).size));go_simp;try with_reducible rfl))
  refine k8 4 8 (by kernel_rfl) ?_ ?_
  ·(intro o4 ho K' hK;simp at ho;subst ho)
   go_simp
   go_at_call 17
   (with_reducible refine (CRl.out zk.drew fV).mono ?_)
   rintro en y1 ⟨ss,vv,aa,an,ac,ba,bn,bc,rfl,hb,hr⟩
   have fX:Below zk.heap.size zk y1:=fV.trans hb
   (refine hK.out _ _ (fun _=>fX) ?_;clear hK K';try simp only [pQ,pN,pZ,pS])
   refine tk [5,6,7] fX ?_
   (intro d hd;simp [tkD] at hd;subst hd;simp only [tks,pQ,pZ,pS])
   iterate 3 (refine ⟨?_,?_,?_⟩;rotate_left;· (intro oi ho;simp at ho;subst ho;refine Or.inl ⟨by rfl,fun w' fB=>?_⟩;go_simp;try with_reducible rfl))
   (refine on 8 ?_;intro o ho K' hK;simp at ho;subst ho;go_simp)
   (refine hK.out _ _ (fun _=>fX.alloc (fX).size _) ?_;clear hK K';try simp only [pQ,pN,pZ,pS])
   have bz:(y1.alloc (.cells #[str [],.int .i64 0,.slice none 0 0,.slice none 0 0] 48)).heap[y1.heap.size]? = some (.cells #[str [],.int .i64 0,.slice none 0 0,.slice none 0 0] 48 (0,0)):=zG _ _
   have sS:=(show _=some _ from by simp only [World.cell?,bz];rfl:(y1.alloc (.cells #[str [],.int .i64 0,.slice none 0 0,.slice none 0 0] 48)).cell? ⟨y1.heap.size,0,none⟩=some (str []))
   have sR:(y1.alloc (.cells #[str [],.int .i64 0,.slice none 0 0,.slice none 0 0] 48)).frozen? ⟨y1.heap.size,0,none⟩=false:=by simp only [World.frozen?,bz];rfl
   have Bg:=(show _=some _ from by simp only [World.cell?,bz];rfl:(y1.alloc (.cells #[str [],.int .i64 0,.slice none 0 0,.slice none 0 0] 48)).cell? ⟨y1.heap.size,1,none⟩=some (.int .i64 0))
   have oz:(y1.alloc (.cells #[str [],.int .i64 0,.slice none 0 0,.slice none 0 0] 48)).frozen? ⟨y1.heap.size,1,none⟩=false:=by simp only [World.frozen?,bz];rfl
   have Bf:=(show _=some _ from by simp only [World.cell?,bz];rfl:(y1.alloc (.cells #[str [],.int .i64 0,.slice none 0 0,.slice none 0 0] 48)).cell? ⟨y1.heap.size,2,none⟩=some (.slice none 0 0))
   have Bc:(y1.alloc (.cells #[str [],.int .i64 0,.slice none 0 0,.slice none 0 0] 48)).frozen? ⟨y1.heap.size,2,none⟩=false:=by simp only [World.frozen?,bz];rfl
   have Be:=(show _=some _ from by simp only [World.cell?,bz];rfl:(y1.alloc (.cells #[str [],.int .i64 0,.slice none 0 0,.slice none 0 0] 48)).cell? ⟨y1.heap.size,3,none⟩=some (.slice none 0 0))
   have Bb:(y1.alloc (.cells #[str [],.int .i64 0,.slice none 0 0,.slice none 0 0] 48)).frozen? ⟨y1.heap.size,3,none⟩=false:=by simp only [World.frozen?,bz];rfl
   (refine on 9 ?_;intro o ho K' hK;simp at ho;subst ho;go_simp)
   (refine hK.out _ _ (fun _=>fX.alloc fX.size _) ?_;clear hK K';try simp only [pQ,pN,pZ,pS])
   (refine on 10 ?_;intro o ho K' hK;simp at ho;subst ho;go_simp)
   (refine hK.out _ _ (fun _=>fX.alloc fX.size _) ?_;clear hK K';try simp only [pQ,pN,pZ,pS])
   refine zU (by kernel_rfl) (NoPanic.normal ?_) _
   exact ⟨rfl,⟨y1.heap.size,ss,vv,aa,an,ac,ba,bn,bc⟩,by rfl,z8.fresh fX (repO hr)⟩
  ·(intro o8 ho K' hK;simp at ho;subst ho)
   go_simp
   (refine hK.out _ _ (fun _=>fV.alloc (ei _) _) ?_;clear hK K';try simp only [pQ,pN,pZ,pS])
   (refine on 4 ?_;intro o ho K' hK;simp at ho;subst ho;go_simp)
   go_at_call 17
   have mP:Below zk.heap.size zk (zk.alloc (.cells #[str [],.int .i64 0,.slice none 0 0,.slice none 0 0] 48)).drew:=fV.alloc (ei _) _
   (with_reducible refine (CRl.out _ mP).mono ?_)
   rintro en y1 ⟨ss,vv,aa,an,ac,ba,bn,bc,rfl,hb,hr⟩
   have fX:Below zk.heap.size zk y1:=zzT mP hb
   (refine hK.out _ _ (fun _=>fX) ?_;clear hK K';try simp only [pQ,pN,pZ,pS])
   refine tk [5,6,7] fX ?_
   (intro d hd;simp [tkD] at hd;subst hd;simp only [tks,pQ,pZ,pS])
   iterate 3 (refine ⟨?_,?_,?_⟩;rotate_left;· (intro oi ho;simp at ho;subst ho;refine Or.inl ⟨by rfl,fun w' fB=>?_⟩;go_simp;try with_reducible rfl))
   have bz:y1.heap[zk.heap.size]? = some (.cells #[str [],.int .i64 0,.slice none 0 0,.slice none 0 0] 48 (0,0)):=(hb.block _ (show _<_ from by simp)).trans (zG zk (.cells #[str [],.int .i64 0,.slice none 0 0,.slice none 0 0] 48))
   have sS:=(show _=some _ from by simp only [World.cell?,bz];rfl:(y1).cell? ⟨zk.heap.size,0,none⟩=some (str []))
   have sR:(y1).frozen? ⟨zk.heap.size,0,none⟩=false:=by simp only [World.frozen?,bz];rfl
   have Bg:=(show _=some _ from by simp only [World.cell?,bz];rfl:(y1).cell? ⟨zk.heap.size,1,none⟩=some (.int .i64 0))
   have oz:(y1).frozen? ⟨zk.heap.size,1,none⟩=false:=by simp only [World.frozen?,bz];rfl
   have Bf:=(show _=some _ from by simp only [World.cell?,bz];rfl:(y1).cell? ⟨zk.heap.size,2,none⟩=some (.slice none 0 0))
   have Bc:(y1).frozen? ⟨zk.heap.size,2,none⟩=false:=by simp only [World.frozen?,bz];rfl
   have Be:=(show _=some _ from by simp only [World.cell?,bz];rfl:(y1).cell? ⟨zk.heap.size,3,none⟩=some (.slice none 0 0))
   have Bb:(y1).frozen? ⟨zk.heap.size,3,none⟩=false:=by simp only [World.frozen?,bz];rfl
   (refine on 9 ?_;intro o ho K' hK;simp at ho;subst ho;go_simp)
   (refine hK.out _ _ (fun _=>((((fX.setCell (p:=⟨zk.heap.size,0,none⟩) (ei _) _).setCell (p:=⟨zk.heap.size,1,none⟩) (ei _) _).setCell (p:=⟨zk.heap.size,2,none⟩) (ei _) _).setCell (p:=⟨zk.heap.size,3,none⟩) (ei _) _)) ?_;clear hK K';try simp only [pQ,pN,pZ,pS])
   (refine on 10 ?_;intro o ho K' hK;simp at ho;subst ho;go_simp)
   (refine hK.out _ _ (fun _=>((((fX.setCell (p:=⟨zk.heap.size,0,none⟩) (ei _) _).setCell (p:=⟨zk.heap.size,1,none⟩) (ei _) _).setCell (p:=⟨zk.heap.size,2,none⟩) (ei _) _).setCell (p:=⟨zk.heap.size,3,none⟩) (ei _) _)) ?_;clear hK K';try simp only [pQ,pN,pZ,pS])
   refine zU (by kernel_rfl) (NoPanic.normal ?_) _
   exact ⟨rfl,⟨zk.heap.size,ss,vv,aa,an,ac,ba,bn,bc⟩,by rfl,z8.first hFl.out mP (by simp) hb (repO hr) (but4 _ _ _ _ _ _) (by rw [zT (zT (zT (zT bz)))];rfl)⟩
 rintro ⟨gl,ssl,vvl,aal,anl,acl,bal,bnl,bcl⟩ zl hR
 have Rl:Hid (z8 F zk gl (.cells #[str ssl,.int .i64 vvl,.slice aal anl acl,.slice bal bnl bcl] 48 (0,0)) (dO ol) (vO ol [str ssl,.int .i64 vvl,.slice aal anl acl,.slice bal bnl bcl]) zl):=hR
 have aA:Hid (Below W0.heap.size W0 zl/\Below w.heap.size w zl):=⟨iV.out.1.trans (Rl.out.below.mono (iV.out.1).size),iV.out.2.trans (Rl.out.below.mono (iV.out.2).size)⟩
 have HLl:Hid (W0.heap.size<=zk.heap.size):=(iV.out.1).size
 clear hR CRl
 simp only [Act.put,List.setIfInBounds_toArray,List.set_cons_zero,List.set_cons_succ]
 go_wp2_with fail
 have CRm:=ed (fun wz (hz:Below zl.heap.size zl wz)=>Cm.out wz (aA.out.2.trans (hz.mono (aA.out.2).size)))
 have Gs:Hid (∀ i,F i->i<zl.heap.size):=fun i h=>fK (HP.out.1.old i h) (aA.out.2).size
 refine jR (X:=Nat×Bs×Int×Option Addr×Nat×Nat×Option Addr×Nat×Nat) (fun a x=>((((((((((a.put (some 147) (.agg #[.slice na ns.length nc,.slice ka ns.length kc])).put (some 148) (.slice (some ⟨fT,fS,none⟩) 4 qc)).put (some 149) (.pointer (some ⟨fT,fS+4,none⟩))).put (some 150) (.agg #[str s2,.slice a2 n2 c2])).put (some 151) (.tuple #[.agg #[str x.2.1,.int .i64 x.2.2.1,.slice x.2.2.2.1 x.2.2.2.2.1 x.2.2.2.2.2.1,.slice x.2.2.2.2.2.2.1 x.2.2.2.2.2.2.2.1 x.2.2.2.2.2.2.2.2],.bool om.isSome])).put (some 146) (.tuple #[.agg #[str x.2.1,.int .i64 x.2.2.1,.slice x.2.2.2.1 x.2.2.2.2.1 x.2.2.2.2.2.1,.slice x.2.2.2.2.2.2.1 x.2.2.2.2.2.2.2.1 x.2.2.2.2.2.2.2.2],.bool om.isSome])).put (some 152) (.agg #[str x.2.1,.int .i64 x.2.2.1,.slice x.2.2.2.1 x.2.2.2.2.1 x.2.2.2.2.2.1,.slice x.2.2.2.2.2.2.1 x.2.2.2.2.2.2.2.1 x.2.2.2.2.2.2.2.2])).put (some 153) (.bool om.isSome)).put (some 22) (.pointer (some ⟨x.1,0,none⟩))).put (some 23) (.bool om.isSome))) (fun x w'=>z8 F zl x.1 (.cells #[str x.2.1,.int .i64 x.2.2.1,.slice x.2.2.2.1 x.2.2.2.2.1 x.2.2.2.2.2.1,.slice x.2.2.2.2.2.2.1 x.2.2.2.2.2.2.2.1 x.2.2.2.2.2.2.2.2] 48 (0,0)) (dO om) (vO om [str x.2.1,.int .i64 x.2.2.1,.slice x.2.2.2.1 x.2.2.2.2.1 x.2.2.2.2.2.1,.slice x.2.2.2.2.2.2.1 x.2.2.2.2.2.2.2.1 x.2.2.2.2.2.2.2.2]) w') ?_ ?_
 ·refine wp_region_noPanic ?_
  refine zB (fun w'=>Below zl.heap.size zl w') (fun _=>false) (by kernel_rfl) ?_
  have fV:(fun w'=>Below zl.heap.size zl w') zl.drew:=Below.drew (e_ _ _)
  refine tk [0,1,2,3] fV ?_
  (intro d hd;simp [tkD] at hd;subst hd;simp only [tks,pQ,pZ,pS])
  iterate 4 (refine ⟨?_,?_,?_⟩;rotate_left;· (intro oi ho;simp at ho;subst ho;refine Or.inl ⟨by rfl,fun w' fB=>?_⟩;obtain ⟨e0,e1,f1,h1,f2,h2,f3,h3⟩:=SX.out w' (aA.out.1.trans (fB.mono (aA.out.1).size));go_simp;try with_reducible rfl))
  refine k8 4 8 (by kernel_rfl) ?_ ?_
  ·(intro o4 ho K' hK;simp at ho;subst ho)
   go_simp
   go_at_call 17
   (with_reducible refine (CRm.out zl.drew fV).mono ?_)
   rintro en y1 ⟨ss,vv,aa,an,ac,ba,bn,bc,rfl,hb,hr⟩
   have fX:Below zl.heap.size zl y1:=fV.trans hb
   (refine hK.out _ _ (fun _=>fX) ?_;clear hK K';try simp only [pQ,pN,pZ,pS])
   refine tk [5,6,7] fX ?_
   (intro d hd;simp [tkD] at hd;subst hd;simp only [tks,pQ,pZ,pS])
   iterate 3 (refine ⟨?_,?_,?_⟩;rotate_left;· (intro oi ho;simp at ho;subst ho;refine Or.inl ⟨by rfl,fun w' fB=>?_⟩;go_simp;try with_reducible rfl))
   (refine on 8 ?_;intro o ho K' hK;simp at ho;subst ho;go_simp)
   (refine hK.out _ _ (fun _=>fX.alloc (fX).size _) ?_;clear hK K';try simp only [pQ,pN,pZ,pS])
   have bz:(y1.alloc (.cells #[str [],.int .i64 0,.slice none 0 0,.slice none 0 0] 48)).heap[y1.heap.size]? = some (.cells #[str [],.int .i64 0,.slice none 0 0,.slice none 0 0] 48 (0,0)):=zG _ _
   have sS:=(show _=some _ from by simp only [World.cell?,bz];rfl:(y1.alloc (.cells #[str [],.int .i64 0,.slice none 0 0,.slice none 0 0] 48)).cell? ⟨y1.heap.size,0,none⟩=some (str []))
   have sR:(y1.alloc (.cells #[str [],.int .i64 0,.slice none 0 0,.slice none 0 0] 48)).frozen? ⟨y1.heap.size,0,none⟩=false:=by simp only [World.frozen?,bz];rfl
   have Bg:=(show _=some _ from by simp only [World.cell?,bz];rfl:(y1.alloc (.cells #[str [],.int .i64 0,.slice none 0 0,.slice none 0 0] 48)).cell? ⟨y1.heap.size,1,none⟩=some (.int .i64 0))
   have oz:(y1.alloc (.cells #[str [],.int .i64 0,.slice none 0 0,.slice none 0 0] 48)).frozen? ⟨y1.heap.size,1,none⟩=false:=by simp only [World.frozen?,bz];rfl
   have Bf:=(show _=some _ from by simp only [World.cell?,bz];rfl:(y1.alloc (.cells #[str [],.int .i64 0,.slice none 0 0,.slice none 0 0] 48)).cell? ⟨y1.heap.size,2,none⟩=some (.slice none 0 0))
   have Bc:(y1.alloc (.cells #[str [],.int .i64 0,.slice none 0 0,.slice none 0 0] 48)).frozen? ⟨y1.heap.size,2,none⟩=false:=by simp only [World.frozen?,bz];rfl
   have Be:=(show _=some _ from by simp only [World.cell?,bz];rfl:(y1.alloc (.cells #[str [],.int .i64 0,.slice none 0 0,.slice none 0 0] 48)).cell? ⟨y1.heap.size,3,none⟩=some (.slice none 0 0))
   have Bb:(y1.alloc (.cells #[str [],.int .i64 0,.slice none 0 0,.slice none 0 0] 48)).frozen? ⟨y1.heap.size,3,none⟩=false:=by simp only [World.frozen?,bz];rfl
   (refine on 9 ?_;intro o ho K' hK;simp at ho;subst ho;go_simp)
   (refine hK.out _ _ (fun _=>fX.alloc fX.size _) ?_;clear hK K';try simp only [pQ,pN,pZ,pS])
   (refine on 10 ?_;intro o ho K' hK;simp at ho;subst ho;go_simp)
   (refine hK.out _ _ (fun _=>fX.alloc fX.size _) ?_;clear hK K';try simp only [pQ,pN,pZ,pS])
   refine zU (by kernel_rfl) (NoPanic.normal ?_) _
   exact ⟨rfl,⟨y1.heap.size,ss,vv,aa,an,ac,ba,bn,bc⟩,by rfl,z8.fresh fX (repO hr)⟩
  ·(intro o8 ho K' hK;simp at ho;subst ho)
   go_simp
   (refine hK.out _ _ (fun _=>fV.alloc (ei _) _) ?_;clear hK K';try simp only [pQ,pN,pZ,pS])
   (refine on 4 ?_;intro o ho K' hK;simp at ho;subst ho;go_simp)
   go_at_call 17
   have mP:Below zl.heap.size zl (zl.alloc (.cells #[str [],.int .i64 0,.slice none 0 0,.slice none 0 0] 48)).drew:=fV.alloc (ei _) _
   (with_reducible refine (CRm.out _ mP).mono ?_)
   rintro en y1 ⟨ss,vv,aa,an,ac,ba,bn,bc,rfl,hb,hr⟩
   have fX:Below zl.heap.size zl y1:=zzT mP hb
   (refine hK.out _ _ (fun _=>fX) ?_;clear hK K';try simp only [pQ,pN,pZ,pS])
   refine tk [5,6,7] fX ?_
   (intro d hd;simp [tkD] at hd;subst hd;simp only [tks,pQ,pZ,pS])
   iterate 3 (refine ⟨?_,?_,?_⟩;rotate_left;· (intro oi ho;simp at ho;subst ho;refine Or.inl ⟨by rfl,fun w' fB=>?_⟩;go_simp;try with_reducible rfl))
   have bz:y1.heap[zl.heap.size]? = some (.cells #[str [],.int .i64 0,.slice none 0 0,.slice none 0 0] 48 (0,0)):=(hb.block _ (show _<_ from by simp)).trans (zG zl (.cells #[str [],.int .i64 0,.slice none 0 0,.slice none 0 0] 48))
   have sS:=(show _=some _ from by simp only [World.cell?,bz];rfl:(y1).cell? ⟨zl.heap.size,0,none⟩=some (str []))
   have sR:(y1).frozen? ⟨zl.heap.size,0,none⟩=false:=by simp only [World.frozen?,bz];rfl
   have Bg:=(show _=some _ from by simp only [World.cell?,bz];rfl:(y1).cell? ⟨zl.heap.size,1,none⟩=some (.int .i64 0))
   have oz:(y1).frozen? ⟨zl.heap.size,1,none⟩=false:=by simp only [World.frozen?,bz];rfl
   have Bf:=(show _=some _ from by simp only [World.cell?,bz];rfl:(y1).cell? ⟨zl.heap.size,2,none⟩=some (.slice none 0 0))
   have Bc:(y1).frozen? ⟨zl.heap.size,2,none⟩=false:=by simp only [World.frozen?,bz];rfl
   have Be:=(show _=some _ from by simp only [World.cell?,bz];rfl:(y1).cell? ⟨zl.heap.size,3,none⟩=some (.slice none 0 0))
   have Bb:(y1).frozen? ⟨zl.heap.size,3,none⟩=false:=by simp only [World.frozen?,bz];rfl
   (refine on 9 ?_;intro o ho K' hK;simp at ho;subst ho;go_simp)
   (refine hK.out _ _ (fun _=>((((fX.setCell (p:=⟨zl.heap.size,0,none⟩) (ei _) _).setCell (p:=⟨zl.heap.size,1,none⟩) (ei _) _).setCell (p:=⟨zl.heap.size,2,none⟩) (ei _) _).setCell (p:=⟨zl.heap.size,3,none⟩) (ei _) _)) ?_;clear hK K';try simp only [pQ,pN,pZ,pS])
   (refine on 10 ?_;intro o ho K' hK;simp at ho;subst ho;go_simp)
   (refine hK.out _ _ (fun _=>((((fX.setCell (p:=⟨zl.heap.size,0,none⟩) (ei _) _).setCell (p:=⟨zl.heap.size,1,none⟩) (ei _) _).setCell (p:=⟨zl.heap.size,2,none⟩) (ei _) _).setCell (p:=⟨zl.heap.size,3,none⟩) (ei _) _)) ?_;clear hK K';try simp only [pQ,pN,pZ,pS])
   refine zU (by kernel_rfl) (NoPanic.normal ?_) _
   exact ⟨rfl,⟨zl.heap.size,ss,vv,aa,an,ac,ba,bn,bc⟩,by rfl,z8.first Gs.out mP (by simp) hb (repO hr) (but4 _ _ _ _ _ _) (by rw [zT (zT (zT (zT bz)))];rfl)⟩
 rintro ⟨gm,ssm,vvm,aam,anm,acm,bam,bnm,bcm⟩ zm hR
 have Rm:Hid (z8 F zl gm (.cells #[str ssm,.int .i64 vvm,.slice aam anm acm,.slice bam bnm bcm] 48 (0,0)) (dO om) (vO om [str ssm,.int .i64 vvm,.slice aam anm acm,.slice bam bnm bcm]) zm):=hR
 have nC:Hid (Below W0.heap.size W0 zm/\Below w.heap.size w zm):=⟨aA.out.1.trans (Rm.out.below.mono (aA.out.1).size),aA.out.2.trans (Rm.out.below.mono (aA.out.2).size)⟩
 have GF:Hid (W0.heap.size<=zl.heap.size):=(aA.out.1).size
 clear hR CRm
 simp only [Act.put,List.setIfInBounds_toArray,List.set_cons_zero,List.set_cons_succ]
 go_wp2_with fail
 have CRn:=ed (fun wz (hz:Below zm.heap.size zm wz)=>Cn.out wz (nC.out.2.trans (hz.mono (nC.out.2).size)))
 have Du:Hid (∀ i,F i->i<zm.heap.size):=fun i h=>fK (HP.out.1.old i h) (nC.out.2).size
 refine jR (X:=Nat×Bs×Int×Option Addr×Nat×Nat×Option Addr×Nat×Nat) (fun a x=>((((((((((a.put (some 155) (.agg #[.slice na ns.length nc,.slice ka ns.length kc])).put (some 156) (.slice (some ⟨fT,fS,none⟩) 4 qc)).put (some 157) (.pointer (some ⟨fT,fS+6,none⟩))).put (some 158) (.agg #[str s3,.slice a3 n3 c3])).put (some 159) (.tuple #[.agg #[str x.2.1,.int .i64 x.2.2.1,.slice x.2.2.2.1 x.2.2.2.2.1 x.2.2.2.2.2.1,.slice x.2.2.2.2.2.2.1 x.2.2.2.2.2.2.2.1 x.2.2.2.2.2.2.2.2],.bool oN.isSome])).put (some 154) (.tuple #[.agg #[str x.2.1,.int .i64 x.2.2.1,.slice x.2.2.2.1 x.2.2.2.2.1 x.2.2.2.2.2.1,.slice x.2.2.2.2.2.2.1 x.2.2.2.2.2.2.2.1 x.2.2.2.2.2.2.2.2],.bool oN.isSome])).put (some 160) (.agg #[str x.2.1,.int .i64 x.2.2.1,.slice x.2.2.2.1 x.2.2.2.2.1 x.2.2.2.2.2.1,.slice x.2.2.2.2.2.2.1 x.2.2.2.2.2.2.2.1 x.2.2.2.2.2.2.2.2])).put (some 161) (.bool oN.isSome)).put (some 24) (.pointer (some ⟨x.1,0,none⟩))).put (some 25) (.bool oN.isSome))) (fun x w'=>z8 F zm x.1 (.cells #[str x.2.1,.int .i64 x.2.2.1,.slice x.2.2.2.1 x.2.2.2.2.1 x.2.2.2.2.2.1,.slice x.2.2.2.2.2.2.1 x.2.2.2.2.2.2.2.1 x.2.2.2.2.2.2.2.2] 48 (0,0)) (dO oN) (vO oN [str x.2.1,.int .i64 x.2.2.1,.slice x.2.2.2.1 x.2.2.2.2.1 x.2.2.2.2.2.1,.slice x.2.2.2.2.2.2.1 x.2.2.2.2.2.2.2.1 x.2.2.2.2.2.2.2.2]) w') ?_ ?_
 ·refine wp_region_noPanic ?_
  refine zB (fun w'=>Below zm.heap.size zm w') (fun _=>false) (by kernel_rfl) ?_
  have fV:(fun w'=>Below zm.heap.size zm w') zm.drew:=Below.drew (e_ _ _)
  refine tk [0,1,2,3] fV ?_
  (intro d hd;simp [tkD] at hd;subst hd;simp only [tks,pQ,pZ,pS])
  iterate 4 (refine ⟨?_,?_,?_⟩;rotate_left;· (intro oi ho;simp at ho;subst ho;refine Or.inl ⟨by rfl,fun w' fB=>?_⟩;obtain ⟨e0,e1,f1,h1,f2,h2,f3,h3⟩:=SX.out w' (nC.out.1.trans (fB.mono (nC.out.1).size));go_simp;try with_reducible rfl))
  refine k8 4 8 (by kernel_rfl) ?_ ?_
  ·(intro o4 ho K' hK;simp at ho;subst ho)
   go_simp
   go_at_call 17
   (with_reducible refine (CRn.out zm.drew fV).mono ?_)
   rintro en y1 ⟨ss,vv,aa,an,ac,ba,bn,bc,rfl,hb,hr⟩
   have fX:Below zm.heap.size zm y1:=fV.trans hb
   (refine hK.out _ _ (fun _=>fX) ?_;clear hK K';try simp only [pQ,pN,pZ,pS])
   refine tk [5,6,7] fX ?_
   (intro d hd;simp [tkD] at hd;subst hd;simp only [tks,pQ,pZ,pS])
   iterate 3 (refine ⟨?_,?_,?_⟩;rotate_left;· (intro oi ho;simp at ho;subst ho;refine Or.inl ⟨by rfl,fun w' fB=>?_⟩;go_simp;try with_reducible rfl))
   (refine on 8 ?_;intro o ho K' hK;simp at ho;subst ho;go_simp)
   (refine hK.out _ _ (fun _=>fX.alloc (fX).size _) ?_;clear hK K';try simp only [pQ,pN,pZ,pS])
   have bz:(y1.alloc (.cells #[str [],.int .i64 0,.slice none 0 0,.slice none 0 0] 48)).heap[y1.heap.size]? = some (.cells #[str [],.int .i64 0,.slice none 0 0,.slice none 0 0] 48 (0,0)):=zG _ _
   have sS:=(show _=some _ from by simp only [World.cell?,bz];rfl:(y1.alloc (.cells #[str [],.int .i64 0,.slice none 0 0,.slice none 0 0] 48)).cell? ⟨y1.heap.size,0,none⟩=some (str []))
   have sR:(y1.alloc (.cells #[str [],.int .i64 0,.slice none 0 0,.slice none 0 0] 48)).frozen? ⟨y1.heap.size,0,none⟩=false:=by simp only [World.frozen?,bz];rfl
   have Bg:=(show _=some _ from by simp only [World.cell?,bz];rfl:(y1.alloc (.cells #[str [],.int .i64 0,.slice none 0 0,.slice none 0 0] 48)).cell? ⟨y1.heap.size,1,none⟩=some (.int .i64 0))
   have oz:(y1.alloc (.cells #[str [],.int .i64 0,.slice none 0 0,.slice none 0 0] 48)).frozen? ⟨y1.heap.size,1,none⟩=false:=by simp only [World.frozen?,bz];rfl
   have Bf:=(show _=some _ from by simp only [World.cell?,bz];rfl:(y1.alloc (.cells #[str [],.int .i64 0,.slice none 0 0,.slice none 0 0] 48)).cell? ⟨y1.heap.size,2,none⟩=some (.slice none 0 0))
   have Bc:(y1.alloc (.cells #[str [],.int .i64 0,.slice none 0 0,.slice none 0 0] 48)).frozen? ⟨y1.heap.size,2,none⟩=false:=by simp only [World.frozen?,bz];rfl
   have Be:=(show _=some _ from by simp only [World.cell?,bz];rfl:(y1.alloc (.cells #[str [],.int .i64 0,.slice none 0 0,.slice none 0 0] 48)).cell? ⟨y1.heap.size,3,none⟩=some (.slice none 0 0))
   have Bb:(y1.alloc (.cells #[str [],.int .i64 0,.slice none 0 0,.slice none 0 0] 48)).frozen? ⟨y1.heap.size,3,none⟩=false:=by simp only [World.frozen?,bz];rfl
   (refine on 9 ?_;intro o ho K' hK;simp at ho;subst ho;go_simp)
   (refine hK.out _ _ (fun _=>fX.alloc fX.size _) ?_;clear hK K';try simp only [pQ,pN,pZ,pS])
   (refine on 10 ?_;intro o ho K' hK;simp at ho;subst ho;go_simp)
   (refine hK.out _ _ (fun _=>fX.alloc fX.size _) ?_;clear hK K';try simp only [pQ,pN,pZ,pS])
   refine zU (by kernel_rfl) (NoPanic.normal ?_) _
   exact ⟨rfl,⟨y1.heap.size,ss,vv,aa,an,ac,ba,bn,bc⟩,by rfl,z8.fresh fX (repO hr)⟩
  ·(intro o8 ho K' hK;simp at ho;subst ho)
   go_simp
   (refine hK.out _ _ (fun _=>fV.alloc (ei _) _) ?_;clear hK K';try simp only [pQ,pN,pZ,pS])
   (refine on 4 ?_;intro o ho K' hK;simp at ho;subst ho;go_simp)
   go_at_call 17
   have mP:Below zm.heap.size zm (zm.alloc (.cells #[str [],.int .i64 0,.slice none 0 0,.slice none 0 0] 48)).drew:=fV.alloc (ei _) _
   (with_reducible refine (CRn.out _ mP).mono ?_)
   rintro en y1 ⟨ss,vv,aa,an,ac,ba,bn,bc,rfl,hb,hr⟩
   have fX:Below zm.heap.size zm y1:=zzT mP hb
   (refine hK.out _ _ (fun _=>fX) ?_;clear hK K';try simp only [pQ,pN,pZ,pS])
   refine tk [5,6,7] fX ?_
   (intro d hd;simp [tkD] at hd;subst hd;simp only [tks,pQ,pZ,pS])
   iterate 3 (refine ⟨?_,?_,?_⟩;rotate_left;· (intro oi ho;simp at ho;subst ho;refine Or.inl ⟨by rfl,fun w' fB=>?_⟩;go_simp;try with_reducible rfl))
   have bz:y1.heap[zm.heap.size]? = some (.cells #[str [],.int .i64 0,.slice none 0 0,.slice none 0 0] 48 (0,0)):=(hb.block _ (show _<_ from by simp)).trans (zG zm (.cells #[str [],.int .i64 0,.slice none 0 0,.slice none 0 0] 48))
   have sS:=(show _=some _ from by simp only [World.cell?,bz];rfl:(y1).cell? ⟨zm.heap.size,0,none⟩=some (str []))
   have sR:(y1).frozen? ⟨zm.heap.size,0,none⟩=false:=by simp only [World.frozen?,bz];rfl
   have Bg:=(show _=some _ from by simp only [World.cell?,bz];rfl:(y1).cell? ⟨zm.heap.size,1,none⟩=some (.int .i64 0))
   have oz:(y1).frozen? ⟨zm.heap.size,1,none⟩=false:=by simp only [World.frozen?,bz];rfl
   have Bf:=(show _=some _ from by simp only [World.cell?,bz];rfl:(y1).cell? ⟨zm.heap.size,2,none⟩=some (.slice none 0 0))
   have Bc:(y1).frozen? ⟨zm.heap.size,2,none⟩=false:=by simp only [World.frozen?,bz];rfl
   have Be:=(show _=some _ from by simp only [World.cell?,bz];rfl:(y1).cell? ⟨zm.heap.size,3,none⟩=some (.slice none 0 0))
   have Bb:(y1).frozen? ⟨zm.heap.size,3,none⟩=false:=by simp only [World.frozen?,bz];rfl
   (refine on 9 ?_;intro o ho K' hK;simp at ho;subst ho;go_simp)
   (refine hK.out _ _ (fun _=>((((fX.setCell (p:=⟨zm.heap.size,0,none⟩) (ei _) _).setCell (p:=⟨zm.heap.size,1,none⟩) (ei _) _).setCell (p:=⟨zm.heap.size,2,none⟩) (ei _) _).setCell (p:=⟨zm.heap.size,3,none⟩) (ei _) _)) ?_;clear hK K';try simp only [pQ,pN,pZ,pS])
   (refine on 10 ?_;intro o ho K' hK;simp at ho;subst ho;go_simp)
   (refine hK.out _ _ (fun _=>((((fX.setCell (p:=⟨zm.heap.size,0,none⟩) (ei _) _).setCell (p:=⟨zm.heap.size,1,none⟩) (ei _) _).setCell (p:=⟨zm.heap.size,2,none⟩) (ei _) _).setCell (p:=⟨zm.heap.size,3,none⟩) (ei _) _)) ?_;clear hK K';try simp only [pQ,pN,pZ,pS])
   refine zU (by kernel_rfl) (NoPanic.normal ?_) _
   exact ⟨rfl,⟨zm.heap.size,ss,vv,aa,an,ac,ba,bn,bc⟩,by rfl,z8.first Du.out mP (by simp) hb (repO hr) (but4 _ _ _ _ _ _) (by rw [zT (zT (zT (zT bz)))];rfl)⟩
 rintro ⟨gn,ssn,vvn,aan,ann,acn,ban,bnn,bcn⟩ zn hR
 have Rn:Hid (z8 F zm gn (.cells #[str ssn,.int .i64 vvn,.slice aan ann acn,.slice ban bnn bcn] 48 (0,0)) (dO oN) (vO oN [str ssn,.int .i64 vvn,.slice aan ann acn,.slice ban bnn bcn]) zn):=hR
 have n9:Hid (Below W0.heap.size W0 zn/\Below w.heap.size w zn):=⟨nC.out.1.trans (Rn.out.below.mono (nC.out.1).size),nC.out.2.trans (Rn.out.below.mono (nC.out.2).size)⟩
 have GE:Hid (W0.heap.size<=zm.heap.size):=(nC.out.1).size
 clear hR CRn
 simp only [Act.put,List.setIfInBounds_toArray,List.set_cons_zero,List.set_cons_succ]
 have Bk:zn.heap[gk]? = some (.cells #[.slice xk k0.args.length yk] 43 (0,0)):=(Rn.out.below.block _ (zZ ((Rm.out.below.block _ (zZ ((Rl.out.below.block _ (zZ (Rk.out.blk))).trans (Rk.out.blk)))).trans ((Rl.out.below.block _ (zZ (Rk.out.blk))).trans (Rk.out.blk))))).trans ((Rm.out.below.block _ (zZ ((Rl.out.below.block _ (zZ (Rk.out.blk))).trans (Rk.out.blk)))).trans ((Rl.out.below.block _ (zZ (Rk.out.blk))).trans (Rk.out.blk)))
 have Tk:Hid (Rep (fun i=>F i\/W0.heap.size<=i) zn (kz (k0)) (.slice xk (k0).args.length yk)):=Rep.below (F':=fun i=>F i\/W0.heap.size<=i) Rn.out.below (fun _ h=>h) (Rep.below (F':=fun i=>F i\/W0.heap.size<=i) Rm.out.below (fun _ h=>h) (Rep.below (F':=fun i=>F i\/W0.heap.size<=i) Rl.out.below (fun _ h=>h) ((zX.get1 Rk.out.rep).weak (G:=fun i=>F i\/W0.heap.size<=i) (fun i h=>h.1.elim .inl (fun h=>.inr (fQ HLk.out h))))))
 have Bl:zn.heap[gl]? = some (.cells #[str ssl,.int .i64 vvl,.slice aal anl acl,.slice bal bnl bcl] 48 (0,0)):=(Rn.out.below.block _ (zZ ((Rm.out.below.block _ (zZ (Rl.out.blk))).trans (Rl.out.blk)))).trans ((Rm.out.below.block _ (zZ (Rl.out.blk))).trans (Rl.out.blk))
 have Tl:Hid (zX (fun i=>F i\/W0.heap.size<=i) zn (dO ol) (vO ol [str ssl,.int .i64 vvl,.slice aal anl acl,.slice bal bnl bcl])):=zX.below (F':=fun i=>F i\/W0.heap.size<=i) Rn.out.below (fun _ h=>h) (zX.below (F':=fun i=>F i\/W0.heap.size<=i) Rm.out.below (fun _ h=>h) ((Rl.out.rep.weakS (G:=fun i=>F i\/W0.heap.size<=i) (fun i h=>h.1.elim .inl (fun h=>.inr (fQ HLl.out h))))))
 have Bm:zn.heap[gm]? = some (.cells #[str ssm,.int .i64 vvm,.slice aam anm acm,.slice bam bnm bcm] 48 (0,0)):=(Rn.out.below.block _ (zZ (Rm.out.blk))).trans (Rm.out.blk)
 have Tm:Hid (zX (fun i=>F i\/W0.heap.size<=i) zn (dO om) (vO om [str ssm,.int .i64 vvm,.slice aam anm acm,.slice bam bnm bcm])):=zX.below (F':=fun i=>F i\/W0.heap.size<=i) Rn.out.below (fun _ h=>h) ((Rm.out.rep.weakS (G:=fun i=>F i\/W0.heap.size<=i) (fun i h=>h.1.elim .inl (fun h=>.inr (fQ GF.out h)))))
 have Bn:zn.heap[gn]? = some (.cells #[str ssn,.int .i64 vvn,.slice aan ann acn,.slice ban bnn bcn] 48 (0,0)):=Rn.out.blk
 have Tn:Hid (zX (fun i=>F i\/W0.heap.size<=i) zn (dO oN) (vO oN [str ssn,.int .i64 vvn,.slice aan ann acn,.slice ban bnn bcn])):=(Rn.out.rep.weakS (G:=fun i=>F i\/W0.heap.size<=i) (fun i h=>h.1.elim .inl (fun h=>.inr (fQ GE.out h))))
 have NRz:Hid (z9 (w.heap.size+1+1) 0 (.slice none 0 0) (.slice none 0 0) zn):=z9.below (B:=W0.heap.size) H0.out.2.2.2 n9.out.1 (zZ H0.out.2.2.2)
 clear Cl Cm Cn CKK
 cases ol with
 | none =>
   have mN:=ed (show zN ns (.ite l m n)=none by rw [zN,iH.out.2.2.2.1];rfl)
   obtain ⟨tN,aC,iC,Ar,_,rff⟩:=NRz.out.cells
   have mg:=rff 0;have nD:=rff 1;have rG:=rff 2;have sh:=rff 3
   clear rff
   obtain ⟨q0,q1,q2,q3⟩:=kP Bl
   simp only [Option.isSome_none,Option.isSome_some]
   go_wp2_with fail
   obtain ⟨W,hW,f_,fe,f7,mQ,fD,fO⟩:=z9.store (NRz.out) (str ssl) (.int .i64 vvl) (.slice aal anl acl) (.slice bal bnl bcl)
   rw [<- hW]
   refine bodyPost_ret (v:=.tuple #[.agg #[str ssl,.int .i64 vvl,.slice aal anl acl,.slice bal bnl bcl],.bool false]) (by simp [results,Tryz.results17,go_sem,f_,fe,f7,mQ]) rfl ?_
   rw [mN.out]
   exact uz (o:=none) HP.out.1.old H0.out.1 H0.out.2.1 n9.out.1 (fun x hx=>by simp at hx) fD fO
 | some p =>
   cases om with
   | none =>
     have mN:=ed (show zN ns (.ite l m n)=none by rw [zN,iH.out.2.2.2.1,iH.out.2.2.2.2.1];rfl)
     obtain ⟨tN,aC,iC,Ar,_,rff⟩:=NRz.out.cells
     have mg:=rff 0;have nD:=rff 1;have rG:=rff 2;have sh:=rff 3
     clear rff
     obtain ⟨q0,q1,q2,q3⟩:=kP Bl
     simp only [Option.isSome_none,Option.isSome_some]
     go_wp2_with fail
     obtain ⟨W,hW,f_,fe,f7,mQ,fD,fO⟩:=z9.store (NRz.out) (str ssl) (.int .i64 vvl) (.slice aal anl acl) (.slice bal bnl bcl)
     rw [<- hW]
     refine bodyPost_ret (v:=.tuple #[.agg #[str ssl,.int .i64 vvl,.slice aal anl acl,.slice bal bnl bcl],.bool false]) (by simp [results,Tryz.results17,go_sem,f_,fe,f7,mQ]) rfl ?_
     rw [mN.out]
     exact uz (o:=none) HP.out.1.old H0.out.1 H0.out.2.1 n9.out.1 (fun x hx=>by simp at hx) fD fO
   | some q =>
     cases oN with
     | none =>
       have mN:=ed (show zN ns (.ite l m n)=none by rw [zN,iH.out.2.2.2.1,iH.out.2.2.2.2.1,iH.out.2.2.2.2.2];rfl)
       obtain ⟨tN,aC,iC,Ar,_,rff⟩:=NRz.out.cells
       have mg:=rff 0;have nD:=rff 1;have rG:=rff 2;have sh:=rff 3
       clear rff
       obtain ⟨q0,q1,q2,q3⟩:=kP Bl
       simp only [Option.isSome_none,Option.isSome_some]
       go_wp2_with fail
       obtain ⟨W,hW,f_,fe,f7,mQ,fD,fO⟩:=z9.store (NRz.out) (str ssl) (.int .i64 vvl) (.slice aal anl acl) (.slice bal bnl bcl)
       rw [<- hW]
       refine bodyPost_ret (v:=.tuple #[.agg #[str ssl,.int .i64 vvl,.slice aal anl acl,.slice bal bnl bcl],.bool false]) (by simp [results,Tryz.results17,go_sem,f_,fe,f7,mQ]) rfl ?_
       rw [mN.out]
       exact uz (o:=none) HP.out.1.old H0.out.1 H0.out.2.1 n9.out.1 (fun x hx=>by simp at hx) fD fO
     | some r =>
       have HE:=ed (show zN ns (.ite l m n)=uL (qK (kV p ns.length k0.args.length) q r) by rw [zN,iH.out.2.2.2.1,iH.out.2.2.2.2.1,iH.out.2.2.2.2.2,Option.bind_some,Option.bind_some,Option.bind_some,iH.out.2.1,Option.bind_some])
       obtain ⟨f1,Ht,fe⟩:=jE l ns _ p HP.out.2.1.1 HP.out.1.n15 iH.out.1 iH.out.2.2.2.1
       have f7:=jx _ _ _ iH.out.2.2.2.2.1
       have mQ:=jx _ _ _ iH.out.2.2.2.2.2
       have B0:=kg m ns k0 HP.out.1.n15 iH.out.2.1
       have aJ:=uS B0
       have rC:lvB p:=fit_lvR 200 p (kinds ns++(Ty.mk []).args) fe f1 (fun t ht=>by
        rcases List.mem_append.1 ht with ht | ht
        ·exact HP.out.1.n15 t ht
        ·simp [Ty.args] at ht) (by rw [List.length_append,qL];simp [Ty.args];omega)
       have hsz:zW (qK (kV p ns.length k0.args.length) q r)<=1000000:=by
        have h4:=xD (kV p ns.length k0.args.length) q r
        rw [yG] at h4
        have h5:zW p*(zW q+zW r)<=200*400:=Nat.mul_le_mul fe (by omega)
        omega
       have SHC:=ed (fun wz (hz:Below zn.heap.size zn wz)=>shift_any (zW p) (fun i=>i<zn.heap.size/\(F i\/W0.heap.size<=i)) p ns.length k0.args.length _ _ _ _ wz (ei _) (fun i h=>fK h.1 hz.size) (by omega) rC (by omega) (by omega) (zX.below (F':=(fun i=>i<zn.heap.size/\(F i\/W0.heap.size<=i))) hz (fun _ h=>h) ((Rep.keep fun i x h hx=>⟨⟨zZ hx,h⟩,hx⟩).2 _ _ Tl.out)))
       have GRC:Hid (∀ (A1:World) (E:Nat->Prop) (sq:Bs) (vq:Int) (aq:Option Addr) (nq cq:Nat) (bq:Option Addr) (mq dq:Nat),Below zn.heap.size zn A1->(∀ i,E i->i<A1.heap.size)->(∀ i,(i<zn.heap.size/\(F i\/W0.heap.size<=i))->E i)->zX E A1 (kE (kV p ns.length k0.args.length)) [str sq,.int .i64 vq,.slice aq nq cq,.slice bq mq dq] ->
        Calls Tryz.prog 42 #[.agg #[str sq,.int .i64 vq,.slice aq nq cq,.slice bq mq dq],.agg #[str ssm,.int .i64 vvm,.slice aam anm acm,.slice bam bnm bcm],.agg #[str ssn,.int .i64 vvn,.slice aan ann acn,.slice ban bnn bcn]] A1 (NdPost E A1 (qK (kV p ns.length k0.args.length) q r))):=by
        show ∀ _,_
        intro A1 E sq vq aq nq cq bq mq dq hz hE hFE hr
        exact graft_any _ E (kV p ns.length k0.args.length) q r _ _ _ _ _ _ _ _ _ _ _ _ A1 (ei _) hE (xj _ _ _ Ht) hr (zX.below hz hFE ((Rep.keep fun i x h hx=>⟨⟨zZ hx,h⟩,hx⟩).2 _ _ Tm.out)) (zX.below hz hFE ((Rep.keep fun i x h hx=>⟨⟨zZ hx,h⟩,hx⟩).2 _ _ Tn.out))
       have SY:Hid (∀ w',Below zn.heap.size zn w'->(w'.cell? ⟨gl,0,none⟩=some (str ssl)/\w'.cell? ⟨gl,1,none⟩=some (.int .i64 vvl)/\w'.cell? ⟨gl,2,none⟩=some (.slice aal anl acl)/\w'.cell? ⟨gl,3,none⟩=some (.slice bal bnl bcl))/\(w'.cell? ⟨gm,0,none⟩=some (str ssm)/\w'.cell? ⟨gm,1,none⟩=some (.int .i64 vvm)/\w'.cell? ⟨gm,2,none⟩=some (.slice aam anm acm)/\w'.cell? ⟨gm,3,none⟩=some (.slice bam bnm bcm))/\(w'.cell? ⟨gn,0,none⟩=some (str ssn)/\w'.cell? ⟨gn,1,none⟩=some (.int .i64 vvn)/\w'.cell? ⟨gn,2,none⟩=some (.slice aan ann acn)/\w'.cell? ⟨gn,3,none⟩=some (.slice ban bnn bcn))/\w'.cell? ⟨gk,0,none⟩=some (.slice xk k0.args.length yk)):=by
        show ∀ w',_->_
        intro w' h
        exact ⟨kP ((h.block _ (zZ Bl)).trans Bl),kP ((h.block _ (zZ Bm)).trans Bm),kP ((h.block _ (zZ Bn)).trans Bn),by simp only [World.cell?,(h.block _ (zZ Bk)).trans Bk];rfl⟩
       simp only [Option.isSome_some]
       clear f1 Ht fe f7 mQ B0 rC Bl Bm Bn Bk
       go_wp2_with fail
       refine jR (X:=Nat×Bs×Int×Option Addr×Nat×Nat×Option Addr×Nat×Nat×Bs×Int×Option Addr×Nat×Nat×Option Addr×Nat×Nat) (fun a x=>((((((((((a.put (some 173) (.agg #[str ssl,.int .i64 vvl,.slice aal anl acl,.slice bal bnl bcl])).put (some 174) (.int .i64 ((ns.length:Nat):Int))).put (some 175) (.pointer (some ⟨gk,0,none⟩))).put (some 176) (.slice xk k0.args.length yk)).put (some 177) (.int .i64 ((k0.args.length:Nat):Int))).put (some 178) (.agg #[str x.2.1,.int .i64 x.2.2.1,.slice x.2.2.2.1 x.2.2.2.2.1 x.2.2.2.2.2.1,.slice x.2.2.2.2.2.2.1 x.2.2.2.2.2.2.2.1 x.2.2.2.2.2.2.2.2.1])).put (some 179) (.agg #[str ssm,.int .i64 vvm,.slice aam anm acm,.slice bam bnm bcm])).put (some 180) (.agg #[str ssn,.int .i64 vvn,.slice aan ann acn,.slice ban bnn bcn])).put (some 181) (.agg #[str x.2.2.2.2.2.2.2.2.2.1,.int .i64 x.2.2.2.2.2.2.2.2.2.2.1,.slice x.2.2.2.2.2.2.2.2.2.2.2.1 x.2.2.2.2.2.2.2.2.2.2.2.2.1 x.2.2.2.2.2.2.2.2.2.2.2.2.2.1,.slice x.2.2.2.2.2.2.2.2.2.2.2.2.2.2.1 x.2.2.2.2.2.2.2.2.2.2.2.2.2.2.2.1 x.2.2.2.2.2.2.2.2.2.2.2.2.2.2.2.2])).put (some 26) (.pointer (some ⟨x.1,0,none⟩)))) (fun x w'=>z8 (fun i=>i<zn.heap.size/\(F i\/W0.heap.size<=i)) zn x.1 (.cells #[str x.2.2.2.2.2.2.2.2.2.1,.int .i64 x.2.2.2.2.2.2.2.2.2.2.1,.slice x.2.2.2.2.2.2.2.2.2.2.2.1 x.2.2.2.2.2.2.2.2.2.2.2.2.1 x.2.2.2.2.2.2.2.2.2.2.2.2.2.1,.slice x.2.2.2.2.2.2.2.2.2.2.2.2.2.2.1 x.2.2.2.2.2.2.2.2.2.2.2.2.2.2.2.1 x.2.2.2.2.2.2.2.2.2.2.2.2.2.2.2.2] 48 (0,0)) (kE (qK (kV p ns.length k0.args.length) q r)) [str x.2.2.2.2.2.2.2.2.2.1,.int .i64 x.2.2.2.2.2.2.2.2.2.2.1,.slice x.2.2.2.2.2.2.2.2.2.2.2.1 x.2.2.2.2.2.2.2.2.2.2.2.2.1 x.2.2.2.2.2.2.2.2.2.2.2.2.2.1,.slice x.2.2.2.2.2.2.2.2.2.2.2.2.2.2.1 x.2.2.2.2.2.2.2.2.2.2.2.2.2.2.2.1 x.2.2.2.2.2.2.2.2.2.2.2.2.2.2.2.2] w') ?_ ?_
       ·refine wp_region_noPanic ?_
        refine zB (fun w'=>Below zn.heap.size zn w') (fun _=>false) (by kernel_rfl) ?_
        have fV:(fun w'=>Below zn.heap.size zn w') zn.drew:=Below.drew (e_ _ _)
        refine tk [0,1,2,3,4,6,7] fV ?_
        (intro d hd;simp [tkD] at hd;subst hd;simp only [tks,pQ,pZ,pS])
        iterate 7 (refine ⟨?_,?_,?_⟩;rotate_left;· (intro oi ho;simp at ho;subst ho;refine Or.inl ⟨by rfl,fun w' fB=>?_⟩;obtain ⟨⟨l0,l1,l2,l3⟩,⟨m0,m1,m2,m3⟩,⟨n0,n1,n2,n3⟩,c0⟩:=SY.out w' fB;go_simp;try with_reducible rfl))
        refine k8 5 9 (by kernel_rfl) ?_ ?_
        ·(intro o5 ho K' hK;simp at ho;subst ho)
         go_simp
         go_at_call 43
         (with_reducible refine (SHC.out _ fV).mono ?_)
         rintro en y1 ⟨sq,vq,aq,nq,cq,bq,mq,dq,rfl,fh,hqr⟩
         have fX:Below zn.heap.size zn y1:=fV.trans (fh.mono (fV).size)
         (refine hK.out _ _ (fun _=>fX) ?_;clear hK K';try simp only [pQ,pN,pZ,pS])
         have hq1:zX (fun i=>((i<zn.heap.size/\(F i\/W0.heap.size<=i))\/zn.heap.size<=i)/\i<y1.heap.size) y1 (kE (kV p ns.length k0.args.length)) [str sq,.int .i64 vq,.slice aq nq cq,.slice bq mq dq]:=(Rep.keep fun i x hi hx=>⟨⟨hi,zZ hx⟩,hx⟩).2 _ _ hqr
         refine k8 8 9 (by kernel_rfl) ?_ ?_
         ·have AX:=GRC.out y1 (fun i=>((i<zn.heap.size/\(F i\/W0.heap.size<=i))\/zn.heap.size<=i)/\i<y1.heap.size) sq vq aq nq cq bq mq dq fX (fun i h=>h.2) (fun i h=>⟨.inl h,fK h.1 fX.size⟩) hq1
          (intro o8 ho K' hK;simp at ho;subst ho)
          go_simp
          go_at_call 42
          (with_reducible refine AX.mono ?_)
          rintro en y2 ⟨sr,vr,ar,nr,cr,br,mr,dr,rfl,hbk,mD⟩
          have nL:Below zn.heap.size zn y2:=zzT fX hbk
          (refine hK.out _ _ (fun _=>nL) ?_;clear hK K';try simp only [pQ,pN,pZ,pS])
          (refine on 9 ?_;intro o ho K' hK;simp at ho;subst ho;go_simp)
          (refine hK.out _ _ (fun _=>nL.alloc nL.size _) ?_;clear hK K';try simp only [pQ,pN,pZ,pS])
          (refine on 10 ?_;intro o ho K' hK;simp at ho;subst ho;go_simp)
          (refine hK.out _ _ (fun _=>nL.alloc nL.size _) ?_;clear hK K';try simp only [pQ,pN,pZ,pS])
          refine zU (by kernel_rfl) (NoPanic.normal ?_) _
          exact ⟨rfl,⟨y2.heap.size,sq,vq,aq,nq,cq,bq,mq,dq,sr,vr,ar,nr,cr,br,mr,dr⟩,by rfl,z8.fresh nL (mD.weakS fun i h=>by rcases h with h | h;exact h.1;exact .inr (fQ fX.size h))⟩
         ·(intro o9 ho K' hK;simp at ho;subst ho)
          go_simp
          (refine hK.out _ _ (fun _=>fX.alloc fX.size _) ?_;clear hK K';try simp only [pQ,pN,pZ,pS])
          have hA:Below zn.heap.size zn (y1.alloc (.cells #[str [],.int .i64 0,.slice none 0 0,.slice none 0 0] 48)):=fX.alloc fX.size _
          have lz:(y1.alloc (.cells #[str [],.int .i64 0,.slice none 0 0,.slice none 0 0] 48)).heap.size=y1.heap.size+1:=by simp
          have Gw:(y1.alloc (.cells #[str [],.int .i64 0,.slice none 0 0,.slice none 0 0] 48)).heap[y1.heap.size]? = some (.cells #[str [],.int .i64 0,.slice none 0 0,.slice none 0 0] 48 (0,0)):=zG _ _
          have IU:zX (fun i=>((i<zn.heap.size/\(F i\/W0.heap.size<=i))\/zn.heap.size<=i)/\i<y1.heap.size) (y1.alloc (.cells #[str [],.int .i64 0,.slice none 0 0,.slice none 0 0] 48)) (kE (kV p ns.length k0.args.length)) [str sq,.int .i64 vq,.slice aq nq cq,.slice bq mq dq]:=(Rep.keep fun i x hi hx=>⟨hi,zY hx⟩).2 _ _ hq1
          have AX:=GRC.out (y1.alloc (.cells #[str [],.int .i64 0,.slice none 0 0,.slice none 0 0] 48)) (fun i=>((i<zn.heap.size/\(F i\/W0.heap.size<=i))\/zn.heap.size<=i)/\i<y1.heap.size) sq vq aq nq cq bq mq dq hA (fun i h=>by rw [lz];have:=h.2;omega) (fun i h=>⟨.inl h,fK h.1 fX.size⟩) IU
          (refine on 8 ?_;intro o ho K' hK;simp at ho;subst ho;go_simp)
          go_at_call 42
          (with_reducible refine AX.mono ?_)
          rintro en y2 ⟨sr,vr,ar,nr,cr,br,mr,dr,rfl,hbk,mD⟩
          have nL:Below zn.heap.size zn y2:=zzT hA hbk
          have bz:y2.heap[y1.heap.size]? = some (.cells #[str [],.int .i64 0,.slice none 0 0,.slice none 0 0] 48 (0,0)):=(hbk.block _ (by rw [lz];omega)).trans Gw
          (refine hK.out _ _ (fun _=>nL) ?_;clear hK K';try simp only [pQ,pN,pZ,pS])
          have sS:(y2).cell? ⟨y1.heap.size,0,none⟩=some (str []):=by simp only [World.cell?,bz];rfl
          have sR:(y2).frozen? ⟨y1.heap.size,0,none⟩=false:=by simp only [World.frozen?,bz];rfl
          have Bg:(y2).cell? ⟨y1.heap.size,1,none⟩=some (.int .i64 0):=by simp only [World.cell?,bz];rfl
          have oz:(y2).frozen? ⟨y1.heap.size,1,none⟩=false:=by simp only [World.frozen?,bz];rfl
          have Bf:(y2).cell? ⟨y1.heap.size,2,none⟩=some (.slice none 0 0):=by simp only [World.cell?,bz];rfl
          have Bc:(y2).frozen? ⟨y1.heap.size,2,none⟩=false:=by simp only [World.frozen?,bz];rfl
          have Be:(y2).cell? ⟨y1.heap.size,3,none⟩=some (.slice none 0 0):=by simp only [World.cell?,bz];rfl
          have Bb:(y2).frozen? ⟨y1.heap.size,3,none⟩=false:=by simp only [World.frozen?,bz];rfl
          (refine on 10 ?_;intro o ho K' hK;simp at ho;subst ho;go_simp)
          (refine hK.out _ _ (fun _=>((((nL.setCell (p:=⟨y1.heap.size,0,none⟩) fX.size _).setCell (p:=⟨y1.heap.size,1,none⟩) fX.size _).setCell (p:=⟨y1.heap.size,2,none⟩) fX.size _).setCell (p:=⟨y1.heap.size,3,none⟩) fX.size _)) ?_;clear hK K';try simp only [pQ,pN,pZ,pS])
          refine zU (by kernel_rfl) (NoPanic.normal ?_) _
          exact ⟨rfl,⟨y1.heap.size,sq,vq,aq,nq,cq,bq,mq,dq,sr,vr,ar,nr,cr,br,mr,dr⟩,by rfl,((((nL.setCell (p:=⟨y1.heap.size,0,none⟩) fX.size _).setCell (p:=⟨y1.heap.size,1,none⟩) fX.size _).setCell (p:=⟨y1.heap.size,2,none⟩) fX.size _).setCell (p:=⟨y1.heap.size,3,none⟩) fX.size _),fX.size,(by rw [zT (zT (zT (zT bz)))];rfl),(Rep.keep fun i x hi hx=>by
           have hne:i≠y1.heap.size:=by rcases hi with h | h;have:=h.2;omega;rw [lz] at h;omega
           exact ⟨⟨by rcases hi with h | h;exact h.1;exact .inr (fQ hA.size h),hne⟩,by rw [(but4 _ _ _ _ _ _).block i (zZ hx) hne];exact hx⟩).2 _ _ mD⟩
        ·(intro o9 ho K' hK;simp at ho;subst ho)
         go_simp
         (refine hK.out _ _ (fun _=>fV.alloc (ei _) _) ?_;clear hK K';try simp only [pQ,pN,pZ,pS])
         have hA:Below zn.heap.size zn (zn.alloc (.cells #[str [],.int .i64 0,.slice none 0 0,.slice none 0 0] 48)).drew:=fV.alloc (ei _) _
         have lz:(zn.alloc (.cells #[str [],.int .i64 0,.slice none 0 0,.slice none 0 0] 48)).drew.heap.size=zn.heap.size+1:=by simp
         (refine on 5 ?_;intro o ho K' hK;simp at ho;subst ho;go_simp)
         go_at_call 43
         (with_reducible refine (SHC.out _ hA).mono ?_)
         rintro en y1 ⟨sq,vq,aq,nq,cq,bq,mq,dq,rfl,fh,hqr⟩
         have fX:Below zn.heap.size zn y1:=hA.trans (fh.mono (hA).size)
         have Gw:y1.heap[zn.heap.size]? = some (.cells #[str [],.int .i64 0,.slice none 0 0,.slice none 0 0] 48 (0,0)):=(fh.block _ (by rw [lz];omega)).trans (zG zn (.cells #[str [],.int .i64 0,.slice none 0 0,.slice none 0 0] 48))
         have ly1:zn.heap.size+1<=y1.heap.size:=by have:=fh.size;rw [lz] at this;exact this
         (refine hK.out _ _ (fun _=>fX) ?_;clear hK K';try simp only [pQ,pN,pZ,pS])
         have IU:zX (fun i=>((i<zn.heap.size/\(F i\/W0.heap.size<=i))\/zn.heap.size+1<=i)/\i<y1.heap.size) y1 (kE (kV p ns.length k0.args.length)) [str sq,.int .i64 vq,.slice aq nq cq,.slice bq mq dq]:=(Rep.keep fun i x hi hx=>⟨⟨hi.elim .inl (fun h=>.inr (by rw [lz] at h;exact h)),zZ hx⟩,hx⟩).2 _ _ hqr
         have AX:=GRC.out y1 (fun i=>((i<zn.heap.size/\(F i\/W0.heap.size<=i))\/zn.heap.size+1<=i)/\i<y1.heap.size) sq vq aq nq cq bq mq dq fX (fun i h=>h.2) (fun i h=>⟨.inl h,fK h.1 fX.size⟩) IU
         (refine on 8 ?_;intro o ho K' hK;simp at ho;subst ho;go_simp)
         go_at_call 42
         (with_reducible refine AX.mono ?_)
         rintro en y2 ⟨sr,vr,ar,nr,cr,br,mr,dr,rfl,hbk,mD⟩
         have nL:Below zn.heap.size zn y2:=zzT fX hbk
         have bz:y2.heap[zn.heap.size]? = some (.cells #[str [],.int .i64 0,.slice none 0 0,.slice none 0 0] 48 (0,0)):=(hbk.block _ (by omega)).trans Gw
         (refine hK.out _ _ (fun _=>nL) ?_;clear hK K';try simp only [pQ,pN,pZ,pS])
         have sS:(y2).cell? ⟨zn.heap.size,0,none⟩=some (str []):=by simp only [World.cell?,bz];rfl
         have sR:(y2).frozen? ⟨zn.heap.size,0,none⟩=false:=by simp only [World.frozen?,bz];rfl
         have Bg:(y2).cell? ⟨zn.heap.size,1,none⟩=some (.int .i64 0):=by simp only [World.cell?,bz];rfl
         have oz:(y2).frozen? ⟨zn.heap.size,1,none⟩=false:=by simp only [World.frozen?,bz];rfl
         have Bf:(y2).cell? ⟨zn.heap.size,2,none⟩=some (.slice none 0 0):=by simp only [World.cell?,bz];rfl
         have Bc:(y2).frozen? ⟨zn.heap.size,2,none⟩=false:=by simp only [World.frozen?,bz];rfl
         have Be:(y2).cell? ⟨zn.heap.size,3,none⟩=some (.slice none 0 0):=by simp only [World.cell?,bz];rfl
         have Bb:(y2).frozen? ⟨zn.heap.size,3,none⟩=false:=by simp only [World.frozen?,bz];rfl
         (refine on 10 ?_;intro o ho K' hK;simp at ho;subst ho;go_simp)
         (refine hK.out _ _ (fun _=>((((nL.setCell (p:=⟨zn.heap.size,0,none⟩) (ei _) _).setCell (p:=⟨zn.heap.size,1,none⟩) (ei _) _).setCell (p:=⟨zn.heap.size,2,none⟩) (ei _) _).setCell (p:=⟨zn.heap.size,3,none⟩) (ei _) _)) ?_;clear hK K';try simp only [pQ,pN,pZ,pS])
         refine zU (by kernel_rfl) (NoPanic.normal ?_) _
         exact ⟨rfl,⟨zn.heap.size,sq,vq,aq,nq,cq,bq,mq,dq,sr,vr,ar,nr,cr,br,mr,dr⟩,by rfl,((((nL.setCell (p:=⟨zn.heap.size,0,none⟩) (ei _) _).setCell (p:=⟨zn.heap.size,1,none⟩) (ei _) _).setCell (p:=⟨zn.heap.size,2,none⟩) (ei _) _).setCell (p:=⟨zn.heap.size,3,none⟩) (ei _) _),ei _,(by rw [zT (zT (zT (zT bz)))];rfl),(Rep.keep fun i x hi hx=>by
          have hne:i≠zn.heap.size:=by rcases hi with h | h;rcases h.1 with h1 | h1;have:=h1.1;omega;omega;omega
          exact ⟨⟨by rcases hi with h | h;rcases h.1 with h1 | h1;exact .inl h1;exact .inr (by omega);exact .inr (by omega),hne⟩,by rw [(but4 _ _ _ _ _ _).block i (zZ hx) hne];exact hx⟩).2 _ _ mD⟩
       rintro ⟨gq,sq,vq,aq,nq,cq,bq,mq,dq,sr,vr,ar,nr,cr,br,mr,dr⟩ Y hR
       have R:Hid (z8 (fun i=>i<zn.heap.size/\(F i\/W0.heap.size<=i)) zn gq (.cells #[str sr,.int .i64 vr,.slice ar nr cr,.slice br mr dr] 48 (0,0)) (kE (qK (kV p ns.length k0.args.length) q r)) [str sr,.int .i64 vr,.slice ar nr cr,.slice br mr dr] Y):=hR
       have gB:Y.heap[gq]? = some (.cells #[str sr,.int .i64 vr,.slice ar nr cr,.slice br mr dr] 48 (0,0)):=R.out.blk
       have ii:Hid (Below W0.heap.size W0 Y):=zzT n9.out.1 R.out.below
       have GC:Hid (zX (fun i=>F i\/W0.heap.size<=i) Y (kE (qK (kV p ns.length k0.args.length) q r)) [str sr,.int .i64 vr,.slice ar nr cr,.slice br mr dr]):=R.out.rep.weakS fun i h=>by
        rcases h.1 with h1 | h1
        ·exact h1.2
        ·exact .inr (fQ n9.out.1.size h1)
       have NRY:Hid (z9 (w.heap.size+1+1) 0 (.slice none 0 0) (.slice none 0 0) Y):=z9.below (B:=W0.heap.size) H0.out.2.2.2 ii.out (zZ H0.out.2.2.2)
       have gne:gq≠w.heap.size+1+1:=by have:=R.out.new;have:=n9.out.1.size;have:=H0.out.2.1;omega
       clear hR SHC GRC SY
       simp only [Act.put,List.setIfInBounds_toArray,List.set_cons_zero,List.set_cons_succ]
       go_wp2_with fail
       have CS:=ed (fun wz (h:Below Y.heap.size Y wz)=>gR 1000000 (qK (kV p ns.length k0.args.length) q r) hsz (by unfold Lim;omega) _ wz _ _ _ _ _ _ _ _ (zX.below (F':=fun i=>F i\/W0.heap.size<=i) h (fun _ h=>h) (GC.out)))
       have GA:=ed (show zW (qK (kV p ns.length k0.args.length) q r)<=1000000 from hsz)
       obtain ⟨SZ,Gk⟩:=zzM (zW (qK (kV p ns.length k0.args.length) q r))
       rw [<- Gk] at CS GA
       have KH:=ed Gk
       clear Gk
       by_cases rP:SZ<=200
       ·have h1:decide (((SZ:Nat):Int)<=200)=true:=decide_eq_true (by omega)
        have mN:=ed (show zN ns (.ite l m n)=some (qK (kV p ns.length k0.args.length) q r) by rw [HE.out,gw (by rw [<- KH.out];exact rP)])
        clear rP
        refine wp_region_noPanic ?_
        refine zB (fun w'=>w'.heap[gq]? = some (.cells #[str sr,.int .i64 vr,.slice ar nr cr,.slice br mr dr] 48 (0,0))) (fun _=>false) (by kernel_rfl) ?_
        have fV:(fun w'=>w'.heap[gq]? = some (.cells #[str sr,.int .i64 vr,.slice ar nr cr,.slice br mr dr] 48 (0,0))) Y.drew:=gB
        refine tk [0,1] fV ?_
        (intro d hd;simp [tkD] at hd;subst hd;simp only [tks,pQ,pZ,pS])
        iterate 2 (refine ⟨?_,?_,?_⟩;rotate_left;· (intro oi ho;simp at ho;subst ho;refine Or.inl ⟨by rfl,fun w' fB=>?_⟩;obtain ⟨e0,e1,e2,e3⟩:=kP fB;go_simp;try with_reducible rfl))
        (refine on 2 ?_;intro o ho K' hK;simp at ho;subst ho;go_simp)
        go_at_call 36
        (with_reducible refine (CS.out _ (Below.drew (e_ Y.heap.size Y))).mono ?_)
        rintro en x1 ⟨rfl,hb⟩
        have rM:Hid (Below Y.heap.size Y x1):=(Below.drew (e_ Y.heap.size Y)).trans hb
        clear hb
        (refine hK.out _ _ (fun _=>(rM.out.block _ (zZ gB)).trans gB) ?_;clear hK K';try simp only [pQ,pN,pZ,pS])
        have rQ:=(rM.out.block _ (zZ gB)).trans gB
        have Ap:Hid (z9 (w.heap.size+1+1) 0 (.slice none 0 0) (.slice none 0 0) x1):=z9.below NRY.out rM.out (zZ NRY.out)
        obtain ⟨tN,aC,iC,Ar,_,rff⟩:=Ap.out.cells
        have mg:=rff 0;have nD:=rff 1;have rG:=rff 2;have sh:=rff 3
        clear rff
        refine tk [3] rQ ?_
        (intro d hd;simp [tkD] at hd;subst hd;simp only [tks,pQ,pZ,pS])
        (refine ⟨?_,?_,?_⟩;rotate_left;· (intro oi ho;simp at ho;subst ho;refine Or.inl ⟨by rfl,fun w' fB=>?_⟩;go_simp;try with_reducible rfl))
        (refine on 4 ?_;intro o ho K' hK;simp at ho;subst ho;go_simp)
        (refine hK.out _ _ (fun _=>uF rQ gne _ _ _ _) ?_;clear hK K';try simp only [pQ,pN,pZ,pS])
        (refine on 5 ?_;intro o ho K' hK;simp at ho;subst ho;go_simp)
        (refine hK.out _ _ (fun _=>uF rQ gne _ _ _ _) ?_;clear hK K';try simp only [pQ,pN,pZ,pS])
        refine zU (by kernel_rfl) (NoPanic.normal ?_) _
        go_wp2_with fail
        obtain ⟨W,hW,f_,fe,f7,mQ,fD,fO⟩:=z9.store (Ap.out) (str sr) (.int .i64 vr) (.slice ar nr cr) (.slice br mr dr)
        rw [<- hW]
        refine bodyPost_ret (v:=.tuple #[.agg #[str sr,.int .i64 vr,.slice ar nr cr,.slice br mr dr],.bool true]) (by simp [results,Tryz.results17,go_sem,f_,fe,f7,mQ]) rfl ?_
        rw [mN.out]
        exact uz (o:=some (qK (kV p ns.length k0.args.length) q r)) HP.out.1.old H0.out.1 H0.out.2.1 (ii.out.trans (rM.out.mono (ii.out).size)) (fun x hx=>by obtain rfl:=Option.some.inj hx;exact zX.below (F':=fun i=>F i\/W0.heap.size<=i) rM.out (fun _ h=>h) (GC.out)) fD fO
       ·have h1:decide (((SZ:Nat):Int)<=200)=false:=decide_eq_false (by omega)
        have mN:=ed (show zN ns (.ite l m n)=none by rw [HE.out];unfold uL;rw [if_neg (by rw [<- KH.out];exact rP)])
        clear rP
        refine wp_region_noPanic ?_
        refine zB (fun w'=>w'.heap[gq]? = some (.cells #[str sr,.int .i64 vr,.slice ar nr cr,.slice br mr dr] 48 (0,0))) (fun _=>false) (by kernel_rfl) ?_
        have fV:(fun w'=>w'.heap[gq]? = some (.cells #[str sr,.int .i64 vr,.slice ar nr cr,.slice br mr dr] 48 (0,0))) Y.drew:=gB
        refine tk [0,1] fV ?_
        (intro d hd;simp [tkD] at hd;subst hd;simp only [tks,pQ,pZ,pS])
        iterate 2 (refine ⟨?_,?_,?_⟩;rotate_left;· (intro oi ho;simp at ho;subst ho;refine Or.inl ⟨by rfl,fun w' fB=>?_⟩;obtain ⟨e0,e1,e2,e3⟩:=kP fB;go_simp;try with_reducible rfl))
        (refine on 2 ?_;intro o ho K' hK;simp at ho;subst ho;go_simp)
        go_at_call 36
        (with_reducible refine (CS.out _ (Below.drew (e_ Y.heap.size Y))).mono ?_)
        rintro en x1 ⟨rfl,hb⟩
        have rM:Hid (Below Y.heap.size Y x1):=(Below.drew (e_ Y.heap.size Y)).trans hb
        clear hb
        (refine hK.out _ _ (fun _=>(rM.out.block _ (zZ gB)).trans gB) ?_;clear hK K';try simp only [pQ,pN,pZ,pS])
        have rQ:=(rM.out.block _ (zZ gB)).trans gB
        have Ap:Hid (z9 (w.heap.size+1+1) 0 (.slice none 0 0) (.slice none 0 0) x1):=z9.below NRY.out rM.out (zZ NRY.out)
        obtain ⟨tN,aC,iC,Ar,_,rff⟩:=Ap.out.cells
        have mg:=rff 0;have nD:=rff 1;have rG:=rff 2;have sh:=rff 3
        clear rff
        refine tk [3] rQ ?_
        (intro d hd;simp [tkD] at hd;subst hd;simp only [tks,pQ,pZ,pS])
        (refine ⟨?_,?_,?_⟩;rotate_left;· (intro oi ho;simp at ho;subst ho;refine Or.inl ⟨by rfl,fun w' fB=>?_⟩;go_simp;try with_reducible rfl))
        (refine on 4 ?_;intro o ho K' hK;simp at ho;subst ho;go_simp)
        (refine hK.out _ _ (fun _=>uF rQ gne _ _ _ _) ?_;clear hK K';try simp only [pQ,pN,pZ,pS])
        (refine on 5 ?_;intro o ho K' hK;simp at ho;subst ho;go_simp)
        (refine hK.out _ _ (fun _=>uF rQ gne _ _ _ _) ?_;clear hK K';try simp only [pQ,pN,pZ,pS])
        refine zU (by kernel_rfl) (NoPanic.normal ?_) _
        go_wp2_with fail
        obtain ⟨W,hW,f_,fe,f7,mQ,fD,fO⟩:=z9.store (Ap.out) (str sr) (.int .i64 vr) (.slice ar nr cr) (.slice br mr dr)
        rw [<- hW]
        refine bodyPost_ret (v:=.tuple #[.agg #[str sr,.int .i64 vr,.slice ar nr cr,.slice br mr dr],.bool false]) (by simp [results,Tryz.results17,go_sem,f_,fe,f7,mQ]) rfl ?_
        rw [mN.out]
        exact uz (o:=none) HP.out.1.old H0.out.1 H0.out.2.1 (ii.out.trans (rM.out.mono (ii.out).size)) (fun x hx=>by simp at hx) fD fO
theorem l5Of_any (M:Nat):OfSaid M:=by
 induction M with
 | zero=>exact fun F t ns k nv tv s pv w h=>by cases t <;> simp only [zM] at h <;> omega
 | succ M ih =>
   intro F t ns k nv tv s pv w h hp si
   cases t with
   | nm x=>exact of_nm F x ns k nv tv s pv w hp si
   | wd u=>exact of_wd F u ns k nv tv s pv w hp si
   | lam x k1 t=>exact of_lam M ih F x k1 t ns nv tv s pv w k h hp si
   | app m n=>exact of_app M ih F m n ns nv tv s pv w k h hp si
   | ite l m n=>exact of_ite M ih F l m n ns nv tv s pv w k h hp si
def cN (s:Bs):Option (Tm×Ty):=(qE s).bind fun t=>(typeOf [] t).map fun k=>(t,k)
def ClPost (w:World) (o:Option (Tm×Ty)) (en:Ending) (w':World):Prop :=
 ∃ (s1:Bs) (a:Option Addr) (n c:Nat) (ka:Option Addr) (kn kc:Nat),en=.returned (.tuple #[.agg #[str s1,.slice a n c],.agg #[.slice ka kn kc],.bool o.isSome])/\Below w.heap.size w w' /\
   ∀ t k,o=some (t,k)->(uP t/\kQ t=true/\zM t<=60/\typeOf [] t=some k/\kn=k.args.length)/\zX (w.heap.size<=·) w' (jj (z_ t)) [str s1,.slice a n c]/\Rep (w.heap.size<=·) w' (kz k) (.slice ka kn kc)
theorem clOf_none {s:Bs} (h:qT s=none):cN s=none:=by
 rw [term_eq] at h
 unfold cN
 cases hq:qE s with
 | none=>rfl
 | some t =>
   rw [hq] at h
   simp only [Option.bind_some] at h ⊢
   cases hk:typeOf [] t with
   | none=>rfl
   | some k=>rw [yU t [] k hk] at h;simp at h
theorem clOf_some {s:Bs} {tr:Tr} (h:qT s=some tr):∃ t,tr=z_ t/\uP t/\zM t<=60/\kQ t=true/\cN s=if (zh [] t).2=true then some (t,(zh [] t).1) else none:=by
 obtain ⟨t,e,rfl,ho,h6,hs⟩:=pi h
 refine ⟨t,e,ho,h6,hs,?_⟩
 unfold cN
 rw [gZ ho h6,Option.bind_some,uq t [] hs]
 split <;> rfl
theorem dT {w:World} {g1 g2:Nat} {x0 x1 x2:Value} {TA TB:TypeId} (h1:w.heap[g1]? = some (.cells #[x0,x1] TA (0,0))) (h2:w.heap[g2]? = some (.cells #[x2] TB (0,0))) (hne:g1≠g2) (u0 u1 u2:Value) :
 ∃ W,W=(((w.setCell ⟨g1,0,none⟩ u0).setCell ⟨g1,1,none⟩ u1).setCell ⟨g2,0,none⟩ u2)/\W.cell? ⟨g1,0,none⟩=some u0/\W.cell? ⟨g1,1,none⟩=some u1/\W.cell? ⟨g2,0,none⟩=some u2 /\
   (∀ B w0,Below B w0 w->B<=g1->B<=g2->Below B w0 W)/\(∀ i x,i≠g1->i≠g2->w.heap[i]? = some x->W.heap[i]? = some x):=by
 have rD:((w.setCell ⟨g1,0,none⟩ u0).setCell ⟨g1,1,none⟩ u1).heap[g2]? = some (.cells #[x2] TB (0,0)):=by
  rw [fZ _ _ _ _ (by simpa using Ne.symm hne),fZ _ _ _ _ (by simpa using Ne.symm hne)];exact h2
 have DW:(((w.setCell ⟨g1,0,none⟩ u0).setCell ⟨g1,1,none⟩ u1).setCell ⟨g2,0,none⟩ u2).heap[g2]? = some (.cells #[u2] TB (0,0)):=by rw [zT rD];rfl
 have rZ:(((w.setCell ⟨g1,0,none⟩ u0).setCell ⟨g1,1,none⟩ u1).setCell ⟨g2,0,none⟩ u2).heap[g1]? = some (.cells #[u0,u1] TA (0,0)):=by
  rw [fZ _ _ _ _ (by simpa using hne),zT (zT h1)];rfl
 refine ⟨_,rfl,by simp only [World.cell?,rZ];rfl,by simp only [World.cell?,rZ];rfl,by simp only [World.cell?,DW];rfl,fun B w0 hb hB Hi=>?_,fun i x hi G4 hx=>?_⟩
 ·exact ((hb.setCell (p:=⟨g1,0,none⟩) hB _).setCell (p:=⟨g1,1,none⟩) hB _).setCell (p:=⟨g2,0,none⟩) Hi _
 ·rw [fZ _ _ _ _ (by simpa using G4),fZ _ _ _ _ (by simpa using hi),fZ _ _ _ _ (by simpa using hi)];exact hx
theorem yg {w:World} {g c:Nat} {x:Obj} (h:w.heap[g]? = some x) (hg:g≠c) (u0 u1:Value):((w.setCell ⟨c,0,none⟩ u0).setCell ⟨c,1,none⟩ u1).heap[g]? = some x:=by
 rw [fZ _ _ _ _ (by simpa using hg),fZ _ _ _ _ (by simpa using hg)];exact h
theorem pO {w:World} {g c:Nat} {x:Obj} (h:w.heap[g]? = some x) (hg:g≠c) (u0:Value):(w.setCell ⟨c,0,none⟩ u0).heap[g]? = some x:=by
 rw [fZ _ _ _ _ (by simpa using hg)];exact h
theorem boxes2 (w:World) (A B:Obj):Below w.heap.size w ((w.alloc A).alloc B)/\((w.alloc A).alloc B).heap.size=w.heap.size+1+1/\((w.alloc A).alloc B).heap[w.heap.size]? = some A/\((w.alloc A).alloc B).heap[w.heap.size+1]? = some B:=by
 refine ⟨((e_ _ _).alloc (ei _) _).alloc (by rw [zK];omega) _,by rw [zK,zK],zY (zG _ _),?_⟩
 have h:=zG (w.alloc A) B
 rwa [zK] at h
set_option maxRecDepth 100000 in
theorem bZ (s:Bs) (w:World) (hs:Lim s.length):Calls Tryz.prog 16 #[str s] w (ClPost w (cN s)):=by
 obtain ⟨W0,ff⟩:=zzM ((w.alloc (.cells #[str [],.slice none 0 0] 40)).alloc (.cells #[.slice none 0 0] 43))
 obtain ⟨fq,z0,bA,bB⟩:=boxes2 w (.cells #[str [],.slice none 0 0] 40) (.cells #[.slice none 0 0] 43)
 rw [<- ff] at fq z0 bA bB
 have C0:=ed (l5Term_any s hs W0)
 have H0:=ed (ef fq (ef z0 (ef bA bB)))
 clear hs fq z0 bA bB
 go_enter Tryz.func16,Tryz.ntmps16
 go_wp2_with fail
 rw [<- ff]
 clear ff
 (with_reducible refine C0.out.mono ?_)
 rintro en w1 ⟨s5,a5,n5,c5,rfl,fP,mu⟩
 obtain ⟨W1,Hd⟩:=zzM (w1.alloc (.cells #[str s5,.slice a5 n5 c5] 40))
 obtain ⟨g1,EK⟩:=zzM (w1.heap.size)
 have z1:=fP.size
 have rj:Below W0.heap.size W0 W1:=by rw [Hd];exact fP.alloc fP.size _
 have zW1:W1.heap.size=g1+1:=by rw [Hd,zK,EK]
 have b1:W1.heap[g1]? = some (.cells #[str s5,.slice a5 n5 c5] 40 (0,0)):=by rw [Hd,EK];exact zG _ _
 have q1:w.heap.size+1<g1:=by have:=H0.out.2.1;omega
 have bA1:W1.heap[w.heap.size]? = some (.cells #[str [],.slice none 0 0] 40 (0,0)):=(rj.block _ (zZ H0.out.2.2.1)).trans H0.out.2.2.1
 have bB1:W1.heap[w.heap.size+1]? = some (.cells #[.slice none 0 0] 43 (0,0)):=(rj.block _ (zZ H0.out.2.2.2)).trans H0.out.2.2.2
 have DH:∀ t,qT s=some t->zX (fun i=>W0.heap.size<=i/\i≠g1) W1 (jj t) [str s5,.slice a5 n5 c5]:=fun t ht=>by
  refine (Rep.keep fun i x hi hx=>⟨⟨hi,fun e'=>?_⟩,?_⟩).2 _ _ (mu t ht).2
  ·rw [Hd];exact zY hx
  ·have:=zZ hx;omega
 have Kz:w1.heap[w.heap.size]? = some (.cells #[str [],.slice none 0 0] 40 (0,0)):=(fP.block _ (zZ H0.out.2.2.1)).trans H0.out.2.2.1
 have bB0:w1.heap[w.heap.size+1]? = some (.cells #[.slice none 0 0] 43 (0,0)):=(fP.block _ (zZ H0.out.2.2.2)).trans H0.out.2.2.2
 have rA0:w1.cell? ⟨w.heap.size,0,none⟩=some (str []):=by simp [World.cell?,Kz]
 have rA1:w1.cell? ⟨w.heap.size,1,none⟩=some (.slice none 0 0):=by simp [World.cell?,Kz]
 have rB0:w1.cell? ⟨w.heap.size+1,0,none⟩=some (.slice none 0 0):=by simp [World.cell?,bB0]
 have fA0:w1.frozen? ⟨w.heap.size,0,none⟩=false:=by simp [World.frozen?,Kz]
 have fA1:w1.frozen? ⟨w.heap.size,1,none⟩=false:=by simp [World.frozen?,Kz]
 have fB0:w1.frozen? ⟨w.heap.size+1,0,none⟩=false:=by simp [World.frozen?,bB0]
 have ER:(w1.alloc (.cells #[str s5,.slice a5 n5 c5] 40)).frozen? ⟨w.heap.size,0,none⟩=false:=(frozen?_alloc_cells _ _ _ _).trans fA0
 have Kk:(w1.alloc (.cells #[str s5,.slice a5 n5 c5] 40)).frozen? ⟨w.heap.size,1,none⟩=false:=(frozen?_alloc_cells _ _ _ _).trans fA1
 have Hj:(w1.alloc (.cells #[str s5,.slice a5 n5 c5] 40)).frozen? ⟨w.heap.size+1,0,none⟩=false:=(frozen?_alloc_cells _ _ _ _).trans fB0
 have iA0:(w1.alloc (.cells #[str s5,.slice a5 n5 c5] 40)).cell? ⟨w.heap.size,0,none⟩=some (str []):=zJ rA0
 have iA1:(w1.alloc (.cells #[str s5,.slice a5 n5 c5] 40)).cell? ⟨w.heap.size,1,none⟩=some (.slice none 0 0):=zJ rA1
 have iB0:(w1.alloc (.cells #[str s5,.slice a5 n5 c5] 40)).cell? ⟨w.heap.size+1,0,none⟩=some (.slice none 0 0):=zJ rB0
 have rR:=ed (ef rj (ef zW1 (ef b1 (ef q1 (ef bA1 (ef bB1 DH))))))
 have HG1:=ed EK;have HQ1:=ed Hd
 clear fP mu z1 rj zW1 b1 q1 bA1 bB1 Kz bB0 DH C0 EK Hd
 cases ht:qT s with
 | none =>
   have HC:=ed (clOf_none ht)
   clear ht
   simp only [Option.isSome_none]
   go_wp2_with fail
   rw [<- HQ1.out,<- HG1.out]
   obtain ⟨W,hW,s0,s1,s2,fD,fO⟩:=dT rR.out.2.2.2.2.1 rR.out.2.2.2.2.2.1 (by omega) (str s5) (.slice a5 n5 c5) (.slice none 0 0)
   rw [<- hW]
   refine bodyPost_ret (v:=.tuple #[.agg #[str s5,.slice a5 n5 c5],.agg #[.slice none 0 0],.bool false]) (by simp [results,Tryz.results16,go_sem,s0,s1,s2]) rfl ?_
   rw [HC.out]
   exact ⟨_,_,_,_,_,_,_,rfl,fD _ _ (zzT H0.out.1 rR.out.1) (ei _) (Nat.le_succ _),fun t k h=>by simp at h⟩
 | some tr =>
   obtain ⟨t,rfl,fw,lu,mO,DT⟩:=clOf_some ht
   have fa:=rR.out.2.2.2.2.2.2 _ ht
   have CK:=ed (gM 100 (fun i=>W0.heap.size<=i/\i<W1.heap.size/\i≠g1) t [] (.slice none 0 0) (.slice none 0 0) _ _ W1 (by omega) ⟨fun i h=>h.2.1,(Rep.keep fun i x hi hx=>⟨⟨hi.1,zZ hx,hi.2⟩,hx⟩).2 _ _ fa,zp.2 ⟨rfl,none,0,rfl,ei _,fun _=>rfl,.inl rfl⟩,zp.2 ⟨by simp [kinds,qH],none,0,rfl,ei _,fun _=>rfl,.inl rfl⟩,fw,mO,(fun p h=>by simp at h),(fun a h=>by simp [kinds] at h),by simp;omega⟩)
   have HC:=ed (ef fw (ef mO (ef lu (ef DT (ef fa (@u4 t [] mO))))))
   obtain ⟨k,q,hkq⟩:∃ k q,zh [] t=(k,q):=⟨_,_,rfl⟩
   rw [hkq] at CK HC
   clear ht fw lu mO DT fa hkq
   simp only [Option.isSome_some]
   go_wp2_with fail
   rw [<- HQ1.out,<- HG1.out]
   clear HQ1 HG1
   (with_reducible refine CK.out.mono ?_)
   rintro en w2 ⟨ka,kc,rfl,fY,mt⟩
   obtain ⟨W2,fb⟩:=zzM (w2.alloc (.cells #[.slice ka k.args.length kc] 43))
   obtain ⟨g2,G6⟩:=zzM (w2.heap.size)
   have z2:=fY.size
   have zz1:=rR.out.2.1
   have qq1:=rR.out.2.2.2.1
   have iZ:Below W1.heap.size W1 W2:=by rw [fb];exact fY.alloc fY.size _
   have a_:Below w.heap.size w W2:=(zzT H0.out.1 rR.out.1).trans (iZ.mono (zzT H0.out.1 rR.out.1).size)
   have b2:W2.heap[g2]? = some (.cells #[.slice ka k.args.length kc] 43 (0,0)):=by rw [fb,G6];exact zG _ _
   have b1':W2.heap[g1]? = some (.cells #[str s5,.slice a5 n5 c5] 40 (0,0)):=(iZ.block _ (zZ rR.out.2.2.1)).trans rR.out.2.2.1
   have Hn:W2.heap[w.heap.size]? = some (.cells #[str [],.slice none 0 0] 40 (0,0)):=(iZ.block _ (zZ rR.out.2.2.2.2.1)).trans rR.out.2.2.2.2.1
   have bB2:W2.heap[w.heap.size+1]? = some (.cells #[.slice none 0 0] 43 (0,0)):=(iZ.block _ (zZ rR.out.2.2.2.2.2.1)).trans rR.out.2.2.2.2.2.1
   have z0':=H0.out.2.1
   have IG:zX (fun i=>w.heap.size+1<i) W2 (jj (z_ t)) [str s5,.slice a5 n5 c5]:=(zX.below (F':=fun i=>W0.heap.size<=i/\i≠g1) iZ (fun _ h=>h) HC.out.2.2.2.2.1).weakS fun i h=>by have:=h.1;omega
   have Ay:Rep (fun i=>w.heap.size+1<i) W2 (kz k) (.slice ka k.args.length kc):=(Rep.keep fun i x hi hx=>⟨(by rcases hi with h | h;have:=h.1;omega;omega),by rw [fb];exact zY hx⟩).1 _ _ mt
   have sy:=ed (ef a_ (ef b2 (ef b1' (ef Hn (ef bB2 (ef IG Ay))))))
   have qA0:W2.cell? ⟨w.heap.size,0,none⟩=some (str []):=by simp [World.cell?,Hn]
   have qA1:W2.cell? ⟨w.heap.size,1,none⟩=some (.slice none 0 0):=by simp [World.cell?,Hn]
   have qB0:W2.cell? ⟨w.heap.size+1,0,none⟩=some (.slice none 0 0):=by simp [World.cell?,bB2]
   have eA0:W2.frozen? ⟨w.heap.size,0,none⟩=false:=by simp [World.frozen?,Hn]
   have eA1:W2.frozen? ⟨w.heap.size,1,none⟩=false:=by simp [World.frozen?,Hn]
   have eB0:W2.frozen? ⟨w.heap.size+1,0,none⟩=false:=by simp [World.frozen?,bB2]
   have C_:g1≠w.heap.size:=by omega
   have sT:g1≠w.heap.size+1:=by omega
   have sE:g2≠w.heap.size:=by omega
   have ne5:g2≠w.heap.size+1:=by omega
   clear fY mt z2 iZ a_ b2 b1' Hn bB2 IG Ay CK rA0 rA1 rB0 fA0 fA1 fB0 ER Kk Hj iA0 iA1 iB0 qq1 zz1 z0'
   go_wp2_with fail
   rw [<- fb,<- G6]
   clear fb G6
   refine wp_region_noPanic ?_
   refine zB (fun w'=>w'.heap[g1]? = some (.cells #[str s5,.slice a5 n5 c5] 40 (0,0))/\w'.heap[g2]? = some (.cells #[.slice ka k.args.length kc] 43 (0,0))) (fun _=>false) (by kernel_rfl) ?_
   have fV:(fun w'=>w'.heap[g1]? = some (.cells #[str s5,.slice a5 n5 c5] 40 (0,0))/\w'.heap[g2]? = some (.cells #[.slice ka k.args.length kc] 43 (0,0))) W2.drew:=⟨sy.out.2.2.1,sy.out.2.1⟩
   refine tk [0] fV ?_
   (intro d hd;simp [tkD] at hd;subst hd;simp only [tks,pQ,pZ,pS])
   (refine ⟨?_,?_,?_⟩;rotate_left;· (intro oi ho;simp at ho;subst ho;refine Or.inl ⟨by rfl,fun w' fB=>?_⟩;have e0:w'.cell? ⟨g1,0,none⟩=some (str s5):=(by simp [World.cell?,fB.1]);have e1:w'.cell? ⟨g1,1,none⟩=some (.slice a5 n5 c5):=(by simp [World.cell?,fB.1]);go_simp;try with_reducible rfl))
   refine tk [1,2] fV ?_
   (intro d hd;simp [tkD] at hd;subst hd;simp only [tks,pQ,pZ,pS])
   iterate 2 (refine ⟨?_,?_,?_⟩;rotate_left;· (intro oi ho;simp at ho;subst ho;refine Or.inl ⟨by rfl,fun w' fB=>?_⟩;have e0:w'.cell? ⟨g2,0,none⟩=some (.slice ka k.args.length kc):=(by simp [World.cell?,fB.2]);go_simp;try with_reducible rfl))
   (refine on 3 ?_;intro o ho K' hK;simp at ho;subst ho;go_simp)
   (refine hK.out _ _ (fun _=>⟨yg fV.1 C_ _ _,yg fV.2 sE _ _⟩) ?_;clear hK K';try simp only [pQ,pN,pZ,pS])
   (refine on 4 ?_;intro o ho K' hK;simp at ho;subst ho;go_simp)
   (refine hK.out _ _ (fun _=>⟨pO (yg fV.1 C_ _ _) sT _,pO (yg fV.2 sE _ _) ne5 _⟩) ?_;clear hK K';try simp only [pQ,pN,pZ,pS])
   (refine on 5 ?_;intro o ho K' hK;simp at ho;subst ho;go_simp)
   (refine hK.out _ _ (fun _=>⟨pO (yg fV.1 C_ _ _) sT _,pO (yg fV.2 sE _ _) ne5 _⟩) ?_;clear hK K';try simp only [pQ,pN,pZ,pS])
   refine zU (by kernel_rfl) (NoPanic.normal ?_) _
   go_wp2_with fail
   obtain ⟨W,hW,s0,s1,s2,fD,fO⟩:=@dT W2 _ _ _ _ _ _ _ sy.out.2.2.2.1 sy.out.2.2.2.2.1 (by omega) (str s5) (.slice a5 n5 c5) (.slice ka k.args.length kc)
   rw [<- hW]
   refine bodyPost_ret (v:=.tuple #[.agg #[str s5,.slice a5 n5 c5],.agg #[.slice ka k.args.length kc],.bool q]) (by simp [results,Tryz.results16,go_sem,s0,s1,s2]) rfl ?_
   have hq:q=(cN s).isSome:=by rw [HC.out.2.2.2.1];cases q <;> rfl
   rw [hq]
   refine ⟨_,_,_,_,_,_,_,rfl,Below.drew (fD _ _ sy.out.1 (ei _) (Nat.le_add_right _ _)),fun t' k' h=>?_⟩
   have h':=HC.out.2.2.2.1
   rw [h] at h'
   cases FL:q with
   | false=>rw [FL] at h';simp at h'
   | true =>
     rw [FL] at h'
     simp only [if_true,Option.some.injEq,Prod.mk.injEq] at h'
     obtain ⟨rfl,rfl⟩:=h'
     have KP:∀ i x,w.heap.size+1<i->W2.heap[i]? = some x->w.heap.size<=i/\W.drew.heap[i]? = some x:=fun i x hi hx=>⟨by omega,fO i x (by omega) (by omega) hx⟩
     exact ⟨⟨HC.out.1,HC.out.2.1,HC.out.2.2.1,HC.out.2.2.2.2.2 FL,rfl⟩,(Rep.keep KP).2 _ _ sy.out.2.2.2.2.2.1,(Rep.keep KP).1 _ _ sy.out.2.2.2.2.2.2⟩
def vz (s:Bs):Option Bs:=(cN s).map fun x=>zF x.2
def vm (s:Bs):Option Bs:=(kq s).map fun x=>kJ x.2
theorem strat_cl (s:Bs):vm s=(cN s).bind fun x=>wrOf x.2 (zN [] x.1):=by
 unfold vm kq cN wrOf
 cases hq:qE s with
 | none=>rfl
 | some t =>
   obtain ⟨_,ho,_⟩:=vH hq
   simp only [Option.bind_some]
   cases hk:typeOf [] t with
   | none=>rfl
   | some k =>
     simp only [Option.bind_some,Option.map_some]
     cases hb:zN [] t with
     | none=>rfl
     | some b =>
       simp only [Option.bind_some,Option.map_some]
       rw [vM (ws ho hk hb)];rfl
set_option maxRecDepth 20000 in
theorem ui (s:Bs) (w:World) (hs:Lim s.length):Calls Tryz.prog 22 #[str s] w (TxtPost (vz s) w):=by
 have C0:=ed (bZ s w hs)
 clear hs
 go_enter Tryz.func22,Tryz.ntmps22
 go_wp2_with fail
 (with_reducible refine C0.out.mono ?_)
 rintro en w1 ⟨s5,a5,n5,c5,ka,kn,kc,rfl,fP,hy⟩
 obtain ⟨W,hW⟩:=zzM ((w1.alloc (.cells #[str s5,.slice a5 n5 c5] 40)).alloc (.cells #[.slice ka kn kc] 43))
 have rj:Below w1.heap.size w1 W:=by rw [hW];exact ((e_ _ _).alloc (ei _) _).alloc (by rw [zK];omega) _
 have fD:=zzT fP rj
 cases hc:cN s with
 | none =>
   have HK:=ed (show vz s=none by unfold vz;rw [hc];rfl)
   have HB:=ed fD
   have HW:=ed hW
   clear hc hy fP rj fD hW C0
   simp only [Option.isSome_none]
   go_wp2_with fail
   rw [<- HW.out]
   go_ret2
   exact ⟨by rw [HK.out];rfl,HB.out⟩
 | some x =>
   obtain ⟨t,k⟩:=x
   obtain ⟨⟨ho,mO,lu,hk,rfl⟩,fa,mD⟩:=hy t k hc
   have fM:=kg t [] k (by simp [kinds]) hk
   have HK:=ed (show vz s=some (zF k) by unfold vz;rw [hc];rfl)
   have CT:=ed (vI 15 k fM (by omega) _ W _ (Rep.below (F':=(w.heap.size<=·)) rj (fun _ h=>h) mD))
   have HB:=ed fD
   have HW:=ed hW
   clear hc hy fP rj fD hW C0 ho mO lu hk fa mD fM
   simp only [Option.isSome_some]
   go_wp2_with fail
   rw [<- HW.out]
   (with_reducible refine CT.out.mono ?_)
   rintro en w2 ⟨rfl,fY⟩
   have fL:=ed (zzT HB.out fY)
   clear fY
   go_wp2_with fail
   go_ret2
   exact ⟨by rw [HK.out];rfl,fL.out⟩
set_option maxRecDepth 20000 in
theorem yW (s:Bs) (w:World) (hs:Lim s.length):Calls Tryz.prog 7 #[str s] w (TxtPost (vm s) w):=by
 have C0:=ed (bZ s w hs)
 clear hs
 go_enter Tryz.func7,Tryz.ntmps7
 go_wp2_with fail
 (with_reducible refine C0.out.mono ?_)
 rintro en w1 ⟨s5,a5,n5,c5,ka,kn,kc,rfl,fP,hy⟩
 obtain ⟨W,hW⟩:=zzM ((w1.alloc (.cells #[str s5,.slice a5 n5 c5] 40)).alloc (.cells #[.slice ka kn kc] 43))
 have rj:Below w1.heap.size w1 W:=by rw [hW];exact ((e_ _ _).alloc (ei _) _).alloc (by rw [zK];omega) _
 have fD:=zzT fP rj
 have HSC:=ed (strat_cl s)
 cases hc:cN s with
 | none =>
   have HK:=ed (show vm s=none by rw [HSC.out,hc];rfl)
   have HB:=ed fD
   have HW:=ed hW
   clear hc hy fP rj fD hW C0 HSC
   simp only [Option.isSome_none]
   go_wp2_with fail
   rw [<- HW.out]
   go_ret2
   exact ⟨by rw [HK.out];rfl,HB.out⟩
 | some x =>
   obtain ⟨t,k⟩:=x
   obtain ⟨⟨ho,mO,lu,hk,rfl⟩,fa,mD⟩:=hy t k hc
   have fM:=kg t [] k (by simp [kinds]) hk
   have HK:=ed (show vm s=wrOf k (zN [] t) by rw [HSC.out,hc];rfl)
   have IF:=zX.below (F':=(w.heap.size<=·)) rj (fun _ h=>h) fa
   have IN:=Rep.below (F':=(w.heap.size<=·)) rj (fun _ h=>h) mD
   have CO:=ed (l5Of_any 60 (fun i=>w.heap.size<=i/\i<W.heap.size) t [] k (.slice none 0 0) (.slice none 0 0) _ _ W lu ⟨fun i h=>h.2,(Rep.keep fun i x hi hx=>⟨⟨hi,zZ hx⟩,hx⟩).2 _ _ IF,zp.2 ⟨rfl,none,0,rfl,ei _,fun _=>rfl,.inl rfl⟩,zp.2 ⟨by simp [kinds,qH],none,0,rfl,ei _,fun _=>rfl,.inl rfl⟩,ho,mO,(fun p h=>by simp at h),(fun a h=>by simp [kinds] at h),by simp;omega⟩ hk)
   have HG:=ed (ef fM (ef IN fun b (hb:zN [] t=some b)=>ws ho hk hb))
   have bt:W.cell? ⟨w1.heap.size+1,0,none⟩=some (.slice ka k.args.length kc):=by rw [hW];simp
   have HB:=ed fD
   have HW:=ed hW
   obtain ⟨o,EG⟩:=zzN (zN [] t)
   rw [EG] at CO HG HK
   clear hc hy fP rj fD hW C0 ho mO lu hk fa mD fM IF IN EG HSC
   simp only [Option.isSome_some]
   go_wp2_with fail
   rw [<- HW.out]
   (with_reducible refine CO.out.mono ?_)
   rintro en w2 ⟨ss,vv,aa,an,ac,ba,bn,bc,rfl,fY,mt⟩
   have bt2:w2.cell? ⟨w1.heap.size+1,0,none⟩=some (.slice ka k.args.length kc):=(fY.cell (e9 _ _ bt)).trans bt
   have bt3:(w2.alloc (.cells #[str ss,.int .i64 vv,.slice aa an ac,.slice ba bn bc] 48)).cell? ⟨w1.heap.size+1,0,none⟩=some (.slice ka k.args.length kc):=zJ bt2
   obtain ⟨W2,fb⟩:=zzM (w2.alloc (.cells #[str ss,.int .i64 vv,.slice aa an ac,.slice ba bn bc] 48))
   have iZ:Below W.heap.size W W2:=by rw [fb];exact fY.alloc fY.size _
   have CW:=ed (l4Written_any (w.heap.size<=·) k o (.slice ka k.args.length kc) ss vv aa an ac ba bn bc W2 HG.out.1 (Rep.below iZ (fun _ h=>h) HG.out.2.1) (fun x hx=>⟨(Rep.keep fun i u hi hu=>⟨(by
    rcases hi with h | h
    ·exact h.1
    ·have:=HB.out.size;omega),by rw [fb];exact zY hu⟩).2 _ _ (mt x hx),(by have:=(HG.out.2.2 x hx).size;omega),fit_lvR 200 x k.args (HG.out.2.2 x hx).size (HG.out.2.2 x hx).fit (zo HG.out.1).1 (by have:=(zo HG.out.1).2;omega)⟩))
   have fL:=ed (zzT HB.out iZ)
   have sy:=ed fb
   clear fY mt bt CO iZ fb HG HB
   go_wp2_with fail
   rw [<- sy.out]
   (with_reducible refine CW.out.mono ?_)
   rintro en w3 ⟨rfl,fE⟩
   have mp:=ed (zzT fL.out fE)
   clear fE CW bt2 bt3
   rw [<- HK.out]
   go_wp2_with fail
   go_ret2
   exact ⟨rfl,mp.out⟩
def eS (a b:Bs):Bool:=(vm a).isSome && (vm b).isSome && ((vz a).getD [] == (vz b).getD []) && ((vm a).getD [] == (vm b).getD [])
set_option maxRecDepth 20000 in
theorem gx (a b:Bs) (w:World) (ha:Lim a.length) (hb:Lim b.length):Calls Tryz.prog 11 #[str a,str b] w fun en w'=>en=.returned (.bool (eS a b))/\Below w.heap.size w w':=by
 have C1:=ed (fun wz=>ui a wz ha)
 have C2:=ed (fun wz=>ui b wz hb)
 have C3:=ed (fun wz=>yW a wz ha)
 have C4:=ed (fun wz=>yW b wz hb)
 have HA:=ed (show eS a b=((vm a).isSome && (vm b).isSome && ((vz a).getD [] == (vz b).getD []) && ((vm a).getD [] == (vm b).getD [])) from rfl)
 obtain ⟨R,hR⟩:=zzN (eS a b)
 rw [hR] at HA ⊢
 clear hR ha hb
 generalize vz a=KA at *
 generalize vz b=KB at *
 generalize vm a=SA at *
 generalize vm b=SB at *
 go_enter Tryz.func11,Tryz.ntmps11
 go_wp2_with fail
 (with_reducible refine (C1.out w).mono ?_)
 rintro en w1 ⟨rfl,fP⟩
 have H1:=ed fP;clear fP C1
 go_wp2_with fail
 (with_reducible refine (C2.out w1).mono ?_)
 rintro en w2 ⟨rfl,fY⟩
 have H2:=ed (zzT H1.out fY);clear fY C2
 go_wp2_with fail
 (with_reducible refine (C3.out w2).mono ?_)
 rintro en w3 ⟨rfl,fE⟩
 have H3:=ed (zzT H2.out fE);clear fE C3
 go_wp2_with fail
 (with_reducible refine (C4.out w3).mono ?_)
 rintro en w4 ⟨rfl,fx⟩
 have H4:=ed (zzT H3.out fx);clear fx C4
 generalize KA.isSome=ka at *
 generalize KB.isSome=kb at *
 generalize KA.getD []=xa at *
 generalize KB.getD []=xb at *
 generalize SA.isSome=sa at *
 generalize SB.isSome=sb at *
 generalize SA.getD []=ta at *
 generalize SB.getD []=tb at *
 cases sa with
 | false =>
   go_wp2_with fail
   go_ret
   exact ⟨by rw [HA.out];rfl,H4.out⟩
 | true =>
 cases sb with
 | false =>
   go_wp2_with fail
   go_ret
   exact ⟨by rw [HA.out];rfl,H4.out⟩
 | true =>
 cases hx:xa == xb with
 | false =>
   have HX:=ed hx
   go_wp2_with fail
   go_ret
   exact ⟨by rw [HA.out,HX.out];rfl,H4.out⟩
 | true =>
 cases ht:ta == tb with
 | false =>
   have HX:=ed hx
   have HT:=ed ht
   go_wp2_with fail
   go_ret
   exact ⟨by rw [HA.out,HX.out,HT.out];rfl,H4.out⟩
 | true =>
   have HX:=ed hx
   have HT:=ed ht
   go_wp2_with fail
   go_ret
   exact ⟨by rw [HA.out,HX.out,HT.out];rfl,H4.out⟩
end Go.Proofs.YtjggkhmojjaomaaGreatDoor

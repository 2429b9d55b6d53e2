/- Walks of functions that the statement reaches, and plain words. No conditions. -/
import Derived.Test.YtjggkhmojjaomaaGreatDoorQ13
set_option linter.unusedVariables false
set_option linter.unusedSimpArgs false
set_option maxHeartbeats 4000000
namespace Go.Proofs.YtjggkhmojjaomaaGreatDoor
open Go.RowKit
structure fU (F:Nat->Prop) (t:Tm) (ns:List Nm) (k:Ty) (tv lv:Value) (w:World):Prop where
 glob:yR w
 rt:Rep F w (jX t) tv
 rl:Rep F w (.sl 99 2 ns.length (jA ns)) lv
 ok:uZ t
 n15:∀ a∈kinds ns,zV a<=15
 room:ns.length+zM t<=100
 ty:typeOf ns t=some k
def yh (N:Nat):Prop:=∀ (F:Nat->Prop) (t:Tm) (ns:List Nm) (k:Ty) (tv lv:Value) (w:World),zM t<=N->fU F t ns k tv lv w->Calls Tryz.prog 28 #[tv,lv] w (qC F w (zD ns t))
def dZ (N:Nat):Prop:=∀ (F:Nat->Prop) (t:Tm) (ns:List Nm) (k:Ty) (tv lv:Value) (w:World),zM t<=N->fU F t ns k tv lv w->Calls Tryz.prog 54 #[tv,lv] w (qC F w (kL ns t))
theorem qC.no {F:Nat->Prop} {w w':World} {o:Option Bd} (ho:o=none) (hb:Below w.heap.size w w'):qC F w o (.returned (.pointer none)) w' :=
 ⟨_,rfl,hb,fun _=>rfl,fun k h=>by rw [ho] at h;simp at h⟩
theorem qC.yes {F:Nat->Prop} {w w':World} {o:Option Bd} {k:Bd} {v:Value} (ho:o=some k) (hb:Below w.heap.size w w') (hr:Rep (fun i=>F i\/w.heap.size<=i) w' (qK k) v):qC F w o (.returned v) w' :=
 ⟨_,rfl,hb,fun h=>by rw [ho] at h;simp at h,fun k' h=>by rw [ho] at h;obtain rfl:=Option.some.inj h;exact hr⟩
set_option maxRecDepth 100000 in
theorem eY (N:Nat) (ih:dZ N):yh N:=by
 intro F t ns k tv lv w hN hp
 have C0:=fX (ih F t ns k tv lv w hN hp)
 have HM:=fX (mean_meant t ns)
 have HP:=fX hp.n15
 obtain ⟨tb,rfl⟩:=qW hp.rt
 obtain ⟨la,lc,rfl,_,_⟩:=AtNms.of hp.rl
 clear hp ih
 go_enter Tryz.func28,Tryz.ntmps28
 go_wp2_with fail
 (with_reducible refine C0.out.mono ?_)
 rintro en w1 ⟨v,rfl,fA,mH,mX⟩
 cases hq:kL ns t with
 | none =>
   obtain rfl:=mH hq
   have HQ:=fX (show zD ns t=none by rw [HM.out,hq];rfl)
   have HB:=fX fA
   clear hq mH mX fA
   go_wp2_with fail
   go_ret
   exact qC.no HQ.out HB.out
 | some b =>
   have mn:=mX b hq
   obtain ⟨bb,rfl⟩:=kZ mn
   have f7:=meant_size t ns b HP.out hq
   have CF:=fX (fits2_any _ w1 b _ mn f7)
   have HR:=fX mn
   have HB:=fX fA
   have HQ:=fX (show zD ns t=vj b by rw [HM.out,hq];rfl)
   clear hq mH mX fA mn f7
   rw [small_fits] at CF
   by_cases h2:zW b<=200
   ·have HE:=fX (show zD ns t=some b by rw [HQ.out,h_ h2])
    rw [decide_eq_true h2] at CF
    clear h2
    go_wp2_with fail
    (with_reducible refine CF.out.mono ?_)
    rintro en w2 ⟨rfl,fN⟩
    have ft:=fX (zzT HB.out fN)
    have aT:=fX (Rep.below (F':=fun i=>F i\/w.heap.size<=i) fN (fun _ h=>h) HR.out)
    clear fN
    go_wp2_with fail
    go_ret
    exact qC.yes HE.out ft.out aT.out
   ·have HE:=fX (show zD ns t=none by rw [HQ.out];unfold vj;rw [if_neg h2])
    rw [decide_eq_false h2] at CF
    clear h2
    go_wp2_with fail
    (with_reducible refine CF.out.mono ?_)
    rintro en w2 ⟨rfl,fN⟩
    have ft:=fX (zzT HB.out fN)
    clear fN
    go_wp2_with fail
    go_ret
    exact qC.no HE.out ft.out
set_option maxRecDepth 100000 in
theorem meant_nm (F:Nat->Prop) (x:Bs) (ns:List Nm) (k:Ty) (tv lv:Value) (w:World) (hp:fU F (.nm x) ns k tv lv w):Calls Tryz.prog 54 #[tv,lv] w (qC F w (kL ns (.nm x))):=by
 obtain ⟨tb,kv,slv,rfl,_,fE,_,_,_⟩:=jT hp.rt
 simp only [yd,yr] at fE
 have t0:w.cell? ⟨tb,0,none⟩=some (str []):=by simp [World.cell?,fE]
 have t1:w.cell? ⟨tb,1,none⟩=some (str x):=by simp [World.cell?,fE]
 have hn:ns.length<=100:=by have:=hp.room;omega
 have CF:=find_any F ns x lv w (by omega) hp.rl
 obtain ⟨la,lc,rfl,Hd,fM⟩:=AtNms.of hp.rl
 have tU:=hp.ty
 rw [typeOf,Option.bind_eq_some_iff] at tU
 obtain ⟨i,hi,hik⟩:=tU
 rw [Option.map_eq_some_iff] at hik
 obtain ⟨⟨y0,k0⟩,Al,_⟩:=hik
 have fT:i<ns.length:=(List.getElem?_eq_some_iff.1 Al).1
 obtain ⟨b,o,y,t,kb,e,hb,FX,h1,h2,mz⟩:=fM i fT
 subst e
 have fu:=hp.n15 t (List.mem_of_getElem? (uK FX))
 have HT:=fX (show kL ns (.nm x)=some (eta t i ns.length) by rw [kL,hi,Option.bind_some,FX];rfl)
 have CC:=fX (copyOf_any 15 t fu fu F _ i ns.length w mz (by omega) (by omega))
 rw [hi] at CF
 simp only [dz] at CF
 have CF':=fX CF
 have hiI:(i:Int)<(ns.length:Int):=by omega
 clear hp fM fE hi CF Hd Al FX h1 mz hb
 go_enter Tryz.func54,Tryz.ntmps54
 go_wp2_with fail
 (with_reducible refine CF'.out.mono ?_)
 rintro en w1 ⟨rfl,e⟩
 subst w1
 go_wp2_with fail
 (with_reducible refine CC.out.mono ?_)
 rintro en w1 ⟨p,rfl,fA,nZ⟩
 have HB:=fX (fW fA nZ)
 clear fA nZ
 go_wp2_with fail
 go_ret
 exact qC.yes HT.out HB.out.1 (HB.out.2.weak fun _ h=>.inr h)
set_option maxRecDepth 100000 in
theorem meant_wd (F:Nat->Prop) (u:Bs) (ns:List Nm) (k:Ty) (tv lv:Value) (w:World) (hp:fU F (.wd u) ns k tv lv w):Calls Tryz.prog 54 #[tv,lv] w (qC F w (kL ns (.wd u))):=by
 obtain ⟨tb,kv,slv,rfl,_,fE,_,_,_⟩:=jT hp.rt
 simp only [yd,yr] at fE
 have t0:w.cell? ⟨tb,0,none⟩=some (str u):=by simp [World.cell?,fE]
 have fa:qj u=true:=hp.ok
 simp only [qj,Bool.or_eq_true,beq_iff_eq] at fa
 obtain ⟨la,lc,rfl,_,_⟩:=AtNms.of hp.rl
 clear hp fE
 rcases fa with (rfl | rfl) | rfl
 ·go_enter Tryz.func54,Tryz.ntmps54
  go_wp2_with fail
  go_ret
  exact qC.yes (by rw [kL];rfl) ((fH _ _).alloc (fP _) _) ((pY (zG _ _) (fP _)).weak fun _ h=>.inr h)
 ·go_enter Tryz.func54,Tryz.ntmps54
  go_wp2_with fail
  go_ret
  exact qC.yes (by rw [kL];rfl) ((fH _ _).alloc (fP _) _) ((pY (zG _ _) (fP _)).weak fun _ h=>.inr h)
 ·go_enter Tryz.func54,Tryz.ntmps54
  go_wp2_with fail
  go_ret
  exact qC.yes (by rw [kL];rfl) ((fH _ _).alloc (fP _) _) ((pY (zG _ _) (fP _)).weak fun _ h=>.inr h)
set_option maxRecDepth 100000 in
theorem meant_lam (N:Nat) (ih:yh N) (F:Nat->Prop) (x:Bs) (k:Ty) (t:Tm) (ns:List Nm) (kt:Ty) (tv lv:Value) (w:World) (hN:zM (.lam x k t)<=N+1) (hp:fU F (.lam x k t) ns kt tv lv w):Calls Tryz.prog 54 #[tv,lv] w (qC F w (kL ns (.lam x k t))):=by
 obtain ⟨tb,kv,slv,rfl,_,fE,_,i7,tg⟩:=jT hp.rt
 have hk:=i7 k rfl
 obtain ⟨kb,_,e,_⟩:=kK hk
 subst e
 obtain ⟨pa,pc,rfl,_,_,fM⟩:=zP tg
 simp only [yd,yr,jq] at fE
 obtain ⟨sD,sB,Ii,Ij,BF,_,ll,lV,lg,tw⟩:=fM 0 (by simp [ze])
 simp only [ze,List.map_cons,List.map_nil,List.getElem?_cons_zero,List.getElem?_cons_succ,Option.some.injEq] at lV
 subst lV
 obtain ⟨lQ,e0⟩:=qW tw
 subst e0
 subst BF
 have t0:w.cell? ⟨tb,0,none⟩=some (str [108,97,109]):=by simp [World.cell?,fE]
 have t1:w.cell? ⟨tb,1,none⟩=some (str x):=by simp [World.cell?,fE]
 have t2:w.cell? ⟨tb,2,none⟩=some (.pointer (some ⟨kb,0,none⟩)):=by simp [World.cell?,fE]
 have t3:w.cell? ⟨tb,3,none⟩=some (.slice (some ⟨sD,sB,none⟩) 1 pc):=by simp [World.cell?,fE,ze]
 have fo:=hp.room
 have fa:=hp.ok
 rw [zM] at fo hN
 have hak:=kh k
 have hlen:ns.length<=99:=by omega
 obtain ⟨fu,lh,Jr,_⟩:=xv hp.ty
 obtain ⟨xs,il,mA⟩:∃ xs,zX F w (jA ns) xs/\∃ a c,lv=.slice a ns.length c/\v7 2 (.slice a ns.length ns.length) ns.length xs w:=by
  obtain ⟨a,c,e,_,_⟩:=AtNms.of hp.rl
  have hr:=hp.rl
  rw [e] at hr
  obtain ⟨xs,h1,h2⟩:=v7.ofRep hr (oneNm ns)
  exact ⟨xs,h1,a,c,e,h2⟩
 obtain ⟨la,lc,rfl,mA⟩:=mA
 have Hd:ns.length<=lc:=by obtain ⟨a,c,e,h,_⟩:=AtNms.of hp.rl;simp only [Value.slice.injEq] at e;obtain ⟨_,_,rfl⟩:=e;exact h
 have SX:Hid (∀ w',Below w.heap.size w w'->w'.cell? ⟨tb,1,none⟩=some (str x)/\w'.cell? ⟨tb,2,none⟩=some (.pointer (some ⟨kb,0,none⟩))/\w'.cell? ⟨tb,3,none⟩=some (.slice (some ⟨sD,sB,none⟩) 1 pc)/\w'.cell? ⟨sD,sB,none⟩=some (.pointer (some ⟨lQ,0,none⟩))):=by
  show ∀ w',_->_
  intro w' fx
  exact ⟨(fx.cell (fG w _ t1)).trans t1,(fx.cell (fG w _ t2)).trans t2,(fx.cell (fG w _ t3)).trans t3,(fx.cell ll).trans lg⟩
 have HX:=fX (fW il mA)
 have HP:=fX (fW hp (fW hk (fW tw Jr)))
 have IH:=fX ih
 have HK:=fX (fW fu (fW fa hN))
 have ox:ns.length+1<=maxLen:=by unfold maxLen;omega
 have nA:(ns.length+1)*24<=140737488355328:=by omega
 clear hp fM tg hk i7 fE fu tw il mA fa ih hN Jr
 go_enter Tryz.func54,Tryz.ntmps54
 go_wp2_with fail
 refine wp_region_noPanic ?_
 refine zB (fun w'=>Below w.heap.size w w') (fun _=>false) (by kernel_rfl) ?_
 have fF:(fun w'=>Below w.heap.size w w') w.drew:=Below.drew (fH _ _)
 refine tk [0,1,2,3,4,5,6,7,8,9,10,11,12,13,14,15,16,17,18,19,20] fF ?_
 (intro d hd;simp [tkD] at hd;subst hd;simp only [tks,pQ,pZ,pS])
 iterate 21 (refine ⟨?_,?_,?_⟩;rotate_left;· (intro oi ho;simp at ho;subst ho;refine Or.inl ⟨by rfl,fun w' fI=>?_⟩;obtain ⟨e0,e1,e2,e3⟩:=SX.out w' fI;go_simp;try with_reducible rfl))
 (refine on 21 ?_;intro o ho K' hK;simp at ho;subst ho;go_simp)
 (refine hK.out _ _ (fun _=>fF.alloc (fP _) _) ?_;clear hK K';try simp only [pQ,pN,pZ,pS])
 (refine on 22 ?_;intro o ho K' hK;simp at ho;subst ho)
 have DR:zq 2 (.slice (some ⟨w.heap.size,0,none⟩) 1 1) 1 [str x,.pointer (some ⟨kb,0,none⟩)] (w.drew.alloc (.cells #[str x,.pointer (some ⟨kb,0,none⟩)] 99)):=zq.lit1 #[str x,.pointer (some ⟨kb,0,none⟩)] rfl (by simp [str,Value.oneCell']) _ (by rfl)
 have sJ:v7 2 (.slice la ns.length ns.length) ns.length xs (w.drew.alloc (.cells #[str x,.pointer (some ⟨kb,0,none⟩)] 99)):=HX.out.2.drew.alloc _
 refine xg (by rfl) _ _ _ (by rfl) 99 (.agg #[str [],.pointer none]) 2 24 Tryz.underlying93 Tryz.infoBound rfl (.slice la ns.length ns.length) ns.length xs (by rfl) sJ _ 1 _ (by rfl) DR (by omega) ox nA ?_
 intro c7 w7 fm fS
 have e8:(w.alloc (.cells #[str x,.pointer (some ⟨kb,0,none⟩)] 99)).drew.heap.size=w.heap.size+1:=by simp
 rw [e8] at fm
 have nI:Below w.heap.size w w7:=(fF.alloc (fP _) _).trans (fS.mono (fF.alloc (fP _) _).size)
 (refine hK.out _ _ (fun _=>nI) ?_;clear hK K';try simp only [pQ,pN,pZ,pS])
 (refine on 23 ?_;intro o ho K' hK;simp at ho;subst ho)
 have sg:Rep (fun i=>F i\/w.heap.size<=i) w7 (.sl 99 2 (ns++[(x,k)]).length (jA (ns++[(x,k)]))) (.slice (some ⟨w.heap.size+1,0,none⟩) (ns.length+1) c7):=by
  rw [List.length_append,gH]
  refine fm.rep (fun g hg=>.inr (by simp [Value.ownBlock] at hg;subst hg;exact Nat.le_succ _)) ?_
  exact (zX.below nI (fun _ h=>.inl h) HX.out.1).append (zQ.2 ⟨_,_,rfl,zH.2 rfl,zQ.2 ⟨_,_,rfl,Rep.below nI (fun _ h=>.inl h) HP.out.2.1,zC.2 rfl⟩⟩)
 have CT:=fX (IH.out (fun i=>F i\/w.heap.size<=i) t (ns++[(x,k)]) lh (.pointer (some ⟨lQ,0,none⟩)) _ w7 (by have:=HK.out.2.2;omega) ⟨HP.out.1.glob.below nI,Rep.below nI (fun _ h=>.inl h) HP.out.2.2.1,sg,HK.out.2.1.2,(fun a ha=>by
  rw [jG] at ha
  rcases List.mem_append.1 ha with ha | ha
  ·exact HP.out.1.n15 a ha
  ·simp at ha;subst ha;exact HK.out.1),by rw [List.length_append];simp;omega,HP.out.2.2.2⟩)
 have Ba:=fX nI
 clear sg fm fS nI
 go_simp
 go_at_call 28
 (with_reducible refine CT.out.mono ?_)
 rintro en w9 ⟨bv,rfl,mj,oD,oQ⟩
 have Bq:=fX (zzT Ba.out mj)
 have HY:=fX (fW oD oQ)
 have z7:=Ba.out.size
 clear mj oD oQ
 (refine hK.out _ _ (fun _=>Bq.out) ?_;clear hK K';try simp only [pQ,pN,pZ,pS])
 (refine on 24 ?_;intro o ho K' hK;simp at ho;subst ho;go_simp)
 (refine hK.out _ _ (fun _=>Bq.out) ?_;clear hK K';try simp only [pQ,pN,pZ,pS])
 refine zU (by kernel_rfl) (NoPanic.normal ?_) _
 go_wp2_with fail
 go_ret
 rw [kL]
 exact ⟨bv,rfl,Bq.out,HY.out.1,fun b h=>(HY.out.2 b h).weak fun i h=>by rcases h with h | h;exact h;exact .inr (by omega)⟩
set_option maxRecDepth 100000 in
theorem meant_app (N:Nat) (ih:yh N) (F:Nat->Prop) (m n:Tm) (ns:List Nm) (kt:Ty) (tv lv:Value) (w:World) (hN:zM (.app m n)<=N+1) (hp:fU F (.app m n) ns kt tv lv w):Calls Tryz.prog 54 #[tv,lv] w (qC F w (kL ns (.app m n))):=by
 obtain ⟨tb,kv,slv,rfl,_,fE,_,_,tg⟩:=jT hp.rt
 obtain ⟨pa,pc,rfl,_,_,fM⟩:=zP tg
 simp only [yd,yr,vT] at fE
 obtain ⟨sD,sB,Ii,Ij,BF,_,ll,lV,lg,tw⟩:=fM 0 (by simp [ze])
 simp only [ze,List.map_cons,List.map_nil,List.getElem?_cons_zero,List.getElem?_cons_succ,Option.some.injEq] at lV
 subst lV
 obtain ⟨lQ,e0⟩:=qW tw
 subst e0
 subst BF
 obtain ⟨fg,fp,pu1,iz,t_,_,mt,sH,sC,rz⟩:=fM 1 (by simp [ze])
 simp only [ze,List.map_cons,List.map_nil,List.getElem?_cons_zero,List.getElem?_cons_succ,Option.some.injEq] at sH
 subst sH
 obtain ⟨Bx,e1⟩:=qW rz
 subst e1
 simp only [Option.some.injEq,Addr.mk.injEq,and_true] at t_
 obtain ⟨rfl,rfl⟩:=t_
 have t0:w.cell? ⟨tb,0,none⟩=some (str [97,112,112]):=by simp [World.cell?,fE]
 have t3:w.cell? ⟨tb,3,none⟩=some (.slice (some ⟨sD,sB,none⟩) 2 pc):=by simp [World.cell?,fE,ze]
 have fo:=hp.room
 have fa:=hp.ok
 have tU:=hp.ty
 have CT:=fX (fun wz (hz:Below w.heap.size w wz)=>pL (zM (.app m n)) F (.app m n) ns _ _ wz (fP _) ⟨Rep.below hz (fun _ h=>h) hp.rt,Rep.below hz (fun _ h=>h) hp.rl,hp.ok,hp.n15,by omega⟩)
 rw [zM] at fo hN
 obtain ⟨a,c,rest,Bi,te,mN,rfl⟩:=xy tU
 obtain ⟨la,lc,rfl,_,_⟩:=AtNms.of hp.rl
 have SX:Hid (∀ w',Below w.heap.size w w'->w'.cell? ⟨tb,3,none⟩=some (.slice (some ⟨sD,sB,none⟩) 2 pc)/\w'.cell? ⟨sD,sB,none⟩=some (.pointer (some ⟨lQ,0,none⟩))/\w'.cell? ⟨sD,sB+1,none⟩=some (.pointer (some ⟨Bx,0,none⟩))):=by
  show ∀ w',_->_
  intro w' fx
  exact ⟨(fx.cell (fG w _ t3)).trans t3,(fx.cell ll).trans lg,(fx.cell mt).trans sC⟩
 have C0:=fX (fun wz (hz:Below w.heap.size w wz)=>ih F m ns _ (.pointer (some ⟨lQ,0,none⟩)) (.slice la ns.length lc) wz (by omega) ⟨hp.glob.below hz,Rep.below hz (fun _ h=>h) tw,Rep.below hz (fun _ h=>h) hp.rl,fa.1,hp.n15,by omega,Bi⟩)
 have C1:=fX (fun wz (hz:Below w.heap.size w wz)=>ih F n ns _ (.pointer (some ⟨Bx,0,none⟩)) (.slice la ns.length lc) wz (by omega) ⟨hp.glob.below hz,Rep.below hz (fun _ h=>h) rz,Rep.below hz (fun _ h=>h) hp.rl,fa.2,hp.n15,by omega,te⟩)
 have HP:=fX (fW hp fa)
 clear hp fM tg fE fa hN ih tw lg ll rz sC mt
 go_enter Tryz.func54,Tryz.ntmps54
 go_wp2_with fail
 refine wp_region_noPanic ?_
 refine zB (fun w'=>Below w.heap.size w w') (fun _=>false) (by kernel_rfl) ?_
 have fF:(fun w'=>Below w.heap.size w w') w.drew:=Below.drew (fH _ _)
 refine tk [0,1,2,3,4,5,6,8,9,10,11,12,13,14] fF ?_
 (intro d hd;simp [tkD] at hd;subst hd;simp only [tks,pQ,pZ,pS])
 iterate 14 (refine ⟨?_,?_,?_⟩;rotate_left;· (intro oi ho;simp at ho;subst ho;refine Or.inl ⟨by rfl,fun w' fI=>?_⟩;obtain ⟨e0,e1,e2⟩:=SX.out w' fI;go_simp;try with_reducible rfl))
 (refine on 7 ?_;intro o ho K' hK;simp at ho;subst ho;go_simp)
 go_at_call 28
 (with_reducible refine (C0.out _ fF).mono ?_)
 rintro en v0 ⟨x0,rfl,fd,aP,iq⟩
 have nD:Hid (Below w.heap.size w v0):=fF.trans fd
 have Df:Hid ((zD ns m=none->x0=.pointer none)/\(∀ k,zD ns m=some k->Rep (fun i=>F i\/w.heap.size<=i) v0 (qK k) x0)):=⟨aP,fun k h=>(iq k h).weak fun i h=>by rcases h with h | h;exact .inl h;exact .inr (h)⟩
 have Ib:=fX fd
 clear fd aP iq
 (refine hK.out _ _ (fun _=>nD.out) ?_;clear hK K';try simp only [pQ,pN,pZ,pS])
 have Bj:=nD.out
 (refine on 15 ?_;intro o ho K' hK;simp at ho;subst ho;go_simp)
 go_at_call 28
 (with_reducible refine (C1.out _ nD.out).mono ?_)
 rintro en v1 ⟨x1,rfl,fA,mH,mX⟩
 have fb:Hid (Below w.heap.size w v1):=zzT nD.out fA
 have De:Hid ((zD ns n=none->x1=.pointer none)/\(∀ k,zD ns n=some k->Rep (fun i=>F i\/w.heap.size<=i) v1 (qK k) x1)):=⟨mH,fun k h=>(mX k h).weak fun i h=>by rcases h with h | h;exact .inl h;exact .inr (fD nD.out.size h)⟩
 have Bp:=fX fA
 clear fA mH mX
 (refine hK.out _ _ (fun _=>fb.out) ?_;clear hK K';try simp only [pQ,pN,pZ,pS])
 have Cy:=fb.out
 refine tk [16,17] Cy ?_
 (intro d hd;simp [tkD] at hd;subst hd;simp only [tks,pQ,pZ,pS])
 iterate 2 (refine ⟨?_,?_,?_⟩;rotate_left;· (intro oi ho;simp at ho;subst ho;refine Or.inl ⟨by rfl,fun w' fI=>?_⟩;go_simp;try with_reducible rfl))
 refine zU (by kernel_rfl) (NoPanic.normal ?_) _
 clear t3 C0 C1
 cases hm:zD ns m with
 | none =>
   obtain rfl:=Df.out.1 hm
   have HQ:=fX (show kL ns (.app m n)=none by rw [kL,zD,hm];rfl)
   clear hm
   go_wp2_with fail
   go_ret
   exact qC.no HQ.out fb.out
 | some p =>
   have Dr:=Rep.below (F':=fun i=>F i\/w.heap.size<=i) Bp.out (fun _ h=>h) (Df.out.2 p hm)
   obtain ⟨pp,rfl⟩:=kZ Dr
   cases hn:zD ns n with
   | none =>
     obtain rfl:=De.out.1 hn
     have HQ:=fX (show kL ns (.app m n)=none by rw [kL,zD,hm,hn];rfl)
     clear hm hn Dr
     go_wp2_with fail
     go_ret
     exact qC.no HQ.out fb.out
   | some q =>
     have Ag:=De.out.2 q hn
     obtain ⟨qp,rfl⟩:=kZ Ag
     obtain ⟨f1,w1,s1⟩:=jR m ns a p HP.out.2.1 HP.out.1.n15 Bi hm
     obtain ⟨f2,w2,s2⟩:=jR n ns c q HP.out.2.2 HP.out.1.n15 te hn
     rw [mN] at f1
     have n7:=pM f2 f1
     have nH:=k9 m ns a HP.out.1.n15 Bi
     have se:=k9 n ns c HP.out.1.n15 te
     have aV:∀ t∈rest,zV t<=15:=fun t ht=>cf nH t (by rw [mN];simp [ht])
     have EN:rest.length<=100:=by have:=uT nH;rw [mN] at this;simp at this;omega
     have HT:=fX (show kL ns (.app m n)=jB p (zS (kinds ns) c q rest) ((kinds ns).length+rest.length) by
      rw [kL,zD,hm,hn,Option.bind_some,Option.bind_some,Bi,Option.bind_some,mN,qL])
     have CK:=fX (kindsOf_any F ns _ v1 (by omega) (Rep.below fb.out (fun _ h=>h) HP.out.1.rl))
     have HA:=fX (fW Dr (fW Ag (fW n7 (fW se aV))))
     have iE:ns.length<=100:=by omega
     clear hm hn Dr Ag f1 f2 w1 w2 s1 s2 mN n7 nH se aV Bi te
     go_wp2_with fail
     (with_reducible refine CK.out.mono ?_)
     rintro en v2 ⟨ka,kc,rfl,fN,nC⟩
     have ft:=fX (zzT fb.out fN)
     have HK2:=fX (fW fN nC)
     have lZ:=fX (CT.out v2 ft.out)
     clear fN nC CK
     go_wp2_with fail
     (with_reducible refine lZ.out.mono ?_)
     rintro en v3 ⟨tv3,rfl,fv,Aj,lY⟩
     have tN:=lY _ tU
     obtain ⟨rb,rk,rfl,_,mn,lP⟩:=kK tN
     have lP:Rep (fun i=>F i\/v2.heap.size<=i) v3 (.sl 33 1 rest.length (jL rest)) rk:=lP
     have q0:v3.cell? ⟨rb,0,none⟩=some rk:=by simp [World.cell?,mn]
     obtain ⟨ra,rc,rfl,_,_,_⟩:=zP lP
     have nh:=fX (zzT ft.out fv)
     have z1:=fb.out.size
     have z2:=ft.out.size
     have CA:Hid (Calls Tryz.prog 76 #[.pointer (some ⟨pp,0,none⟩),.pointer (some ⟨qp,0,none⟩),.slice ka ns.length kc,.slice ra rest.length rc] v3 (qC (fun i=>F i\/w.heap.size<=i) v3 (jB p (zS (kinds ns) c q rest) ((kinds ns).length+rest.length)))):=by
      have lS:=zzT HK2.out.1 fv
      have e:ns.length=(kinds ns).length:=(qL ns).symm
      have I2:Rep (fun i=>F i\/w.heap.size<=i) v3 (.sl 33 1 ns.length (jL (kinds ns))) (.slice ka ns.length kc):=(Rep.below fv (fun _ h=>h) HK2.out.2).weak fun i h=>by rcases h with h | h;exact .inl h;exact .inr (by omega)
      have hrr3:Rep (fun i=>F i\/w.heap.size<=i) v3 (.sl 33 1 rest.length (jL rest)) (.slice ra rest.length rc):=lP.weak fun i h=>by rcases h with h | h;exact .inl h;exact .inr (by omega)
      rw [e] at I2 ⊢
      exact apply_any _ (kinds ns) rest c p q _ _ _ _ v3 ⟨HP.out.1.glob.below nh.out,HA.out.2.2.1,HA.out.2.2.2.1,by rw [qL];exact iE,EN,HP.out.1.n15,HA.out.2.2.2.2,Rep.below lS (fun _ h=>h) HA.out.1,Rep.below lS (fun _ h=>h) HA.out.2.1,I2,hrr3⟩
     clear tN mn lP Aj lY fv lZ
     go_wp2_with fail
     (with_reducible refine CA.out.mono ?_)
     rintro en v4 ⟨bv,rfl,fl,hn4,hy4⟩
     have iL:=fX (fW (zzT nh.out fl) (fW hn4 hy4))
     have z3:=nh.out.size
     clear fl hn4 hy4
     go_wp2_with fail
     go_ret
     rw [HT.out]
     exact ⟨bv,rfl,iL.out.1,iL.out.2.1,fun b h=>(iL.out.2.2 b h).weak fun i h=>by rcases h with h | h;exact h;exact .inr (by omega)⟩
set_option maxRecDepth 100000 in
theorem meant_ite (N:Nat) (ih:yh N) (F:Nat->Prop) (l m n:Tm) (ns:List Nm) (kt:Ty) (tv lv:Value) (w:World) (hN:zM (.ite l m n)<=N+1) (hp:fU F (.ite l m n) ns kt tv lv w):Calls Tryz.prog 54 #[tv,lv] w (qC F w (kL ns (.ite l m n))):=by
 obtain ⟨tb,kv,slv,rfl,_,fE,_,_,tg⟩:=jT hp.rt
 obtain ⟨pa,pc,rfl,_,_,fM⟩:=zP tg
 simp only [yd,yr,ifW] at fE
 obtain ⟨sD,sB,Ii,Ij,BF,_,ll,lV,lg,tw⟩:=fM 0 (by simp [ze])
 simp only [ze,List.map_cons,List.map_nil,List.getElem?_cons_zero,List.getElem?_cons_succ,Option.some.injEq] at lV
 subst lV
 obtain ⟨lQ,e0⟩:=qW tw
 subst e0
 subst BF
 obtain ⟨fg,fp,pu1,iz,t_,_,mt,sH,sC,rz⟩:=fM 1 (by simp [ze])
 simp only [ze,List.map_cons,List.map_nil,List.getElem?_cons_zero,List.getElem?_cons_succ,Option.some.injEq] at sH
 subst sH
 obtain ⟨Bx,e1⟩:=qW rz
 subst e1
 simp only [Option.some.injEq,Addr.mk.injEq,and_true] at t_
 obtain ⟨rfl,rfl⟩:=t_
 obtain ⟨FD,FB,pu2,iO,t6,_,lJ,tl,aZ,tV⟩:=fM 2 (by simp [ze])
 simp only [ze,List.map_cons,List.map_nil,List.getElem?_cons_zero,List.getElem?_cons_succ,Option.some.injEq] at tl
 subst tl
 obtain ⟨If,e2⟩:=qW tV
 subst e2
 simp only [Option.some.injEq,Addr.mk.injEq,and_true] at t6
 obtain ⟨rfl,rfl⟩:=t6
 have t0:w.cell? ⟨tb,0,none⟩=some (str [105,102]):=by simp [World.cell?,fE]
 have t3:w.cell? ⟨tb,3,none⟩=some (.slice (some ⟨sD,sB,none⟩) 3 pc):=by simp [World.cell?,fE,ze]
 have fo:=hp.room
 have fa:=hp.ok
 have tU:=hp.ty
 have CT:=fX (fun wz (hz:Below w.heap.size w wz)=>pL (zM (.ite l m n)) F (.ite l m n) ns _ _ wz (fP _) ⟨Rep.below hz (fun _ h=>h) hp.rt,Rep.below hz (fun _ h=>h) hp.rl,hp.ok,hp.n15,by omega⟩)
 rw [zM] at fo hN
 obtain ⟨Bi,te,Kh⟩:=xu tU
 obtain ⟨la,lc,rfl,_,_⟩:=AtNms.of hp.rl
 have SX:Hid (∀ w',Below w.heap.size w w'->w'.cell? ⟨tb,3,none⟩=some (.slice (some ⟨sD,sB,none⟩) 3 pc)/\w'.cell? ⟨sD,sB,none⟩=some (.pointer (some ⟨lQ,0,none⟩))/\w'.cell? ⟨sD,sB+1,none⟩=some (.pointer (some ⟨Bx,0,none⟩))/\w'.cell? ⟨sD,sB+2,none⟩=some (.pointer (some ⟨If,0,none⟩))):=by
  show ∀ w',_->_
  intro w' fx
  exact ⟨(fx.cell (fG w _ t3)).trans t3,(fx.cell ll).trans lg,(fx.cell mt).trans sC,(fx.cell lJ).trans aZ⟩
 have C0:=fX (fun wz (hz:Below w.heap.size w wz)=>ih F l ns _ (.pointer (some ⟨lQ,0,none⟩)) (.slice la ns.length lc) wz (by omega) ⟨hp.glob.below hz,Rep.below hz (fun _ h=>h) tw,Rep.below hz (fun _ h=>h) hp.rl,fa.1,hp.n15,by omega,Bi⟩)
 have C1:=fX (fun wz (hz:Below w.heap.size w wz)=>ih F m ns _ (.pointer (some ⟨Bx,0,none⟩)) (.slice la ns.length lc) wz (by omega) ⟨hp.glob.below hz,Rep.below hz (fun _ h=>h) rz,Rep.below hz (fun _ h=>h) hp.rl,fa.2.1,hp.n15,by omega,te⟩)
 have C2:=fX (fun wz (hz:Below w.heap.size w wz)=>ih F n ns _ (.pointer (some ⟨If,0,none⟩)) (.slice la ns.length lc) wz (by omega) ⟨hp.glob.below hz,Rep.below hz (fun _ h=>h) tV,Rep.below hz (fun _ h=>h) hp.rl,fa.2.2,hp.n15,by omega,Kh⟩)
 have HP:=fX (fW hp fa)
 clear hp fM tg fE fa hN ih tw lg ll rz sC mt tV aZ lJ
 go_enter Tryz.func54,Tryz.ntmps54
 go_wp2_with fail
 refine wp_region_noPanic ?_
 refine zB (fun w'=>Below w.heap.size w w') (fun _=>false) (by kernel_rfl) ?_
 have fF:(fun w'=>Below w.heap.size w w') w.drew:=Below.drew (fH _ _)
 refine tk [0,1,2,3,4,5,6,8,9,10,11,12,13,14,16,17,18,19,20,21,22] fF ?_
 (intro d hd;simp [tkD] at hd;subst hd;simp only [tks,pQ,pZ,pS])
 iterate 21 (refine ⟨?_,?_,?_⟩;rotate_left;· (intro oi ho;simp at ho;subst ho;refine Or.inl ⟨by rfl,fun w' fI=>?_⟩;obtain ⟨e0,e1,e2,e3⟩:=SX.out w' fI;go_simp;try with_reducible rfl))
 (refine on 7 ?_;intro o ho K' hK;simp at ho;subst ho;go_simp)
 go_at_call 28
 (with_reducible refine (C0.out _ fF).mono ?_)
 rintro en v0 ⟨x0,rfl,fd,aP,iq⟩
 have nD:Hid (Below w.heap.size w v0):=fF.trans fd
 have Df:Hid ((zD ns l=none->x0=.pointer none)/\(∀ k,zD ns l=some k->Rep (fun i=>F i\/w.heap.size<=i) v0 (qK k) x0)):=⟨aP,fun k h=>(iq k h).weak fun i h=>by rcases h with h | h;exact .inl h;exact .inr (h)⟩
 have Ib:=fX fd
 clear fd aP iq
 (refine hK.out _ _ (fun _=>nD.out) ?_;clear hK K';try simp only [pQ,pN,pZ,pS])
 have Bj:=nD.out
 (refine on 15 ?_;intro o ho K' hK;simp at ho;subst ho;go_simp)
 go_at_call 28
 (with_reducible refine (C1.out _ nD.out).mono ?_)
 rintro en v1 ⟨x1,rfl,fA,mH,mX⟩
 have fb:Hid (Below w.heap.size w v1):=zzT nD.out fA
 have De:Hid ((zD ns m=none->x1=.pointer none)/\(∀ k,zD ns m=some k->Rep (fun i=>F i\/w.heap.size<=i) v1 (qK k) x1)):=⟨mH,fun k h=>(mX k h).weak fun i h=>by rcases h with h | h;exact .inl h;exact .inr (fD nD.out.size h)⟩
 have Bp:=fX fA
 clear fA mH mX
 (refine hK.out _ _ (fun _=>fb.out) ?_;clear hK K';try simp only [pQ,pN,pZ,pS])
 have Cy:=fb.out
 (refine on 23 ?_;intro o ho K' hK;simp at ho;subst ho;go_simp)
 go_at_call 28
 (with_reducible refine (C2.out _ fb.out).mono ?_)
 rintro en v2 ⟨x2,rfl,fN,sN,tp⟩
 have ft:Hid (Below w.heap.size w v2):=zzT fb.out fN
 have E5:Hid ((zD ns n=none->x2=.pointer none)/\(∀ k,zD ns n=some k->Rep (fun i=>F i\/w.heap.size<=i) v2 (qK k) x2)):=⟨sN,fun k h=>(tp k h).weak fun i h=>by rcases h with h | h;exact .inl h;exact .inr (fD fb.out.size h)⟩
 have K8:=fX fN
 clear fN sN tp
 (refine hK.out _ _ (fun _=>ft.out) ?_;clear hK K';try simp only [pQ,pN,pZ,pS])
 have Gy:=ft.out
 refine tk [24,25,26] Gy ?_
 (intro d hd;simp [tkD] at hd;subst hd;simp only [tks,pQ,pZ,pS])
 iterate 3 (refine ⟨?_,?_,?_⟩;rotate_left;· (intro oi ho;simp at ho;subst ho;refine Or.inl ⟨by rfl,fun w' fI=>?_⟩;go_simp;try with_reducible rfl))
 refine zU (by kernel_rfl) (NoPanic.normal ?_) _
 clear t3 C0 C1 C2
 cases hl:zD ns l with
 | none =>
   obtain rfl:=Df.out.1 hl
   have HQ:=fX (show kL ns (.ite l m n)=none by rw [kL,hl];rfl)
   clear hl
   go_wp2_with fail
   go_ret
   exact qC.no HQ.out ft.out
 | some p =>
   have Dr:=Rep.below (F':=fun i=>F i\/w.heap.size<=i) K8.out (fun _ h=>h) (Rep.below (F':=fun i=>F i\/w.heap.size<=i) Bp.out (fun _ h=>h) (Df.out.2 p hl))
   obtain ⟨pp,rfl⟩:=kZ Dr
   cases hm:zD ns m with
   | none =>
     obtain rfl:=De.out.1 hm
     have HQ:=fX (show kL ns (.ite l m n)=none by rw [kL,hl,hm];rfl)
     clear hl hm Dr
     go_wp2_with fail
     go_ret
     exact qC.no HQ.out ft.out
   | some q =>
     have Ag:=Rep.below (F':=fun i=>F i\/w.heap.size<=i) K8.out (fun _ h=>h) (De.out.2 q hm)
     obtain ⟨qp,rfl⟩:=kZ Ag
     cases hn:zD ns n with
     | none =>
       obtain rfl:=E5.out.1 hn
       have HQ:=fX (show kL ns (.ite l m n)=none by rw [kL,hl,hm,hn];rfl)
       clear hl hm hn Dr Ag
       go_wp2_with fail
       go_ret
       exact qC.no HQ.out ft.out
     | some r =>
       have lP:=E5.out.2 r hn
       obtain ⟨rp,rfl⟩:=kZ lP
       obtain ⟨f1,w1,s1⟩:=jR l ns _ p HP.out.2.1 HP.out.1.n15 Bi hl
       have Cd:=k9 m ns kt HP.out.1.n15 te
       have aB:=uT Cd
       have ru:lvB p:=fit_lv 200 p (kinds ns++(Ty.mk []).args) s1 f1 (fun t ht=>by
        rcases List.mem_append.1 ht with ht | ht
        ·exact HP.out.1.n15 t ht
        ·simp [Ty.args] at ht) (by rw [List.length_append,qL];simp [Ty.args];omega)
       have HT:=fX (show kL ns (.ite l m n)=some (kz (zo p ns.length kt.args.length) q r) by
        rw [kL,hl,hm,hn,Option.bind_some,Option.bind_some,Option.bind_some,te,Option.bind_some])
       have lZ:=fX (CT.out v2 ft.out)
       have HA:=fX (fW Dr (fW Ag (fW lP (fW ru (fW s1 w1)))))
       have iE:ns.length<=100:=by omega
       clear hl hm hn Dr Ag lP f1 w1 s1 Cd Bi te Kh ru
       go_wp2_with fail
       (with_reducible refine lZ.out.mono ?_)
       rintro en v3 ⟨tv3,rfl,fv,Aj,lY⟩
       have tN:=lY _ tU
       obtain ⟨rb,rk,rfl,_,mn,lP⟩:=kK tN
       have q0:v3.cell? ⟨rb,0,none⟩=some rk:=by simp [World.cell?,mn]
       obtain ⟨ra,rc,rfl,_,_,_⟩:=zP lP
       have nh:=fX (zzT ft.out fv)
       have z2:=ft.out.size
       have CR:=fX (raised_any (zW p) (fun i=>F i\/w.heap.size<=i) p ns.length kt.args.length _ v3 (fP _) (by have:=HA.out.2.2.2.2.1;omega) HA.out.2.2.2.1 (by omega) (by omega) (Rep.below fv (fun _ h=>h) HA.out.1))
       have HQ3:=fX (fW (Rep.below (F':=fun i=>F i\/w.heap.size<=i) fv (fun _ h=>h) HA.out.2.1) (Rep.below (F':=fun i=>F i\/w.heap.size<=i) fv (fun _ h=>h) HA.out.2.2.1))
       clear tN mn lP Aj lY fv lZ
       go_wp2_with fail
       (with_reducible refine CR.out.mono ?_)
       rintro en v4 ⟨sp,rfl,fl,AJ⟩
       have z3:=nh.out.size
       have iL:=fX (zzT nh.out fl)
       have I4:Rep (fun i=>F i\/w.heap.size<=i) v4 (qK (zo p ns.length kt.args.length)) (.pointer (some ⟨sp,0,none⟩)):=AJ.weak fun i h=>by rcases h with h | h;exact h;exact .inr (by omega)
       have CG:=fX (answered_any _ (fun i=>F i\/w.heap.size<=i) (zo p ns.length kt.args.length) q r _ _ _ v4 (fP _) (xd _ _ _ HA.out.2.2.2.2.2) I4 (Rep.below fl (fun _ h=>h) HQ3.out.1) (Rep.below fl (fun _ h=>h) HQ3.out.2))
       clear AJ I4 fl q0 CR
       go_wp2_with fail
       (with_reducible refine CG.out.mono ?_)
       rintro en v5 ⟨gp,rfl,fe,B3⟩
       have z4:=iL.out.size
       have iA:=fX (fW (zzT iL.out fe) B3)
       clear fe B3
       go_wp2_with fail
       go_ret
       exact qC.yes HT.out iA.out.1 (iA.out.2.weak fun i h=>by rcases h with h | h;exact h;exact .inr (by omega))
theorem meant_step (N:Nat) (ih:yh N):dZ (N+1):=by
 intro F t ns k tv lv w h hp
 cases t with
 | nm x=>exact meant_nm F x ns k tv lv w hp
 | wd u=>exact meant_wd F u ns k tv lv w hp
 | lam x k1 t=>exact meant_lam N ih F x k1 t ns k tv lv w h hp
 | app m n=>exact meant_app N ih F m n ns k tv lv w h hp
 | ite l m n=>exact meant_ite N ih F l m n ns k tv lv w h hp
theorem meant_any (N:Nat):dZ N:=by
 induction N with
 | zero=>exact fun F t ns k tv lv w h=>by have:=d6 t;omega
 | succ N ih=>exact meant_step N (eY N ih)
theorem means_any (N:Nat):yh N:=eY N (meant_any N)
def MofPost (w:World) (o:Option (Ty×Bd)) (en:Ending) (w':World):Prop :=
 ∃ kv bv,en=.returned (.tuple #[kv,bv])/\Below w.heap.size w w'/\(o=none->bv=.pointer none)/\∀ x,o=some x->Rep (w.heap.size<=·) w' (jS x.1) kv/\Rep (w.heap.size<=·) w' (qK x.2) bv
theorem cS (F:Nat->Prop) (w:World):Rep F w (.sl 99 2 ([]:List Nm).length (jA [])) (.slice none 0 0) :=
 zp.2 ⟨rfl,none,0,rfl,fP _,fun _=>rfl,.inl rfl⟩
theorem meaningOf_any (s:Bs) (w:World) (he:yR w) (hs:Lim s.length) :
 Calls Tryz.prog 14 #[str s] w (MofPost w (jw s)):=by
 have C0:=fX (bJ s w hs)
 have HE:=fX he
 clear he hs
 go_enter Tryz.func14,Tryz.ntmps14
 go_wp2_with fail
 (with_reducible refine C0.out.mono ?_)
 rintro en w1 ⟨v,rfl,fA,mH,mX⟩
 cases ht:qD s with
 | none =>
   obtain rfl:=mH ht
   have HM:=fX (show jw s=none by unfold jw;rw [ht];rfl)
   have HB:=fX fA
   clear ht mH mX fA
   go_wp2_with fail
   go_ret2
   exact ⟨_,_,rfl,HB.out,fun _=>rfl,fun x h=>by rw [HM.out] at h;simp at h⟩
 | some t =>
   have hr:=mX t ht
   obtain ⟨tb,rfl⟩:=qW hr
   obtain ⟨_,fa,lr⟩:=jr ht
   have CT:=fX (pL (zM t) (w.heap.size<=·) t [] _ _ w1 (fP _) ⟨hr,cS _ _,fa,by simp [kinds],by simp;omega⟩)
   have HT:=fX (fW hr (fW fa lr))
   have HB:=fX fA
   have HM:=fX (show jw s=(typeOf [] t).bind fun k=>(zD [] t).map fun b=>(k,b) by unfold jw;rw [ht];rfl)
   clear ht mH mX fA hr fa lr
   go_wp2_with fail
   (with_reducible refine CT.out.mono ?_)
   rintro en w2 ⟨kv,rfl,fN,sN,tp⟩
   have ft:=fX (zzT HB.out fN)
   cases hk:typeOf [] t with
   | none =>
     obtain rfl:=sN hk
     have Fa:=fX (show jw s=none by rw [HM.out,hk];rfl)
     clear hk sN tp fN
     go_wp2_with fail
     go_ret2
     exact ⟨_,_,rfl,ft.out,fun _=>rfl,fun x h=>by rw [Fa.out] at h;simp at h⟩
   | some k =>
     have mz:Rep (w.heap.size<=·) w2 (jS k) kv:=(tp k hk).weak fun i h=>by rcases h with h | h;exact h;exact fD HB.out.size h
     obtain ⟨kb,_,e,_⟩:=kK mz
     subst e
     have CM:=fX (means_any (zM t) (w.heap.size<=·) t [] k _ _ w2 (fP _) ⟨HE.out.below ft.out,Rep.below fN (fun _ h=>h) HT.out.1,cS _ _,HT.out.2.1,by simp [kinds],by have:=HT.out.2.2;simp;omega,hk⟩)
     have HK:=fX mz
     have Fa:=fX (show jw s=(zD [] t).map fun b=>(k,b) by rw [HM.out,hk];rfl)
     clear hk sN tp fN mz
     go_wp2_with fail
     (with_reducible refine CM.out.mono ?_)
     rintro en w3 ⟨bv,rfl,fv,Aj,lY⟩
     have nh:=fX (fW (zzT ft.out fv) (fW (Rep.below (F':=(w.heap.size<=·)) fv (fun _ h=>h) HK.out) (fW Aj lY)))
     have z2:=ft.out.size
     clear fv Aj lY
     go_wp2_with fail
     go_ret2
     refine ⟨_,_,rfl,nh.out.1,fun h=>?_,fun x h=>?_⟩
     ·rw [Fa.out,Option.map_eq_none_iff] at h
      exact nh.out.2.2.1 h
     ·rw [Fa.out,Option.map_eq_some_iff] at h
      obtain ⟨b,hb,rfl⟩:=h
      exact ⟨nh.out.2.1,(nh.out.2.2.2 b hb).weak fun i h=>by rcases h with h | h;exact h;exact fD z2 h⟩
def wL (s:Bs):Option Bs:=(jw s).map fun x=>kM x.2
theorem vy (s:Bs) (w:World) (hg:dK w) (he:yR w) (hs:Lim s.length) :
 Calls Tryz.prog 6 #[str s] w fun en w'=>en=.returned (.tuple #[str ((wL s).getD []),.bool (wL s).isSome])/\Below w.heap.size w w':=by
 have C0:=fX (meaningOf_any s w he hs)
 have HG:=fX hg
 clear hg he hs
 go_enter Tryz.func6,Tryz.ntmps6
 go_wp2_with fail
 (with_reducible refine C0.out.mono ?_)
 rintro en w1 ⟨kv,bv,rfl,fA,mH,mX⟩
 cases hq:jw s with
 | none =>
   obtain rfl:=mH hq
   have HM:=fX (show wL s=none by unfold wL;rw [hq];rfl)
   have HB:=fX fA
   clear hq mH mX fA
   go_wp2_with fail
   go_ret2
   exact ⟨by rw [HM.out];rfl,HB.out⟩
 | some x =>
   obtain ⟨k,b⟩:=x
   obtain ⟨rk,rb⟩:=mX _ hq
   obtain ⟨_,Cf⟩:=bH hq
   obtain ⟨bb,rfl⟩:=kZ rb
   have CT:=fX (text_any (zW b) b (fP _) (by have:=Cf.size;omega) Cf.lv _ w1 _ (HG.out.below fA) rb)
   have HM:=fX (show wL s=some (kM b) by unfold wL;rw [hq];rfl)
   have HB:=fX fA
   clear hq mH mX fA rk rb Cf
   go_wp2_with fail
   (with_reducible refine CT.out.mono ?_)
   rintro en w2 ⟨rfl,fN⟩
   have ft:=fX (zzT HB.out fN)
   clear fN
   go_wp2_with fail
   go_ret2
   exact ⟨by rw [HM.out];rfl,ft.out⟩
def gP (s:Bs):Option Bs:=(xp s).map zN
theorem cO (s:Bs) (w:World) (hs:Lim s.length) :
 Calls Tryz.prog 8 #[str s] w fun en w'=>en=.returned (.tuple #[str ((gP s).getD []),.bool (gP s).isSome])/\Below w.heap.size w w':=by
 have C0:=fX (bJ s w hs)
 clear hs
 go_enter Tryz.func8,Tryz.ntmps8
 go_wp2_with fail
 (with_reducible refine C0.out.mono ?_)
 rintro en w1 ⟨v,rfl,fA,mH,mX⟩
 cases ht:qD s with
 | none =>
   obtain rfl:=mH ht
   have HM:=fX (show gP s=none by unfold gP xp;rw [ht];rfl)
   have HB:=fX fA
   clear ht mH mX fA
   go_wp2_with fail
   go_ret2
   exact ⟨by rw [HM.out];rfl,HB.out⟩
 | some t =>
   have hr:=mX t ht
   obtain ⟨tb,rfl⟩:=qW hr
   obtain ⟨_,fa,lr⟩:=jr ht
   have CT:=fX (pL (zM t) (w.heap.size<=·) t [] _ _ w1 (fP _) ⟨hr,cS _ _,fa,by simp [kinds],by simp;omega⟩)
   have HB:=fX fA
   have HM:=fX (show gP s=(typeOf [] t).map zN by unfold gP xp;rw [ht];rfl)
   clear ht mH mX fA hr fa lr
   go_wp2_with fail
   (with_reducible refine CT.out.mono ?_)
   rintro en w2 ⟨kv,rfl,fN,sN,tp⟩
   have ft:=fX (zzT HB.out fN)
   cases hk:typeOf [] t with
   | none =>
     obtain rfl:=sN hk
     have Fa:=fX (show gP s=none by rw [HM.out,hk];rfl)
     clear hk sN tp fN
     go_wp2_with fail
     go_ret2
     exact ⟨by rw [Fa.out];rfl,ft.out⟩
   | some k =>
     have mz:=tp k hk
     have fu:=k9 t [] k (by simp [kinds]) hk
     obtain ⟨kb,_,e,_⟩:=kK mz
     subst e
     have CK:=fX (cG 15 k fu (by omega) _ w2 _ mz)
     have Fa:=fX (show gP s=some (zN k) by rw [HM.out,hk];rfl)
     clear hk sN tp fN mz fu
     go_wp2_with fail
     (with_reducible refine CK.out.mono ?_)
     rintro en w3 ⟨rfl,fv⟩
     have nh:=fX (zzT ft.out fv)
     clear fv
     go_wp2_with fail
     go_ret2
     exact ⟨by rw [Fa.out];rfl,nh.out⟩
end Go.Proofs.YtjggkhmojjaomaaGreatDoor

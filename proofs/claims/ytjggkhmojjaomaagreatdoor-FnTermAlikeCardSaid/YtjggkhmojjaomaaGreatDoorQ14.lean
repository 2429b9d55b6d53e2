/- Walks of functions that the statement reaches, and plain words. No conditions. -/
import Derived.Test.YtjggkhmojjaomaaGreatDoorQ13
set_option linter.unusedVariables false
set_option linter.unusedSimpArgs false
set_option maxHeartbeats 4000000
namespace Go.Proofs.YtjggkhmojjaomaaGreatDoor
open Go.RowKit
structure ex (F:Nat->Prop) (t:Tm) (ns:List Nm) (k:Ty) (tv lv:Value) (w:World):Prop where
 glob:uh w
 rt:Rep F w (jJ t) tv
 rl:Rep F w (.sl 99 2 ns.length (jM ns)) lv
 ok:uP t
 n15:∀ a∈kinds ns,zV a<=15
 room:ns.length+zM t<=100
 ty:typeOf ns t=some k
def yh (N:Nat):Prop:=∀ (F:Nat->Prop) (t:Tm) (ns:List Nm) (k:Ty) (tv lv:Value) (w:World),zM t<=N->ex F t ns k tv lv w->Calls Tryz.prog 28 #[tv,lv] w (qD F w (zN ns t))
def cw (N:Nat):Prop:=∀ (F:Nat->Prop) (t:Tm) (ns:List Nm) (k:Ty) (tv lv:Value) (w:World),zM t<=N->ex F t ns k tv lv w->Calls Tryz.prog 54 #[tv,lv] w (qD F w (kM ns t))
theorem qD.no {F:Nat->Prop} {w w':World} {o:Option Bd} (ho:o=none) (hb:Below w.heap.size w w'):qD F w o (.returned (.pointer none)) w' :=
 ⟨_,rfl,hb,fun _=>rfl,fun k h=>by rw [ho] at h;simp at h⟩
theorem qD.yes {F:Nat->Prop} {w w':World} {o:Option Bd} {k:Bd} {v:Value} (ho:o=some k) (hb:Below w.heap.size w w') (hr:Rep (fun i=>F i\/w.heap.size<=i) w' (qZ k) v):qD F w o (.returned v) w' :=
 ⟨_,rfl,hb,fun h=>by rw [ho] at h;simp at h,fun k' h=>by rw [ho] at h;obtain rfl:=Option.some.inj h;exact hr⟩
set_option maxRecDepth 100000 in
theorem dn (N:Nat) (ih:cw N):yh N:=by
 intro F t ns k tv lv w hN hp
 have C0:=ed (ih F t ns k tv lv w hN hp)
 have HM:=ed (mean_meant t ns)
 have HP:=ed hp.n15
 obtain ⟨tb,rfl⟩:=qC hp.rt
 obtain ⟨la,lc,rfl,_,_⟩:=AtNms.of hp.rl
 clear hp ih
 go_enter Tryz.func28,Tryz.ntmps28
 go_wp2_with fail
 (with_reducible refine C0.out.mono ?_)
 rintro en w1 ⟨v,rfl,fP,mZ,fo⟩
 cases hq:kM ns t with
 | none =>
   obtain rfl:=mZ hq
   have HQ:=ed (show zN ns t=none by rw [HM.out,hq];rfl)
   have HB:=ed fP
   clear hq mZ fo fP
   go_wp2_with fail
   go_ret
   exact qD.no HQ.out HB.out
 | some b =>
   have mj:=fo b hq
   obtain ⟨bb,rfl⟩:=zi mj
   have hsz:=meant_size t ns b HP.out hq
   have CF:=ed (fits2_any _ w1 b _ mj hsz)
   have HR:=ed mj
   have HB:=ed fP
   have HQ:=ed (show zN ns t=uL b by rw [HM.out,hq];rfl)
   clear hq mZ fo fP mj hsz
   rw [small_fits] at CF
   by_cases h2:zW b<=200
   ·have HE:=ed (show zN ns t=some b by rw [HQ.out,gw h2])
    rw [decide_eq_true h2] at CF
    clear h2
    go_wp2_with fail
    (with_reducible refine CF.out.mono ?_)
    rintro en w2 ⟨rfl,fY⟩
    have fL:=ed (zzT HB.out fY)
    have aB:=ed (Rep.below (F':=fun i=>F i\/w.heap.size<=i) fY (fun _ h=>h) HR.out)
    clear fY
    go_wp2_with fail
    go_ret
    exact qD.yes HE.out fL.out aB.out
   ·have HE:=ed (show zN ns t=none by rw [HQ.out];unfold uL;rw [if_neg h2])
    rw [decide_eq_false h2] at CF
    clear h2
    go_wp2_with fail
    (with_reducible refine CF.out.mono ?_)
    rintro en w2 ⟨rfl,fY⟩
    have fL:=ed (zzT HB.out fY)
    clear fY
    go_wp2_with fail
    go_ret
    exact qD.no HE.out fL.out
set_option maxRecDepth 100000 in
theorem meant_nm (F:Nat->Prop) (x:Bs) (ns:List Nm) (k:Ty) (tv lv:Value) (w:World) (hp:ex F (.nm x) ns k tv lv w):Calls Tryz.prog 54 #[tv,lv] w (qD F w (kM ns (.nm x))):=by
 obtain ⟨tb,kv,slv,rfl,_,fJ,_,_,_⟩:=jF hp.rt
 simp only [yd,yr] at fJ
 have t0:w.cell? ⟨tb,0,none⟩=some (str []):=by simp [World.cell?,fJ]
 have t1:w.cell? ⟨tb,1,none⟩=some (str x):=by simp [World.cell?,fJ]
 have hn:ns.length<=100:=by have:=hp.room;omega
 have CF:=find_any F ns x lv w (by omega) hp.rl
 obtain ⟨la,lc,rfl,G0,fU⟩:=AtNms.of hp.rl
 have si:=hp.ty
 rw [typeOf,Option.bind_eq_some_iff] at si
 obtain ⟨i,hi,hik⟩:=si
 rw [Option.map_eq_some_iff] at hik
 obtain ⟨⟨y0,k0⟩,Ae,_⟩:=hik
 have fG:i<ns.length:=(List.getElem?_eq_some_iff.1 Ae).1
 obtain ⟨b,o,y,t,kb,e,hb,FM,h1,h2,mD⟩:=fU i fG
 subst e
 have fM:=hp.n15 t (List.mem_of_getElem? (uK FM))
 have HT:=ed (show kM ns (.nm x)=some (eta t i ns.length) by rw [kM,hi,Option.bind_some,FM];rfl)
 have CC:=ed (copyOf_any 15 t fM fM F _ i ns.length w mD (by omega) (by omega))
 rw [hi] at CF
 simp only [dB] at CF
 have CF':=ed CF
 have hiI:(i:Int)<(ns.length:Int):=by omega
 clear hp fU fJ hi CF G0 Ae FM h1 mD hb
 go_enter Tryz.func54,Tryz.ntmps54
 go_wp2_with fail
 (with_reducible refine CF'.out.mono ?_)
 rintro en w1 ⟨rfl,e⟩
 subst w1
 go_wp2_with fail
 (with_reducible refine CC.out.mono ?_)
 rintro en w1 ⟨p,rfl,fP,mu⟩
 have HB:=ed (ef fP mu)
 clear fP mu
 go_wp2_with fail
 go_ret
 exact qD.yes HT.out HB.out.1 (HB.out.2.weak fun _ h=>.inr h)
set_option maxRecDepth 100000 in
theorem meant_wd (F:Nat->Prop) (u:Bs) (ns:List Nm) (k:Ty) (tv lv:Value) (w:World) (hp:ex F (.wd u) ns k tv lv w):Calls Tryz.prog 54 #[tv,lv] w (qD F w (kM ns (.wd u))):=by
 obtain ⟨tb,kv,slv,rfl,_,fJ,_,_,_⟩:=jF hp.rt
 simp only [yd,yr] at fJ
 have t0:w.cell? ⟨tb,0,none⟩=some (str u):=by simp [World.cell?,fJ]
 have fw:qy u=true:=hp.ok
 simp only [qy,Bool.or_eq_true,beq_iff_eq] at fw
 obtain ⟨la,lc,rfl,_,_⟩:=AtNms.of hp.rl
 clear hp fJ
 rcases fw with (rfl | rfl) | rfl
 ·go_enter Tryz.func54,Tryz.ntmps54
  go_wp2_with fail
  go_ret
  exact qD.yes (by rw [kM];rfl) ((e_ _ _).alloc (ei _) _) ((we (zG _ _) (ei _)).weak fun _ h=>.inr h)
 ·go_enter Tryz.func54,Tryz.ntmps54
  go_wp2_with fail
  go_ret
  exact qD.yes (by rw [kM];rfl) ((e_ _ _).alloc (ei _) _) ((we (zG _ _) (ei _)).weak fun _ h=>.inr h)
 ·go_enter Tryz.func54,Tryz.ntmps54
  go_wp2_with fail
  go_ret
  exact qD.yes (by rw [kM];rfl) ((e_ _ _).alloc (ei _) _) ((we (zG _ _) (ei _)).weak fun _ h=>.inr h)
set_option maxRecDepth 100000 in
theorem meant_lam (N:Nat) (ih:yh N) (F:Nat->Prop) (x:Bs) (k:Ty) (t:Tm) (ns:List Nm) (kt:Ty) (tv lv:Value) (w:World) (hN:zM (.lam x k t)<=N+1) (hp:ex F (.lam x k t) ns kt tv lv w):Calls Tryz.prog 54 #[tv,lv] w (qD F w (kM ns (.lam x k t))):=by
 obtain ⟨tb,kv,slv,rfl,_,fJ,_,ib,tS⟩:=jF hp.rt
 have hk:=ib k rfl
 obtain ⟨kb,_,e,_⟩:=kZ hk
 subst e
 obtain ⟨pa,pc,rfl,_,_,fU⟩:=zP tS
 simp only [yd,yr,jI] at fJ
 obtain ⟨sY,sV,Hz,H_,Bu,_,lw,i5,lA,tR⟩:=fU 0 (by simp [za])
 simp only [za,List.map_cons,List.map_nil,List.getElem?_cons_zero,List.getElem?_cons_succ,Option.some.injEq] at i5
 subst i5
 obtain ⟨i1,e0⟩:=qC tR
 subst e0
 subst Bu
 have t0:w.cell? ⟨tb,0,none⟩=some (str [108,97,109]):=by simp [World.cell?,fJ]
 have t1:w.cell? ⟨tb,1,none⟩=some (str x):=by simp [World.cell?,fJ]
 have t2:w.cell? ⟨tb,2,none⟩=some (.pointer (some ⟨kb,0,none⟩)):=by simp [World.cell?,fJ]
 have t3:w.cell? ⟨tb,3,none⟩=some (.slice (some ⟨sY,sV,none⟩) 1 pc):=by simp [World.cell?,fJ,za]
 have fg:=hp.room
 have fw:=hp.ok
 rw [zM] at fg hN
 have hak:=kr k
 have hlen:ns.length<=99:=by omega
 obtain ⟨fM,lL,Jf,_⟩:=gz hp.ty
 obtain ⟨xs,iu,mW⟩:∃ xs,zX F w (jM ns) xs/\∃ a c,lv=.slice a ns.length c/\v8 2 (.slice a ns.length ns.length) ns.length xs w:=by
  obtain ⟨a,c,e,_,_⟩:=AtNms.of hp.rl
  have hr:=hp.rl
  rw [e] at hr
  obtain ⟨xs,h1,h2⟩:=v8.ofRep hr (oneNm ns)
  exact ⟨xs,h1,a,c,e,h2⟩
 obtain ⟨la,lc,rfl,mW⟩:=mW
 have G0:ns.length<=lc:=by obtain ⟨a,c,e,h,_⟩:=AtNms.of hp.rl;simp only [Value.slice.injEq] at e;obtain ⟨_,_,rfl⟩:=e;exact h
 have SX:Hid (∀ w',Below w.heap.size w w'->w'.cell? ⟨tb,1,none⟩=some (str x)/\w'.cell? ⟨tb,2,none⟩=some (.pointer (some ⟨kb,0,none⟩))/\w'.cell? ⟨tb,3,none⟩=some (.slice (some ⟨sY,sV,none⟩) 1 pc)/\w'.cell? ⟨sY,sV,none⟩=some (.pointer (some ⟨i1,0,none⟩))):=by
  show ∀ w',_->_
  intro w' fN
  exact ⟨(fN.cell (e9 w _ t1)).trans t1,(fN.cell (e9 w _ t2)).trans t2,(fN.cell (e9 w _ t3)).trans t3,(fN.cell lw).trans lA⟩
 have HX:=ed (ef iu mW)
 have HP:=ed (ef hp (ef hk (ef tR Jf)))
 have IH:=ed ih
 have HK:=ed (ef fM (ef fw hN))
 have oL:ns.length+1<=maxLen:=by unfold maxLen;omega
 have nP:(ns.length+1)*24<=140737488355328:=by omega
 clear hp fU tS hk ib fJ fM tR iu mW fw ih hN Jf
 go_enter Tryz.func54,Tryz.ntmps54
 go_wp2_with fail
 refine wp_region_noPanic ?_
 refine zB (fun w'=>Below w.heap.size w w') (fun _=>false) (by kernel_rfl) ?_
 have fV:(fun w'=>Below w.heap.size w w') w.drew:=Below.drew (e_ _ _)
 refine tk [0,1,2,3,4,5,6,7,8,9,10,11,12,13,14,15,16,17,18,19,20] fV ?_
 (intro d hd;simp [tkD] at hd;subst hd;simp only [tks,pQ,pZ,pS])
 iterate 21 (refine ⟨?_,?_,?_⟩;rotate_left;· (intro oi ho;simp at ho;subst ho;refine Or.inl ⟨by rfl,fun w' fB=>?_⟩;obtain ⟨e0,e1,e2,e3⟩:=SX.out w' fB;go_simp;try with_reducible rfl))
 (refine on 21 ?_;intro o ho K' hK;simp at ho;subst ho;go_simp)
 (refine hK.out _ _ (fun _=>fV.alloc (ei _) _) ?_;clear hK K';try simp only [pQ,pN,pZ,pS])
 (refine on 22 ?_;intro o ho K' hK;simp at ho;subst ho)
 have DF:zO 2 (.slice (some ⟨w.heap.size,0,none⟩) 1 1) 1 [str x,.pointer (some ⟨kb,0,none⟩)] (w.drew.alloc (.cells #[str x,.pointer (some ⟨kb,0,none⟩)] 99)):=zO.lit1 #[str x,.pointer (some ⟨kb,0,none⟩)] rfl (by simp [str,Value.oneCell']) _ (by rfl)
 have rz:v8 2 (.slice la ns.length ns.length) ns.length xs (w.drew.alloc (.cells #[str x,.pointer (some ⟨kb,0,none⟩)] 99)):=HX.out.2.drew.alloc _
 refine xz (by rfl) _ _ _ (by rfl) 99 (.agg #[str [],.pointer none]) 2 24 Tryz.underlying93 Tryz.infoBound rfl (.slice la ns.length ns.length) ns.length xs (by rfl) rz _ 1 _ (by rfl) DF (by omega) oL nP ?_
 intro c7 w7 fu fW
 have e8:(w.alloc (.cells #[str x,.pointer (some ⟨kb,0,none⟩)] 99)).drew.heap.size=w.heap.size+1:=by simp
 rw [e8] at fu
 have nG:Below w.heap.size w w7:=(fV.alloc (ei _) _).trans (fW.mono (fV.alloc (ei _) _).size)
 (refine hK.out _ _ (fun _=>nG) ?_;clear hK K';try simp only [pQ,pN,pZ,pS])
 (refine on 23 ?_;intro o ho K' hK;simp at ho;subst ho)
 have sA:Rep (fun i=>F i\/w.heap.size<=i) w7 (.sl 99 2 (ns++[(x,k)]).length (jM (ns++[(x,k)]))) (.slice (some ⟨w.heap.size+1,0,none⟩) (ns.length+1) c7):=by
  rw [List.length_append,gK]
  refine fu.rep (fun g hg=>.inr (by simp [Value.ownBlock] at hg;subst hg;exact Nat.le_succ _)) ?_
  exact (zX.below nG (fun _ h=>.inl h) HX.out.1).append (zQ.2 ⟨_,_,rfl,zH.2 rfl,zQ.2 ⟨_,_,rfl,Rep.below nG (fun _ h=>.inl h) HP.out.2.1,zC.2 rfl⟩⟩)
 have CT:=ed (IH.out (fun i=>F i\/w.heap.size<=i) t (ns++[(x,k)]) lL (.pointer (some ⟨i1,0,none⟩)) _ w7 (by have:=HK.out.2.2;omega) ⟨HP.out.1.glob.below nG,Rep.below nG (fun _ h=>.inl h) HP.out.2.2.1,sA,HK.out.2.1.2,(fun a ha=>by
  rw [jY] at ha
  rcases List.mem_append.1 ha with ha | ha
  ·exact HP.out.1.n15 a ha
  ·simp at ha;subst ha;exact HK.out.1),by rw [List.length_append];simp;omega,HP.out.2.2.2⟩)
 have oO:=ed nG
 clear sA fu fW nG
 go_simp
 go_at_call 28
 (with_reducible refine CT.out.mono ?_)
 rintro en w9 ⟨bv,rfl,mB,oX,lm⟩
 have Ba:=ed (zzT oO.out mB)
 have HY:=ed (ef oX lm)
 have z7:=oO.out.size
 clear mB oX lm
 (refine hK.out _ _ (fun _=>Ba.out) ?_;clear hK K';try simp only [pQ,pN,pZ,pS])
 (refine on 24 ?_;intro o ho K' hK;simp at ho;subst ho;go_simp)
 (refine hK.out _ _ (fun _=>Ba.out) ?_;clear hK K';try simp only [pQ,pN,pZ,pS])
 refine zU (by kernel_rfl) (NoPanic.normal ?_) _
 go_wp2_with fail
 go_ret
 rw [kM]
 exact ⟨bv,rfl,Ba.out,HY.out.1,fun b h=>(HY.out.2 b h).weak fun i h=>by rcases h with h | h;exact h;exact .inr (by omega)⟩
set_option maxRecDepth 100000 in
theorem meant_app (N:Nat) (ih:yh N) (F:Nat->Prop) (m n:Tm) (ns:List Nm) (kt:Ty) (tv lv:Value) (w:World) (hN:zM (.app m n)<=N+1) (hp:ex F (.app m n) ns kt tv lv w):Calls Tryz.prog 54 #[tv,lv] w (qD F w (kM ns (.app m n))):=by
 obtain ⟨tb,kv,slv,rfl,_,fJ,_,_,tS⟩:=jF hp.rt
 obtain ⟨pa,pc,rfl,_,_,fU⟩:=zP tS
 simp only [yd,yr,vN] at fJ
 obtain ⟨sY,sV,Hz,H_,Bu,_,lw,i5,lA,tR⟩:=fU 0 (by simp [za])
 simp only [za,List.map_cons,List.map_nil,List.getElem?_cons_zero,List.getElem?_cons_succ,Option.some.injEq] at i5
 subst i5
 obtain ⟨i1,e0⟩:=qC tR
 subst e0
 subst Bu
 obtain ⟨fT,fS,pu1,iE,tp,_,mL,sJ,sU,rH⟩:=fU 1 (by simp [za])
 simp only [za,List.map_cons,List.map_nil,List.getElem?_cons_zero,List.getElem?_cons_succ,Option.some.injEq] at sJ
 subst sJ
 obtain ⟨Bh,e1⟩:=qC rH
 subst e1
 simp only [Option.some.injEq,Addr.mk.injEq,and_true] at tp
 obtain ⟨rfl,rfl⟩:=tp
 have t0:w.cell? ⟨tb,0,none⟩=some (str [97,112,112]):=by simp [World.cell?,fJ]
 have t3:w.cell? ⟨tb,3,none⟩=some (.slice (some ⟨sY,sV,none⟩) 2 pc):=by simp [World.cell?,fJ,za]
 have fg:=hp.room
 have fw:=hp.ok
 have si:=hp.ty
 have CT:=ed (fun wz (hz:Below w.heap.size w wz)=>b_ (zM (.app m n)) F (.app m n) ns _ _ wz (ei _) ⟨Rep.below hz (fun _ h=>h) hp.rt,Rep.below hz (fun _ h=>h) hp.rl,hp.ok,hp.n15,by omega⟩)
 rw [zM] at fg hN
 obtain ⟨a,c,rest,A7,tz,mU,rfl⟩:=wR si
 obtain ⟨la,lc,rfl,_,_⟩:=AtNms.of hp.rl
 have SX:Hid (∀ w',Below w.heap.size w w'->w'.cell? ⟨tb,3,none⟩=some (.slice (some ⟨sY,sV,none⟩) 2 pc)/\w'.cell? ⟨sY,sV,none⟩=some (.pointer (some ⟨i1,0,none⟩))/\w'.cell? ⟨sY,sV+1,none⟩=some (.pointer (some ⟨Bh,0,none⟩))):=by
  show ∀ w',_->_
  intro w' fN
  exact ⟨(fN.cell (e9 w _ t3)).trans t3,(fN.cell lw).trans lA,(fN.cell mL).trans sU⟩
 have C0:=ed (fun wz (hz:Below w.heap.size w wz)=>ih F m ns _ (.pointer (some ⟨i1,0,none⟩)) (.slice la ns.length lc) wz (by omega) ⟨hp.glob.below hz,Rep.below hz (fun _ h=>h) tR,Rep.below hz (fun _ h=>h) hp.rl,fw.1,hp.n15,by omega,A7⟩)
 have C1:=ed (fun wz (hz:Below w.heap.size w wz)=>ih F n ns _ (.pointer (some ⟨Bh,0,none⟩)) (.slice la ns.length lc) wz (by omega) ⟨hp.glob.below hz,Rep.below hz (fun _ h=>h) rH,Rep.below hz (fun _ h=>h) hp.rl,fw.2,hp.n15,by omega,tz⟩)
 have HP:=ed (ef hp fw)
 clear hp fU tS fJ fw hN ih tR lA lw rH sU mL
 go_enter Tryz.func54,Tryz.ntmps54
 go_wp2_with fail
 refine wp_region_noPanic ?_
 refine zB (fun w'=>Below w.heap.size w w') (fun _=>false) (by kernel_rfl) ?_
 have fV:(fun w'=>Below w.heap.size w w') w.drew:=Below.drew (e_ _ _)
 refine tk [0,1,2,3,4,5,6,8,9,10,11,12,13,14] fV ?_
 (intro d hd;simp [tkD] at hd;subst hd;simp only [tks,pQ,pZ,pS])
 iterate 14 (refine ⟨?_,?_,?_⟩;rotate_left;· (intro oi ho;simp at ho;subst ho;refine Or.inl ⟨by rfl,fun w' fB=>?_⟩;obtain ⟨e0,e1,e2⟩:=SX.out w' fB;go_simp;try with_reducible rfl))
 (refine on 7 ?_;intro o ho K' hK;simp at ho;subst ho;go_simp)
 go_at_call 28
 (with_reducible refine (C0.out _ fV).mono ?_)
 rintro en v0 ⟨x0,rfl,fq,aZ,iM⟩
 have nZ:Hid (Below w.heap.size w v0):=fV.trans fq
 have Cx:Hid ((zN ns m=none->x0=.pointer none)/\(∀ k,zN ns m=some k->Rep (fun i=>F i\/w.heap.size<=i) v0 (qZ k) x0)):=⟨aZ,fun k h=>(iM k h).weak fun i h=>by rcases h with h | h;exact .inl h;exact .inr (h)⟩
 have Hq:=ed fq
 clear fq aZ iM
 (refine hK.out _ _ (fun _=>nZ.out) ?_;clear hK K';try simp only [pQ,pN,pZ,pS])
 have A8:=nZ.out
 (refine on 15 ?_;intro o ho K' hK;simp at ho;subst ho;go_simp)
 go_at_call 28
 (with_reducible refine (C1.out _ nZ.out).mono ?_)
 rintro en v1 ⟨x1,rfl,fP,mZ,fo⟩
 have fI:Hid (Below w.heap.size w v1):=zzT nZ.out fP
 have lx:Hid ((zN ns n=none->x1=.pointer none)/\(∀ k,zN ns n=some k->Rep (fun i=>F i\/w.heap.size<=i) v1 (qZ k) x1)):=⟨mZ,fun k h=>(fo k h).weak fun i h=>by rcases h with h | h;exact .inl h;exact .inr (fQ nZ.out.size h)⟩
 have A_:=ed fP
 clear fP mZ fo
 (refine hK.out _ _ (fun _=>fI.out) ?_;clear hK K';try simp only [pQ,pN,pZ,pS])
 have Cj:=fI.out
 refine tk [16,17] Cj ?_
 (intro d hd;simp [tkD] at hd;subst hd;simp only [tks,pQ,pZ,pS])
 iterate 2 (refine ⟨?_,?_,?_⟩;rotate_left;· (intro oi ho;simp at ho;subst ho;refine Or.inl ⟨by rfl,fun w' fB=>?_⟩;go_simp;try with_reducible rfl))
 refine zU (by kernel_rfl) (NoPanic.normal ?_) _
 clear t3 C0 C1
 cases hm:zN ns m with
 | none =>
   obtain rfl:=Cx.out.1 hm
   have HQ:=ed (show kM ns (.app m n)=none by rw [kM,zN,hm];rfl)
   clear hm
   go_wp2_with fail
   go_ret
   exact qD.no HQ.out fI.out
 | some p =>
   have Df:=Rep.below (F':=fun i=>F i\/w.heap.size<=i) A_.out (fun _ h=>h) (Cx.out.2 p hm)
   obtain ⟨pp,rfl⟩:=zi Df
   cases hn:zN ns n with
   | none =>
     obtain rfl:=lx.out.1 hn
     have HQ:=ed (show kM ns (.app m n)=none by rw [kM,zN,hm,hn];rfl)
     clear hm hn Df
     go_wp2_with fail
     go_ret
     exact qD.no HQ.out fI.out
   | some q =>
     have o_:=lx.out.2 q hn
     obtain ⟨qp,rfl⟩:=zi o_
     obtain ⟨f1,w1,s1⟩:=jE m ns a p HP.out.2.1 HP.out.1.n15 A7 hm
     obtain ⟨f2,w2,s2⟩:=jE n ns c q HP.out.2.2 HP.out.1.n15 tz hn
     rw [mU] at f1
     have nF:=pX f2 f1
     have mo:=kg m ns a HP.out.1.n15 A7
     have sO:=kg n ns c HP.out.1.n15 tz
     have te:∀ t∈rest,zV t<=15:=fun t ht=>cL mo t (by rw [mU];simp [ht])
     have EC:rest.length<=100:=by have:=uS mo;rw [mU] at this;simp at this;omega
     have HT:=ed (show kM ns (.app m n)=jp p (zq (kinds ns) c q rest) ((kinds ns).length+rest.length) by
      rw [kM,zN,hm,hn,Option.bind_some,Option.bind_some,A7,Option.bind_some,mU,qL])
     have CK:=ed (kindsOf_any F ns _ v1 (by omega) (Rep.below fI.out (fun _ h=>h) HP.out.1.rl))
     have HA:=ed (ef Df (ef o_ (ef nF (ef sO te))))
     have iY:ns.length<=100:=by omega
     clear hm hn Df o_ f1 f2 w1 w2 s1 s2 mU nF mo sO te A7 tz
     go_wp2_with fail
     (with_reducible refine CK.out.mono ?_)
     rintro en v2 ⟨ka,kc,rfl,fY,mt⟩
     have fL:=ed (zzT fI.out fY)
     have HK2:=ed (ef fY mt)
     have il:=ed (CT.out v2 fL.out)
     clear fY mt CK
     go_wp2_with fail
     (with_reducible refine il.out.mono ?_)
     rintro en v3 ⟨tv3,rfl,fE,Ac,i7⟩
     have tG:=i7 _ si
     obtain ⟨rb,rk,rfl,_,mj,i_⟩:=kZ tG
     have i_:Rep (fun i=>F i\/v2.heap.size<=i) v3 (.sl 33 1 rest.length (jN rest)) rk:=i_
     have q0:v3.cell? ⟨rb,0,none⟩=some rk:=by simp [World.cell?,mj]
     obtain ⟨ra,rc,rfl,_,_,_⟩:=zP i_
     have mp:=ed (zzT fL.out fE)
     have z1:=fI.out.size
     have z2:=fL.out.size
     have CA:Hid (Calls Tryz.prog 76 #[.pointer (some ⟨pp,0,none⟩),.pointer (some ⟨qp,0,none⟩),.slice ka ns.length kc,.slice ra rest.length rc] v3 (qD (fun i=>F i\/w.heap.size<=i) v3 (jp p (zq (kinds ns) c q rest) ((kinds ns).length+rest.length)))):=by
      have lG:=zzT HK2.out.1 fE
      have e:ns.length=(kinds ns).length:=(qL ns).symm
      have IR:Rep (fun i=>F i\/w.heap.size<=i) v3 (.sl 33 1 ns.length (jN (kinds ns))) (.slice ka ns.length kc):=(Rep.below fE (fun _ h=>h) HK2.out.2).weak fun i h=>by rcases h with h | h;exact .inl h;exact .inr (by omega)
      have hrr3:Rep (fun i=>F i\/w.heap.size<=i) v3 (.sl 33 1 rest.length (jN rest)) (.slice ra rest.length rc):=i_.weak fun i h=>by rcases h with h | h;exact .inl h;exact .inr (by omega)
      rw [e] at IR ⊢
      exact apply_any _ (kinds ns) rest c p q _ _ _ _ v3 ⟨HP.out.1.glob.below mp.out,HA.out.2.2.1,HA.out.2.2.2.1,by rw [qL];exact iY,EC,HP.out.1.n15,HA.out.2.2.2.2,Rep.below lG (fun _ h=>h) HA.out.1,Rep.below lG (fun _ h=>h) HA.out.2.1,IR,hrr3⟩
     clear tG mj i_ Ac i7 fE il
     go_wp2_with fail
     (with_reducible refine CA.out.mono ?_)
     rintro en v4 ⟨bv,rfl,fx,hn4,hy4⟩
     have sQ:=ed (ef (zzT mp.out fx) (ef hn4 hy4))
     have z3:=mp.out.size
     clear fx hn4 hy4
     go_wp2_with fail
     go_ret
     rw [HT.out]
     exact ⟨bv,rfl,sQ.out.1,sQ.out.2.1,fun b h=>(sQ.out.2.2 b h).weak fun i h=>by rcases h with h | h;exact h;exact .inr (by omega)⟩
set_option maxRecDepth 100000 in
theorem meant_ite (N:Nat) (ih:yh N) (F:Nat->Prop) (l m n:Tm) (ns:List Nm) (kt:Ty) (tv lv:Value) (w:World) (hN:zM (.ite l m n)<=N+1) (hp:ex F (.ite l m n) ns kt tv lv w):Calls Tryz.prog 54 #[tv,lv] w (qD F w (kM ns (.ite l m n))):=by
 obtain ⟨tb,kv,slv,rfl,_,fJ,_,_,tS⟩:=jF hp.rt
 obtain ⟨pa,pc,rfl,_,_,fU⟩:=zP tS
 simp only [yd,yr,ifW] at fJ
 obtain ⟨sY,sV,Hz,H_,Bu,_,lw,i5,lA,tR⟩:=fU 0 (by simp [za])
 simp only [za,List.map_cons,List.map_nil,List.getElem?_cons_zero,List.getElem?_cons_succ,Option.some.injEq] at i5
 subst i5
 obtain ⟨i1,e0⟩:=qC tR
 subst e0
 subst Bu
 obtain ⟨fT,fS,pu1,iE,tp,_,mL,sJ,sU,rH⟩:=fU 1 (by simp [za])
 simp only [za,List.map_cons,List.map_nil,List.getElem?_cons_zero,List.getElem?_cons_succ,Option.some.injEq] at sJ
 subst sJ
 obtain ⟨Bh,e1⟩:=qC rH
 subst e1
 simp only [Option.some.injEq,Addr.mk.injEq,and_true] at tp
 obtain ⟨rfl,rfl⟩:=tp
 obtain ⟨Fs,Fq,pu2,iD,tw,_,i2,tx,tg,sf⟩:=fU 2 (by simp [za])
 simp only [za,List.map_cons,List.map_nil,List.getElem?_cons_zero,List.getElem?_cons_succ,Option.some.injEq] at tx
 subst tx
 obtain ⟨Hu,e2⟩:=qC sf
 subst e2
 simp only [Option.some.injEq,Addr.mk.injEq,and_true] at tw
 obtain ⟨rfl,rfl⟩:=tw
 have t0:w.cell? ⟨tb,0,none⟩=some (str [105,102]):=by simp [World.cell?,fJ]
 have t3:w.cell? ⟨tb,3,none⟩=some (.slice (some ⟨sY,sV,none⟩) 3 pc):=by simp [World.cell?,fJ,za]
 have fg:=hp.room
 have fw:=hp.ok
 have si:=hp.ty
 have CT:=ed (fun wz (hz:Below w.heap.size w wz)=>b_ (zM (.ite l m n)) F (.ite l m n) ns _ _ wz (ei _) ⟨Rep.below hz (fun _ h=>h) hp.rt,Rep.below hz (fun _ h=>h) hp.rl,hp.ok,hp.n15,by omega⟩)
 rw [zM] at fg hN
 obtain ⟨A7,tz,J6⟩:=gj si
 obtain ⟨la,lc,rfl,_,_⟩:=AtNms.of hp.rl
 have SX:Hid (∀ w',Below w.heap.size w w'->w'.cell? ⟨tb,3,none⟩=some (.slice (some ⟨sY,sV,none⟩) 3 pc)/\w'.cell? ⟨sY,sV,none⟩=some (.pointer (some ⟨i1,0,none⟩))/\w'.cell? ⟨sY,sV+1,none⟩=some (.pointer (some ⟨Bh,0,none⟩))/\w'.cell? ⟨sY,sV+2,none⟩=some (.pointer (some ⟨Hu,0,none⟩))):=by
  show ∀ w',_->_
  intro w' fN
  exact ⟨(fN.cell (e9 w _ t3)).trans t3,(fN.cell lw).trans lA,(fN.cell mL).trans sU,(fN.cell i2).trans tg⟩
 have C0:=ed (fun wz (hz:Below w.heap.size w wz)=>ih F l ns _ (.pointer (some ⟨i1,0,none⟩)) (.slice la ns.length lc) wz (by omega) ⟨hp.glob.below hz,Rep.below hz (fun _ h=>h) tR,Rep.below hz (fun _ h=>h) hp.rl,fw.1,hp.n15,by omega,A7⟩)
 have C1:=ed (fun wz (hz:Below w.heap.size w wz)=>ih F m ns _ (.pointer (some ⟨Bh,0,none⟩)) (.slice la ns.length lc) wz (by omega) ⟨hp.glob.below hz,Rep.below hz (fun _ h=>h) rH,Rep.below hz (fun _ h=>h) hp.rl,fw.2.1,hp.n15,by omega,tz⟩)
 have C2:=ed (fun wz (hz:Below w.heap.size w wz)=>ih F n ns _ (.pointer (some ⟨Hu,0,none⟩)) (.slice la ns.length lc) wz (by omega) ⟨hp.glob.below hz,Rep.below hz (fun _ h=>h) sf,Rep.below hz (fun _ h=>h) hp.rl,fw.2.2,hp.n15,by omega,J6⟩)
 have HP:=ed (ef hp fw)
 clear hp fU tS fJ fw hN ih tR lA lw rH sU mL sf tg i2
 go_enter Tryz.func54,Tryz.ntmps54
 go_wp2_with fail
 refine wp_region_noPanic ?_
 refine zB (fun w'=>Below w.heap.size w w') (fun _=>false) (by kernel_rfl) ?_
 have fV:(fun w'=>Below w.heap.size w w') w.drew:=Below.drew (e_ _ _)
 refine tk [0,1,2,3,4,5,6,8,9,10,11,12,13,14,16,17,18,19,20,21,22] fV ?_
 (intro d hd;simp [tkD] at hd;subst hd;simp only [tks,pQ,pZ,pS])
 iterate 21 (refine ⟨?_,?_,?_⟩;rotate_left;· (intro oi ho;simp at ho;subst ho;refine Or.inl ⟨by rfl,fun w' fB=>?_⟩;obtain ⟨e0,e1,e2,e3⟩:=SX.out w' fB;go_simp;try with_reducible rfl))
 (refine on 7 ?_;intro o ho K' hK;simp at ho;subst ho;go_simp)
 go_at_call 28
 (with_reducible refine (C0.out _ fV).mono ?_)
 rintro en v0 ⟨x0,rfl,fq,aZ,iM⟩
 have nZ:Hid (Below w.heap.size w v0):=fV.trans fq
 have Cx:Hid ((zN ns l=none->x0=.pointer none)/\(∀ k,zN ns l=some k->Rep (fun i=>F i\/w.heap.size<=i) v0 (qZ k) x0)):=⟨aZ,fun k h=>(iM k h).weak fun i h=>by rcases h with h | h;exact .inl h;exact .inr (h)⟩
 have Hq:=ed fq
 clear fq aZ iM
 (refine hK.out _ _ (fun _=>nZ.out) ?_;clear hK K';try simp only [pQ,pN,pZ,pS])
 have A8:=nZ.out
 (refine on 15 ?_;intro o ho K' hK;simp at ho;subst ho;go_simp)
 go_at_call 28
 (with_reducible refine (C1.out _ nZ.out).mono ?_)
 rintro en v1 ⟨x1,rfl,fP,mZ,fo⟩
 have fI:Hid (Below w.heap.size w v1):=zzT nZ.out fP
 have lx:Hid ((zN ns m=none->x1=.pointer none)/\(∀ k,zN ns m=some k->Rep (fun i=>F i\/w.heap.size<=i) v1 (qZ k) x1)):=⟨mZ,fun k h=>(fo k h).weak fun i h=>by rcases h with h | h;exact .inl h;exact .inr (fQ nZ.out.size h)⟩
 have A_:=ed fP
 clear fP mZ fo
 (refine hK.out _ _ (fun _=>fI.out) ?_;clear hK K';try simp only [pQ,pN,pZ,pS])
 have Cj:=fI.out
 (refine on 23 ?_;intro o ho K' hK;simp at ho;subst ho;go_simp)
 go_at_call 28
 (with_reducible refine (C2.out _ fI.out).mono ?_)
 rintro en v2 ⟨x2,rfl,fY,sZ,tW⟩
 have fL:Hid (Below w.heap.size w v2):=zzT fI.out fY
 have ET:Hid ((zN ns n=none->x2=.pointer none)/\(∀ k,zN ns n=some k->Rep (fun i=>F i\/w.heap.size<=i) v2 (qZ k) x2)):=⟨sZ,fun k h=>(tW k h).weak fun i h=>by rcases h with h | h;exact .inl h;exact .inr (fQ fI.out.size h)⟩
 have KV:=ed fY
 clear fY sZ tW
 (refine hK.out _ _ (fun _=>fL.out) ?_;clear hK K';try simp only [pQ,pN,pZ,pS])
 have Gm:=fL.out
 refine tk [24,25,26] Gm ?_
 (intro d hd;simp [tkD] at hd;subst hd;simp only [tks,pQ,pZ,pS])
 iterate 3 (refine ⟨?_,?_,?_⟩;rotate_left;· (intro oi ho;simp at ho;subst ho;refine Or.inl ⟨by rfl,fun w' fB=>?_⟩;go_simp;try with_reducible rfl))
 refine zU (by kernel_rfl) (NoPanic.normal ?_) _
 clear t3 C0 C1 C2
 cases hl:zN ns l with
 | none =>
   obtain rfl:=Cx.out.1 hl
   have HQ:=ed (show kM ns (.ite l m n)=none by rw [kM,hl];rfl)
   clear hl
   go_wp2_with fail
   go_ret
   exact qD.no HQ.out fL.out
 | some p =>
   have Df:=Rep.below (F':=fun i=>F i\/w.heap.size<=i) KV.out (fun _ h=>h) (Rep.below (F':=fun i=>F i\/w.heap.size<=i) A_.out (fun _ h=>h) (Cx.out.2 p hl))
   obtain ⟨pp,rfl⟩:=zi Df
   cases hm:zN ns m with
   | none =>
     obtain rfl:=lx.out.1 hm
     have HQ:=ed (show kM ns (.ite l m n)=none by rw [kM,hl,hm];rfl)
     clear hl hm Df
     go_wp2_with fail
     go_ret
     exact qD.no HQ.out fL.out
   | some q =>
     have o_:=Rep.below (F':=fun i=>F i\/w.heap.size<=i) KV.out (fun _ h=>h) (lx.out.2 q hm)
     obtain ⟨qp,rfl⟩:=zi o_
     cases hn:zN ns n with
     | none =>
       obtain rfl:=ET.out.1 hn
       have HQ:=ed (show kM ns (.ite l m n)=none by rw [kM,hl,hm,hn];rfl)
       clear hl hm hn Df o_
       go_wp2_with fail
       go_ret
       exact qD.no HQ.out fL.out
     | some r =>
       have i_:=ET.out.2 r hn
       obtain ⟨rp,rfl⟩:=zi i_
       obtain ⟨f1,w1,s1⟩:=jE l ns _ p HP.out.2.1 HP.out.1.n15 A7 hl
       have B0:=kg m ns kt HP.out.1.n15 tz
       have aJ:=uS B0
       have rC:lvB p:=fit_lv 200 p (kinds ns++(Ty.mk []).args) s1 f1 (fun t ht=>by
        rcases List.mem_append.1 ht with ht | ht
        ·exact HP.out.1.n15 t ht
        ·simp [Ty.args] at ht) (by rw [List.length_append,qL];simp [Ty.args];omega)
       have HT:=ed (show kM ns (.ite l m n)=some (qK (kV p ns.length kt.args.length) q r) by
        rw [kM,hl,hm,hn,Option.bind_some,Option.bind_some,Option.bind_some,tz,Option.bind_some])
       have il:=ed (CT.out v2 fL.out)
       have HA:=ed (ef Df (ef o_ (ef i_ (ef rC (ef s1 w1)))))
       have iY:ns.length<=100:=by omega
       clear hl hm hn Df o_ i_ f1 w1 s1 B0 A7 tz J6 rC
       go_wp2_with fail
       (with_reducible refine il.out.mono ?_)
       rintro en v3 ⟨tv3,rfl,fE,Ac,i7⟩
       have tG:=i7 _ si
       obtain ⟨rb,rk,rfl,_,mj,i_⟩:=kZ tG
       have q0:v3.cell? ⟨rb,0,none⟩=some rk:=by simp [World.cell?,mj]
       obtain ⟨ra,rc,rfl,_,_,_⟩:=zP i_
       have mp:=ed (zzT fL.out fE)
       have z2:=fL.out.size
       have CR:=ed (raised_any (zW p) (fun i=>F i\/w.heap.size<=i) p ns.length kt.args.length _ v3 (ei _) (by have:=HA.out.2.2.2.2.1;omega) HA.out.2.2.2.1 (by omega) (by omega) (Rep.below fE (fun _ h=>h) HA.out.1))
       have HQ3:=ed (ef (Rep.below (F':=fun i=>F i\/w.heap.size<=i) fE (fun _ h=>h) HA.out.2.1) (Rep.below (F':=fun i=>F i\/w.heap.size<=i) fE (fun _ h=>h) HA.out.2.2.1))
       clear tG mj i_ Ac i7 fE il
       go_wp2_with fail
       (with_reducible refine CR.out.mono ?_)
       rintro en v4 ⟨sp,rfl,fx,im⟩
       have z3:=mp.out.size
       have sQ:=ed (zzT mp.out fx)
       have IT:Rep (fun i=>F i\/w.heap.size<=i) v4 (qZ (kV p ns.length kt.args.length)) (.pointer (some ⟨sp,0,none⟩)):=im.weak fun i h=>by rcases h with h | h;exact h;exact .inr (by omega)
       have CG:=ed (answered_any _ (fun i=>F i\/w.heap.size<=i) (kV p ns.length kt.args.length) q r _ _ _ v4 (ei _) (xj _ _ _ HA.out.2.2.2.2.2) IT (Rep.below fx (fun _ h=>h) HQ3.out.1) (Rep.below fx (fun _ h=>h) HQ3.out.2))
       clear im IT fx q0 CR
       go_wp2_with fail
       (with_reducible refine CG.out.mono ?_)
       rintro en v5 ⟨gp,rfl,fv,oK⟩
       have z4:=sQ.out.size
       have r7:=ed (ef (zzT sQ.out fv) oK)
       clear fv oK
       go_wp2_with fail
       go_ret
       exact qD.yes HT.out r7.out.1 (r7.out.2.weak fun i h=>by rcases h with h | h;exact h;exact .inr (by omega))
theorem meant_step (N:Nat) (ih:yh N):cw (N+1):=by
 intro F t ns k tv lv w h hp
 cases t with
 | nm x=>exact meant_nm F x ns k tv lv w hp
 | wd u=>exact meant_wd F u ns k tv lv w hp
 | lam x k1 t=>exact meant_lam N ih F x k1 t ns k tv lv w h hp
 | app m n=>exact meant_app N ih F m n ns k tv lv w h hp
 | ite l m n=>exact meant_ite N ih F l m n ns k tv lv w h hp
theorem meant_any (N:Nat):cw N:=by
 induction N with
 | zero=>exact fun F t ns k tv lv w h=>by have:=dg t;omega
 | succ N ih=>exact meant_step N (dn N ih)
theorem means_any (N:Nat):yh N:=dn N (meant_any N)
def MofPost (w:World) (o:Option (Ty×Bd)) (en:Ending) (w':World):Prop :=
 ∃ kv bv,en=.returned (.tuple #[kv,bv])/\Below w.heap.size w w'/\(o=none->bv=.pointer none)/\∀ x,o=some x->Rep (w.heap.size<=·) w' (jG x.1) kv/\Rep (w.heap.size<=·) w' (qZ x.2) bv
theorem nil_names (F:Nat->Prop) (w:World):Rep F w (.sl 99 2 ([]:List Nm).length (jM [])) (.slice none 0 0) :=
 zp.2 ⟨rfl,none,0,rfl,ei _,fun _=>rfl,.inl rfl⟩
theorem xR (s:Bs) (w:World) (he:uh w) (hs:Lim s.length) :
 Calls Tryz.prog 14 #[str s] w (MofPost w (kq s)):=by
 have C0:=ed (readTerm_any s w hs)
 have HE:=ed he
 clear he hs
 go_enter Tryz.func14,Tryz.ntmps14
 go_wp2_with fail
 (with_reducible refine C0.out.mono ?_)
 rintro en w1 ⟨v,rfl,fP,mZ,fo⟩
 cases ht:qE s with
 | none =>
   obtain rfl:=mZ ht
   have HM:=ed (show kq s=none by unfold kq;rw [ht];rfl)
   have HB:=ed fP
   clear ht mZ fo fP
   go_wp2_with fail
   go_ret2
   exact ⟨_,_,rfl,HB.out,fun _=>rfl,fun x h=>by rw [HM.out] at h;simp at h⟩
 | some t =>
   have hr:=fo t ht
   obtain ⟨tb,rfl⟩:=qC hr
   obtain ⟨_,fw,lu⟩:=vH ht
   have CT:=ed (b_ (zM t) (w.heap.size<=·) t [] _ _ w1 (ei _) ⟨hr,nil_names _ _,fw,by simp [kinds],by simp;omega⟩)
   have HT:=ed (ef hr (ef fw lu))
   have HB:=ed fP
   have HM:=ed (show kq s=(typeOf [] t).bind fun k=>(zN [] t).map fun b=>(k,b) by unfold kq;rw [ht];rfl)
   clear ht mZ fo fP hr fw lu
   go_wp2_with fail
   (with_reducible refine CT.out.mono ?_)
   rintro en w2 ⟨kv,rfl,fY,sZ,tW⟩
   have fL:=ed (zzT HB.out fY)
   cases hk:typeOf [] t with
   | none =>
     obtain rfl:=sZ hk
     have HM2:=ed (show kq s=none by rw [HM.out,hk];rfl)
     clear hk sZ tW fY
     go_wp2_with fail
     go_ret2
     exact ⟨_,_,rfl,fL.out,fun _=>rfl,fun x h=>by rw [HM2.out] at h;simp at h⟩
   | some k =>
     have mD:Rep (w.heap.size<=·) w2 (jG k) kv:=(tW k hk).weak fun i h=>by rcases h with h | h;exact h;exact fQ HB.out.size h
     obtain ⟨kb,_,e,_⟩:=kZ mD
     subst e
     have CM:=ed (means_any (zM t) (w.heap.size<=·) t [] k _ _ w2 (ei _) ⟨HE.out.below fL.out,Rep.below fY (fun _ h=>h) HT.out.1,nil_names _ _,HT.out.2.1,by simp [kinds],by have:=HT.out.2.2;simp;omega,hk⟩)
     have HK:=ed mD
     have HM2:=ed (show kq s=(zN [] t).map fun b=>(k,b) by rw [HM.out,hk];rfl)
     clear hk sZ tW fY mD
     go_wp2_with fail
     (with_reducible refine CM.out.mono ?_)
     rintro en w3 ⟨bv,rfl,fE,Ac,i7⟩
     have mp:=ed (ef (zzT fL.out fE) (ef (Rep.below (F':=(w.heap.size<=·)) fE (fun _ h=>h) HK.out) (ef Ac i7)))
     have z2:=fL.out.size
     clear fE Ac i7
     go_wp2_with fail
     go_ret2
     refine ⟨_,_,rfl,mp.out.1,fun h=>?_,fun x h=>?_⟩
     ·rw [HM2.out,Option.map_eq_none_iff] at h
      exact mp.out.2.2.1 h
     ·rw [HM2.out,Option.map_eq_some_iff] at h
      obtain ⟨b,hb,rfl⟩:=h
      exact ⟨mp.out.2.1,(mp.out.2.2.2 b hb).weak fun i h=>by rcases h with h | h;exact h;exact fQ z2 h⟩
def wE (s:Bs):Option Bs:=(kq s).map fun x=>kJ x.2
theorem yF (s:Bs) (w:World) (hg:b8 w) (he:uh w) (hs:Lim s.length) :
 Calls Tryz.prog 6 #[str s] w fun en w'=>en=.returned (.tuple #[str ((wE s).getD []),.bool (wE s).isSome])/\Below w.heap.size w w':=by
 have C0:=ed (xR s w he hs)
 have HG:=ed hg
 clear hg he hs
 go_enter Tryz.func6,Tryz.ntmps6
 go_wp2_with fail
 (with_reducible refine C0.out.mono ?_)
 rintro en w1 ⟨kv,bv,rfl,fP,mZ,fo⟩
 cases hq:kq s with
 | none =>
   obtain rfl:=mZ hq
   have HM:=ed (show wE s=none by unfold wE;rw [hq];rfl)
   have HB:=ed fP
   clear hq mZ fo fP
   go_wp2_with fail
   go_ret2
   exact ⟨by rw [HM.out];rfl,HB.out⟩
 | some x =>
   obtain ⟨k,b⟩:=x
   obtain ⟨rk,rb⟩:=fo _ hq
   obtain ⟨_,B4⟩:=vp hq
   obtain ⟨bb,rfl⟩:=zi rb
   have CT:=ed (dA (zW b) b (ei _) (by have:=B4.size;omega) B4.lv _ w1 _ (HG.out.below fP) rb)
   have HM:=ed (show wE s=some (kJ b) by unfold wE;rw [hq];rfl)
   have HB:=ed fP
   clear hq mZ fo fP rk rb B4
   go_wp2_with fail
   (with_reducible refine CT.out.mono ?_)
   rintro en w2 ⟨rfl,fY⟩
   have fL:=ed (zzT HB.out fY)
   clear fY
   go_wp2_with fail
   go_ret2
   exact ⟨by rw [HM.out];rfl,fL.out⟩
def vl (a b:Bs):Bool:=match kq a,kq b with
 | some x,some y=>(zF x.1 == zF y.1) && (kJ x.2 == kJ y.2)
 | _,_=>false
set_option maxRecDepth 20000 in
theorem uv (a b:Bs) (w:World) (hg:b8 w) (he:uh w) (ha:Lim a.length) (hb:Lim b.length) :
 Calls Tryz.prog 10 #[str a,str b] w fun en w'=>en=.returned (.bool (vl a b))/\Below w.heap.size w w':=by
 have C0:=ed (xR a w he ha)
 have C1:=ed (fun wz (h:Below w.heap.size w wz)=>xR b wz (he.below h) hb)
 have HG:=ed hg
 clear hg he ha hb
 go_enter Tryz.func10,Tryz.ntmps10
 go_wp2_with fail
 (with_reducible refine C0.out.mono ?_)
 rintro en w1 ⟨kv,bv,rfl,fP,mZ,fo⟩
 have CB:=ed (C1.out w1 fP)
 have fI:=ed fP
 have lx:=ed (ef mZ fo)
 clear fP mZ fo C0 C1
 go_wp2_with fail
 (with_reducible refine CB.out.mono ?_)
 rintro en w2 ⟨lv,yv,rfl,fY,sZ,tW⟩
 have fL:=ed (zzT fI.out fY)
 cases hm:kq a with
 | none =>
   obtain rfl:=lx.out.1 hm
   have HM:=ed (show vl a b=false by unfold vl;rw [hm])
   clear fY sZ tW hm CB
   go_wp2_with fail
   go_ret
   exact ⟨by rw [HM.out];rfl,fL.out⟩
 | some x =>
 cases hl:kq b with
 | none =>
   obtain rfl:=sZ hl
   have EA:=(lx.out.2 x hm).2
   obtain ⟨xb,rfl⟩:=zi EA
   have HM:=ed (show vl a b=false by unfold vl;rw [hm,hl])
   clear fY sZ tW hm hl CB EA
   go_wp2_with fail
   go_ret
   exact ⟨by rw [HM.out];rfl,fL.out⟩
 | some y =>
 obtain ⟨ka,ba⟩:=x
 obtain ⟨kb,bb⟩:=y
 obtain ⟨rka,rba⟩:=lx.out.2 _ hm
 obtain ⟨rkb,rbb⟩:=tW _ hl
 obtain ⟨_,ga⟩:=vp hm
 obtain ⟨_,gb⟩:=vp hl
 have Hw:=Rep.below (F':=(w.heap.size<=·)) fY (fun _ h=>h) rka
 have E6:=Rep.below (F':=(w.heap.size<=·)) fY (fun _ h=>h) rba
 have Hv:Rep (w.heap.size<=·) w2 (jG kb) lv:=rkb.weak fun i h=>fQ fI.out.size h
 have E5:Rep (w.heap.size<=·) w2 (qZ bb) yv:=rbb.weak fun i h=>fQ fI.out.size h
 have CS:=ed (dd _ ka kb _ _ w2 Hw Hv ga.atoms gb.atoms)
 obtain ⟨xb,rfl⟩:=zi E6
 obtain ⟨yb,rfl⟩:=zi E5
 obtain ⟨ta,r_⟩:=zzN (kJ ba)
 obtain ⟨tb,htb⟩:=zzN (kJ bb)
 obtain ⟨tk,iw⟩:∃ t,(zF ka == zF kb)=t:=⟨_,rfl⟩
 have CA:Hid (∀ wz,Below w2.heap.size w2 wz->Calls Tryz.prog 15 #[.pointer (some ⟨xb,0,none⟩)] wz (fun en w'=>en=.returned (str ta)/\Below wz.heap.size wz w')):=by
  show ∀ _,_
  intro wz hz
  have h:=dA (zW ba) ba (ei _) (by have:=ga.size;omega) ga.lv _ wz _ (HG.out.below (zzT fL.out hz)) (Rep.below (F':=(w.heap.size<=·)) hz (fun _ h=>h) E6)
  rw [r_] at h;exact h
 have CC:Hid (∀ wz,Below w2.heap.size w2 wz->Calls Tryz.prog 15 #[.pointer (some ⟨yb,0,none⟩)] wz (fun en w'=>en=.returned (str tb)/\Below wz.heap.size wz w')):=by
  show ∀ _,_
  intro wz hz
  have h:=dA (zW bb) bb (ei _) (by have:=gb.size;omega) gb.lv _ wz _ (HG.out.below (zzT fL.out hz)) (Rep.below (F':=(w.heap.size<=·)) hz (fun _ h=>h) E5)
  rw [htb] at h;exact h
 have HM:=ed (show vl a b=(tk && (ta == tb)) by unfold vl;rw [hm,hl];simp only;rw [r_,htb,iw])
 rw [iw] at CS
 clear fY sZ tW hm hl CB rka rba rkb rbb ga gb Hw E6 Hv E5 r_ htb iw lx
 go_wp2_with fail
 (with_reducible refine CS.out.mono ?_)
 rintro en w3 ⟨rfl,fE⟩
 have mp:=ed (zzT fL.out fE)
 have HZ3:=ed fE
 clear fE CS
 cases tk with
 | false =>
   go_wp2_with fail
   go_ret
   exact ⟨by rw [HM.out];rfl,mp.out⟩
 | true =>
   go_wp2_with fail
   (with_reducible refine (CA.out w3 HZ3.out).mono ?_)
   rintro en w4 ⟨rfl,fx⟩
   have HZ4:=ed (zzT HZ3.out fx)
   clear fx
   go_wp2_with fail
   (with_reducible refine (CC.out w4 HZ4.out).mono ?_)
   rintro en w5 ⟨rfl,fv⟩
   have r7:=ed (fL.out.trans ((zzT HZ4.out fv).mono fL.out.size))
   clear fv
   cases ht:ta == tb with
   | false =>
     have HT:=ed ht
     go_wp2_with fail
     go_ret
     exact ⟨by rw [HM.out,HT.out];rfl,r7.out⟩
   | true =>
     have HT:=ed ht
     go_wp2_with fail
     go_ret
     exact ⟨by rw [HM.out,HT.out];rfl,r7.out⟩

end Go.Proofs.YtjggkhmojjaomaaGreatDoor

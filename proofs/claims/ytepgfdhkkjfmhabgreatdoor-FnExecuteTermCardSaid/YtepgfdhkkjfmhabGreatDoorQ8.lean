/- Walks of functions that the statement reaches, and plain words. No conditions. -/
import Derived.Test.YtepgfdhkkjfmhabGreatDoorQ7
set_option linter.unusedVariables false
set_option linter.unusedSimpArgs false
set_option maxHeartbeats 8000000
namespace Go.Proofs.YtepgfdhkkjfmhabGreatDoor
open Go.RowKit
def yU (w:World) (t:Tr) (en:Ending) (w':World):Prop :=
 ∃ (s:Bs) (a:Option Addr) (n c:Nat),en=.returned (.agg #[str s,.slice a n c])/\Below w.heap.size w w'/\zC (w.heap.size<=·) w' (zm t) [str s,.slice a n c]
theorem oneTr {F:Nat->Prop} {w:World}:∀ (ts:List Tr) (us:List Value),zC F w (ze ts) us->∀ u∈us,u.oneCell'=true
 | [],us,h,u,hu=>by rw [ze,zM] at h;subst h;simp at hu
 | t::ts,us,h,u,hu=>by
   rw [ze] at h
   obtain ⟨h1,h2⟩:=h.split
   obtain ⟨a,c,e,_⟩:=jo h1
   rw [<- List.take_append_drop (zm t).length us,List.mem_append,e] at hu
   rcases hu with hu | hu
   ·simp only [List.mem_cons,List.not_mem_nil,or_false] at hu
    rcases hu with rfl | rfl <;> simp [str,Value.oneCell']
   ·exact oneTr ts _ h2 u hu
set_option maxRecDepth 100000 in
theorem uD (F:Nat->Prop) (h:Bs) (ts:List Tr) (pv:Value) (w:World) (hF:∀ b,w.heap.size<=b->F b) (hr:Rep F w (.sl 57 2 ts.length (ze ts)) pv) (hl:ts.length<=1000) :
 Calls Tryz.prog 47 #[str h,pv] w fun en w'=>∃ (a:Option Addr) (n c:Nat),en=.returned (.agg #[str [],.slice a n c])/\Below w.heap.size w w'/\zC F w' (zm (.ls (.am h::ts))) [str [],.slice a n c]:=by
 obtain ⟨news,bw,be⟩:=zp.ofRep hr (oneTr ts)
 have b0:kB w.heap.size [] (.slice none 0 0) (w.alloc (.cells #[str [],.slice none 0 0] 57)):=zO _ _
 have H1:=g_ be;have H2:=g_ bw
 have HR:=g_ b0
 clear be bw hr b0
 go_enter Tryz.func47,Tryz.ntmps47
 go_wp2_with (at_builtin;refine zu rfl _ _ 55 rfl 57 (.agg #[str [],.slice none 0 0]) 2 40 Tryz.underlying55 Tryz.infoTr rfl (by decide) _ 1 [str h,.slice none 0 0] rfl ?c1 _ ts.length news rfl ?c2 ?c3 ?c4 ?_)
 case c1=>exact Own.litAt #[str h,.slice none 0 0] 1 _ (by simp) (by decide) rfl
 case c2=>exact (H1.out.keep fun _ _ h=>zK (zK h))
 case c3=>unfold maxLen;omega
 case c4=>omega
 intro a' c' w' ho hb hg
 have bU:Below (w.heap.size+1) ((w.alloc (.cells #[str [],.slice none 0 0] 57)).alloc (.cells #[str h,.slice none 0 0] 57)) w':=hb.toBelow (by simp) (fun i hi e=>by simp [Value.ownBlock] at e;omega)
 have bo:kB w.heap.size [] (.slice none 0 0) w':=by
  unfold kB;rw [bU.block _ (by omega)];exact zH HR.out
 obtain ⟨r0,r1,rl,rf⟩:=bo.cells
 have dH:=rf 0;have dx:=rf 1
 have HX:=g_ (hU ho (hU hg (hU bU bo)))
 clear ho hg hb bU rf bo
 go_wp2
 obtain ⟨W,hW,s0,s1,bE,bg⟩:=HX.out.2.2.2.store (.string ⟨#[]⟩) (.slice a' (1+ts.length) c')
 rw [<- hW]
 refine bodyPost_ret (v:=.agg #[str [],.slice a' (1+ts.length) c']) (by simp [results,Tryz.results47,go_sem,s0,s1]) rfl ?_
 have cA:Below w.heap.size w w':=(((bZ w.heap.size w).alloc (hG _) _).alloc (by simp) _).trans (HX.out.2.2.1.mono (by omega))
 refine ⟨a',_,c',rfl,bE _ _ cA (hG _),?_⟩
 rw [zm]
 refine zJ.2 ⟨_,_,rfl,zj.2 rfl,zJ.2 ⟨_,_,rfl,?_,zM.2 rfl⟩⟩
 rw [show (Tr.am h::ts).length=1+ts.length from by simp;omega]
 have r_:∀ g,(Value.slice a' (1+ts.length) c').ownBlock=some g->w.heap.size+1<=g:=fun g hg=>by
  rcases HX.out.2.1 g hg with e | e
  ·simp [Value.ownBlock] at e;omega
  ·subst e;simp
 refine (HX.out.1.keep fun g o hg ho=>bg g o (by have:=r_ g hg;omega) ho).rep (fun g hg=>hF g (by have:=r_ g hg;omega)) ?_
 have e1:ze (.am h::ts)=[.val (str h),.sl 57 2 0 []]++ze ts:=by rw [ze,zm]
 rw [e1]
 refine zC.append (zJ.2 ⟨_,_,rfl,zj.2 rfl,zJ.2 ⟨_,_,rfl,kD.2 ⟨rfl,none,0,rfl,hG _,fun _=>rfl,.inl rfl⟩,zM.2 rfl⟩⟩) ?_
 exact (Rep.keep fun x o hx ho=>⟨hx,bg x o (by have:=zZ ho;omega) (by rw [cA.block x (zZ ho)];exact ho)⟩).2 _ _ H2.out
theorem row2 {F:Nat->Prop} {w:World} {t u:Tr} {s1 s2 v1 v2:Value} (h1:zC F w (zm t) [s1,v1]) (h2:zC F w (zm u) [s2,v2]) (hB:F w.heap.size) (fr:Nat×Nat) :
 Rep F (w.alloc (.cells #[s1,v1,s2,v2] 57 fr)) (.sl 57 2 2 (ze [t,u])) (.slice (some ⟨w.heap.size,0,none⟩) 2 2):=by
 refine kD.2 ⟨by rw [vi];rfl,_,_,rfl,hG _,(fun h=>by simp at h),.inr ⟨_,0,_,_,rfl,hB,zO _ _,?_⟩⟩
 have e:ze [t,u]=zm t++zm u:=by rw [ze,ze,ze,List.append_nil]
 rw [e]
 exact zC.append (vs:=[s1,v1]) (us:=[s2,v2]) ((Rep.keep fun x o hx ho=>⟨hx,zH ho⟩).2 _ _ h1) ((Rep.keep fun x o hx ho=>⟨hx,zH ho⟩).2 _ _ h2)
theorem row3 {F:Nat->Prop} {w:World} {t u r:Tr} {s1 s2 s3 v1 v2 v3:Value} (h1:zC F w (zm t) [s1,v1]) (h2:zC F w (zm u) [s2,v2]) (h3:zC F w (zm r) [s3,v3]) (hB:F w.heap.size) (fr:Nat×Nat) :
 Rep F (w.alloc (.cells #[s1,v1,s2,v2,s3,v3] 57 fr)) (.sl 57 2 3 (ze [t,u,r])) (.slice (some ⟨w.heap.size,0,none⟩) 3 3):=by
 refine kD.2 ⟨by rw [vi];rfl,_,_,rfl,hG _,(fun h=>by simp at h),.inr ⟨_,0,_,_,rfl,hB,zO _ _,?_⟩⟩
 have e:ze [t,u,r]=zm t++(zm u++zm r):=by rw [ze,ze,ze,ze,List.append_nil]
 rw [e]
 exact zC.append (vs:=[s1,v1]) (us:=[s2,v2,s3,v3]) ((Rep.keep fun x o hx ho=>⟨hx,zH ho⟩).2 _ _ h1) (zC.append (vs:=[s2,v2]) (us:=[s3,v3]) ((Rep.keep fun x o hx ho=>⟨hx,zH ho⟩).2 _ _ h2) ((Rep.keep fun x o hx ho=>⟨hx,zH ho⟩).2 _ _ h3))
set_option maxRecDepth 100000 in
theorem wm (v:Nat) (hv:v<100000) (w:World):Calls Tryz.prog 48 #[.int .i64 (v:Nat)] w (yU w (.am (ku v))):=by
 have hl:=qN 4 v (bJ hv (by decide))
 obtain ⟨O,hO⟩:∃ O:Bs,O=[120]++dec v:=⟨_,rfl⟩
 have s1:=fun w0=>zN (P:=Tryz.prog) [120] (dec v) (by simp;omega) w0
 rw [<- hO] at s1
 have HO:=g_ (show ku v=O by rw [hO];rfl)
 clear hO hl
 have C:=g_ (fun wz=>l6Dec_any v (by omega) wz)
 generalize dec v=D at *
 have b0:kB w.heap.size [] (.slice none 0 0) (w.alloc (.cells #[str [],.slice none 0 0] 57)):=zO _ _
 have HR:=g_ b0;clear b0
 go_enter Tryz.func48,Tryz.ntmps48
 go_wp2_with fail
 (with_reducible refine (C.out _).mono ?_)
 rintro en w1 ⟨rfl,bU⟩
 have bo:=HR.out.below bU (by simp)
 obtain ⟨r0,r1,rl,rf⟩:=bo.cells
 have dH:=rf 0;have dx:=rf 1
 have HX:=g_ (hU bo bU)
 clear rf bo bU
 go_wp2_with fail
 obtain ⟨W,hW,s0,s2,bE,bg⟩:=HX.out.1.store (str O) (.slice none 0 0)
 rw [<- hW]
 refine bodyPost_ret (v:=.agg #[str O,.slice none 0 0]) (by simp [results,Tryz.results48,go_sem,s0,s2]) rfl ?_
 rw [HO.out]
 refine ⟨O,_,_,_,rfl,bE _ _ (((bZ w.heap.size w).alloc (hG _) _).trans (HX.out.2.mono (by simp))) (hG _),?_⟩
 rw [zm]
 exact zJ.2 ⟨_,_,rfl,zj.2 rfl,zJ.2 ⟨_,_,rfl,kD.2 ⟨rfl,none,0,rfl,hG _,fun _=>rfl,.inl rfl⟩,zM.2 rfl⟩⟩
structure yq (F:Nat->Prop) (ob:Nat) (t:Tr) (s:Bs) (a:Option Addr) (n c:Nat) (w:World):Prop where
 box:kB ob s (.slice a n c) w
 rep:zC F w (zm t) [str s,.slice a n c]
theorem trTs_args (t:Ty):trT t=trT.trTs t.args:=by cases t;rw [trT];rfl
def uL (t:Ty):Prop:=∀ (F:Nat->Prop) (w:World) (v:Value),Rep F w (j0 t) v->Calls Tryz.prog 49 #[.agg #[v]] w (yU w (trT t))
set_option maxRecDepth 100000 in
theorem typeTree_step (t:Ty) (dL:zX t<=15) (ih:∀ a,zX a<zX t->uL a):uL t:=by
 intro F w v hv
 have bP:t.args.length<=15:=by
  have h2:=kw t
  have:=kF t.args;omega
 obtain ⟨ta,tc,rfl⟩:=zt hv
 have mw:=hv
 rw [qA] at mw
 obtain ⟨_,_,est,_,_,cG⟩:=zF mw
 simp only [Value.slice.injEq] at est
 obtain ⟨rfl,_,rfl⟩:=est
 have IH:=g_ ih;have ATS:=g_ cG
 have HT:=g_ (trTs_args t)
 have b0:kB (w.heap.size+1) [] (.slice none 0 0) ((w.alloc (.cells #[.slice ta t.args.length tc] 35)).alloc (.cells #[str [],.slice none 0 0] 57)):=by
  have:=zO (w.alloc (.cells #[.slice ta t.args.length tc] 35)) (.cells #[str [],.slice none 0 0] 57)
  rw [zQ] at this;exact this
 have HR0:=g_ b0
 clear hv mw cG ih b0
 have iY:∀ a∈t.args,zX a<zX t:=fun a ha=>by
  have h2:=kw t
  have cN:∀ ts:List Ty,∀ a∈ts,1+zX a<=zR ts:=by
   intro ts
   induction ts with
   | nil=>simp
   | cons x xs ih =>
     intro a ha
     rcases List.mem_cons.1 ha with rfl | ha
     ·simp [zR]
     ·have:=ih a ha;simp [zR];omega
  have:=cN t.args a ha;omega
 have HA:=g_ iY;clear iY
 go_enter Tryz.func49,Tryz.ntmps49
 go_wp2_with fail
 have dF:∃ (s:Bs) (a:Option Addr) (n c:Nat),yq (w.heap.size+1+1 < ·) (w.heap.size+1+1) (trT.trTs (t.args.drop t.args.length)) s a n c (((w.alloc (.cells #[.slice ta t.args.length tc] 35)).alloc (.cells #[str [],.slice none 0 0] 57)).alloc (.cells #[str [98],.slice none 0 0] 57)):=by
  refine ⟨[98],none,0,0,?_,?_⟩
  ·have:=zO ((w.alloc (.cells #[.slice ta t.args.length tc] 35)).alloc (.cells #[str [],.slice none 0 0] 57)) (.cells #[str [98],.slice none 0 0] 57)
   rw [zQ,zQ] at this;exact this
  ·rw [List.drop_length,trT.trTs,zm]
   exact zJ.2 ⟨_,_,rfl,zj.2 rfl,zJ.2 ⟨_,_,rfl,kD.2 ⟨rfl,none,0,rfl,hG _,fun _=>rfl,.inl rfl⟩,zM.2 rfl⟩⟩
 go_loopw [4] (fun i wr=>∃ k:Nat,k<=t.args.length/\i=.int .i64 ((k:Int)-1)/\Below w.heap.size w wr/\wr.cell? ⟨w.heap.size,0,none⟩=some (.slice ta t.args.length tc)/\kB (w.heap.size+1) [] (.slice none 0 0) wr/\∃ (s:Bs) (a:Option Addr) (n c:Nat),yq (w.heap.size+1+1 < ·) (w.heap.size+1+1) (trT.trTs (t.args.drop k)) s a n c wr) (fun i _=>(intOf i+1).toNat)
 case atStart=>exact ⟨t.args.length,hG _,rfl,(fun h=>h.alloc h.size _) (((bZ w.heap.size w).alloc (hG _) _).alloc (by simp) _),zK (zK (by simp)),zH HR0.out,dF⟩
 case round =>
  clear dF
  rename_i wr
  obtain ⟨k,hk,rfl,hb,dj,dQ,s0,a0,n0,c0,bR⟩:=hrel
  have lob:=zZ bR.box
  obtain ⟨q0,q1,ql,qf⟩:=bR.box.cells
  obtain ⟨r0,r1,rl,rf⟩:=dQ.cells
  have dH:=rf 0;have dx:=rf 1;clear rf
  cases k with
  | zero =>
    have HO:=g_ (hU bR (hU dQ hb))
    have hz:((0:Nat):Int)-1 = -1:=rfl
    rw [hz]
    clear hz bR dQ hb qf
    go_wp2_with fail
    obtain ⟨W,hW,s1,s2,bE,bg⟩:=HO.out.2.1.store (str s0) (.slice a0 n0 c0)
    rw [<- hW]
    refine bodyPost_ret (v:=.agg #[str s0,.slice a0 n0 c0]) (by simp [results,Tryz.results49,go_sem,s1,s2]) rfl ?_
    refine ⟨s0,a0,n0,c0,rfl,bE _ _ HO.out.2.2 (by omega),?_⟩
    have hr:=HO.out.1.rep
    rw [List.drop_zero,<- HT.out] at hr
    exact (Rep.keep fun b o h ho=>⟨by have:=h;omega,bg b o (by have:=h;omega) ho⟩).2 _ _ hr
  | succ j =>
    have hj:j<t.args.length:=by omega
    rw [show ((j+1:Nat):Int)-1=(j:Int) from by omega]
    obtain ⟨ab,ao,au,ad,e,_,sB,f9,f_,eg⟩:=ATS.out j hj
    subst e
    rw [jh,Option.map_eq_some_iff] at f9
    obtain ⟨x,hx,rfl⟩:=f9
    obtain ⟨xa,xc,rfl⟩:=zt eg
    have hxm:=List.mem_of_getElem? hx
    have q2:=(hb.cell (p:=⟨ab,ao+j,none⟩) sB).trans f_
    have HRX:=Rep.below (F':=F) hb (fun _ h=>h) eg
    have CX:=g_ (IH.out x (HA.out x hxm) F wr.drew _ HRX.drew)
    have bM:trT.trTs (t.args.drop j)=.ls [.am [62],trT x,trT.trTs (t.args.drop (j+1))]:=by
     have bX:=hj
     rw [List.drop_eq_getElem_cons bX]
     have ex:t.args[j]=x:=by rw [List.getElem?_eq_getElem bX] at hx;exact Option.some.inj hx
     rw [ex,trT.trTs]
    have HS:=g_ bM
    have SX:Hid (∀ w',Below wr.heap.size wr w'->w'.cell? ⟨w.heap.size,0,none⟩=some (.slice (some ⟨ab,ao,none⟩) t.args.length tc)/\w'.cell? ⟨ab,ao+j,none⟩=some (.slice xa x.args.length xc)/\w'.cell? ⟨w.heap.size+1+1,0,none⟩=some (str s0)/\w'.cell? ⟨w.heap.size+1+1,1,none⟩=some (.slice a0 n0 c0)):=by
     show ∀ w',_->_
     intro w' bS
     exact ⟨(bS.cell (h_ wr _ dj)).trans dj,(bS.cell (h_ wr _ q2)).trans q2,(bS.cell (h_ wr _ q0)).trans q0,(bS.cell (h_ wr _ q1)).trans q1⟩
    have HO:=g_ (hU bR (hU dQ (hU hb (hU dj lob))))
    have hjI:(j:Int)<(t.args.length:Int):=by omega
    clear bM hx hxm eg f_ HRX bR dQ hb dj qf q0 q1 q2 r0 r1 dH dx rl ql lob
    go_wp2_with fail
    refine wp_region_noPanic ?_
    refine kT (fun w'=>Below wr.heap.size wr w') (fun i=>i == 9) (by kernel_rfl) ?_
    have bq:(fun w'=>Below wr.heap.size wr w') wr.drew:=Below.drew (bZ _ _)
    refine tk [0,1,2,3,4,6] bq ?_
    (intro d hd;simp [tkD] at hd;subst hd;simp only [tks,pQ,pZ,pS])
    iterate 6 (refine ⟨?_,?_,?_⟩;rotate_left;· (intro oi ho;simp at ho;subst ho;refine Or.inl ⟨by rfl,fun w' br=>?_⟩;obtain ⟨e0,e1,e2,e3⟩:=SX.out w' br;go_simp;try with_reducible rfl))
    (refine on 5 ?_;intro o ho K' hK;simp at ho;subst ho;go_simp)
    go_at_call 49
    (with_reducible refine CX.out.mono ?_)
    rintro mU w6 ⟨s6,a6,n6,c6,rfl,bW,dz⟩
    have bi:Hid (Below wr.heap.size wr w6):=bq.trans bW
    have nG:=g_ dz
    clear bW dz
    (refine hK.out _ _ (fun _=>bi.out) ?_;clear hK K';try simp only [pQ,pN,pZ,pS])
    (refine on 7 ?_;intro o ho K' hK;simp at ho;subst ho;go_simp)
    (refine hK.out _ _ (fun _=>bi.out.alloc bi.out.size _) ?_;clear hK K';try simp only [pQ,pN,pZ,pS])
    (refine on 8 ?_;intro o ho K' hK;simp at ho;subst ho)
    have mW:zC (w.heap.size+1+1 < ·) w6 (zm (trT x)) [str s6,.slice a6 n6 c6]:=(Rep.keep fun b o h ho=>⟨by have:=HO.out.2.2.2.2;have h:wr.heap.size<=b:=h;omega,ho⟩).2 _ _ nG.out
    have mP:zC (w.heap.size+1+1 < ·) w6 (zm (trT.trTs (t.args.drop (j+1)))) [str s0,.slice a0 n0 c0]:=(Rep.keep fun b o h ho=>⟨h,by rw [bi.out.block b (zZ ho)];exact ho⟩).2 _ _ HO.out.1.rep
    have z6:=bi.out.size
    have tX:=HO.out.2.2.2.2
    have zw:=HO.out.2.2.1.size
    have CL:=g_ (uD (w.heap.size+1+1 < ·) [62] [trT x,trT.trTs (t.args.drop (j+1))] _ (w6.alloc (.cells #[str s6,.slice a6 n6 c6,str s0,.slice a0 n0 c0] 57 (0,0))) (fun b h=>by rw [zQ] at h;omega) (row2 mW mP (by omega) (0,0)) (by simp))
    clear mW mP
    go_simp
    go_at_call 47
    (with_reducible refine CL.out.mono ?_)
    rintro en8 w8 ⟨a8,n8,c8,rfl,cD,fy⟩
    have ci:Hid (Below wr.heap.size wr w8):=(bi.out.alloc bi.out.size _).trans (cD.mono (bi.out.alloc bi.out.size _).size)
    have sN:=g_ fy
    clear cD fy
    (refine hK.out _ _ (fun _=>ci.out) ?_;clear hK K';try simp only [pQ,pN,pZ,pS])
    (refine on 9 ?_;intro o ho K' hK;simp at ho;subst ho)
    have N8:=HO.out.1.box.below ci.out HO.out.2.2.2.2
    obtain ⟨p0,p1,pl,pf⟩:=N8.cells
    have pf0:=pf 0
    have tY:=pf 1
    clear pf
    have mO:=g_ N8
    clear N8
    go_simp
    (refine hK.out _ _ (fun h=>by simp at h) ?_;clear hK K';try simp only [pQ,pN,pZ,pS])
    refine kL (by kernel_rfl) (NoPanic.normal ?_) _
    go_wp2_with fail
    have hN9:kB (w.heap.size+1+1) [] (.slice a8 n8 c8) ((w8.setCell ⟨w.heap.size+1+1,0,none⟩ (str [])).setCell ⟨w.heap.size+1+1,1,none⟩ (.slice a8 n8 c8)):=by
     unfold kB;rw [zh (zh mO.out)];rfl
    have kp:∀ i x,i≠w.heap.size+1+1->w8.heap[i]? = some x->((w8.setCell ⟨w.heap.size+1+1,0,none⟩ (str [])).setCell ⟨w.heap.size+1+1,1,none⟩ (.slice a8 n8 c8)).heap[i]? = some x:=fun i x hi hx=>by
     rw [bQ _ _ _ _ (by simpa using hi),bQ _ _ _ _ (by simpa using hi)];exact hx
    have cD:=zzT HO.out.2.2.1 ci.out
    refine ⟨⟨j,by omega,rfl,(cD.setCell (p:=⟨w.heap.size+1+1,0,none⟩) (show w.heap.size<=w.heap.size+1+1 by omega) _).setCell (p:=⟨w.heap.size+1+1,1,none⟩) (show w.heap.size<=w.heap.size+1+1 by omega) _,?_,?_,[],a8,n8,c8,hN9,?_⟩,by simp only [intOf];omega⟩
    ·exact vR ((ci.out.cell (h_ wr _ HO.out.2.2.2.1)).trans HO.out.2.2.2.1) fun x hx=>kp w.heap.size x (by omega) hx
    ·exact kp _ _ (by omega) (HO.out.2.1.below ci.out (zZ HO.out.2.1))
    ·rw [HS.out]
     exact (Rep.keep fun b o h ho=>⟨h,kp b o (by have:=h;omega) ho⟩).2 _ _ sN.out
theorem typeTree_any (n:Nat):∀ t,zX t<=n->zX t<=15->uL t:=by
 induction n with
 | zero=>intro t h _;have:=kx t;omega
 | succ n ih=>exact fun t h dL=>typeTree_step t dL (fun a ha=>ih a (by omega) (by omega))
structure y4 (b:Bd) (H:List Ty):Prop where
 fit:qb H b
 wf:wfB b
 small:∀ t∈H,zX t<=15
 room:H.length+15*zD b<=10000
def yN (N:Nat):Prop:=∀ (F:Nat->Prop) (b:Bd) (H:List Ty) (s v k y lv:Value) (w:World),zD b<=N->y4 b H->zC F w (qk b) [s,v,k,y]->Rep F w (.sl 35 1 H.length (qT H)) lv ->
 Calls Tryz.prog 46 #[.agg #[s,v,k,y],lv] w (yU w (zS (tmB H b)))
def wN (N:Nat):Prop:=∀ (F:Nat->Prop) (t:Ty) (b:Bd) (H:List Ty) (s v k y tv lv:Value) (w:World),zD b<=N->y4 b (H++t.args)->zX t<=15->zC F w (qk b) [s,v,k,y]->Rep F w (j0 t) tv->Rep F w (.sl 35 1 H.length (qT H)) lv ->
 Calls Tryz.prog 21 #[.agg #[s,v,k,y],.agg #[tv],lv] w (yU w (zS (tmL H t b)))
theorem lams_step_tr (n:Nat) (ts:List Ty) (b:Tm) {j:Nat} {a:Ty} (h:ts[j]? = some a):zS (qt (n+j) (ts.drop j) b)=.ls [.am qH,.am (ku (n+j)),trT a,zS (qt (n+(j+1)) (ts.drop (j+1)) b)]:=by
 have bX:=(List.getElem?_eq_some_iff.1 h).1
 rw [List.drop_eq_getElem_cons bX]
 have ex:ts[j]=a:=by rw [List.getElem?_eq_getElem bX] at h;exact Option.some.inj h
 rw [ex,qt,zS]
 rfl
theorem fitBs_atS {hand ts:List Ty} {ss:List Bd} (h:kN (zi hand ts) ss) {j:Nat} {a:Ty} {s:Bd} (ha:ts[j]? = some a) (hs:ss[j]? = some s):qb (hand++a.args) s:=by
 obtain ⟨g,h1,h2⟩:=xT _ _ h j s hs
 unfold zi at h1
 rw [List.getElem?_map,ha] at h1
 simp at h1
 subst h1
 exact h2
theorem yq.next {F:Nat->Prop} {ob:Nat} {s0:Bs} {sl0:Value} {w:World} {t:Tr} {s:Bs} {a:Option Addr} {n c:Nat} (hF:∀ b,F b->b≠ob) (hN:kB ob s0 sl0 w) (hr:zC F w (zm t) [str s,.slice a n c]) :
 yq F ob t s a n c ((w.setCell ⟨ob,0,none⟩ (str s)).setCell ⟨ob,1,none⟩ (.slice a n c)):=by
 have kp:∀ i x,i≠ob->w.heap[i]? = some x->((w.setCell ⟨ob,0,none⟩ (str s)).setCell ⟨ob,1,none⟩ (.slice a n c)).heap[i]? = some x:=fun i x hi hx=>by
  rw [bQ _ _ _ _ (by simpa using hi),bQ _ _ _ _ (by simpa using hi)];exact hx
 refine ⟨?_,(Rep.keep fun b o h ho=>⟨h,kp b o (hF b h) ho⟩).2 _ _ hr⟩
 unfold kB;rw [zh (zh hN)];rfl
theorem set2_keep {ob:Nat} {w:World} {u0 u1:Value} {i:Nat} {x:Obj} (hi:i≠ob) (hx:w.heap[i]? = some x):((w.setCell ⟨ob,0,none⟩ u0).setCell ⟨ob,1,none⟩ u1).heap[i]? = some x:=by
 rw [bQ _ _ _ _ (by simpa using hi),bQ _ _ _ _ (by simpa using hi)];exact hx
theorem pr {B ob:Nat} {w0 w:World} {u0 u1:Value} (h:Below B w0 w) (hB:B<=ob):Below B w0 ((w.setCell ⟨ob,0,none⟩ u0).setCell ⟨ob,1,none⟩ u1) :=
 (h.setCell (p:=⟨ob,0,none⟩) hB _).setCell (p:=⟨ob,1,none⟩) hB _
theorem set2_cell {ob:Nat} {w:World} {u0 u1 u:Value} {b o:Nat} (hi:b≠ob) (hx:w.cell? ⟨b,o,none⟩=some u):((w.setCell ⟨ob,0,none⟩ u0).setCell ⟨ob,1,none⟩ u1).cell? ⟨b,o,none⟩=some u:=by
 rw [World.cell?_of_block (w:=w.setCell ⟨ob,0,none⟩ u0) (bQ _ _ _ _ (by simpa using hi)),World.cell?_of_block (w:=w) (bQ _ _ _ _ (by simpa using hi))];exact hx
set_option maxRecDepth 100000 in
theorem gP (N:Nat) (ih:yN N):wN N:=by
 intro F t b H s v k y tv lv w bN hp dL hb tM cT
 have eH:=qE dL
 have cF:=hp.room
 rw [List.length_append] at cF
 obtain ⟨ta,tc,rfl⟩:=zt tM
 obtain ⟨la,lc,rfl,_,_⟩:=zF cT
 have rE:=tM
 rw [qA] at rE
 obtain ⟨_,_,est,_,_,cG⟩:=zF rE
 simp only [Value.slice.injEq] at est
 obtain ⟨rfl,_,rfl⟩:=est
 obtain ⟨nv,b2,d2,b3,d3,e,_,_⟩:=uY hb
 simp only [List.cons.injEq,and_true] at e
 obtain ⟨rfl,rfl,rfl,rfl⟩:=e
 have ATS:=g_ cG
 have HB:=g_ (hU hb (hU tM (hU cT hp)))
 obtain ⟨W0,cp⟩:=zzM ((((w.alloc (.cells #[str (wC b),.int .i64 nv,.slice b2 (jn b).length d2,.slice b3 (vo b).length d3] 43)).alloc (.cells #[.slice ta t.args.length tc] 35)).alloc (.cells #[str [],.slice none 0 0] 57)))
 have bE:Below w.heap.size w W0:=by subst cp;exact (fun h=>h.alloc h.size _) (((bZ w.heap.size w).alloc (hG _) _).alloc (by simp) _)
 have zW:W0.heap.size=w.heap.size+1+1+1:=by subst cp;simp
 have t0:W0.cell? ⟨w.heap.size+1,0,none⟩=some (.slice ta t.args.length tc):=by
  subst cp
  refine zK ?_
  have:=zO (w.alloc (.cells #[str (wC b),.int .i64 nv,.slice b2 (jn b).length d2,.slice b3 (vo b).length d3] 43)) (.cells #[.slice ta t.args.length tc] 35)
  rw [zQ] at this
  simp only [World.cell?,this];rfl
 have n0:W0.cell? ⟨w.heap.size,0,none⟩=some (str (wC b))/\W0.cell? ⟨w.heap.size,1,none⟩=some (.int .i64 nv)/\W0.cell? ⟨w.heap.size,2,none⟩=some (.slice b2 (jn b).length d2)/\W0.cell? ⟨w.heap.size,3,none⟩=some (.slice b3 (vo b).length d3):=by
  subst cp
  exact ⟨zK (zK (by simp)),zK (zK (by simp)),zK (zK (by simp)),zK (zK (by simp))⟩
 have b0:kB (w.heap.size+1+1) [] (.slice none 0 0) W0:=by
  subst cp
  have:=zO ((w.alloc (.cells #[str (wC b),.int .i64 nv,.slice b2 (jn b).length d2,.slice b3 (vo b).length d3] 43)).alloc (.cells #[.slice ta t.args.length tc] 35)) (.cells #[str [],.slice none 0 0] 57)
  rw [zQ,zQ] at this
  exact this
 have CH:=g_ (yr F H t _ _ W0 (Rep.below bE (fun _ h=>h) cT) (Rep.below bE (fun _ h=>h) tM) (show _<=_ by omega))
 have H0:=g_ (hU bE (hU t0 (hU n0 b0)))
 have IH:=g_ ih
 clear ih cG tM rE cT hb hp bE n0 b0
 go_enter Tryz.func21,Tryz.ntmps21
 go_wp2_with fail
 rw [<- cp]
 clear cp
 (with_reducible refine CH.out.mono ?_)
 rintro nW w1 ⟨a1,c1,rfl,bU,cW⟩
 have cq:=zzT H0.out.1 bU
 have z1:=bU.size
 have a7:=zC.below (F':=fun i=>F i\/W0.heap.size<=i) cq (fun _ h=>Or.inl h) HB.out.1
 have cb:=(IH.out (fun i=>F i\/W0.heap.size<=i) b (H++t.args) _ _ _ _ _ w1 bN HB.out.2.2.2 a7 cW)
 rw [List.length_append] at cb
 have CB:=g_ cb
 clear cb
 have H1:=g_ (hU bU cq)
 obtain ⟨n0,n1,n2,n3⟩:=H0.out.2.2.1
 have q0:=(bU.cell (p:=⟨w.heap.size,0,none⟩) (by simp only;omega)).trans n0
 have q1:=(bU.cell (p:=⟨w.heap.size,1,none⟩) (by simp only;omega)).trans n1
 have q2:=(bU.cell (p:=⟨w.heap.size,2,none⟩) (by simp only;omega)).trans n2
 have q3:=(bU.cell (p:=⟨w.heap.size,3,none⟩) (by simp only;omega)).trans n3
 clear bU cW a7 CH n0 n1 n2 n3 t0
 go_wp2_with fail
 (with_reducible refine CB.out.mono ?_)
 rintro cV w2 ⟨s2,a2,n2,c2,rfl,bY,cJ⟩
 have z2:=bY.size
 have fF:=zzT cq bY
 have sG:=zzT H1.out.1 bY
 have t2:=(sG.cell (p:=⟨w.heap.size+1,0,none⟩) (by simp only;omega)).trans H0.out.2.1
 have cd:=H0.out.2.2.2.below sG (by omega)
 have bR:yq (fun i=>w.heap.size+1+1<i/\i≠w2.heap.size) w2.heap.size (zS (qt (H.length+t.args.length) (t.args.drop t.args.length) (tmB (H++t.args) b))) s2 a2 n2 c2 (w2.alloc (.cells #[str s2,.slice a2 n2 c2] 57)):=by
  refine ⟨zO _ _,?_⟩
  rw [List.drop_length,qt]
  exact (Rep.keep fun i o h ho=>⟨⟨by have h:w1.heap.size<=i:=h;omega,by have:=zZ ho;omega⟩,zH ho⟩).2 _ _ cJ
 have dR:w.heap.size+1+1<w2.heap.size:=by omega
 have bH:Below w.heap.size w (w2.alloc (.cells #[str s2,.slice a2 n2 c2] 57)):=fF.alloc fF.size _
 have t3:(w2.alloc (.cells #[str s2,.slice a2 n2 c2] 57)).cell? ⟨w.heap.size+1,0,none⟩=some (.slice ta t.args.length tc):=zK t2
 have nj:kB (w.heap.size+1+1) [] (.slice none 0 0) (w2.alloc (.cells #[str s2,.slice a2 n2 c2] 57)):=zH cd
 have H3:=g_ (hU bH (hU t3 (hU nj bR)))
 clear bY cJ fF sG cd bR bH nj q0 q1 q2 q3 z1 z2 CB cq
 have nH:H.length<=10000:=by omega
 go_wp2_with fail
 clear t3
 obtain ⟨W3,fA⟩:=zzM (w2.alloc (.cells #[str s2,.slice a2 n2 c2] 57))
 rw [<- fA] at H3 ⊢
 clear fA t2
 obtain ⟨ob,d7⟩:=zzM (w2.heap.size)
 rw [<- d7] at H3 dR ⊢
 clear d7
 go_loopw [9] (fun i wr=>∃ k:Nat,k<=t.args.length/\i=.int .i64 ((k:Int)-1)/\Below w.heap.size w wr/\wr.cell? ⟨w.heap.size+1,0,none⟩=some (.slice ta t.args.length tc)/\kB (w.heap.size+1+1) [] (.slice none 0 0) wr/\∃ (s:Bs) (a:Option Addr) (n c:Nat),yq (fun i=>w.heap.size+1+1<i/\i≠ob) ob (zS (qt (H.length+k) (t.args.drop k) (tmB (H++t.args) b))) s a n c wr) (fun i _=>(intOf i+1).toNat)
 case atStart=>exact ⟨t.args.length,hG _,rfl,H3.out.1,H3.out.2.1,H3.out.2.2.1,_,_,_,_,H3.out.2.2.2⟩
 case round =>
  clear H3
  rename_i wr
  obtain ⟨k,hk,rfl,hb,dj,dQ,s0,a0,n0,c0,bR⟩:=hrel
  have lob:=zZ bR.box
  obtain ⟨q0,q1,ql,qf⟩:=bR.box.cells
  obtain ⟨r0,r1,rl,rf⟩:=dQ.cells
  have dH:=rf 0;have dx:=rf 1;clear rf
  cases k with
  | zero =>
    have HO:=g_ (hU bR (hU dQ hb))
    have hz:((0:Nat):Int)-1 = -1:=rfl
    rw [hz]
    clear hz bR dQ hb qf
    go_wp2_with fail
    obtain ⟨W,hW,s1,s2',bE,bg⟩:=HO.out.2.1.store (str s0) (.slice a0 n0 c0)
    rw [<- hW]
    refine bodyPost_ret (v:=.agg #[str s0,.slice a0 n0 c0]) (by simp [results,Tryz.results21,go_sem,s1,s2']) rfl ?_
    refine ⟨s0,a0,n0,c0,rfl,bE _ _ HO.out.2.2 (by omega),?_⟩
    have hr:=HO.out.1.rep
    rw [List.drop_zero,Nat.add_zero] at hr
    exact (Rep.keep fun b o h ho=>⟨by have:=h.1;omega,bg b o (by have:=h.1;omega) ho⟩).2 _ _ hr
  | succ j =>
    have hj:j<t.args.length:=by omega
    rw [show ((j+1:Nat):Int)-1=(j:Int) from by omega]
    obtain ⟨ab,ao,au,ad,e,_,sB,f9,f_,eg⟩:=ATS.out j hj
    subst e
    rw [jh,Option.map_eq_some_iff] at f9
    obtain ⟨x,hx,rfl⟩:=f9
    obtain ⟨xa,xc,rfl⟩:=zt eg
    have tC:=kP dL x (List.mem_of_getElem? hx)
    have q2:=(hb.cell (p:=⟨ab,ao+j,none⟩) sB).trans f_
    have HRX:=g_ (Rep.below (F':=F) hb (fun _ h=>h) eg)
    have CN:Hid (Calls Tryz.prog 48 #[.int .i64 ((H.length:Int)+(j:Int))] wr.drew (yU wr.drew (.am (ku (H.length+j))))):=by
     show Calls _ _ _ _ _
     have:=wm (H.length+j) (by omega) wr.drew
     rwa [Int.natCast_add] at this
    have CX:=g_ (fun wz (hz:Below wr.heap.size wr wz)=>typeTree_any 15 x tC tC F wz _ (Rep.below hz (fun _ h=>h) HRX.out))
    have HS:=g_ (lams_step_tr H.length t.args (tmB (H++t.args) b) hx)
    have SX:Hid (∀ w',Below wr.heap.size wr w'->w'.cell? ⟨w.heap.size+1,0,none⟩=some (.slice (some ⟨ab,ao,none⟩) t.args.length tc)/\w'.cell? ⟨ab,ao+j,none⟩=some (.slice xa x.args.length xc)/\w'.cell? ⟨ob,0,none⟩=some (str s0)/\w'.cell? ⟨ob,1,none⟩=some (.slice a0 n0 c0)):=by
     show ∀ w',_->_
     intro w' bS
     exact ⟨(bS.cell (h_ wr _ dj)).trans dj,(bS.cell (h_ wr _ q2)).trans q2,(bS.cell (h_ wr _ q0)).trans q0,(bS.cell (h_ wr _ q1)).trans q1⟩
    have HO:=g_ (hU bR (hU dQ (hU hb (hU dj lob))))
    have hjI:(j:Int)<(t.args.length:Int):=by omega
    have hwj:IntKind.i64.wrap ((H.length:Int)+(j:Int))=(H.length:Int)+(j:Int):=IntWalk.i64_in _ (by omega)
    clear hx eg f_ bR dQ hb dj qf q0 q1 q2 r0 r1 dH dx rl ql lob
    go_wp2_with fail
    refine wp_region_noPanic ?_
    refine kT (fun w'=>Below wr.heap.size wr w') (fun i=>i == 14) (by kernel_rfl) ?_
    have bq:(fun w'=>Below wr.heap.size wr w') wr.drew:=Below.drew (bZ _ _)
    refine tk [0,1,2,3,5,6,7,8,9,11] bq ?_
    (intro d hd;simp [tkD] at hd;subst hd;simp only [tks,pQ,pZ,pS])
    iterate 10 (refine ⟨?_,?_,?_⟩;rotate_left;· (intro oi ho;simp at ho;subst ho;refine Or.inl ⟨by rfl,fun w' br=>?_⟩;obtain ⟨e0,e1,e2,e3⟩:=SX.out w' br;go_simp;try with_reducible rfl))
    (refine on 4 ?_;intro o ho K' hK;simp at ho;subst ho;go_simp)
    go_at_call 48
    (with_reducible refine CN.out.mono ?_)
    rintro en4 w4 ⟨s4,a4,n4,c4,rfl,bC,eR⟩
    have cH:Hid (Below wr.heap.size wr w4):=bq.trans bC
    have HR4:=g_ eR
    clear bC eR
    (refine hK.out _ _ (fun _=>cH.out) ?_;clear hK K';try simp only [pQ,pN,pZ,pS])
    (refine on 10 ?_;intro o ho K' hK;simp at ho;subst ho;go_simp)
    go_at_call 49
    (with_reducible refine (CX.out w4 cH.out).mono ?_)
    rintro mU w6 ⟨s6,a6,n6,c6,rfl,bW,dz⟩
    have bi:Hid (Below wr.heap.size wr w6):=zzT cH.out bW
    have nG:=g_ (hU dz bW)
    clear bW dz
    (refine hK.out _ _ (fun _=>bi.out) ?_;clear hK K';try simp only [pQ,pN,pZ,pS])
    (refine on 12 ?_;intro o ho K' hK;simp at ho;subst ho;go_simp)
    (refine hK.out _ _ (fun _=>bi.out.alloc bi.out.size _) ?_;clear hK K';try simp only [pQ,pN,pZ,pS])
    (refine on 13 ?_;intro o ho K' hK;simp at ho;subst ho)
    have tX:=HO.out.2.2.2.2
    have zw:=HO.out.2.2.1.size
    have z4:=cH.out.size
    have z6:=bi.out.size
    have ik:zC (fun i=>w.heap.size+1+1<i/\i≠ob) w6 (zm (.am (ku (H.length+j)))) [str s4,.slice a4 n4 c4]:=(Rep.keep fun b o h ho=>⟨⟨by have h:wr.heap.size<=b:=h;omega,by have h:wr.heap.size<=b:=h;omega⟩,by rw [nG.out.2.block b (zZ ho)];exact ho⟩).2 _ _ HR4.out
    have mW:zC (fun i=>w.heap.size+1+1<i/\i≠ob) w6 (zm (trT x)) [str s6,.slice a6 n6 c6]:=(Rep.keep fun b o h ho=>⟨⟨by have h:w4.heap.size<=b:=h;omega,by have h:w4.heap.size<=b:=h;omega⟩,ho⟩).2 _ _ nG.out.1
    have mP:zC (fun i=>w.heap.size+1+1<i/\i≠ob) w6 (zm (zS (qt (H.length+(j+1)) (t.args.drop (j+1)) (tmB (H++t.args) b)))) [str s0,.slice a0 n0 c0]:=(Rep.keep fun b o h ho=>⟨h,by rw [bi.out.block b (zZ ho)];exact ho⟩).2 _ _ HO.out.1.rep
    have CL:=g_ (uD (fun i=>w.heap.size+1+1<i/\i≠ob) [108,97,109] [.am (ku (H.length+j)),trT x,zS (qt (H.length+(j+1)) (t.args.drop (j+1)) (tmB (H++t.args) b))] _ (w6.alloc (.cells #[str s4,.slice a4 n4 c4,str s6,.slice a6 n6 c6,str s0,.slice a0 n0 c0] 57 (0,0))) (fun b h=>by rw [zQ] at h;exact ⟨by omega,by omega⟩) (row3 ik mW mP ⟨by omega,by omega⟩ (0,0)) (by simp))
    clear ik mW mP
    go_simp
    go_at_call 47
    (with_reducible refine CL.out.mono ?_)
    rintro en8 w8 ⟨a8,n8,c8,rfl,cD,fy⟩
    have ci:Hid (Below wr.heap.size wr w8):=(bi.out.alloc bi.out.size _).trans (cD.mono (bi.out.alloc bi.out.size _).size)
    have sN:=g_ fy
    clear cD fy
    (refine hK.out _ _ (fun _=>ci.out) ?_;clear hK K';try simp only [pQ,pN,pZ,pS])
    (refine on 14 ?_;intro o ho K' hK;simp at ho;subst ho)
    have N8:=HO.out.1.box.below ci.out HO.out.2.2.2.2
    obtain ⟨p0,p1,pl,pf⟩:=N8.cells
    have pf0:=pf 0
    have tY:=pf 1
    clear pf
    have mO:=g_ N8
    clear N8
    go_simp
    (refine hK.out _ _ (fun h=>by simp at h) ?_;clear hK K';try simp only [pQ,pN,pZ,pS])
    refine kL (by kernel_rfl) (NoPanic.normal ?_) _
    clear hwj
    go_wp2_with fail
    have cD:=zzT HO.out.2.2.1 ci.out
    have hO9:=yq.next (fun i h=>h.2) mO.out sN.out
    refine ⟨⟨j,by omega,rfl,pr cD (by omega),?_,?_,[],a8,n8,c8,?_⟩,by simp only [intOf];omega⟩
    ·exact set2_cell (by omega) ((ci.out.cell (h_ wr _ HO.out.2.2.2.1)).trans HO.out.2.2.2.1)
    ·exact set2_keep (by omega) (HO.out.2.1.below ci.out (zZ HO.out.2.1))
    ·rw [HS.out]
     exact hO9
theorem app_step_tr (H:List Ty) (f:Tm) {ts:List Ty} {ss:List Bd} {k:Nat} {a:Ty} {s:Bd} (ha:ts[k]? = some a) (hs:ss[k]? = some s) :
 zS (kV H f (ts.take (k+1)) (ss.take (k+1)))=.ls [.am qo,zS (kV H f (ts.take k) (ss.take k)),zS (tmL H a s)]:=by
 have e1:ts.take (k+1)=ts.take k++[a]:=by rw [List.take_add_one,ha];rfl
 have e2:ss.take (k+1)=ss.take k++[s]:=by rw [List.take_add_one,hs];rfl
 have h1:=(List.getElem?_eq_some_iff.1 ha).1
 have h2:=(List.getElem?_eq_some_iff.1 hs).1
 rw [e1,e2,ug _ _ _ _ _ _ (by rw [List.length_take,List.length_take];omega),zS]
theorem y4.ask {H:List Ty} {v:Nat} {ss:List Bd} {y no:Bd} (h:y4 (.ask v ss y no) H) :
 ∃ t,H[v]? = some t/\zX t<=15/\t.args.length=ss.length/\y4 y H/\y4 no H/\(∀ (k:Nat) (a:Ty) (s:Bd),t.args[k]? = some a->ss[k]? = some s->y4 s (H++a.args)/\zX a<=15):=by
 obtain ⟨hf,hw,hs,hr⟩:=h
 rw [qb] at hf
 rw [wfB] at hw
 rw [zD] at hr
 obtain ⟨t,ht,f1,f2,f3⟩:=hf
 have dL:=hs t (List.mem_of_getElem? ht)
 have bP:=jQ _ _ f1
 rw [qx] at bP
 have py:=zf y
 have pn:=zf no
 refine ⟨t,ht,dL,bP,⟨f2,hw.2.1,hs,by omega⟩,⟨f3,hw.2.2,hs,by omega⟩,fun k a s ha hk=>?_⟩
 have sD:=kP dL a (List.mem_of_getElem? ha)
 have eH:=qE sD
 have bN:=yd (List.mem_of_getElem? hk)
 refine ⟨⟨fitBs_atS f1 ha hk,wfBs_at _ hw.1 k s hk,fun x hx=>?_,by rw [List.length_append];omega⟩,sD⟩
 rcases List.mem_append.1 hx with hx | hx
 ·exact hs x hx
 ·exact kP sD x hx
set_option maxRecDepth 100000 in
theorem bodyR_step (N:Nat) (hB:yN N) (hL:wN N):yN (N+1):=by
 intro F b H s0 v0 k0 y0 lv w bN hp hb cT
 have e1:=encN_lv hb
 subst e1
 obtain ⟨_,a2,c2,a3,c3,e,hk,hy⟩:=uY hb
 simp only [List.cons.injEq,and_true] at e
 obtain ⟨rfl,_,rfl,rfl⟩:=e
 cases b with
 | leaf c =>
   obtain ⟨la,lc,rfl,_,_⟩:=zF cT
   clear hb hk hy hB hL cT
   show Calls Tryz.prog 46 #[.agg #[str [c],.int .i64 (0:Nat),.slice a2 0 c2,.slice a3 0 c3],.slice la H.length lc] w _
   go_enter Tryz.func46,Tryz.ntmps46
   go_wp2_with fail
   refine bodyPost_ret (v:=.agg #[str [c],.slice none 0 0]) (by simp [results,Tryz.results46,go_sem]) rfl ?_
   rw [tmB,zS]
   refine ⟨[c],none,0,0,rfl,(fun h=>h.alloc h.size _) ((bZ w.heap.size w).alloc (hG _) _),?_⟩
   rw [zm]
   exact zJ.2 ⟨_,_,rfl,zj.2 rfl,zJ.2 ⟨_,_,rfl,kD.2 ⟨rfl,none,0,rfl,hG _,fun _=>rfl,.inl rfl⟩,zM.2 rfl⟩⟩
 | ask v ss yb nb =>
   have IB:=g_ hB;have IL:=g_ hL;clear hB hL
   obtain ⟨t,ht,dL,bP,PY,PN,PS⟩:=hp.ask
   have cF:=hp.room
   rw [zD] at cF bN
   have fI:=(List.getElem?_eq_some_iff.1 ht).1
   have eH:=qE dL
   have py:=zf yb
   have pn:=zf nb
   obtain ⟨_,_,ek,atk⟩:=pF.of hk
   simp only [Value.slice.injEq,true_and] at ek
   rw [<- ek.1] at atk;clear ek
   obtain ⟨_,_,ek,aty⟩:=pF.of hy
   simp only [Value.slice.injEq,true_and] at ek
   rw [<- ek.1] at aty;clear ek
   change pF F w ss a2 at atk
   change pF F w [yb,nb] a3 at aty
   obtain ⟨bI,yo,s0,v0,p2,m2,d2,p3,m3,d3,yt,ey,hyb0,tG,u0,u1,u2,u3,mC⟩:=aty 0 (by simp)
   obtain ⟨yb1,yo1,s1,v1,p4,m4,d4,p5,m5,d5,nt,nW,hyb1,dE,z0,z1,z2,z3,tj⟩:=aty 1 (by simp)
   rw [ey] at nW
   simp only [Option.some.injEq,Addr.mk.injEq,and_true] at nW
   obtain ⟨rfl,rfl⟩:=nW
   simp only [List.getElem?_cons_zero,Option.some.injEq] at tG
   simp only [List.getElem?_cons_succ,List.getElem?_cons_zero,Option.some.injEq] at dE
   subst tG;subst dE
   simp only [Nat.zero_mul,Nat.add_zero] at u0 u1 u2 u3
   simp only [Nat.one_mul,Nat.add_assoc,Nat.reduceAdd] at z0 z1 z2 z3
   obtain ⟨la,lc,rfl,_,_,fo⟩:=zF cT
   obtain ⟨bS,eS,hu,hd,e,_,hbw',sV,el,db⟩:=fo v fI
   subst e
   rw [jh,ht] at sV
   simp only [Option.map_some,Option.some.injEq] at sV
   subst sV
   obtain ⟨ka,kc,rfl⟩:=zt db
   have dg:=db
   rw [qA] at dg
   obtain ⟨_,_,est,_,_,cG⟩:=zF dg
   simp only [Value.slice.injEq] at est
   obtain ⟨rfl,_,rfl⟩:=est
   subst ey
   have KY:xh w.heap.size (.slice (some ⟨bI,yo,none⟩) 2 c3) bI yo (str s0) (.int .i64 v0) (.slice p2 m2 d2) (.slice p3 m3 d3) (str s1) (.int .i64 v1) (.slice p4 m4 d4) (.slice p5 m5 d5) (w.alloc (.cells #[str [],.int .i64 (v:Nat),.slice a2 ss.length c2,.slice (some ⟨bI,yo,none⟩) 2 c3] 43)) :=
    ⟨by simp,zK u0,zK u1,zK u2,zK u3,zK z0,zK z1,zK z2,zK z3⟩
   have HK:=g_ atk;have HA:=g_ cG
   have tV:=g_ (hU mC tj)
   have HP:=g_ (hU PY (hU PN PS))
   have iI:=g_ (hU cT (hU el hbw'))
   have HT:=g_ ht
   have b0:kB (w.heap.size+1) [] (.slice none 0 0) ((w.alloc (.cells #[str [],.int .i64 (v:Nat),.slice a2 ss.length c2,.slice (some ⟨bI,yo,none⟩) 2 c3] 43)).alloc (.cells #[str [],.slice none 0 0] 57)):=by
    have:=zO (w.alloc (.cells #[str [],.int .i64 (v:Nat),.slice a2 ss.length c2,.slice (some ⟨bI,yo,none⟩) 2 c3] 43)) (.cells #[str [],.slice none 0 0] 57)
    rw [zQ] at this;exact this
   have CN:=g_ (fun wz=>wm v (by omega) wz)
   have fM:Below w.heap.size w ((w.alloc (.cells #[str [],.int .i64 (v:Nat),.slice a2 ss.length c2,.slice (some ⟨bI,yo,none⟩) 2 c3] 43)).alloc (.cells #[str [],.slice none 0 0] 57)):=(fun h=>h.alloc h.size _) ((bZ w.heap.size w).alloc (hG _) _)
   have n1:((w.alloc (.cells #[str [],.int .i64 (v:Nat),.slice a2 ss.length c2,.slice (some ⟨bI,yo,none⟩) 2 c3] 43)).alloc (.cells #[str [],.slice none 0 0] 57)).cell? ⟨w.heap.size,1,none⟩=some (.int .i64 (v:Nat))/\((w.alloc (.cells #[str [],.int .i64 (v:Nat),.slice a2 ss.length c2,.slice (some ⟨bI,yo,none⟩) 2 c3] 43)).alloc (.cells #[str [],.slice none 0 0] 57)).cell? ⟨w.heap.size,2,none⟩=some (.slice a2 ss.length c2):=⟨zK (by simp),zK (by simp)⟩
   have H0:=g_ (hU fM (hU n1 (hU b0 ((KY.below ((bZ _ _).alloc (hG _) _):xh w.heap.size (.slice (some ⟨bI,yo,none⟩) 2 c3) bI yo (str s0) (.int .i64 v0) (.slice p2 m2 d2) (.slice p3 m3 d3) (str s1) (.int .i64 v1) (.slice p4 m4 d4) (.slice p5 m5 d5) ((w.alloc (.cells #[str [],.int .i64 (v:Nat),.slice a2 ss.length c2,.slice (some ⟨bI,yo,none⟩) 2 c3] 43)).alloc (.cells #[str [],.slice none 0 0] 57)))))))
   clear hb hk hy cT atk aty cG db dg fo ht PY PN PS mC tj u0 u1 u2 u3 z0 z1 z2 z3 el b0 fM n1 KY hp
   show Calls Tryz.prog 46 #[.agg #[str [],.int .i64 (v:Nat),.slice a2 ss.length c2,.slice (some ⟨bI,yo,none⟩) 2 c3],.slice (some ⟨bS,eS,none⟩) H.length lc] w _
   go_enter Tryz.func46,Tryz.ntmps46
   go_wp2_with fail
   (with_reducible refine (CN.out _).mono ?_)
   rintro nW w1 ⟨s6,a6,n6,c6,rfl,bU,cW⟩
   have cq:=zzT H0.out.1 bU
   have bo:=H0.out.2.2.1.below bU (by simp)
   have zz:=bU.size
   rw [zQ,zQ] at zz
   have bz:w1.cell? ⟨w.heap.size,1,none⟩=some (.int .i64 (v:Nat)):=(bU.cell (p:=⟨w.heap.size,1,none⟩) (by simp;omega)).trans H0.out.2.1.1
   have cr:w1.cell? ⟨w.heap.size,2,none⟩=some (.slice a2 ss.length c2):=(bU.cell (p:=⟨w.heap.size,2,none⟩) (by simp;omega)).trans H0.out.2.1.2
   have iH:=H0.out.2.2.2.below bU
   have bR:yq (fun i=>w.heap.size+1<i/\i≠w1.heap.size) w1.heap.size (zS (kV H (.nm (ku v)) (t.args.take 0) (ss.take 0))) s6 a6 n6 c6 (w1.alloc (.cells #[str s6,.slice a6 n6 c6] 57)):=by
    refine ⟨zO _ _,?_⟩
    rw [List.take_zero,List.take_zero,uW,zS]
    exact (Rep.keep fun i o h ho=>⟨⟨by rw [zQ,zQ] at h;omega,by have:=zZ ho;omega⟩,zH ho⟩).2 _ _ cW
   have hlt1:w.heap.size+1<w1.heap.size:=by omega
   have H3:=g_ (hU (cq.alloc cq.size (.cells #[str s6,.slice a6 n6 c6] 57)) (hU ((zK bz:(w1.alloc (.cells #[str s6,.slice a6 n6 c6] 57)).cell? ⟨w.heap.size,1,none⟩=some (.int .i64 (v:Nat)))) (hU ((zK cr:(w1.alloc (.cells #[str s6,.slice a6 n6 c6] 57)).cell? ⟨w.heap.size,2,none⟩=some (.slice a2 ss.length c2))) (hU ((zH bo:kB (w.heap.size+1) [] (.slice none 0 0) (w1.alloc (.cells #[str s6,.slice a6 n6 c6] 57)))) (hU (iH.below ((bZ _ _).alloc (hG _) (.cells #[str s6,.slice a6 n6 c6] 57))) bR)))))
   clear bU cW cq bo bz cr iH bR zz CN
   go_wp2_with fail
   obtain ⟨W3,fA⟩:=zzM (w1.alloc (.cells #[str s6,.slice a6 n6 c6] 57))
   rw [<- fA] at H3 ⊢
   clear fA
   obtain ⟨ob,d7⟩:=zzM (w1.heap.size)
   rw [<- d7] at H3 hlt1 ⊢
   clear d7 H0
   go_loopw [6] (fun i wr=>∃ k:Nat,k<=ss.length/\i=.int .i64 (k:Nat)/\Below w.heap.size w wr/\wr.cell? ⟨w.heap.size,1,none⟩=some (.int .i64 (v:Nat))/\wr.cell? ⟨w.heap.size,2,none⟩=some (.slice a2 ss.length c2)/\kB (w.heap.size+1) [] (.slice none 0 0) wr /\
    xh w.heap.size (.slice (some ⟨bI,yo,none⟩) 2 c3) bI yo (str s0) (.int .i64 v0) (.slice p2 m2 d2) (.slice p3 m3 d3) (str s1) (.int .i64 v1) (.slice p4 m4 d4) (.slice p5 m5 d5) wr /\
    ∃ (s:Bs) (a:Option Addr) (n c:Nat),yq (fun i=>w.heap.size+1<i/\i≠ob) ob (zS (kV H (.nm (ku v)) (t.args.take k) (ss.take k))) s a n c wr) (fun i _=>ss.length-(intOf i).toNat)
   case atStart=>exact ⟨0,Nat.zero_le _,rfl,H3.out.1,H3.out.2.1,H3.out.2.2.1,H3.out.2.2.2.1,H3.out.2.2.2.2.1,_,_,_,_,H3.out.2.2.2.2.2⟩
   case round =>
    clear H3
    rename_i wr
    obtain ⟨k,hk,rfl,hb,bz,cr,dQ,hKY,s9,a9,n9,c9,bR⟩:=hrel
    have lob:=zZ bR.box
    obtain ⟨q0,q1,ql,qf⟩:=bR.box.cells
    by_cases bX:k<ss.length
    ·have rr:(k:Int)<(ss.length:Int):=by omega
     have hltK:(k:Int)<(t.args.length:Int):=by omega
     have hvI:(v:Int)<(H.length:Int):=by omega
     obtain ⟨kb,ko,s',v',b2,m7,e2,b3,m8,e3,sb,ekb,hkb,tL,x0,x1,x2,x3,dt⟩:=HK.out k bX
     subst ekb
     obtain ⟨ab,ao,au,ad,e,_,sB,f9,f_,eg⟩:=HA.out k (by omega)
     subst e
     rw [jh,Option.map_eq_some_iff] at f9
     obtain ⟨x,hx,rfl⟩:=f9
     obtain ⟨xa,xc,rfl⟩:=zt eg
     have f0:=(hb.cell hkb).trans x0
     have f1:=(hb.cell hkb).trans x1
     have f2:=(hb.cell hkb).trans x2
     have f3:=(hb.cell hkb).trans x3
     have g0:=(hb.cell (p:=⟨ab,ao+k,none⟩) sB).trans f_
     have g1:=(hb.cell (p:=⟨bS,eS+v,none⟩) iI.out.2.2).trans iI.out.2.1
     have hPS:=HP.out.2.2 k x sb hx tL
     have mp:=yd (List.mem_of_getElem? tL)
     have CLam:=g_ (IL.out F x sb H _ _ _ _ _ _ wr.drew (by omega) hPS.1 hPS.2 (zC.below hb (fun _ h=>h) dt).drew (Rep.below hb (fun _ h=>h) eg).drew (Rep.below hb (fun _ h=>h) iI.out.1).drew)
     have HS:=g_ (app_step_tr H (.nm (ku v)) hx tL)
     have SX:Hid (∀ w',Below wr.heap.size wr w'->w'.cell? ⟨w.heap.size,1,none⟩=some (.int .i64 (v:Nat))/\w'.cell? ⟨w.heap.size,2,none⟩=some (.slice (some ⟨kb,ko,none⟩) ss.length c2)/\w'.cell? ⟨ob,0,none⟩=some (str s9)/\w'.cell? ⟨ob,1,none⟩=some (.slice a9 n9 c9) /\
      w'.cell? ⟨kb,ko+k*4,none⟩=some (str s')/\w'.cell? ⟨kb,ko+k*4+1,none⟩=some (.int .i64 v')/\w'.cell? ⟨kb,ko+k*4+2,none⟩=some (.slice b2 m7 e2)/\w'.cell? ⟨kb,ko+k*4+3,none⟩=some (.slice b3 m8 e3) /\
      w'.cell? ⟨ab,ao+k,none⟩=some (.slice xa x.args.length xc)/\w'.cell? ⟨bS,eS+v,none⟩=some (.slice (some ⟨ab,ao,none⟩) t.args.length kc)):=by
      show ∀ w',_->_
      intro w' bS
      have kk:∀ (a:Addr) (u:Value),wr.cell? a=some u->w'.cell? a=some u:=fun a u h=>(bS.cell (h_ wr _ h)).trans h
      exact ⟨kk _ _ bz,kk _ _ cr,kk _ _ q0,kk _ _ q1,kk _ _ f0,kk _ _ f1,kk _ _ f2,kk _ _ f3,kk _ _ g0,kk _ _ g1⟩
     have HO:=g_ (hU bR (hU dQ (hU hb (hU lob (hU bz (hU cr hKY))))))
     clear hx tL eg f_ dt x0 x1 x2 x3 bR dQ hb qf q0 q1 ql f0 f1 f2 f3 g0 g1 lob hPS mp bz hKY
     go_wp2_with fail
     refine wp_region_noPanic ?_
     refine kT (fun w'=>Below wr.heap.size wr w') (fun i=>i == 19) (by kernel_rfl) ?_
     have bq:(fun w'=>Below wr.heap.size wr w') wr.drew:=Below.drew (bZ _ _)
     refine tk [0,1,2,3,4,5,6,7,8,9,10,11,12,13,14,15] bq ?_
     (intro d hd;simp [tkD] at hd;subst hd;simp only [tks,pQ,pZ,pS])
     iterate 16 (refine ⟨?_,?_,?_⟩;rotate_left;· (intro oi ho;simp at ho;subst ho;refine Or.inl ⟨by rfl,fun w' br=>?_⟩;obtain ⟨e0,e1,e2,e3,e4,e5,e6,e7,e8,e9⟩:=SX.out w' br;go_simp;try with_reducible rfl))
     (refine on 16 ?_;intro o ho K' hK;simp at ho;subst ho;go_simp)
     go_at_call 21
     (with_reducible refine CLam.out.mono ?_)
     rintro mU w6 ⟨s6',a6',n6',c6',rfl,bW,dz⟩
     have bi:Hid (Below wr.heap.size wr w6):=bq.trans bW
     have nG:=g_ dz
     clear bW dz
     (refine hK.out _ _ (fun _=>bi.out) ?_;clear hK K';try simp only [pQ,pN,pZ,pS])
     (refine on 17 ?_;intro o ho K' hK;simp at ho;subst ho;go_simp)
     (refine hK.out _ _ (fun _=>bi.out.alloc bi.out.size _) ?_;clear hK K';try simp only [pQ,pN,pZ,pS])
     (refine on 18 ?_;intro o ho K' hK;simp at ho;subst ho)
     have tX:=HO.out.2.2.2.1
     have zw:=HO.out.2.2.1.size
     have z6:=bi.out.size
     have mW:zC (fun i=>w.heap.size+1<i/\i≠ob) w6 (zm (zS (tmL H x sb))) [str s6',.slice a6' n6' c6']:=(Rep.keep fun b o h ho=>⟨⟨by have h:wr.heap.size<=b:=h;omega,by have h:wr.heap.size<=b:=h;omega⟩,ho⟩).2 _ _ nG.out
     have mP:zC (fun i=>w.heap.size+1<i/\i≠ob) w6 (zm (zS (kV H (.nm (ku v)) (t.args.take k) (ss.take k)))) [str s9,.slice a9 n9 c9]:=(Rep.keep fun b o h ho=>⟨h,by rw [bi.out.block b (zZ ho)];exact ho⟩).2 _ _ HO.out.1.rep
     have CL:=g_ (uD (fun i=>w.heap.size+1<i/\i≠ob) [97,112,112] [(zS (kV H (.nm (ku v)) (t.args.take k) (ss.take k))),zS (tmL H x sb)] _ (w6.alloc (.cells #[str s9,.slice a9 n9 c9,str s6',.slice a6' n6' c6'] 57 (0,0))) (fun b h=>by rw [zQ] at h;exact ⟨by omega,by omega⟩) (row2 mP mW ⟨by omega,by omega⟩ (0,0)) (by simp))
     clear mW mP
     go_simp
     go_at_call 47
     (with_reducible refine CL.out.mono ?_)
     rintro en8 w8 ⟨a8,n8,c8,rfl,cD,fy⟩
     have ci:Hid (Below wr.heap.size wr w8):=(bi.out.alloc bi.out.size _).trans (cD.mono (bi.out.alloc bi.out.size _).size)
     have sN:=g_ fy
     clear cD fy
     (refine hK.out _ _ (fun _=>ci.out) ?_;clear hK K';try simp only [pQ,pN,pZ,pS])
     (refine on 19 ?_;intro o ho K' hK;simp at ho;subst ho)
     have N8:=HO.out.1.box.below ci.out HO.out.2.2.2.1
     obtain ⟨p0,p1,pl,pf⟩:=N8.cells
     have pf0:=pf 0
     have tY:=pf 1
     clear pf
     have mO:=g_ N8
     clear N8
     go_simp
     (refine hK.out _ _ (fun h=>by simp at h) ?_;clear hK K';try simp only [pQ,pN,pZ,pS])
     refine kL (by kernel_rfl) (NoPanic.normal ?_) _
     go_wp2_with fail
     have cD:=zzT HO.out.2.2.1 ci.out
     have hO9:=yq.next (fun i h=>h.2) mO.out sN.out
     have bp:∀ (b o:Nat) (u:Value),b≠ob->wr.cell? ⟨b,o,none⟩=some u->((w8.setCell ⟨ob,0,none⟩ (str [])).setCell ⟨ob,1,none⟩ (.slice a8 n8 c8)).cell? ⟨b,o,none⟩=some u:=fun b o u hbo h=>set2_cell hbo ((ci.out.cell (h_ wr _ h)).trans h)
     have z8:=cD.size
     have ny:bI≠ob:=by omega
     obtain ⟨k1,k2,k3,k4,k5,k6,k7,k8,k9⟩:=HO.out.2.2.2.2.2.2
     refine ⟨⟨k+1,by omega,by go_num,pr cD (by omega),bp _ _ _ (by omega) HO.out.2.2.2.2.1,bp _ _ _ (by omega) HO.out.2.2.2.2.2.1,set2_keep (by omega) (HO.out.2.1.below ci.out (zZ HO.out.2.1)),
      ⟨bp _ _ _ (by omega) k1,bp _ _ _ ny k2,bp _ _ _ ny k3,bp _ _ _ ny k4,bp _ _ _ ny k5,bp _ _ _ ny k6,bp _ _ _ ny k7,bp _ _ _ ny k8,bp _ _ _ ny k9⟩,[],a8,n8,c8,?_⟩,by simp only [intOf];omega⟩
     rw [HS.out]
     exact hO9
    ·obtain rfl:k=ss.length:=by omega
     have dn:t.args.take ss.length=t.args:=List.take_of_length_le (by omega)
     rw [dn,List.take_length] at bR
     have ru:¬ ((ss.length:Int)<(ss.length:Int)):=by omega
     have HE:=g_ (show zS (tmB H (.ask v ss yb nb))=.ls [.am ifW,zS (kV H (.nm (ku v)) t.args ss),zS (tmB H yb),zS (tmB H nb)] by
      have e:(H[v]?.map Ty.args).getD []=t.args:=by rw [HT.out];rfl
      rw [tmB,zS,e])
     have CY:=g_ (IB.out F yb H _ _ _ _ _ wr.drew (by omega) HP.out.1 (zC.below hb (fun _ h=>h) tV.out.1).drew (Rep.below hb (fun _ h=>h) iI.out.1).drew)
     have CZ:=g_ (fun wz (hz:Below wr.heap.size wr wz)=>IB.out F nb H _ _ _ _ _ wz (by omega) HP.out.2.1 (zC.below (zzT hb hz) (fun _ h=>h) tV.out.2) (Rep.below (zzT hb hz) (fun _ h=>h) iI.out.1))
     obtain ⟨fL,x0,x1,x2,x3,x4,x5,x6,x7⟩:=id hKY
     have SX:Hid (∀ w',Below wr.heap.size wr w'->w'.cell? ⟨w.heap.size,3,none⟩=some (.slice (some ⟨bI,yo,none⟩) 2 c3)/\w'.cell? ⟨ob,0,none⟩=some (str s9)/\w'.cell? ⟨ob,1,none⟩=some (.slice a9 n9 c9) /\
      w'.cell? ⟨bI,yo,none⟩=some (str s0)/\w'.cell? ⟨bI,yo+1,none⟩=some (.int .i64 v0)/\w'.cell? ⟨bI,yo+2,none⟩=some (.slice p2 m2 d2)/\w'.cell? ⟨bI,yo+3,none⟩=some (.slice p3 m3 d3) /\
      w'.cell? ⟨bI,yo+4,none⟩=some (str s1)/\w'.cell? ⟨bI,yo+5,none⟩=some (.int .i64 v1)/\w'.cell? ⟨bI,yo+6,none⟩=some (.slice p4 m4 d4)/\w'.cell? ⟨bI,yo+7,none⟩=some (.slice p5 m5 d5)):=by
      show ∀ w',_->_
      intro w' bS
      have kk:∀ (a:Addr) (u:Value),wr.cell? a=some u->w'.cell? a=some u:=fun a u h=>(bS.cell (h_ wr _ h)).trans h
      exact ⟨kk _ _ fL,kk _ _ q0,kk _ _ q1,kk _ _ x0,kk _ _ x1,kk _ _ x2,kk _ _ x3,kk _ _ x4,kk _ _ x5,kk _ _ x6,kk _ _ x7⟩
     have HO:=g_ (hU bR (hU dQ (hU hb (zZ dQ))))
     clear bR dQ hb qf q0 q1 ql hKY fL x0 x1 x2 x3 x4 x5 x6 x7 dn bz
     go_wp2_with fail
     refine wp_region_noPanic ?_
     refine kT (fun w'=>Below wr.heap.size wr w') (fun i=>i == 15) (by kernel_rfl) ?_
     have bq:(fun w'=>Below wr.heap.size wr w') wr.drew:=Below.drew (bZ _ _)
     refine tk [0,1,2,3,4,5,7,8,9,10,11] bq ?_
     (intro d hd;simp [tkD] at hd;subst hd;simp only [tks,pQ,pZ,pS])
     iterate 11 (refine ⟨?_,?_,?_⟩;rotate_left;· (intro oi ho;simp at ho;subst ho;refine Or.inl ⟨by rfl,fun w' br=>?_⟩;obtain ⟨e0,e1,e2,e3,e4,e5,e6,e7,e8,e9,e10⟩:=SX.out w' br;go_simp;try with_reducible rfl))
     (refine on 6 ?_;intro o ho K' hK;simp at ho;subst ho;go_simp)
     go_at_call 46
     (with_reducible refine CY.out.mono ?_)
     rintro en4 w4 ⟨sY,aY,nY,cY,rfl,bC,eR⟩
     have cH:Hid (Below wr.heap.size wr w4):=bq.trans bC
     have HR4:=g_ eR
     clear bC eR
     (refine hK.out _ _ (fun _=>cH.out) ?_;clear hK K';try simp only [pQ,pN,pZ,pS])
     (refine on 12 ?_;intro o ho K' hK;simp at ho;subst ho;go_simp)
     go_at_call 46
     (with_reducible refine (CZ.out w4 cH.out).mono ?_)
     rintro mU w6 ⟨sZ,aZ,nZ,cZ,rfl,bW,dz⟩
     have bi:Hid (Below wr.heap.size wr w6):=zzT cH.out bW
     have nG:=g_ (hU dz bW)
     clear bW dz
     (refine hK.out _ _ (fun _=>bi.out) ?_;clear hK K';try simp only [pQ,pN,pZ,pS])
     (refine on 13 ?_;intro o ho K' hK;simp at ho;subst ho;go_simp)
     (refine hK.out _ _ (fun _=>bi.out.alloc bi.out.size _) ?_;clear hK K';try simp only [pQ,pN,pZ,pS])
     (refine on 14 ?_;intro o ho K' hK;simp at ho;subst ho)
     have zw:=HO.out.2.2.1.size
     have z4:=cH.out.size
     have z6:=bi.out.size
     have lrb:=HO.out.2.2.2
     have ik:zC (w.heap.size+1 < ·) w6 (zm (zS (tmB H yb))) [str sY,.slice aY nY cY]:=(Rep.keep fun b o h ho=>⟨by have h:wr.heap.size<=b:=h;omega,by rw [nG.out.2.block b (zZ ho)];exact ho⟩).2 _ _ HR4.out
     have mW:zC (w.heap.size+1 < ·) w6 (zm (zS (tmB H nb))) [str sZ,.slice aZ nZ cZ]:=(Rep.keep fun b o h ho=>⟨by have h:w4.heap.size<=b:=h;omega,ho⟩).2 _ _ nG.out.1
     have mP:zC (w.heap.size+1 < ·) w6 (zm (zS (kV H (.nm (ku v)) t.args ss))) [str s9,.slice a9 n9 c9]:=(Rep.keep fun b o h ho=>⟨h.1,by rw [bi.out.block b (zZ ho)];exact ho⟩).2 _ _ HO.out.1.rep
     have CL:=g_ (uD (w.heap.size+1 < ·) [105,102] [(zS (kV H (.nm (ku v)) t.args ss)),zS (tmB H yb),zS (tmB H nb)] _ (w6.alloc (.cells #[str s9,.slice a9 n9 c9,str sY,.slice aY nY cY,str sZ,.slice aZ nZ cZ] 57 (0,0))) (fun b h=>by rw [zQ] at h;omega) (row3 mP ik mW (by omega) (0,0)) (by simp))
     clear ik mW mP
     go_simp
     go_at_call 47
     (with_reducible refine CL.out.mono ?_)
     rintro en8 w8 ⟨a8,n8,c8,rfl,cD,fy⟩
     have ci:Hid (Below wr.heap.size wr w8):=(bi.out.alloc bi.out.size _).trans (cD.mono (bi.out.alloc bi.out.size _).size)
     have sN:=g_ fy
     clear cD fy
     (refine hK.out _ _ (fun _=>ci.out) ?_;clear hK K';try simp only [pQ,pN,pZ,pS])
     (refine on 15 ?_;intro o ho K' hK;simp at ho;subst ho)
     have N8:=HO.out.2.1.below ci.out HO.out.2.2.2
     obtain ⟨p0,p1,pl,pf⟩:=N8.cells
     have pf0:=pf 0
     have tY:=pf 1
     clear pf
     have mO:=g_ N8
     clear N8
     go_simp
     (refine hK.out _ _ (fun h=>by simp at h) ?_;clear hK K';try simp only [pQ,pN,pZ,pS])
     refine kL (by kernel_rfl) (NoPanic.normal ?_) _
     go_wp2_with fail
     obtain ⟨W,hW,s11,s12,bE,bg⟩:=mO.out.store (.string ⟨#[]⟩) (.slice a8 n8 c8)
     rw [<- hW]
     refine bodyPost_ret (v:=.agg #[str [],.slice a8 n8 c8]) (by simp [results,Tryz.results46,go_sem,s11,s12]) rfl ?_
     have cD:=zzT HO.out.2.2.1 ci.out
     rw [HE.out]
     exact ⟨[],a8,n8,c8,rfl,bE _ _ cD (by omega),(Rep.keep fun b o h ho=>⟨by have:=h;omega,bg b o (by have:=h;omega) ho⟩).2 _ _ sN.out⟩
theorem bodyR_any (N:Nat):yN N:=by
 induction N with
 | zero=>exact fun F b H s v k y lv w h=>by have:=zf b;omega
 | succ N ih=>exact bodyR_step N ih (gP N ih)
theorem lamsR_any (N:Nat):wN N:=gP N (bodyR_any N)
def STermPost (w:World) (o:Option Tr) (en:Ending) (w':World):Prop :=
 ∃ (s:Bs) (a:Option Addr) (n c:Nat),en=.returned (.tuple #[.agg #[str s,.slice a n c],.bool o.isSome])/\Below w.heap.size w w'/\(∀ t,o=some t->kH t/\zC (w.heap.size<=·) w' (zm t) [str s,.slice a n c])
abbrev vD (tb:Nat) (u0 u1:Value) (w':World):Prop:=w'.cell? ⟨tb,0,none⟩=some u0/\w'.cell? ⟨tb,1,none⟩=some u1
theorem vD.below {tb:Nat} {u0 u1:Value} {w w':World} (h:vD tb u0 u1 w) (hb:Below w.heap.size w w'):vD tb u0 u1 w' :=
 ⟨(hb.cell (h_ w _ h.1)).trans h.1,(hb.cell (h_ w _ h.2)).trans h.2⟩
theorem vD.set {tb:Nat} {u0 u1:Value} {w:World} (h:vD tb u0 u1 w) (b o:Nat) (u:Value) (hb:tb≠b):vD tb u0 u1 (w.setCell ⟨b,o,none⟩ u) :=
 ⟨(World.cell?_of_block (bQ _ _ _ _ (by simpa using hb))).trans h.1,(World.cell?_of_block (bQ _ _ _ _ (by simpa using hb))).trans h.2⟩
theorem isTr_ok {l:Bs} {t:Tr} {r:Bs} {e:Nat} (h:qO e l=some (t,r)):kH t:=(vv e l t r h).2.1
set_option maxRecDepth 100000 in
theorem l5Term_any (l:Bs) (hl:Lim l.length) (w:World):Calls Tryz.prog 22 #[str l] w (STermPost w (kG l)):=by
 have ct:=hl.le
 by_cases mJ:1000<l.length
 ·have h1:(1000:Int)<(l.length:Int):=by omega
  have HM:=g_ (show kG l=none by unfold kG;rw [if_pos mJ])
  go_enter Tryz.func22,Tryz.ntmps22
  go_wp2_with fail
  refine bodyPost_ret (v:=.tuple #[.agg #[str [],.slice none 0 0],.bool false]) (by simp [results,Tryz.results22,go_sem]) rfl ?_
  exact ⟨[],none,0,0,by rw [HM.out];rfl,(bZ _ _).alloc (hG _) _,fun t h=>by rw [HM.out] at h;simp at h⟩
 have h1:¬ (1000:Int)<(l.length:Int):=by omega
 have HM:=g_ (show kG l=(match qO 101 l with | some (t,[])=>if kW t && decide (zo t<=60) then some t else none | _=>none) by unfold kG;rw [if_neg mJ];rfl)
 clear mJ
 have C:Hid (∀ wz,Calls Tryz.prog 50 #[str l,.int .i64 0,.int .i64 0] wz (q_ l.length wz (qO 101 l))):=fun wz=>by
  have h:=gH l hl 101 (by omega) 0 0 wz (by omega) (Nat.zero_le _)
  rw [List.drop_zero] at h
  exact h
 go_enter Tryz.func22,Tryz.ntmps22
 go_wp2_with fail
 (with_reducible refine (C.out _).mono ?_)
 rintro en w1 ⟨s6,a6,n6,c6,k6,rfl,bU,bz,b6⟩
 have z1:=bU.size
 rw [zQ] at z1
 have bo:kB w.heap.size [] (.slice none 0 0) w1:=kB.below (zO _ _) bU (by simp)
 have cq:Below w.heap.size w w1:=((bZ w.heap.size w).alloc (hG _) _).trans (bU.mono (by simp))
 obtain ⟨W2,mZ⟩:=zzM (w1.alloc (.cells #[str s6,.slice a6 n6 c6] 57))
 have rQ:vD w1.heap.size (str s6) (.slice a6 n6 c6) W2:=by subst mZ;exact ⟨by simp,by simp⟩
 have hK2d:vD w1.heap.size (str s6) (.slice a6 n6 c6) W2.drew:=rQ
 have cd:kB w.heap.size [] (.slice none 0 0) W2:=by subst mZ;exact zH bo
 have fF:Below w.heap.size w W2:=by subst mZ;exact cq.alloc cq.size _
 have z2:W2.heap.size=w1.heap.size+1:=by subst mZ;simp
 obtain ⟨r0,r1,rl,rf⟩:=cd.cells
 have dH:=rf 0;have dx:=rf 1;clear rf
 have eC:w1.heap.size≠w.heap.size:=by omega
 have FIN:∀ (Wz:World) (B:Bool) (o:Option Tr),kG l=o->o.isSome=B->Below w.heap.size w Wz->(∀ t,o=some t->kH t/\zC (fun b=>w.heap.size<b) Wz (zm t) [str s6,.slice a6 n6 c6]) ->
  ∀ W,(∀ B w0,Below B w0 Wz->B<=w.heap.size->Below B w0 W)->(∀ i x,i≠w.heap.size->Wz.heap[i]? = some x->W.heap[i]? = some x)->STermPost w (kG l) (.returned (.tuple #[.agg #[str s6,.slice a6 n6 c6],.bool B])) W:=by
  intro Wz B o ho hB hb hr W bE bg
  rw [ho]
  exact ⟨s6,a6,n6,c6,by rw [hB],bE _ _ hb (hG _),fun t ht=>⟨(hr t ht).1,(Rep.keep fun b o bS ho=>⟨Nat.le_of_lt bS,bg b o (by have:=bS;omega) ho⟩).2 _ _ (hr t ht).2⟩⟩
 have FN:=g_ FIN;clear FIN
 by_cases cm:k6=(l.length:Int)
 rotate_left
 ·have q:(k6 == (l.length:Int))=false:=by rw [beq_eq_false_iff_ne];exact cm
  have cB:kG l=none:=by
   rw [HM.out]
   cases hq:qO 101 l with
   | none=>rfl
   | some x =>
     obtain ⟨t,rest⟩:=x
     cases rest with
     | nil=>have:=(b6 t [] hq).1;simp at this;exact absurd this cm
     | cons a b=>rfl
  have HN:=g_ cB
  have HR:=g_ (hU cd fF)
  clear cB cm b6 bz bU cq bo
  have q0:W2.cell? ⟨w1.heap.size,0,none⟩=some (str s6):=rQ.1
  have q1:W2.cell? ⟨w1.heap.size,1,none⟩=some (.slice a6 n6 c6):=rQ.2
  go_wp2_with fail
  rw [<- mZ]
  clear mZ
  go_region
  go_wp2_with fail
  obtain ⟨W,hW,s0,s1,bE,bg⟩:=(HR.out.1).store (str s6) (.slice a6 n6 c6)
  rw [<- hW]
  refine bodyPost_ret (v:=.tuple #[.agg #[str s6,.slice a6 n6 c6],.bool false]) (by simp [results,Tryz.results22,go_sem,s0,s1]) rfl ?_
  exact FN.out W2 false none HN.out rfl HR.out.2 (fun t h=>by simp at h) W.drew (fun B w0 h hB=>(bE B w0 h hB).drew) bg
 obtain ⟨t,hq⟩:∃ t,qO 101 l=some (t,[]):=by
  cases hq:qO 101 l with
  | none=>have:=bz hq;omega
  | some x =>
    obtain ⟨t,rest⟩:=x
    have h1:=(b6 t rest hq).1
    have:rest.length=0:=by omega
    rw [List.eq_nil_of_length_eq_zero this];exact ⟨t,rfl⟩
 have q:(k6 == (l.length:Int))=true:=by rw [beq_iff_eq];exact cm
 have eG:=(b6 t [] hq).2
 have cK:=isTr_ok hq
 have bX:Lim (zB t).length:=hl.mono (by have:=congrArg List.length (vv 101 l t [] hq).1;simp at this;omega)
 have hm:kG l=if kW t && decide (zo t<=60) then some t else none:=by rw [HM.out,hq]
 have HM:=g_ hm
 have cJ:zC (fun b=>w.heap.size<b) W2 (zm t) [str s6,.slice a6 n6 c6]:=by
  subst mZ
  exact (Rep.keep fun b o h ho=>⟨by have:=h;rw [zQ] at this;omega,zH ho⟩).2 _ _ eG
 have HR2:=g_ cJ
 have CI:=g_ (l5Is_any _ t (hG _) bX cK _ W2.drew _ _ cJ.drew)
 have CS:=g_ (fun wz (hb:Below W2.heap.size W2 wz)=>l5Size_any _ t (hG _) bX cK _ wz _ _ (zC.below (F':=fun b=>w.heap.size<b) hb (fun _ h=>h) cJ))
 have bN:zo t<=16777216:=by have:=wZ t cK;have:=bX.le;omega
 have mI:=g_ (hU cK fF)
 have rl0:=rl
 clear hm cJ eG b6 bz bU cq bo hq r0 r1 dH dx rl cm cK
 cases hi:kW t with
 | false =>
   have HI:=g_ hi
   have HN:=g_ (show kG l=none by rw [HM.out,hi];rfl)
   clear hi
   go_wp2_with fail
   rw [<- mZ]
   clear mZ
   refine wp_region_noPanic ?_
   refine kT (fun w'=>vD w1.heap.size (str s6) (.slice a6 n6 c6) w') (fun _=>false) (by kernel_rfl) ?_
   have bq:(fun w'=>vD w1.heap.size (str s6) (.slice a6 n6 c6) w') W2.drew:=rQ
   refine tk [0,1,2,3,4,5,6] bq ?_
   (intro d hd;simp [tkD] at hd;subst hd;simp only [tks,pQ,pZ,pS])
   iterate 7 (refine ⟨?_,?_,?_⟩;rotate_left;· (intro oi ho;simp at ho;subst ho;refine Or.inl ⟨by rfl,fun w' br=>?_⟩;obtain ⟨e0,e1⟩:=br;go_simp;try with_reducible rfl))
   (refine on 7 ?_;intro o ho K' hK;simp at ho;subst ho;go_simp)
   go_at_call 51
   (with_reducible refine CI.out.mono ?_)
   rintro tK w5 ⟨rfl,bF⟩
   rw [HI.out]
   have dy:Hid (Below W2.heap.size W2 w5):=(Below.drew (bZ W2.heap.size W2)).trans bF
   have du:=rQ.below dy.out
   have iL:=g_ (cd.below dy.out rl0)
   clear bF
   (refine hK.out _ _ (fun _=>du) ?_;clear hK K';try simp only [pQ,pN,pZ,pS])
   have hS7:=du
   refine tk [8,9,10] hS7 ?_
   (intro d hd;simp [tkD] at hd;subst hd;simp only [tks,pQ,pZ,pS])
   iterate 3 (refine ⟨?_,?_,?_⟩;rotate_left;· (intro oi ho;simp at ho;subst ho;first | (refine Or.inr ⟨by rfl,?_⟩;with_reducible rfl) | (refine Or.inl ⟨by rfl,fun w' br=>?_⟩;go_simp;try with_reducible rfl)))
   (refine on 11 ?_;intro o ho K' hK;simp at ho;subst ho;go_simp)
   (refine hK.out _ _ (fun _=>du) ?_;clear hK K';try simp only [pQ,pN,pZ,pS])
   refine tk [12,13] hS7 ?_
   (intro d hd;simp [tkD] at hd;subst hd;simp only [tks,pQ,pZ,pS])
   iterate 2 (refine ⟨?_,?_,?_⟩;rotate_left;· (intro oi ho;simp at ho;subst ho;first | (refine Or.inr ⟨by rfl,?_⟩;with_reducible rfl) | (refine Or.inl ⟨by rfl,fun w' br=>?_⟩;go_simp;try with_reducible rfl)))
   (refine on 14 ?_;intro o ho K' hK;simp at ho;subst ho)
   obtain ⟨r0,r1,rl,rf⟩:=(iL.out).cells
   have dH:=rf 0
   have dx:=rf 1
   clear rf
   go_simp
   (refine hK.out _ _ (fun _=>(du.set _ _ _ eC).set _ _ _ eC) ?_;clear hK K';try simp only [pQ,pN,pZ,pS])
   (refine on 15 ?_;intro o ho K' hK;simp at ho;subst ho;go_simp)
   (refine hK.out _ _ (fun _=>(du.set _ _ _ eC).set _ _ _ eC) ?_;clear hK K';try simp only [pQ,pN,pZ,pS])
   refine kL (by kernel_rfl) (NoPanic.normal ?_) _
   go_wp2_with fail
   obtain ⟨W,hW,s0,s1,bE,bg⟩:=(iL.out).store (str s6) (.slice a6 n6 c6)
   rw [<- hW]
   refine bodyPost_ret (v:=.tuple #[.agg #[str s6,.slice a6 n6 c6],.bool false]) (by simp [results,Tryz.results22,go_sem,s0,s1]) rfl ?_
   exact FN.out w5 false none HN.out rfl (zzT mI.out.2 dy.out) (fun t h=>by simp at h) W bE bg
 | true =>
   have HI:=g_ hi
   have HN:=g_ (show kG l=if decide (zo t<=60) then some t else none by rw [HM.out,hi];rfl)
   clear hi
   go_wp2_with fail
   rw [<- mZ]
   clear mZ
   refine wp_region_noPanic ?_
   refine kT (fun w'=>vD w1.heap.size (str s6) (.slice a6 n6 c6) w') (fun _=>false) (by kernel_rfl) ?_
   have bq:(fun w'=>vD w1.heap.size (str s6) (.slice a6 n6 c6) w') W2.drew:=rQ
   refine tk [0,1,2,3,4,5,6] bq ?_
   (intro d hd;simp [tkD] at hd;subst hd;simp only [tks,pQ,pZ,pS])
   iterate 7 (refine ⟨?_,?_,?_⟩;rotate_left;· (intro oi ho;simp at ho;subst ho;refine Or.inl ⟨by rfl,fun w' br=>?_⟩;obtain ⟨e0,e1⟩:=br;go_simp;try with_reducible rfl))
   (refine on 7 ?_;intro o ho K' hK;simp at ho;subst ho;go_simp)
   go_at_call 51
   (with_reducible refine CI.out.mono ?_)
   rintro tK w5 ⟨rfl,bF⟩
   rw [HI.out]
   have dy:Hid (Below W2.heap.size W2 w5):=(Below.drew (bZ W2.heap.size W2)).trans bF
   have du:=rQ.below dy.out
   have iL:=g_ (cd.below dy.out rl0)
   clear bF
   (refine hK.out _ _ (fun _=>du) ?_;clear hK K';try simp only [pQ,pN,pZ,pS])
   have hS7:=du
   refine tk [8,9,10] hS7 ?_
   (intro d hd;simp [tkD] at hd;subst hd;simp only [tks,pQ,pZ,pS])
   iterate 3 (refine ⟨?_,?_,?_⟩;rotate_left;· (intro oi ho;simp at ho;subst ho;refine Or.inl ⟨by rfl,fun w' br=>?_⟩;obtain ⟨e0,e1⟩:=br;go_simp;try with_reducible rfl))
   (refine on 11 ?_;intro o ho K' hK;simp at ho;subst ho;go_simp)
   go_at_call 52
   (with_reducible refine (CS.out w5 dy.out).mono ?_)
   rintro en7 w7 ⟨rfl,bB⟩
   have mz:Hid (Below W2.heap.size W2 w7):=zzT dy.out bB
   have hK7:=rQ.below mz.out
   have iA:=g_ (cd.below mz.out rl0)
   clear bB
   (refine hK.out _ _ (fun _=>hK7) ?_;clear hK K';try simp only [pQ,pN,pZ,pS])
   have iG:=hK7
   refine tk [12,13] iG ?_
   (intro d hd;simp [tkD] at hd;subst hd;simp only [tks,pQ,pZ,pS])
   iterate 2 (refine ⟨?_,?_,?_⟩;rotate_left;· (intro oi ho;simp at ho;subst ho;refine Or.inl ⟨by rfl,fun w' br=>?_⟩;go_simp;try with_reducible rfl))
   (refine on 14 ?_;intro o ho K' hK;simp at ho;subst ho)
   obtain ⟨r0,r1,rl,rf⟩:=(iA.out).cells
   have dH:=rf 0
   have dx:=rf 1
   clear rf
   go_simp
   (refine hK.out _ _ (fun _=>(hK7.set _ _ _ eC).set _ _ _ eC) ?_;clear hK K';try simp only [pQ,pN,pZ,pS])
   (refine on 15 ?_;intro o ho K' hK;simp at ho;subst ho;go_simp)
   (refine hK.out _ _ (fun _=>(hK7.set _ _ _ eC).set _ _ _ eC) ?_;clear hK K';try simp only [pQ,pN,pZ,pS])
   refine kL (by kernel_rfl) (NoPanic.normal ?_) _
   go_wp2_with fail
   obtain ⟨W,hW,s0,s1,bE,bg⟩:=(iA.out).store (str s6) (.slice a6 n6 c6)
   rw [<- hW]
   refine bodyPost_ret (v:=.tuple #[.agg #[str s6,.slice a6 n6 c6],.bool (decide ((zo t:Int)<=60))]) (by simp [results,Tryz.results22,go_sem,s0,s1]) rfl ?_
   by_cases iC:zo t<=60
   ·exact FN.out w7 _ (some t) (by rw [HN.out,if_pos (by simpa using iC)]) (by rw [decide_eq_true (by omega)];rfl) (zzT mI.out.2 mz.out) (fun t' h=>by
     obtain rfl:=Option.some.inj h
     exact ⟨mI.out.1,zC.below mz.out (fun _ h=>h) HR2.out⟩) W bE bg
   ·exact FN.out w7 _ none (by rw [HN.out,if_neg (by simpa using iC)]) (by rw [decide_eq_false (by omega)];rfl) (zzT mI.out.2 mz.out) (fun t h=>by simp at h) W bE bg
theorem termOf_lenR {t:Ty} {b:Bd} (h:Good t b):(zB (zS (tmL [] t b))).length<=400000:=by
 have ha:=kP h.atoms
 have hc:=qE h.atoms
 have hs:=h.size
 have h1:=vM b ([]++t.args) (by rw [List.nil_append];exact h.fit) (fun x hx=>by rw [List.nil_append] at hx;exact ha x hx) (by simp;omega)
 have h2:=jS t.args 0 ha (by omega)
 show (zG (tmL [] t b)).length<=_
 unfold tmL
 rw [List.length_nil,vT,List.length_append,List.length_append,qq]
 omega
set_option maxRecDepth 20000 in
theorem uh (s text:Bs) (w:World) (hs:Lim s.length) (hl:Lim text.length) :
 Calls Tryz.prog 6 #[str s,str text] w fun en w'=>en=.returned (.tuple #[str ((kU s text).getD []),.bool (kU s text).isSome])/\Below w.heap.size w w':=by
 have C0:=g_ (gF s text hs hl w)
 go_enter Tryz.func6,Tryz.ntmps6
 go_wp2_with fail
 (with_reducible refine C0.out.mono ?_)
 rintro en w1 ⟨a,c,s',v',a2,n2,c2,a3,n3,c3,rfl,bU,eG,dt⟩
 obtain ⟨W,hW⟩:=zzM ((w1.alloc (.cells #[.slice a (zU s).1.args.length c] 35)).alloc (.cells #[str s',.int .i64 v',.slice a2 n2 c2,.slice a3 n3 c3] 43))
 have bE:Below w.heap.size w W:=by subst hW;exact (bU.alloc bU.size _).alloc (by have:=bU.size;simp;omega) _
 cases hq:zI s text with
 | none =>
   have HM:=g_ (show kU s text=none by unfold kU;rw [hq];rfl)
   have HB:=g_ (hU hW bE)
   clear hq eG dt bU hW bE
   simp only [Option.isSome_none]
   go_wp2_with fail
   rw [<- HB.out.1]
   go_ret2
   exact ⟨by rw [HM.out];rfl,HB.out.2⟩
 | some b =>
   obtain ⟨bj,_⟩:=jj hq
   have rb:=dt b hq
   have bP:=termOf_lenR bj
   have cK:=jz _ (wL bj).1
   have HM:=g_ (show kU s text=if (kG (zB (zS (tmL [] (zU s).1 b)))).isSome then some (zB (zS (tmL [] (zU s).1 b))) else none by
    have h:=pw hq
    unfold kU
    rw [hq,Option.bind_some,<- h];rfl)
   have n0:W.cell? ⟨w1.heap.size+1,0,none⟩=some (str s'):=by subst hW;simp
   have n1:W.cell? ⟨w1.heap.size+1,1,none⟩=some (.int .i64 v'):=by subst hW;simp
   have n2':W.cell? ⟨w1.heap.size+1,2,none⟩=some (.slice a2 n2 c2):=by subst hW;simp
   have n3':W.cell? ⟨w1.heap.size+1,3,none⟩=some (.slice a3 n3 c3):=by subst hW;simp
   have t0:W.cell? ⟨w1.heap.size,0,none⟩=some (.slice a (zU s).1.args.length c):=by subst hW;exact zK (by simp)
   have bp:∀ x,∀ i o,w1.heap[i]? = some o->(W.alloc x).heap[i]? = some o:=fun x i o ho=>by subst hW;exact zH (zH (zH ho))
   have rb3:zC (w.heap.size<=·) (W.alloc (.cells #[] 35)) (qk b) [str s',.int .i64 v',.slice a2 n2 c2,.slice a3 n3 c3]:=(Rep.keep fun i o h ho=>⟨h,bp _ i o ho⟩).2 _ _ rb
   have rt3:Rep (w.heap.size<=·) (W.alloc (.cells #[] 35)) (j0 (zU s).1) (.slice a (zU s).1.args.length c):=(Rep.keep fun i o h ho=>⟨h,bp _ i o ho⟩).1 _ _ eG
   have CL:=g_ (lamsR_any (zD b) (w.heap.size<=·) (zU s).1 b [] _ _ _ _ _ (.slice (some ⟨w1.heap.size+1+1,0,none⟩) 0 0) (W.alloc (.cells #[] 35)) (hG _)
    ⟨by rw [List.nil_append];exact bj.fit,bj.wf,fun t h=>by rw [List.nil_append] at h;exact kP bj.atoms t h,by have:=bj.size;have:=qE bj.atoms;rw [List.nil_append];omega⟩ bj.atoms rb3 rt3
    (kD.2 ⟨rfl,some ⟨w1.heap.size+1+1,0,none⟩,0,rfl,hG _,fun h=>by simp at h,.inl rfl⟩))
   obtain ⟨X,hX⟩:=zzN (zS (tmL [] (zU s).1 b))
   have dN:kH (zS (tmL [] (zU s).1 b)):=cK
   rw [hX] at HM CL bP dN
   have CT:=g_ (gG (zB X).length X (hG _) (show _<=_ by omega) dN)
   obtain ⟨Y,hY⟩:=zzN (zB X)
   have CT2:Hid (j5 X):=CT
   have hYl:Y.length<=400000:=by rw [<- hY];exact bP
   rw [hY] at HM
   have C5:=g_ (fun wz=>l5Term_any Y (show _<=_ by omega) wz)
   have HB:=g_ bE
   have HY:=g_ hY
   clear hq eG dt bU bE rb bj bP cK dN bp rb3 rt3 CT hX hY hYl
   simp only [Option.isSome_some]
   go_wp2_with fail
   rw [<- hW]
   clear hW
   (with_reducible refine CL.out.mono ?_)
   rintro en w3 ⟨s3,a4,n4,c4,rfl,bH,mE⟩
   have dl:Hid (Below w.heap.size w w3):=(HB.out.alloc HB.out.size _).trans (bH.mono (HB.out.alloc HB.out.size _).size)
   have C6:=g_ (CT2.out _ w3 _ _ mE)
   clear bH mE n0 n1 n2' n3' t0 CL CT2
   go_wp2_with fail
   (with_reducible refine C6.out.mono ?_)
   rintro en w4 ⟨rfl,bC⟩
   have cH:=g_ (zzT dl.out bC)
   rw [HY.out]
   clear bC
   go_wp2_with fail
   (with_reducible refine (C5.out w4).mono ?_)
   rintro en w5 ⟨s5,a5,n5,c5,rfl,bF,_⟩
   have dy:=g_ ((zzT cH.out bF).alloc (zzT cH.out bF).size (.cells #[str s5,.slice a5 n5 c5] 57))
   clear bF
   cases ht:kG Y with
   | none =>
     have HT:=g_ ht
     clear ht
     simp only [Option.isSome_none]
     go_wp2_with fail
     go_ret2
     exact ⟨by rw [HM.out,HT.out];rfl,dy.out⟩
   | some t =>
     have HT:=g_ ht
     clear ht
     simp only [Option.isSome_some]
     go_wp2_with fail
     go_ret2
     exact ⟨by rw [HM.out,HT.out];rfl,dy.out⟩
theorem pY {s text x:Bs} (h:kU s text=some x):∃ b,zI s text=some b/\(zU s).2=true/\(10:UInt8) ∉ s/\(10:UInt8) ∉ text/\zD b<=200/\x.length<=400000:=by
 unfold kU at h
 cases hq:zI s text with
 | none=>rw [hq] at h;simp at h
 | some b =>
   obtain ⟨hg,ht⟩:=jj hq
   have h1:=(ud hq).1
   refine ⟨b,rfl,h1,?_,?_,hg.size,?_⟩
   ·have:=textT_ne (zU s).1
    rwa [<- (vk h1).1] at this
   ·rw [ht];exact y8 b hg.wf
   ·rw [hq] at h
    have hx:x=zG (ja (zU s).1 b):=by
     simp at h
     exact h.2.symm
    rw [hx];exact pu hg
def scrL (s text:Bs):List Bs:=[[116,121,112,101]++32::s,[115,101,116]++32::text,[116,101,114,109]]
def scrS (s text:Bs):Nat->Bs×Bs
 | 0=>([98],[117])
 | 1=>(s,[117])
 | _=>(s,text)
def scrA (x:Bs):Nat->Bs
 | 0=>[111,107]
 | 1=>[111,107]
 | _=>x
theorem scr_join (s text:Bs):qS (scrL s text)=[116,121,112,101,32]++s++[10,115,101,116,32]++text++[10,116,101,114,109,10]:=by simp [qS,scrL]
theorem scr_out (x e:Bs):xX (scrA x) 3++e=[111,107,10,111,107,10]++x++[10]++e:=by simp [xX,scrA]
theorem script_any (s text x:Bs) (b:Bd) (w:World) (hg:jA w) (hm:uy w) (h:kU s text=some x) (hb:zI s text=some b) (hs:(zU s).2=true) (h1:(10:UInt8) ∉ s) (h2:(10:UInt8) ∉ text) (hz:zD b<=200) (hx:x.length<=400000) (hn:(qS (scrL s text)).length<=900) :
 Calls Tryz.prog 7 #[str (qS (scrL s text))] w fun en w'=>en=.returned (str (xX (scrA x) 3++([110,111,100,101,115,32]++dec (zD b)++[10])))/\Below w.heap.size w w':=by
 have np:=hn
 rw [scr_join] at np
 simp only [List.length_append,List.length_cons,List.length_nil] at np
 have ls:Lim s.length:=show _<=_ by omega
 have lt:Lim text.length:=show _<=_ by omega
 refine execute_any (scrL s text) (scrS s text) (scrA x) (zD b) w hg hm ?_ hn rfl ?_ (by omega) ?_ ?_
 ·intro l hl
  simp only [scrL,List.mem_cons,List.not_mem_nil,or_false] at hl
  rcases hl with rfl | rfl | rfl
  ·simp [h1]
  ·simp [h2]
  ·decide
 ·intro i _
  match i with
  | 0=>simp [scrA]
  | 1=>simp [scrA]
  | n+2=>simp only [scrA];omega
 ·intro i l hl g y hy hgg hd
  match i,hl,hd with
  | 0,hl,hd =>
    obtain rfl:_=l:=by simpa [scrL] using hl
    exact line_type g _ _ [111,107] s [117] _ s y hd (hm.below hy) (by simp;omega) (cut_at (l:=[116,121,112,101]) (r:=s) (by decide)) fun y' mj=>take_deed g _ _ s y' (hd.below mj) ls hs
  | 1,hl,hd =>
    obtain rfl:_=l:=by simpa [scrL] using hl
    exact line_set g _ _ [111,107] s text _ text y hd (hm.below hy) (by simp;omega) (cut_at (l:=[115,101,116]) (r:=text) (by decide)) fun y' mj=>set_deed g s _ text y' (hd.below mj) ((hg.below hy).below mj) ls lt (by rw [hb];rfl)
  | 2,hl,hd =>
    obtain rfl:_=l:=by simpa [scrL] using hl
    refine line_term g _ _ x s text _ [] y hd (hm.below hy) (by simp) (cut_none (by decide)) fun y' mj=>term_deed g s text x y' (hd.below mj) fun y2 ef=>?_
    refine (vU s text y2 (((hg.below hy).below mj).below ef) ls lt).mono ?_
    rintro en w2 ⟨rfl,bY⟩
    rw [h]
    exact ⟨rfl,bY⟩
  | n+3,hl,_=>simp [scrL] at hl
 ·intro y hy
  refine (xN s text ls lt y (hg.below hy)).mono ?_
  rintro en w2 ⟨rfl,bY⟩
  rw [hb]
  exact ⟨rfl,bY⟩
theorem pX (s text:Bs):kU s text=none\/∃ x b,kU s text=some x/\zI s text=some b/\(zU s).2=true/\(10:UInt8) ∉ s/\(10:UInt8) ∉ text/\zD b<=200/\x.length<=400000:=by
 cases h:kU s text with
 | none=>exact .inl rfl
 | some x =>
   obtain ⟨b,h1⟩:=pY h
   exact .inr ⟨x,b,rfl,h1⟩
set_option maxRecDepth 100000 in
theorem xS (a0:Option Addr) (len cap:Nat) (zs:List Int) (w:World) (h8:Row8 w a0 len cap zs) (hg:jA w) (hm:uy w) :
 Calls Tryz.prog 3 #[.slice a0 len cap] w fun en w'=>en=.returned (.bool true)/\Below w.heap.size w w':=by
 by_cases hl:1048576<len
 ·have ct:(1048576:Int)<(len:Int):=by omega
  go_enter Tryz.func3,Tryz.ntmps3
  go_wp2_with fail
  go_ret
  exact ⟨rfl,bZ _ _⟩
 have ct:¬ (1048576:Int)<(len:Int):=by omega
 have CD:=g_ (yK a0 len cap zs w h8 (by omega))
 have HG:=g_ (hU hg hm)
 clear h8 hg hl hm
 go_enter Tryz.func3,Tryz.ntmps3
 go_wp2_with fail
 (with_reducible refine CD.out.mono ?_)
 rintro en w1 ⟨s,text,rfl,hs,ht,bU⟩
 have ls:Lim s.length:=show _<=_ by omega
 have lt:Lim text.length:=show _<=_ by omega
 have bx:=g_ bU
 have CI:=g_ (fun (y:World) (hy:Below w.heap.size w y)=>vU s text y (HG.out.1.below hy) ls lt)
 have CS:=g_ (fun (y:World)=>uh s text y ls lt)
 have HP:=g_ (pX s text)
 have CZ:=g_ (fun (y:World) (hy:Below w.heap.size w y)=>xN s text ls lt y (HG.out.1.below hy))
 have HS:=g_ (fun x b h hb h0 h1 h2 hz hx hn (y:World) (hy:Below w.heap.size w y)=>script_any s text x b y (HG.out.1.below hy) (HG.out.2.below hy) h hb h0 h1 h2 hz hx hn)
 obtain ⟨o,ho⟩:=zzN (kU s text)
 rw [ho] at CI CS HP HS
 have HO:=g_ ho
 clear ho bU ls lt CD
 go_wp2_with fail
 (with_reducible refine (CI.out _ bx.out).mono ?_)
 rintro en w2 ⟨rfl,bY⟩
 have cX:=g_ (zzT bx.out bY)
 clear bY
 go_wp2_with fail
 (with_reducible refine (CS.out w2).mono ?_)
 rintro en w3 ⟨rfl,bH⟩
 have dl:=g_ (zzT cX.out bH)
 clear bH CI CS
 cases o with
 | none =>
   clear HS HP CZ
   simp only [Option.getD_none,Option.isSome_none]
   go_wp2_with fail
   go_ret
   exact ⟨rfl,dl.out⟩
 | some x =>
   obtain ⟨x',b,h,hb,h0,h1,h2,hz,hx⟩:=HP.out.resolve_left (by simp)
   obtain rfl:x=x':=by simpa using h
   have HE:=g_ (HS.out x b rfl hb h0 h1 h2 hz hx)
   have CE:=g_ (fun (y:World) (hy:Below w.heap.size w y)=>endLine_any s text (zD b) (by omega) y fun y' mj=>(CZ.out y' (zzT hy mj)).mono (by
    rintro en w2 ⟨rfl,bY⟩
    rw [hb]
    exact ⟨rfl,bY⟩))
   have hE:([110,111,100,101,115,32]++dec (zD b)++[10]).length<=20:=by
    have:=qN 3 (zD b) (by omega)
    simp;omega
   rw [scr_out,scr_join] at HE
   clear HS HP CZ h hb h0 h1 h2 hz
   obtain ⟨E,hEE⟩:∃ E:Bs,[110,111,100,101,115,32]++dec (zD b)++[10]=E:=⟨_,rfl⟩
   rw [hEE] at HE CE hE
   clear hEE
   have s1:=fun w0=>zN (P:=Tryz.prog) [116,121,112,101,32] s (by simp;omega) w0
   obtain ⟨A1,e1⟩:∃ A:Bs,[116,121,112,101,32]++s=A:=⟨_,rfl⟩
   rw [e1] at s1 HE
   have l1:A1.length<=200:=by rw [<- e1];simp;omega
   have s2:=fun w0=>zN (P:=Tryz.prog) A1 [10,115,101,116,32] (by simp;omega) w0
   obtain ⟨A2,e2⟩:∃ A:Bs,A1++[10,115,101,116,32]=A:=⟨_,rfl⟩
   rw [e2] at s2 HE
   have l2:A2.length<=300:=by rw [<- e2];simp;omega
   have s3:=fun w0=>zN (P:=Tryz.prog) A2 text (by omega) w0
   obtain ⟨A3,e3⟩:∃ A:Bs,A2++text=A:=⟨_,rfl⟩
   rw [e3] at s3 HE
   have l3:A3.length<=200000:=by rw [<- e3];simp;omega
   have s4:=fun w0=>zN (P:=Tryz.prog) A3 [10,116,101,114,109,10] (by simp;omega) w0
   obtain ⟨A4,e4⟩:∃ A:Bs,A3++[10,116,101,114,109,10]=A:=⟨_,rfl⟩
   rw [e4] at s4 HE
   have s5:=fun w0=>zN (P:=Tryz.prog) [111,107,10,111,107,10] x (by simp;omega) w0
   obtain ⟨O1,f1⟩:∃ A:Bs,[111,107,10,111,107,10]++x=A:=⟨_,rfl⟩
   rw [f1] at s5 HE
   have m1:O1.length<=400100:=by rw [<- f1];simp;omega
   have s6:=fun w0=>zN (P:=Tryz.prog) O1 [10] (by simp;omega) w0
   obtain ⟨O2,f2⟩:∃ A:Bs,O1++[10]=A:=⟨_,rfl⟩
   rw [f2] at s6 HE
   have m2:O2.length<=400200:=by rw [<- f2];simp;omega
   have s7:=fun w0=>zN (P:=Tryz.prog) O2 E (by omega) w0
   obtain ⟨O3,f3⟩:∃ A:Bs,O2++E=A:=⟨_,rfl⟩
   rw [f3] at s7 HE
   have HX:=g_ HE
   clear HE e1 e2 e3 e4 l1 l2 l3 f1 f2 f3 m1 m2 hE hx hs ht
   simp only [Option.getD_some,Option.isSome_some]
   by_cases hn:A4.length<=900
   ·have np:¬ (900:Int)<(A4.length:Int):=by omega
    have HE:=g_ (HX.out.out hn)
    clear HX
    go_wp2_with fail
    (with_reducible refine (HE.out _ dl.out).mono ?_)
    rintro en w4 ⟨rfl,bC⟩
    have cH:=g_ (zzT dl.out bC)
    clear bC HE
    go_wp2_with fail
    (with_reducible refine (CE.out _ cH.out).mono ?_)
    rintro en w5 ⟨rfl,bF⟩
    have dy:=g_ (zzT cH.out bF)
    clear bF CE
    go_wp2_with fail
    go_ret
    exact ⟨rfl,dy.out⟩
   ·have np:(900:Int)<(A4.length:Int):=by omega
    clear HX CE
    go_wp2_with fail
    go_ret
    exact ⟨rfl,dl.out⟩
end Go.Proofs.YtepgfdhkkjfmhabGreatDoor

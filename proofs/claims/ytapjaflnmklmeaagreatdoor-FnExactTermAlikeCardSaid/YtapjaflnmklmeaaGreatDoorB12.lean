import Derived.Test.YtapjaflnmklmeaaGreatDoorB7
import Derived.Test.YtapjaflnmklmeaaGreatDoorT6
/- What holds at each round of the loops of l4Keep. -/
set_option linter.unusedVariables false
set_option linter.unusedSimpArgs false
namespace Go.Proofs.YtapjaflnmklmeaaGreatDoor
open Go.RowKit
structure KeepPre (F:Nat→Prop) (ww d k l n vv o:Nat) (H:List Ty) (t:Ty) (ss:List Bd) (y no:Bd) (env:List Mn) (st:List WFr) (v0:Int) (a1 a2:Option Addr) (c1 c2:Nat) (ev sv:Value) (w:World):Prop where
 wri:Wri w ww ((k:Nat)+1) (20000-(l:Nat))
 hF:∀ i,F i→i≠ww
 ld:l≤d
 d20:d≤20000
 k200:k≤200
 hv:env[vv]? = some (.op o t)
 fit:EvFit H (.ask vv ss y no) env (st.map WFr.gf)
 hn:H.length=n
 el:env.length+16*(d+1)≤1000000
 nl:n+16*(d+1)≤1000000
 stl:st.length+d≤40000
 ok:okMs (1000000-16*(d+1)) env
 okg:okGs (1000000-16*(d+1)) (st.map WFr.gf)
 wf:wfB (.ask vv ss y no)∧wfMs env∧∀ f∈st.map WFr.gf,wfG f
 rb:Reps F w (encN (.ask vv ss y no)) [str [],.int .i64 (vv:Nat),.slice a1 ss.length c1,.slice a2 2 c2]
 re:Rep F w (.sl 89 9 env.length (encWs env)) ev
 rs:Rep F w (.sl 124 6 st.length (encFs st)) sv
def fpos:Bool→Nat
 | false=>2
 | true=>3
def fk:Bool→Value→Value→Value
 | false,_,sv=>sv
 | true,ks,_=>ks
def fy:Bool→Value→Value
 | false,_=>.slice none 0 0
 | true,sv=>sv
structure NInv (F:Nat→Prop) (ww:Nat) (D:Int) (k l n o vv nk:Nat) (env:List Mn) (f:Nat→Nat→Bd→List Mn→Nat→List Gf→Option (Bd×Nat×Nat)) (k0 l0:Nat) (ts:List Ty) (bs:List Bd) (A Z:Prop) (fld:Bool) (ks:Value) (outs:List Bd)
 (a1 a2 ta:Option Addr) (c1 c2 nt tc:Nat) (i0:Int) (w:World) (Q j:Nat) (sv:Value) (us:List Value) (wr:World):Prop where
 but:But (· = ww) w wr
 zw:Q+1≤wr.heap.size
 box:wr.heap[w.heap.size]? = some (.cells #[str [],.int .i64 (vv:Nat),.slice a1 nk c1,.slice a2 2 c2] 36 (0,0))
 res:NewN (w.heap.size+1) 0 (.slice none 0 0) (.slice none 0 0) wr
 bnd:wr.heap[w.heap.size+2]? = some (.cells #[.int .i64 (o:Nat),str [],.int .i64 0,.slice none 0 0,.slice none 0 0,.slice ta nt tc,.slice none 0 0,.int .i64 0,.int .i64 i0] 89 (0,0))
 blk:NewN Q (o:Nat) (fk fld ks sv) (fy fld sv) wr
 own:Own wr 36 4 sv j us
 fr:∀ g,sv.ownBlock=some g→Q+1≤g
 mode:(∃ zs kj lj,A∧evSubsN f env n k0 l0 (ts.take j) (bs.take j)=some (zs,kj,lj)∧zs.length=j∧Wri wr ww (kj:Nat) (20000-(lj:Nat))∧kj≤k∧lj≤l∧Reps (fun i=>Fx F w 4 i∧sv.ownBlock≠some i) wr (encNs zs) us ∧
  Rep (fun i=>Fx F w 4 i∧sv.ownBlock≠some i) wr (.sl 36 4 outs.length (encNs outs)) ks) ∨
  (Z∧∃ s,Wri wr ww (-1) s∧0≤s∧s≤D+(j:Int))
theorem NInv.next {F:Nat→Prop} {ww:Nat} {D:Int} {k l n o vv nk:Nat} {env:List Mn} {f:Nat→Nat→Bd→List Mn→Nat→List Gf→Option (Bd×Nat×Nat)} {k0 l0:Nat} {ts:List Ty} {bs:List Bd} {A Z:Prop} {fld:Bool} {ks:Value} {outs:List Bd}
 {a1 a2 ta:Option Addr} {c1 c2 nt tc:Nat} {i0:Int} {w:World} {Q j:Nat} {sv:Value} {us:List Value} {wr:World}
 (h:NInv F ww D k l n o vv nk env f k0 l0 ts bs A Z fld ks outs a1 a2 ta c1 c2 nt tc i0 w Q j sv us wr) (hQ:Q=w.heap.size+3) (hww:ww<w.heap.size) (hF:∀ i,F i→i≠ww)
 {w6 w7:World} {O:Obj} {oo:Option (Bd×Nat×Nat)} {cs:List Value} {a':Option Addr} {c':Nat}
 (hb6:But (· = ww) wr.drew w6)
 (hn6:oo=none→∃ st,Wri w6 ww (-1) st∧0≤st∧st≤D+((j+1:Nat):Int))
 (hy6:∀ x,oo=some x→Wri w6 ww (x.2.1:Nat) (20000-(x.2.2:Nat))∧Reps (fun i=>(F i∧i<w.heap.size)∨wr.drew.heap.size≤i) w6 (encN x.1) cs)
 (hR1:oo=none→Z)
 (hR2:∀ x,oo=some x→∃ zs,A∧evSubsN f env n k0 l0 (ts.take (j+1)) (bs.take (j+1))=some (zs++[x.1],x.2.1,x.2.2)∧zs.length=j∧x.2.1≤k∧x.2.2≤l∧Reps (fun i=>Fx F w 4 i∧sv.ownBlock≠some i) wr (encNs zs) us ∧
  Rep (fun i=>Fx F w 4 i∧sv.ownBlock≠some i) wr (.sl 36 4 outs.length (encNs outs)) ks)
 (ho7:Own w7 36 4 (.slice a' (j+1) c') (j+1) (us++cs)) (hb7:But (fun b=>sv.ownBlock=some b) (w6.alloc O) w7)
 (hg7:∀ g,(Value.slice a' (j+1) c').ownBlock=some g→sv.ownBlock=some g∨g=(w6.alloc O).heap.size) :
 NInv F ww D k l n o vv nk env f k0 l0 ts bs A Z fld ks outs a1 a2 ta c1 c2 nt tc i0 w Q (j+1) (.slice a' (j+1) c') (us++cs) (w7.setCell ⟨Q,fpos fld,none⟩ (.slice a' (j+1) c')):=by
 have z6:wr.heap.size≤w6.heap.size:=hb6.size
 have z7:=hb7.size
 rw [size_alloc] at z7
 have zr:=h.zw
 have svlt:∀ g,sv.ownBlock=some g→g<wr.heap.size:=fun g hg=>h.own.lt hg
 obtain ⟨w8,hw8⟩:∃ w8,w7.setCell ⟨Q,fpos fld,none⟩ (.slice a' (j+1) c')=w8:=⟨_,rfl⟩
 have keep6:∀ i x,w6.heap[i]? = some x→sv.ownBlock≠some i→i≠Q→w8.heap[i]? = some x:=by
  intro i x hx h2 h3
  have hl:=lt_of_heap hx
  rw [← hw8,Below.heap_setCell _ _ _ _ (by simpa using h3),hb7.block i (by rw [size_alloc];omega) h2,Below.heap_alloc _ _ _ hl];exact hx
 have keep:∀ i x,wr.heap[i]? = some x→i≠ww→sv.ownBlock≠some i→i≠Q→w8.heap[i]? = some x:=by
  intro i x hx h1 h2 h3
  exact keep6 i x (by rw [hb6.block i (lt_of_heap hx) h1];exact hx) h2 h3
 have nsv:∀ i,i<Q+1→sv.ownBlock≠some i:=fun i hi e=>by have:=h.fr i e;omega
 have fr':∀ g,(Value.slice a' (j+1) c').ownBlock=some g→Q+1≤g:=fun g hg=>by
  rcases hg7 g hg with e | e
  ·exact h.fr g e
  ·rw [size_alloc] at e;omega
 have fxw:∀ i,Fx F w 4 i→i≠ww∧i≠Q:=fun i hi=>by
  rcases hi with hi | hi
  ·exact ⟨hF i hi.1,by have:=hi.2;omega⟩
  ·exact ⟨by omega,by omega⟩
 have hbW:But (· = ww) w w8:=by
  have h1:But (· = ww) w w6:=h.but.trans ⟨hb6.os,hb6.tape,hb6.output,hb6.size,hb6.block⟩
  have h2:But (· = ww) w w7:=(h1.alloc O).trans' hb7 (fun i hi e=>absurd (h.fr i e) (by omega))
  rw [← hw8]
  exact h2.setCell (p:=⟨Q,fpos fld,none⟩) (.inr (show w.heap.size≤Q by omega)) _
 have hsz:w8.heap.size=w7.heap.size:=by rw [← hw8];simp [World.setCell]
 have hbk:NewN Q (o:Nat) (fk fld ks (.slice a' (j+1) c')) (fy fld (.slice a' (j+1) c')) w8:=by
  have h1:NewN Q (o:Nat) (fk fld ks sv) (fy fld sv) w7:=by
   unfold NewN
   rw [hb7.block Q (by rw [size_alloc];omega) (nsv Q (by omega)),Below.heap_alloc _ _ _ (by omega),hb6.block Q (by show Q<wr.heap.size;omega) (by show Q≠ww;omega)];exact h.blk
  rw [← hw8]
  cases fld
  ·exact h1.put2
  ·exact h1.put3
 have hown:Own w8 36 4 (.slice a' (j+1) c') (j+1) (us++cs) :=
  ho7.keep fun g o hg ho=>by rw [← hw8,Below.heap_setCell _ _ _ _ (by have:=fr' g hg;simp;omega)];exact ho
 have hmode:(∃ zs kj lj,A∧evSubsN f env n k0 l0 (ts.take (j+1)) (bs.take (j+1))=some (zs,kj,lj)∧zs.length=j+1∧Wri w8 ww (kj:Nat) (20000-(lj:Nat))∧kj≤k∧lj≤l∧Reps (fun i=>Fx F w 4 i∧(Value.slice a' (j+1) c').ownBlock≠some i) w8 (encNs zs) (us++cs) ∧
  Rep (fun i=>Fx F w 4 i∧(Value.slice a' (j+1) c').ownBlock≠some i) w8 (.sl 36 4 outs.length (encNs outs)) ks)∨(Z∧∃ s,Wri w8 ww (-1) s∧0≤s∧s≤D+((j+1:Nat):Int)):=by
  cases hoo:oo with
  | none =>
    obtain ⟨st,q1,q2,q3⟩:=hn6 hoo
    exact .inr ⟨hR1 hoo,st,keep6 ww _ q1 (nsv ww (by omega)) (by omega),q2,q3⟩
  | some x =>
    obtain ⟨q1,q2⟩:=hy6 x hoo
    obtain ⟨zs,hA,r1,r2,r3,r4,r5,r6⟩:=hR2 x hoo
    have kG:∀ (i:Nat) (y:Obj),(Fx F w 4 i∧sv.ownBlock≠some i)→wr.heap[i]? = some y→(Fx F w 4 i∧(Value.slice a' (j+1) c').ownBlock≠some i)∧w8.heap[i]? = some y:=fun i y hi hy =>
     ⟨⟨hi.1,fun e=>by
       rcases hg7 i e with e' | e'
       ·exact hi.2 e'
       ·rw [size_alloc] at e';have:=lt_of_heap hy;omega⟩,keep i y hy (fxw i hi.1).1 hi.2 (fxw i hi.1).2⟩
    refine .inl ⟨zs++[x.1],x.2.1,x.2.2,hA,r1,by simp [r2],keep6 ww _ q1 (nsv ww (by omega)) (by omega),r3,r4,?_,(Rep.keep kG).1 _ _ r6⟩
    rw [encNs_append]
    refine Reps.append ((Rep.keep kG).2 _ _ r5) ?_
    have e1:encNs [x.1]=encN x.1:=by simp [encNs]
    rw [e1]
    refine (Rep.keep fun i y hi hy=>?_).2 _ _ q2
    have hl:=lt_of_heap hy
    rcases hi with hi | hi
    ·have h2:=hi.2
     exact ⟨⟨.inl hi,fun e=>by have:=fr' i e;omega⟩,keep6 i y hy (nsv i (by omega)) (by omega)⟩
    ·have h2:wr.heap.size≤i:=hi
     refine ⟨⟨.inr (by omega),fun e=>?_⟩,keep6 i y hy (fun e=>by have:=svlt i e;omega) (by omega)⟩
     rcases hg7 i e with e' | e'
     ·have:=svlt i e';omega
     ·rw [size_alloc] at e';omega
 rw [hw8]
 exact { but:=hbW,zw:=by omega,box:=keep _ _ h.box (by omega) (nsv _ (by omega)) (by omega),res:=keep _ _ h.res (by omega) (nsv _ (by omega)) (by omega),bnd:=keep _ _ h.bnd (by omega) (nsv _ (by omega)) (by omega),blk:=hbk,own:=hown,fr:=fr',mode:=hmode }
theorem node_ne {w:World} {ww:Nat} {k s:Int} {kb off:Nat} {s':Bs} (hw:Wri w ww k s) (g:w.cell? ⟨kb,off,none⟩=some (str s')):kb≠ww:=by
 intro e
 subst e
 unfold Wri at hw
 simp only [World.cell?,hw] at g
 rcases Nat.lt_or_ge off 2 with h | h
 ·have h2:off=0∨off=1:=by omega
  rcases h2 with h2 | h2 <;> rw [h2] at g <;> simp [str] at g
 ·rw [Array.getElem?_eq_none (by simpa using h)] at g;simp at g
theorem keptN_of {d k l n o k1 l1 kj lj:Nat} {t:Ty} {ss:List Bd} {y no:Bd} {env:List Mn} {st:List Gf} {outs zs:List Bd} (h0:evSubsN (evN d) env n k l t.args ss=some (outs,k1,l1))
 (h1:evSubsN (fun k l b _ _ _=>evN d k l b env n st) env n k1 l1 [t,t] [y,no]=some (zs,kj,lj)):∃ z1 z2,zs=[z1,z2]∧keptN d k l n o t ss y no env st=some (.ask o outs z1 z2,kj,lj):=by
 unfold keptN
 rw [h0]
 simp only [evSubsN,Option.bind_eq_bind,Option.bind_some] at h1 ⊢
 cases h2:evN d k1 l1 y env n st with
 | none=>rw [h2] at h1;simp at h1
 | some x =>
   rw [h2] at h1
   simp only [Option.bind_some] at h1 ⊢
   cases h3:evN d x.2.1 x.2.2 no env n st with
   | none=>rw [h3] at h1;simp at h1
   | some u =>
     rw [h3] at h1
     simp only [Option.bind_some,Option.some.injEq,Prod.mk.injEq] at h1 ⊢
     obtain ⟨rfl,rfl,rfl⟩:=h1
     exact ⟨x.1,u.1,rfl,rfl,rfl,rfl⟩
theorem keptN_none {d k l n o k1 l1:Nat} {t:Ty} {ss:List Bd} {y no:Bd} {env:List Mn} {st:List Gf} {outs:List Bd} (h0:evSubsN (evN d) env n k l t.args ss=some (outs,k1,l1))
 (h1:evSubsN (fun k l b _ _ _=>evN d k l b env n st) env n k1 l1 [t,t] [y,no]=none):keptN d k l n o t ss y no env st=none:=by
 unfold keptN
 rw [h0]
 simp only [evSubsN,Option.bind_eq_bind,Option.bind_some] at h1 ⊢
 cases h2:evN d k1 l1 y env n st with
 | none=>rfl
 | some x =>
   rw [h2] at h1
   simp only [Option.bind_some] at h1 ⊢
   cases h3:evN d x.2.1 x.2.2 no env n st with
   | none=>rfl
   | some u=>rw [h3] at h1;simp at h1
end Go.Proofs.YtapjaflnmklmeaaGreatDoor
namespace Go.Proofs.YtapjaflnmklmeaaGreatDoor
open Go.RowKit
set_option maxRecDepth 100000 in
set_option maxHeartbeats 8000000 in
theorem keepN_any (d:Nat) (ih:WriteSaid d) (F:Nat→Prop) (ww k l n vv o:Nat) (H:List Ty) (t:Ty) (ss:List Bd) (y no:Bd) (env:List Mn) (st:List WFr) (v0:Int) (a1 a2:Option Addr) (c1 c2:Nat) (ev sv:Value) (w:World) (h:KeepPre F ww d k l n vv o H t ss y no env st v0 a1 a2 c1 c2 ev sv w) :
 Calls Tryz.prog 62 #[.pointer (some ⟨ww,0,none⟩),.agg #[str [],.int .i64 (vv:Nat),.slice a1 ss.length c1,.slice a2 2 c2],ev,sv,.int .i64 (n:Nat)] w
  (WritePost F ww (20001+20*(d+1)) (keptN d k l n o t ss y no env (st.map WFr.gf)) w):=by
 have HP:=Lib.hid h
 have IH:=Lib.hid ih
 obtain ⟨eb,eo,ecap,ta,tc,i0,e,heF,hew,m0,m1,m2,m3,m4,m5,m6,m7,m8,htr⟩:=bound_op h.re h.hv
 subst e
 have hww:=h.wri.cell.2.2.2
 have hebw:=h.hF _ heF
 obtain ⟨W,hW⟩:∃ W,(w.alloc (.cells #[str [],.int .i64 (vv:Nat),.slice a1 ss.length c1,.slice a2 2 c2] 36)).alloc (.cells #[str [],.int .i64 0,.slice none 0 0,.slice none 0 0] 36)=W:=⟨_,rfl⟩
 have hbW:Below w.heap.size w W:=by rw [← hW];exact ((Below.refl _ _).alloc (Nat.le_refl _) _).alloc (by rw [size_alloc];omega) _
 have hzW:w.heap.size+2=W.heap.size:=by rw [← hW];simp only [size_alloc]
 have hWr:=h.wri.below hbW
 obtain ⟨k0,k1,kf,klt⟩:=hWr.cell
 have kf0:=kf 0
 have k0':W.cell? ⟨ww,0,none⟩=some (.int .i64 ((k:Int)+1)):=k0
 obtain ⟨W2,hW2⟩:∃ W2,W.setCell ⟨ww,0,none⟩ (.int .i64 (k:Nat))=W2:=⟨_,rfl⟩
 have hWr2:Wri W2 ww (k:Nat) (20000-(l:Nat)):=by unfold Wri at *;rw [← hW2,setCell_at hWr];rfl
 have hb2:But (· = ww) w W2:=by rw [← hW2];exact (But.ofBelow (m:=(· = ww)) hbW).setCell (p:=⟨ww,0,none⟩) (.inl rfl) _
 have b0:W.heap[w.heap.size]? = some (.cells #[str [],.int .i64 (vv:Nat),.slice a1 ss.length c1,.slice a2 2 c2] 36 (0,0)):=by rw [← hW];exact heap_past (heap_new _ _)
 have b02:W2.heap[w.heap.size]? = some (.cells #[str [],.int .i64 (vv:Nat),.slice a1 ss.length c1,.slice a2 2 c2] 36 (0,0)):=by
  rw [← hW2,Below.heap_setCell _ _ _ _ (by show w.heap.size≠ww;omega)];exact b0
 obtain ⟨x0,x1,x2,x3⟩:=cells4 b02
 have kX:∀ {j:Nat} {x:Value},w.cell? ⟨eb,j,none⟩=some x→W2.cell? ⟨eb,j,none⟩=some x:=fun hc=>(hb2.cell (World.block_lt_of_cell? w _ hc) hebw).trans hc
 have j0:=kX m0;have j1:=kX m1;have j2:=kX m2;have j3:=kX m3;have j4:=kX m4;have j5:=kX m5;have j6:=kX m6;have j7:=kX m7;have j8:=kX m8
 have hvl:=(List.getElem?_eq_some_iff.1 h.hv).1
 have hv0:(0:Int)≤(vv:Int):=by omega
 have hv1:(vv:Int)<(env.length:Int):=by omega
 have hk200:=h.k200
 have hz2:W2.heap.size=w.heap.size+2:=by rw [← hW2,hzW];simp [World.setCell]
 have hres2:NewN (w.heap.size+1) 0 (.slice none 0 0) (.slice none 0 0) W2:=by
  have:=heap_new (w.alloc (.cells #[str [],.int .i64 (vv:Nat),.slice a1 ss.length c1,.slice a2 2 c2] 36)) (.cells #[str [],.int .i64 0,.slice none 0 0,.slice none 0 0] 36)
  rw [size_alloc,hW] at this
  unfold NewN
  rw [← hW2,Below.heap_setCell _ _ _ _ (by show w.heap.size+1≠ww;omega)];exact this
 have HZ:=Lib.hid (And.intro hz2 hres2);clear hz2 hres2
 have HW:=Lib.hid (And.intro hW (And.intro hW2 (And.intro hb2 (And.intro hWr2 (And.intro b02 htr)))))
 clear hW hW2 hbW hWr hWr2 hb2 b0 b02 htr kX m0 m1 m2 m3 m4 m5 m6 m7 m8 k0 kf h ih hzW
 go_enter Tryz.func62,Tryz.ntmps62
 go_upto_region 1 with (fail)
 rw [HW.out.1]
 go_upto_region 2 with (fail)
 rw [HW.out.2.1]
 go_wp2_with fail
 go_loopw [13] (fun i wr=>∃ (j:Nat) (sv:Value) (us:List Value),j≤ss.length∧i=.int .i64 j∧NInv F ww (20001+20*(d:Int)) k l n o vv ss.length env (evN d) k l t.args ss True (evSubsN (evN d) env n k l t.args ss=none) false (.slice none 0 0) [] a1 a2 ta c1 c2 t.args.length tc i0 w (W2.heap.size+1) j sv us wr) (fun i _=>ss.length-(intOf i).toNat)
 case atStart =>
  obtain ⟨hz2,hres2⟩:=HZ.out
  obtain ⟨hW,hW2,hb2,hWr2,b02,htr⟩:=HW.out
  refine ⟨0,.slice none 0 0,[],Nat.zero_le _,rfl,?_⟩
  refine { but:=(hb2.alloc _).alloc _,zw:=by simp only [size_alloc];omega,box:=heap_past (heap_past b02),res:=heap_past (heap_past hres2),bnd:=?_,blk:=?_,own:=World.ownsRow_nil _ _ _ _,fr:=fun g hg=>by simp [Value.ownBlock] at hg,mode:=.inl ⟨[],k,l,trivial,by simp [evSubsN],rfl,heap_past (heap_past hWr2),Nat.le_refl _,Nat.le_refl _,by simp [encNs,Reps_nil],Rep_sl.2 ⟨by simp [encNs],none,0,rfl,Nat.le_refl _,fun _=>rfl,.inl rfl⟩⟩ }
  ·rw [← hz2];exact heap_past (heap_new _ _)
  ·have:=heap_new (W2.alloc (.cells #[.int .i64 (o:Nat),str [],.int .i64 0,.slice none 0 0,.slice none 0 0,.slice ta t.args.length tc,.slice none 0 0,.int .i64 0,.int .i64 i0] 89)) (.cells #[str [],.int .i64 (o:Nat),.slice none 0 0,.slice none 0 0] 36)
   rw [size_alloc] at this
   exact this
 case round =>
  rename_i wr
  obtain ⟨j,sv,us,hj,rfl,hinv⟩:=hrel
  obtain ⟨sa,sc,e⟩:=hinv.own.slice
  subst e
  obtain ⟨y0,y1,y2,y3⟩:=cells4 hinv.box
  obtain ⟨q0,q1,q2,q3,qlt,qf⟩:=hinv.blk.cells
  have z5:wr.cell? ⟨W2.heap.size,5,none⟩=some (.slice ta t.args.length tc):=by
   rw [HZ.out.1];simp [World.cell?,hinv.bnd]
  have HI:=Lib.hid hinv;clear hinv
  by_cases hlt:j<ss.length
  ·have hlt':(j:Int)<(ss.length:Int):=by omega
   have hkids:Rep F w (.sl 36 4 ss.length (encNs ss)) (.slice a1 ss.length c1):=by
    have hrb:=HP.out.rb
    simp only [encN,Reps_cons,Reps_nil] at hrb
    obtain ⟨_,_,e0,_,_,_,rfl,_,_,_,rfl,h2,_⟩:=hrb
    simp only [List.cons.injEq] at e0
    obtain ⟨_,_,e2,_⟩:=e0
    rw [e2];exact h2
   obtain ⟨ka',kc',e,hkat⟩:=AtNs.of hkids
   simp only [Value.slice.injEq] at e
   obtain ⟨rfl,_,rfl⟩:=e
   obtain ⟨kb,ko,s',v',a2',n2',c2',a3',n3',c3',sd,e,hkb,hsd,g0,g1,g2,g3,hrs⟩:=hkat j hlt
   subst e
   have hkp:=HP.out.fit.keep HP.out.hv
   have hne:kb≠ww:=node_ne HP.out.wri g0
   have htr':=HW.out.2.2.2.2.2
   rw [encS_eq] at htr'
   obtain ⟨ta',tc',e,_,_,hta⟩:=Rep_sl1_open htr'
   simp only [Value.slice.injEq] at e
   obtain ⟨rfl,_,rfl⟩:=e
   have hjt:j<t.args.length:=by omega
   obtain ⟨tb,tO,tu,td,e,htF,htw,htd,g4,htru⟩:=hta j hjt
   subst e
   rw [encSs_at,Option.map_eq_some_iff] at htd
   obtain ⟨tj,htj,rfl⟩:=htd
   obtain ⟨ua,uc,rfl⟩:=encS_slice htru
   have p0:=(HI.out.but.cell (p:=⟨kb,ko+j*4,none⟩) hkb hne).trans g0
   have p1:=(HI.out.but.cell (p:=⟨kb,ko+j*4+1,none⟩) hkb hne).trans g1
   have p2:=(HI.out.but.cell (p:=⟨kb,ko+j*4+2,none⟩) hkb hne).trans g2
   have p3:=(HI.out.but.cell (p:=⟨kb,ko+j*4+3,none⟩) hkb hne).trans g3
   have p4:=(HI.out.but.cell (p:=⟨tb,tO+j,none⟩) htw (HP.out.hF _ htF)).trans g4
   have hokt:=okMs_at _ HP.out.ok vv _ HP.out.hv
   rw [okM] at hokt
   have htj15:=(args_atoms hokt.1).1 tj (List.mem_of_getElem? htj)
   have hbd:But (· = ww) w wr.drew:=HI.out.but.drew
   have hlow:∀ b,(F b∧b<w.heap.size)→¬ (b=ww)∧(F b∧b<w.heap.size):=fun b hb=>⟨HP.out.hF b hb.1,hb⟩
   have hrsd:Reps (fun i=>F i∧i<w.heap.size) wr.drew (encN sd) [str s',.int .i64 v',.slice a2' n2' c2',.slice a3' n3' c3']:=(Reps.low hrs).but hbd hlow
   have htrd:=(Rep.low htru).but hbd hlow
   have hred:=(Rep.low HP.out.re).but hbd hlow
   have hel:=HP.out.el;have hnl:=HP.out.nl;have hld:=HP.out.ld;have hdd:=HP.out.d20;have hkk:=HP.out.k200
   have htake:=evSubsN_take (f:=evN d) (env:=env) (n:=n) (k:=k) (l:=l) htj hsd
   obtain ⟨oo,hCC,hR1,hR2⟩:∃ oo,Calls Tryz.prog 82 #[.pointer (some ⟨ww,0,none⟩),.agg #[str s',.int .i64 v',.slice a2' n2' c2',.slice a3' n3' c3'],.agg #[.slice ua tj.args.length uc],.slice (some ⟨eb,eo,none⟩) env.length ecap,.int .i64 (n:Nat)] wr.drew (WritePost (fun i=>F i∧i<w.heap.size) ww (20001+20*(d:Int)+((j+1:Nat):Int)) oo wr.drew) ∧
    (oo=none→evSubsN (evN d) env n k l t.args ss=none) ∧
    (∀ y,oo=some y→∃ outs,True∧evSubsN (evN d) env n k l (t.args.take (j+1)) (ss.take (j+1))=some (outs++[y.1],y.2.1,y.2.2)∧outs.length=j∧y.2.1≤k∧y.2.2≤l∧Reps (fun i=>Fx F w 4 i∧(Value.slice sa j sc).ownBlock≠some i) wr (encNs outs) us ∧
     Rep (fun i=>Fx F w 4 i∧(Value.slice sa j sc).ownBlock≠some i) wr (.sl 36 4 ([]:List Bd).length (encNs [])) (.slice none 0 0)):=by
    rcases HI.out.mode with ⟨outs,kj,lj,_,hev,hol,hwr,hkj,hlj,hrep,hrk⟩ | ⟨hev,s,hwr,hs0,hs1⟩
    ·refine ⟨evN d kj lj sd (env++opens n tj.args) (n+tj.args.length) [],(open_live d IH.out _ ww kj lj n H tj sd env s' v' a2' a3' n2' c2' n3' c3' _ _ wr.drew hwr (fun i hi=>HP.out.hF i hi.1) (by omega) hdd (by omega) (hkp.2.2.1 j tj sd htj hsd) HP.out.hn hel hnl htj15 HP.out.ok htrd hrsd hred ⟨wfBs_at _ HP.out.wf.1.1 j sd hsd,HP.out.wf.2.1⟩).mono ?_,fun h=>?_,fun y h=>?_⟩
     ·rintro en w' ⟨q1,q2,q3,q4,q5,q6,q7,q8,q9,q10,q11,q12⟩
      exact ⟨q1,q2,q3,q4,q5,q6,q7,q8,q9,q10,fun h=>by obtain ⟨st,u1,u2,u3⟩:=q11 h;exact ⟨st,u1,u2,by omega⟩,q12⟩
     ·refine evSubsN_none (j+1) _ _ _ _ ?_
      rw [htake,hev];simp only [Option.bind_some];rw [h];rfl
     ·have hle:=evN_left _ _ _ _ _ _ _ _ _ _ h
      exact ⟨outs,trivial,by rw [htake,hev];simp only [Option.bind_some];rw [h];rfl,hol,Nat.le_trans hle.1 hkj,Nat.le_trans hle.2 hlj,hrep,hrk⟩
    ·have hj15:=(args_atoms hokt.1).2
     refine ⟨none,(open_dead _ ww n s tj env s' v' a2' a3' n2' c2' n3' c3' _ _ wr.drew hwr hs0 (by omega) (by omega) (by omega) htj15 htrd hred).mono ?_,fun _=>hev,fun y h=>by simp at h⟩
     rintro en w' ⟨q1,q2,q3,q4,q5,q6,q7,q8,q9,q10,q11,q12⟩
     exact ⟨q1,q2,q3,q4,q5,q6,q7,q8,q9,q10,fun h=>by obtain ⟨st,u1,u2,u3⟩:=q11 h;exact ⟨st,u1,u2,by omega⟩,q12⟩
   have CC:=Lib.hid hCC
   have HREL:=Lib.hid (And.intro hR1 hR2)
   have hmx:j+1≤maxLen:=by unfold maxLen;have:=(args_atoms hokt.1).2;omega
   have hby:(j+1)*72≤140737488355328:=by have:=(args_atoms hokt.1).2;omega
   have h04:0<4:=by omega
   have hqw:¬ (W2.heap.size+1=ww):=by rw [HZ.out.1];omega
   have NB:=Lib.hid (show ¬ (Value.slice sa j sc).ownBlock=some (W2.heap.size+1) from fun e=>by have:=HI.out.fr _ e;omega)
   have OWN:=Lib.hid (fun (w6:World) (h6:But (· = ww) wr.drew w6)=>(HI.out.own.keep (w':=w6) fun g o hg hh=>by
    have:=HI.out.fr g hg
    rw [h6.block g (lt_of_heap hh) (fun e=>by have e:g=ww:=e;rw [HZ.out.1] at this;omega)];exact hh))
   have hz2:=HZ.out.1
   have htbw:=HP.out.hF _ htF
   have SX:Hid (∀ w',But (fun i=>i=ww∨(Value.slice sa j sc).ownBlock=some i) wr w'→w'.cell? ⟨W2.heap.size+1,2,none⟩=some (.slice sa j sc)∧w'.cell? ⟨w.heap.size,2,none⟩=some (.slice (some ⟨kb,ko,none⟩) ss.length c1) ∧
    w'.cell? ⟨kb,ko+j*4,none⟩=some (str s')∧w'.cell? ⟨kb,ko+j*4+1,none⟩=some (.int .i64 v')∧w'.cell? ⟨kb,ko+j*4+2,none⟩=some (.slice a2' n2' c2')∧w'.cell? ⟨kb,ko+j*4+3,none⟩=some (.slice a3' n3' c3') ∧
    w'.cell? ⟨W2.heap.size,5,none⟩=some (.slice (some ⟨tb,tO,none⟩) t.args.length tc)∧w'.cell? ⟨tb,tO+j,none⟩=some (.slice ua tj.args.length uc)):=by
    show ∀ w',_→_
    intro w' hb'
    have key:∀ {p:Addr} {u:Value},p.block<W2.heap.size+2→p.block≠ww→wr.cell? p=some u→w'.cell? p=some u:=fun hp hne hu =>
     (hb'.cell (World.block_lt_of_cell? wr _ hu) (fun e=>e.elim hne (fun e=>by have:=HI.out.fr _ e;omega))).trans hu
    exact ⟨key (by show W2.heap.size+1<_;omega) hqw q2,key (by show w.heap.size<_;omega) (by show w.heap.size≠ww;omega) y2,key (by show kb<_;omega) hne p0,key (by show kb<_;omega) hne p1,key (by show kb<_;omega) hne p2,key (by show kb<_;omega) hne p3,
     key (by show W2.heap.size<_;omega) (by show W2.heap.size≠ww;omega) z5,key (by show tb<_;omega) htbw p4⟩
   have qf2:=qf 2
   clear hkp hne htr' hokt hlow hrsd htrd hred htake hR1 hR2 hCC hkids hkat hta g0 g1 g2 g3 g4 hrs htru hsd htj qf hbd hz2 htbw y0 y1 y3 q0 q1 q3 p0 p1 p2 p3 p4 z5
   go_wp2_with fail
   refine wp_region_noPanic ?_
   refine wp_region_S (fun w'=>But (fun i=>i=ww∨(Value.slice sa j sc).ownBlock=some i) wr w') (fun i=>i == 20) (by kernel_rfl) ?_
   have hSd:But (fun i=>i=ww∨(Value.slice sa j sc).ownBlock=some i) wr wr.drew:=(But.refl _ wr).drew
   refine tk [0,1,2,3,4,5,6,7,8,9,10,11,12,13,14,15] hSd ?_
   (intro d hd;simp [tkD] at hd;subst hd;simp only [tks,pQ,pZ,pS])
   iterate 16 (refine ⟨?_,?_,?_⟩;rotate_left;· (intro oi ho;simp at ho;subst ho;refine Or.inl ⟨by rfl,fun w' hw'=>?_⟩;obtain ⟨e0,e1,e2,e3,e4,e5,e6,e7⟩:=SX.out w' hw';go_simp;try with_reducible rfl))
   refine wpAnyS_one 16 (by kernel_rfl) ?_
   intro o16 ho K' hK
   (simp at ho;subst ho)
   go_simp
   go_at_call 82
   (with_reducible refine CC.out.mono ?_)
   rintro en6 w6 ⟨s6,v6,b1,m1,d1,b2,m2,d2,rfl,hb6,hn6,hy6⟩
   have HB6:Hid (But (fun i=>i=ww∨(Value.slice sa j sc).ownBlock=some i) wr w6):=hSd.trans (hb6.weak fun i _ h=>.inl h)
   have q26:=but_cell hb6 hqw q2
   have ql6:=Nat.lt_of_lt_of_le qlt hb6.size
   have qf26:=but_free hb6 hqw qlt qf2
   have OWN6:=(OWN.out _ hb6).alloc (.cells #[str s6,.int .i64 v6,.slice b1 m1 d1,.slice b2 m2 d2] 36)
   have H6:=Lib.hid (And.intro hb6 (And.intro hn6 hy6));clear hb6 hn6 hy6
   (refine hK.out _ _ (fun _=>HB6.out) ?_;clear hK K';try simp only [pQ,pN,pZ,pS])
   refine wpAnyS_one 17 (by kernel_rfl) ?_
   intro o17 ho K' hK
   (simp at ho;subst ho)
   go_simp
   (refine hK.out _ _ (fun _=>HB6.out.alloc _) ?_;clear hK K';try simp only [pQ,pN,pZ,pS])
   refine wpAnyS_one 18 (by kernel_rfl) ?_
   intro o18 ho K' hK
   (simp at ho;subst ho)
   refine step_append_gen (by rfl) _ _ _ (by rfl) 36 (.agg #[str [],.int .i64 0,.slice none 0 0,.slice none 0 0]) 4 72 Tryz.underlying34 Tryz.infoN rfl h04 (.slice sa j sc) j us (by rfl) OWN6 _ 1 [str s6,.int .i64 v6,.slice b1 m1 d1,.slice b2 m2 d2] (by rfl) (SrcSl.lit4 #[str s6,.int .i64 v6,.slice b1 m1 d1,.slice b2 m2 d2] rfl (by simp [str,Value.oneCell']) _ rfl) hmx hby ?_
   intro a' c' w7 ho7 hb7 hg7
   (refine hK.out _ _ (fun _=>(HB6.out.alloc _).trans (hb7.weak fun i _ h=>.inr h)) ?_;clear hK K';try simp only [pQ,pN,pZ,pS])
   have hc7:=out_cell hb7 NB.out q26
   have hf7:=out_free hb7 NB.out ql6 qf26
   refine wpAnyS_one 19 (by kernel_rfl) ?_
   intro o19 ho K' hK
   (simp at ho;subst ho)
   go_simp
   (refine hK.out _ _ (fun _=>(HB6.out.alloc _).trans (hb7.weak fun i _ h=>.inr h)) ?_;clear hK K';try simp only [pQ,pN,pZ,pS])
   refine wpAnyS_one 20 (by kernel_rfl) ?_
   intro o20 ho K' hK
   (simp at ho;subst ho)
   go_simp
   (refine hK.out _ _ (fun h=>by simp at h) ?_;clear hK K';try simp only [pQ,pN,pZ,pS])
   refine wpAnyS_done (by kernel_rfl) (NoPanic.normal ?_) _
   have hX:=HI.out.next (by rw [HZ.out.1]) hww HP.out.hF H6.out.1 H6.out.2.1 H6.out.2.2 HREL.out.1 HREL.out.2 ho7 hb7 hg7
   have HN:=Lib.hid hX
   clear hX ho7 hb7 hg7 hSd q26 qf26 OWN6
   go_wp2_with fail
   go_roundw
   case rel=>exact ⟨j+1,_,_,by omega,by go_num,HN.out⟩
   case measure=>simp [intOf];omega
  ·obtain rfl:j=ss.length:=by omega
   obtain ⟨outs,k1,l1,hst⟩:∃ outs k1 l1,NInv F ww (20001+20*(d:Int)+(ss.length:Int)) k l n o vv ss.length env (fun k l b _ _ _=>evN d k l b env n (st.map WFr.gf)) k1 l1 [t,t] [y,no] (evSubsN (evN d) env n k l t.args ss=some (outs,k1,l1)) (keptN d k l n o t ss y no env (st.map WFr.gf)=none) true (.slice sa ss.length sc) outs a1 a2 ta c1 c2 t.args.length tc i0 w (W2.heap.size+1) 0 (.slice none 0 0) [] wr:=by
    have hss:=(HP.out.fit.keep HP.out.hv).1
    have hI:=HI.out
    rcases hI.mode with ⟨outs,kj,lj,_,hev,hol,hwr,hkj,hlj,hrep,_⟩ | ⟨hev,s,hwr,hs0,hs1⟩
    ·rw [List.take_length,List.take_of_length_le (by omega)] at hev
     refine ⟨outs,kj,lj,{ but:=hI.but,zw:=hI.zw,box:=hI.box,res:=hI.res,bnd:=hI.bnd,blk:=hI.blk,own:=World.ownsRow_nil _ _ _ _,fr:=fun g hg=>by simp [Value.ownBlock] at hg,mode:=.inl ⟨[],kj,lj,hev,by simp [evSubsN],rfl,hwr,hkj,hlj,by simp [encNs,Reps_nil],?_⟩ }⟩
     rw [hol]
     refine hI.own.rep (fun g hg=>⟨.inr (by have h1:=hI.fr g hg;have h2:=HZ.out.1;omega),by simp [Value.ownBlock]⟩) ?_
     exact (Rep.keep fun b o hf ho=>⟨⟨hf.1,by simp [Value.ownBlock]⟩,ho⟩).2 _ _ hrep
    ·exact ⟨[],0,0,{ but:=hI.but,zw:=hI.zw,box:=hI.box,res:=hI.res,bnd:=hI.bnd,blk:=hI.blk,own:=World.ownsRow_nil _ _ _ _,fr:=fun g hg=>by simp [Value.ownBlock] at hg,mode:=.inr ⟨by unfold keptN;rw [hev];rfl,s,hwr,hs0,by omega⟩ }⟩
   obtain ⟨ka,kc,hk⟩:∃ a c,Value.slice sa ss.length sc=.slice a ss.length c:=⟨_,_,rfl⟩
   rw [hk] at hst
   have HST:=Lib.hid hst;clear hst hk
   have hss15:ss.length≤15:=by
    have hokt:=okMs_at _ HP.out.ok vv _ HP.out.hv
    rw [okM] at hokt
    have h1:=(args_atoms hokt.1).2
    have h2:=(HP.out.fit.keep HP.out.hv).1
    omega
   clear HI y0 y1 y3 q0 q1 q2 q3 qf z5 hlt hj
   go_wp2_with fail
   clear y2
   go_loopw [14] (fun i wr=>∃ (j:Nat) (sv:Value) (us:List Value),j≤2∧i=.int .i64 j∧NInv F ww (20001+20*(d:Int)+(ss.length:Int)) k l n o vv ss.length env (fun k l b _ _ _=>evN d k l b env n (st.map WFr.gf)) k1 l1 [t,t] [y,no] (evSubsN (evN d) env n k l t.args ss=some (outs,k1,l1)) (keptN d k l n o t ss y no env (st.map WFr.gf)=none) true (.slice ka ss.length kc) outs a1 a2 ta c1 c2 t.args.length tc i0 w (W2.heap.size+1) j sv us wr) (fun i _=>2-(intOf i).toNat)
   case atStart=>exact ⟨0,_,_,by omega,rfl,HST.out⟩
   case round =>
    rename_i wr
    obtain ⟨j,sv1,us,hj,rfl,hinv⟩:=hrel
    obtain ⟨sa,sc,e⟩:=hinv.own.slice
    subst e
    obtain ⟨y0,y1,y2,y3⟩:=cells4 hinv.box
    obtain ⟨q0,q1,q2,q3,qlt,qf⟩:=hinv.blk.cells
    have HI:=Lib.hid hinv;clear hinv
    by_cases hlt:j<2
    ·have hlt':(j:Int)<2:=by omega
     have hyes:Rep F w (.sl 36 4 [y,no].length (encNs [y,no])) (.slice a2 2 c2):=by
      have hrb:=HP.out.rb
      rw [encN_ask] at hrb
      simp only [Reps_cons,Reps_nil] at hrb
      obtain ⟨_,_,e0,_,_,_,rfl,_,_,_,rfl,_,_,_,rfl,h3,_⟩:=hrb
      simp only [List.cons.injEq] at e0
      obtain ⟨_,_,_,e2,_⟩:=e0
      rw [e2];exact h3
     obtain ⟨ya,yc,e,hyat⟩:=AtNs.of hyes
     simp only [Value.slice.injEq] at e
     obtain ⟨rfl,_,rfl⟩:=e
     obtain ⟨kb,ko,s',v',a2',n2',c2',a3',n3',c3',sd,e,hkb,hsd,g0,g1,g2,g3,hrs⟩:=hyat j hlt
     subst e
     have hkp:=HP.out.fit.keep HP.out.hv
     have hne:kb≠ww:=node_ne HP.out.wri g0
     have p0:=(HI.out.but.cell (p:=⟨kb,ko+j*4,none⟩) hkb hne).trans g0
     have p1:=(HI.out.but.cell (p:=⟨kb,ko+j*4+1,none⟩) hkb hne).trans g1
     have p2:=(HI.out.but.cell (p:=⟨kb,ko+j*4+2,none⟩) hkb hne).trans g2
     have p3:=(HI.out.but.cell (p:=⟨kb,ko+j*4+3,none⟩) hkb hne).trans g3
     have hbd:But (· = ww) w wr.drew:=HI.out.but.drew
     have hlow:∀ b,(F b∧b<w.heap.size)→¬ (b=ww)∧(F b∧b<w.heap.size):=fun b hb=>⟨HP.out.hF b hb.1,hb⟩
     have hrsd:Reps (fun i=>F i∧i<w.heap.size) wr.drew (encN sd) [str s',.int .i64 v',.slice a2' n2' c2',.slice a3' n3' c3']:=(Reps.low hrs).but hbd hlow
     have hred:=(Rep.low HP.out.re).but hbd hlow
     have hrsv:=(Rep.low HP.out.rs).but hbd hlow
     have hel:=HP.out.el;have hnl:=HP.out.nl;have hld:=HP.out.ld;have hdd:=HP.out.d20;have hkk:=HP.out.k200;have hstl:=HP.out.stl
     have hfj:EvFit H sd env (st.map WFr.gf):=by
      rcases (by omega:j=0∨j=1) with rfl | rfl
      ·simp at hsd;subst hsd;exact hkp.2.2.2.1
      ·simp at hsd;subst hsd;exact hkp.2.2.2.2
     have hwj:wfB sd:=by
      rcases (by omega:j=0∨j=1) with rfl | rfl
      ·simp at hsd;subst hsd;exact HP.out.wf.1.2.1
      ·simp at hsd;subst hsd;exact HP.out.wf.1.2.2
     have htj:[t,t][j]? = some t:=by
      rcases (by omega:j=0∨j=1) with rfl | rfl <;> rfl
     have htake:=evSubsN_take (f:=fun k l b _ _ _=>evN d k l b env n (st.map WFr.gf)) (env:=env) (n:=n) (k:=k1) (l:=l1) htj hsd
     obtain ⟨oo,hCC,hR1,hR2⟩:∃ oo,Calls Tryz.prog 44 #[.pointer (some ⟨ww,0,none⟩),.agg #[str s',.int .i64 v',.slice a2' n2' c2',.slice a3' n3' c3'],.slice (some ⟨eb,eo,none⟩) env.length ecap,sv,.int .i64 (n:Nat)] wr.drew (WritePost (fun i=>F i∧i<w.heap.size) ww (20001+20*(d:Int)+(ss.length:Int)+((j+1:Nat):Int)) oo wr.drew) ∧
      (oo=none→keptN d k l n o t ss y no env (st.map WFr.gf)=none) ∧
      (∀ x,oo=some x→∃ zs,evSubsN (evN d) env n k l t.args ss=some (outs,k1,l1)∧evSubsN (fun k l b _ _ _=>evN d k l b env n (st.map WFr.gf)) env n k1 l1 ([t,t].take (j+1)) ([y,no].take (j+1))=some (zs++[x.1],x.2.1,x.2.2)∧zs.length=j∧x.2.1≤k∧x.2.2≤l∧Reps (fun i=>Fx F w 4 i∧(Value.slice sa j sc).ownBlock≠some i) wr (encNs zs) us ∧
       Rep (fun i=>Fx F w 4 i∧(Value.slice sa j sc).ownBlock≠some i) wr (.sl 36 4 outs.length (encNs outs)) (.slice ka ss.length kc)):=by
      rcases HI.out.mode with ⟨zs,kj,lj,hA,hev,hol,hwr,hkj,hlj,hrep,hrk⟩ | ⟨hev,s,hwr,hs0,hs1⟩
      ·refine ⟨evN d kj lj sd env n (st.map WFr.gf),(IH.out _ ww kj lj n H sd env st s' v' a2' a3' n2' c2' n3' c3' _ _ wr.drew { wri:=hwr,hF:=fun i hi=>HP.out.hF i hi.1,ld:=by omega,d20:=hdd,k200:=by omega,fit:=hfj,hn:=HP.out.hn,el:=by omega,nl:=by omega,stl:=by omega,ok:=okMs_mono (by omega) _ HP.out.ok,okg:=okGs_mono (by omega) _ HP.out.okg,wf:=⟨hwj,HP.out.wf.2⟩,rb:=hrsd,re:=hred,rs:=hrsv }).mono ?_,fun h=>?_,fun x h=>?_⟩
       ·rintro en w' ⟨q1,q2,q3,q4,q5,q6,q7,q8,q9,q10,q11,q12⟩
        exact ⟨q1,q2,q3,q4,q5,q6,q7,q8,q9,q10,fun h=>by obtain ⟨st,u1,u2,u3⟩:=q11 h;exact ⟨st,u1,u2,by omega⟩,q12⟩
       ·have hno:evSubsN (fun k l b _ _ _=>evN d k l b env n (st.map WFr.gf)) env n k1 l1 [t,t] [y,no]=none:=by
         refine evSubsN_none (j+1) _ _ _ _ ?_
         rw [htake,hev];simp only [Option.bind_some];rw [h];rfl
        exact keptN_none hA hno
       ·have hle:=evN_left _ _ _ _ _ _ _ _ _ _ h
        exact ⟨zs,hA,by rw [htake,hev];simp only [Option.bind_some];rw [h];rfl,hol,Nat.le_trans hle.1 hkj,Nat.le_trans hle.2 hlj,hrep,hrk⟩
      ·refine ⟨none,(write_dead ww s _ s' v' a2' a3' n2' c2' n3' c3' rfl _ _ n wr.drew hwr hs0 (by omega)).mono ?_,fun _=>hev,fun y h=>by simp at h⟩
       rintro en w' ⟨rfl,q1,q2⟩
       exact ⟨_,_,_,_,_,_,_,_,rfl,q1,fun _=>⟨_,q2,by omega,by omega⟩,fun x h=>by simp at h⟩
     have CC:=Lib.hid hCC
     have HREL:=Lib.hid (And.intro hR1 hR2)
     have hmx:j+1≤maxLen:=by unfold maxLen;omega
     have hby:(j+1)*72≤140737488355328:=by omega
     have h04:0<4:=by omega
     have hqw:¬ (W2.heap.size+1=ww):=by rw [HZ.out.1];omega
     have NB:=Lib.hid (show ¬ (Value.slice sa j sc).ownBlock=some (W2.heap.size+1) from fun e=>by have:=HI.out.fr _ e;omega)
     have OWN:=Lib.hid (fun (w6:World) (h6:But (· = ww) wr.drew w6)=>(HI.out.own.keep (w':=w6) fun g o hg hh=>by
      have:=HI.out.fr g hg
      rw [h6.block g (lt_of_heap hh) (fun e=>by have e:g=ww:=e;rw [HZ.out.1] at this;omega)];exact hh))
     have hz2:=HZ.out.1
     have SX:Hid (∀ w',But (fun i=>i=ww∨(Value.slice sa j sc).ownBlock=some i) wr w'→w'.cell? ⟨W2.heap.size+1,3,none⟩=some (.slice sa j sc)∧w'.cell? ⟨w.heap.size,3,none⟩=some (.slice (some ⟨kb,ko,none⟩) 2 c2) ∧
      w'.cell? ⟨kb,ko+j*4,none⟩=some (str s')∧w'.cell? ⟨kb,ko+j*4+1,none⟩=some (.int .i64 v')∧w'.cell? ⟨kb,ko+j*4+2,none⟩=some (.slice a2' n2' c2')∧w'.cell? ⟨kb,ko+j*4+3,none⟩=some (.slice a3' n3' c3')∧True∧True):=by
      show ∀ w',_→_
      intro w' hb'
      have key:∀ {p:Addr} {u:Value},p.block<W2.heap.size+2→p.block≠ww→wr.cell? p=some u→w'.cell? p=some u:=fun hp hne hu =>
       (hb'.cell (World.block_lt_of_cell? wr _ hu) (fun e=>e.elim hne (fun e=>by have:=HI.out.fr _ e;omega))).trans hu
      exact ⟨key (by show W2.heap.size+1<_;omega) hqw q3,key (by show w.heap.size<_;omega) (by show w.heap.size≠ww;omega) y3,key (by show kb<_;omega) hne p0,key (by show kb<_;omega) hne p1,key (by show kb<_;omega) hne p2,key (by show kb<_;omega) hne p3,trivial,trivial⟩
     have q2:wr.cell? ⟨W2.heap.size+1,3,none⟩=some (.slice sa j sc):=q3
     have qf2:=qf 3
     clear hkp hne hlow hrsd hrsv hred htake hR1 hR2 hCC hyes hyat g0 g1 g2 g3 hrs hsd htj hfj hwj qf hbd hz2 y0 y1 y2 y3 q0 q1 q3 p0 p1 p2 p3
     go_wp2_with fail
     refine wp_region_noPanic ?_
     refine wp_region_S (fun w'=>But (fun i=>i=ww∨(Value.slice sa j sc).ownBlock=some i) wr w') (fun i=>i == 15) (by kernel_rfl) ?_
     have hSd:But (fun i=>i=ww∨(Value.slice sa j sc).ownBlock=some i) wr wr.drew:=(But.refl _ wr).drew
     refine tk [0,1,2,3,4,5,6,7,8,9,10] hSd ?_
     (intro d hd;simp [tkD] at hd;subst hd;simp only [tks,pQ,pZ,pS])
     iterate 11 (refine ⟨?_,?_,?_⟩;rotate_left;· (intro oi ho;simp at ho;subst ho;refine Or.inl ⟨by rfl,fun w' hw'=>?_⟩;obtain ⟨e0,e1,e2,e3,e4,e5,e6,e7⟩:=SX.out w' hw';go_simp;try with_reducible rfl))
     refine wpAnyS_one 11 (by kernel_rfl) ?_
     intro o11 ho K' hK
     (simp at ho;subst ho)
     go_simp
     go_at_call 44
     (with_reducible refine CC.out.mono ?_)
     rintro en6 w6 ⟨s6,v6,b1,m1,d1,b2,m2,d2,rfl,hb6,hn6,hy6⟩
     have HB6:Hid (But (fun i=>i=ww∨(Value.slice sa j sc).ownBlock=some i) wr w6):=hSd.trans (hb6.weak fun i _ h=>.inl h)
     have q26:=but_cell hb6 hqw q2
     have ql6:=Nat.lt_of_lt_of_le qlt hb6.size
     have qf26:=but_free hb6 hqw qlt qf2
     have OWN6:=(OWN.out _ hb6).alloc (.cells #[str s6,.int .i64 v6,.slice b1 m1 d1,.slice b2 m2 d2] 36)
     have H6:=Lib.hid (And.intro hb6 (And.intro hn6 hy6));clear hb6 hn6 hy6
     (refine hK.out _ _ (fun _=>HB6.out) ?_;clear hK K';try simp only [pQ,pN,pZ,pS])
     refine wpAnyS_one 12 (by kernel_rfl) ?_
     intro o12 ho K' hK
     (simp at ho;subst ho)
     go_simp
     (refine hK.out _ _ (fun _=>HB6.out.alloc _) ?_;clear hK K';try simp only [pQ,pN,pZ,pS])
     refine wpAnyS_one 13 (by kernel_rfl) ?_
     intro o13 ho K' hK
     (simp at ho;subst ho)
     refine step_append_gen (by rfl) _ _ _ (by rfl) 36 (.agg #[str [],.int .i64 0,.slice none 0 0,.slice none 0 0]) 4 72 Tryz.underlying34 Tryz.infoN rfl h04 (.slice sa j sc) j us (by rfl) OWN6 _ 1 [str s6,.int .i64 v6,.slice b1 m1 d1,.slice b2 m2 d2] (by rfl) (SrcSl.lit4 #[str s6,.int .i64 v6,.slice b1 m1 d1,.slice b2 m2 d2] rfl (by simp [str,Value.oneCell']) _ rfl) hmx hby ?_
     intro a' c' w7 ho7 hb7 hg7
     (refine hK.out _ _ (fun _=>(HB6.out.alloc _).trans (hb7.weak fun i _ h=>.inr h)) ?_;clear hK K';try simp only [pQ,pN,pZ,pS])
     have hc7:=out_cell hb7 NB.out q26
     have hf7:=out_free hb7 NB.out ql6 qf26
     refine wpAnyS_one 14 (by kernel_rfl) ?_
     intro o14 ho K' hK
     (simp at ho;subst ho)
     go_simp
     (refine hK.out _ _ (fun _=>(HB6.out.alloc _).trans (hb7.weak fun i _ h=>.inr h)) ?_;clear hK K';try simp only [pQ,pN,pZ,pS])
     refine wpAnyS_one 15 (by kernel_rfl) ?_
     intro o15 ho K' hK
     (simp at ho;subst ho)
     go_simp
     (refine hK.out _ _ (fun h=>by simp at h) ?_;clear hK K';try simp only [pQ,pN,pZ,pS])
     refine wpAnyS_done (by kernel_rfl) (NoPanic.normal ?_) _
     have hX:=HI.out.next (by rw [HZ.out.1]) hww HP.out.hF H6.out.1 H6.out.2.1 H6.out.2.2 HREL.out.1 HREL.out.2 ho7 hb7 hg7
     have HN:=Lib.hid hX
     clear hX ho7 hb7 hg7 hSd q26 qf26 OWN6
     go_wp2_with fail
     go_roundw
     case rel=>exact ⟨j+1,_,_,by omega,by go_num,HN.out⟩
     case measure=>simp [intOf];omega
    ·obtain rfl:j=2:=by omega
     obtain ⟨r0,r1,r2,r3,rlt,rf⟩:=HI.out.res.cells
     have rf0:=rf 0;have rf1:=rf 1;have rf2:=rf 2;have rf3:=rf 3
     have q2':wr.cell? ⟨W2.heap.size+1,2,none⟩=some (.slice ka ss.length kc):=q2
     have q3':wr.cell? ⟨W2.heap.size+1,3,none⟩=some (.slice sa 2 sc):=q3
     clear q2 q3 y0 y1 y2 y3 qf rf
     go_wp2_with fail
     have hnn:keptN d k l n o t ss y no env (st.map WFr.gf)=none→∃ s,Wri wr ww (-1) s∧0≤s∧s≤20001+20*((d:Int)+1):=by
      intro h0
      rcases HI.out.mode with ⟨zs,kj,lj,hA,hev,hol,hwr,hkj,hlj,hrep,hrk⟩ | ⟨hev,s,hwr,hs0,hs1⟩
      ·obtain ⟨z1,z2,_,h2⟩:=keptN_of (o:=o) hA hev
       rw [h2] at h0;simp at h0
      ·exact ⟨s,hwr,hs0,by omega⟩
     have hyy:∀ x,keptN d k l n o t ss y no env (st.map WFr.gf)=some x→Wri wr ww (x.2.1:Nat) (20000-(x.2.2:Nat))∧Reps (fun i=>(F i∧i<w.heap.size)∨w.heap.size+2≤i) wr (encN x.1) [str [],.int .i64 (o:Nat),.slice ka ss.length kc,.slice sa 2 sc]:=by
      intro x hx
      rcases HI.out.mode with ⟨zs,kj,lj,hA,hev,hol,hwr,hkj,hlj,hrep,hrk⟩ | ⟨hev,s,hwr,hs0,hs1⟩
      ·obtain ⟨z1,z2,hz,h2⟩:=keptN_of (o:=o) hA hev
       rw [h2] at hx
       simp only [Option.some.injEq] at hx
       subst hx
       subst hz
       refine ⟨hwr,?_⟩
       have hgg:∀ (i:Nat) (y:Obj),(Fx F w 4 i∧(Value.slice sa 2 sc).ownBlock≠some i)→wr.heap[i]? = some y→((F i∧i<w.heap.size)∨w.heap.size+2≤i)∧wr.heap[i]? = some y:=fun i y hi hy=>⟨by
        rcases hi.1 with h | h
        ·exact .inl h
        ·exact .inr (by omega),hy⟩
       have hrk2:=(Rep.keep hgg).1 _ _ hrk
       have hlo:outs.length=ss.length:=by
        rw [Rep_sl] at hrk2
        obtain ⟨_,a,cap,e,_⟩:=hrk2
        simp only [Value.slice.injEq] at e
        exact e.2.1.symm
       rw [encN_ask]
       refine Reps_cons.2 ⟨_,_,rfl,Rep_val.2 rfl,Reps_cons.2 ⟨_,_,rfl,Rep_val.2 rfl,Reps_cons.2 ⟨_,_,rfl,hrk2,Reps_cons.2 ⟨_,_,rfl,?_,Reps_nil.2 rfl⟩⟩⟩⟩
       exact HI.out.own.rep (fun g hg=>.inr (by have h1:=HI.out.fr g hg;have h2:=HZ.out.1;omega)) ((Rep.keep hgg).2 _ _ hrep)
      ·rw [hev] at hx;simp at hx
     obtain ⟨W4,hW4,s0',s1',s2',s3',hpost⟩:=write_ret (F:=F) (D:=20001+20*((d:Int)+1)) (o:=keptN d k l n o t ss y no env (st.map WFr.gf)) (s:=[]) (v:=(o:Nat)) (a1:=ka) (n1:=ss.length) (c1:=kc) (a2:=sa) (n2:=2) (c2:=sc) HI.out.but hww HI.out.res hnn hyy
     rw [← hW4]
     exact bodyPost_ret (v:=.agg #[str [],.int .i64 (o:Nat),.slice ka ss.length kc,.slice sa 2 sc]) (by simp [results,Tryz.results62,go_sem,s0',s1',s2',s3']) rfl hpost
end Go.Proofs.YtapjaflnmklmeaaGreatDoor
namespace Go.Proofs.YtapjaflnmklmeaaGreatDoor
open Go.RowKit
def boxSet (B:Nat) (x0 x1 x2 x3:Value) (w:World):World:=(((w.setCell ⟨B,0,none⟩ x0).setCell ⟨B,1,none⟩ x1).setCell ⟨B,2,none⟩ x2).setCell ⟨B,3,none⟩ x3
theorem boxSet_but {B:Nat} {x0 x1 x2 x3:Value} {m:Nat→Prop} {a w:World} (h:But m a w) (hm:m B):But m a (boxSet B x0 x1 x2 x3 w) :=
 (((h.setCell (p:=⟨B,0,none⟩) (.inl hm) _).setCell (p:=⟨B,1,none⟩) (.inl hm) _).setCell (p:=⟨B,2,none⟩) (.inl hm) _).setCell (p:=⟨B,3,none⟩) (.inl hm) _
theorem boxSet_at {B:Nat} {u0 u1 u2 u3 x0 x1 x2 x3:Value} {e:TypeId} {w:World} (h:w.heap[B]? = some (.cells #[u0,u1,u2,u3] e (0,0))):(boxSet B x0 x1 x2 x3 w).heap[B]? = some (.cells #[x0,x1,x2,x3] e (0,0)):=by
 unfold boxSet
 rw [setCell_at (setCell_at (setCell_at (setCell_at h)))];rfl
def leftW (ww:Nat) (wr:World):Nat:=match wr.heap[ww]? with
 | some (.cells c _ _)=>(20001-intOf (c.getD 1 (.int .i64 0))).toNat
 | _=>0
theorem leftW_eq {w:World} {ww:Nat} {k s:Int} (h:Wri w ww k s):leftW ww w=(20001-s).toNat:=by
 unfold Wri at h
 unfold leftW
 rw [h]
 simp [intOf]
structure WAt (F:Nat→Prop) (ww d k l n:Nat) (H:List Ty) (b:Bd) (env:List Mn) (st:List WFr) (s0:Bs) (v0:Int) (a1 a2:Option Addr) (n1 c1 n2 c2:Nat) (ev sv:Value) (w wr:World):Prop where
 pre:WritePre (Fx F w 2) ww d k l n H b env st s0 v0 a1 a2 n1 c1 n2 c2 ev sv wr
 box:wr.heap[w.heap.size]? = some (.cells #[str s0,.int .i64 v0,.slice a1 n1 c1,.slice a2 n2 c2] 36 (0,0))
 res:NewN (w.heap.size+1) 0 (.slice none 0 0) (.slice none 0 0) wr
 but:But (· = ww) w wr
 zw:w.heap.size+2≤wr.heap.size
 hww:ww<w.heap.size
theorem Fx.low {F:Nat→Prop} {ww:Nat} {w:World} (hF:∀ i,F i→i≠ww) (hww:ww<w.heap.size) (i:Nat) (h:Fx F w 2 i):i≠ww∧i≠w.heap.size∧i≠w.heap.size+1:=by
 rcases h with h | h
 ·exact ⟨hF i h.1,by have:=h.2;omega,by have:=h.2;omega⟩
 ·exact ⟨by omega,by omega,by omega⟩
theorem Fx.low' {F:Nat→Prop} {ww:Nat} {w:World} (hF:∀ i,Fx F w 2 i→i≠ww) {i:Nat} (h:Fx F w 2 i) (_:0≤i):i≠ww∧i≠w.heap.size:=by
 refine ⟨hF i h,?_⟩
 rcases h with h | h
 ·have:=h.2;omega
 ·omega
theorem WAt.start {F:Nat→Prop} {ww d k l n:Nat} {H:List Ty} {b:Bd} {env:List Mn} {st:List WFr} {s0:Bs} {v0:Int} {a1 a2:Option Addr} {n1 c1 n2 c2:Nat} {ev sv:Value} {w:World}
 (h:WritePre F ww d k l n H b env st s0 v0 a1 a2 n1 c1 n2 c2 ev sv w) :
 WAt F ww d k l n H b env st s0 v0 a1 a2 n1 c1 n2 c2 ev sv w ((w.alloc (.cells #[str s0,.int .i64 v0,.slice a1 n1 c1,.slice a2 n2 c2] 36)).alloc (.cells #[str [],.int .i64 0,.slice none 0 0,.slice none 0 0] 36)):=by
 have hww:=h.wri.cell.2.2.2
 have kk:∀ (i:Nat) (o:Obj),F i→w.heap[i]? = some o→Fx F w 2 i∧((w.alloc (.cells #[str s0,.int .i64 v0,.slice a1 n1 c1,.slice a2 n2 c2] 36)).alloc (.cells #[str [],.int .i64 0,.slice none 0 0,.slice none 0 0] 36)).heap[i]? = some o :=
  fun i o hf ho=>⟨.inl ⟨hf,lt_of_heap ho⟩,heap_past (heap_past ho)⟩
 have hn:=heap_new (w.alloc (.cells #[str s0,.int .i64 v0,.slice a1 n1 c1,.slice a2 n2 c2] 36)) (.cells #[str [],.int .i64 0,.slice none 0 0,.slice none 0 0] 36)
 rw [size_alloc] at hn
 exact { pre:={ wri:=heap_past (heap_past h.wri),hF:=fun i hi=>by
                 rcases hi with hi | hi
                 ·exact h.hF i hi.1
                 ·omega
                ld:=h.ld,d20:=h.d20,k200:=h.k200,fit:=h.fit,hn:=h.hn,el:=h.el,nl:=h.nl,stl:=h.stl,ok:=h.ok,okg:=h.okg,wf:=h.wf,rb:=(Rep.keep kk).2 _ _ h.rb,re:=(Rep.keep kk).1 _ _ h.re,rs:=(Rep.keep kk).1 _ _ h.rs },
         box:=heap_past (heap_new _ _),res:=hn,but:=((But.refl _ _).alloc _).alloc _,zw:=by simp only [size_alloc];omega,hww:=hww }
theorem WAt.move {F:Nat→Prop} {ww d k l n:Nat} {H:List Ty} {b:Bd} {env:List Mn} {st:List WFr} {s0:Bs} {v0:Int} {a1 a2:Option Addr} {n1 c1 n2 c2:Nat} {ev sv:Value} {w wr:World}
 (h:WAt F ww (d+1) k (l+1) n H b env st s0 v0 a1 a2 n1 c1 n2 c2 ev sv w wr) {w8:World} {b':Bd} {env':List Mn} {st':List WFr} {s0':Bs} {v0':Int} {a1' a2':Option Addr} {n1' c1' n2' c2':Nat} {ev' sv':Value}
 (hb8:But (fun i=>i=ww∨i=w.heap.size) wr w8) (hw8:Wri w8 ww (k:Nat) (20000-(l:Nat)))
 (hbox:w8.heap[w.heap.size]? = some (.cells #[str s0',.int .i64 v0',.slice a1' n1' c1',.slice a2' n2' c2'] 36 (0,0)))
 (fit:EvFit H b' env' (st'.map WFr.gf)) (el:env'.length+16*d≤1000000) (stl:st'.length+d≤40000) (ok:okMs (1000000-16*d) env') (okg:okGs (1000000-16*d) (st'.map WFr.gf)) (wf:wfB b'∧wfMs env'∧∀ f∈st'.map WFr.gf,wfG f)
 (rb:Reps (Fx F w 2) w8 (encN b') [str s0',.int .i64 v0',.slice a1' n1' c1',.slice a2' n2' c2']) (re:Rep (Fx F w 2) w8 (.sl 89 9 env'.length (encWs env')) ev') (rs:Rep (Fx F w 2) w8 (.sl 124 6 st'.length (encFs st')) sv') :
 WAt F ww d k l n H b' env' st' s0' v0' a1' a2' n1' c1' n2' c2' ev' sv' w w8:=by
 have hz:=hb8.size
 have hzw:=h.zw
 have hww:=h.hww
 have hld:=h.pre.ld;have hd:=h.pre.d20;have hnl:=h.pre.nl
 exact { pre:={ wri:=hw8,hF:=h.pre.hF,ld:=by omega,d20:=by omega,k200:=h.pre.k200,fit:=fit,hn:=h.pre.hn,el:=el,nl:=by omega,stl:=stl,ok:=ok,okg:=okg,wf:=wf,rb:=rb,re:=re,rs:=rs },
         box:=hbox,res:=h.res.but hb8 (by omega),but:=h.but.trans' hb8 (fun i hi e=>by rcases e with e | e;exact e;omega),zw:=by omega,hww:=hww }
theorem oneCell_encFs {F:Nat→Prop} {w:World}:∀ (st:List WFr) (us:List Value),Reps F w (encFs st) us→∀ u∈us,u.oneCell'=true
 | [],us,h,u,hu=>by rw [encFs,Reps_nil] at h;subst h;simp at hu
 | f::st,us,h,u,hu=>by
   rw [encFs] at h
   obtain ⟨h1,h2⟩:=h.split
   rw [← List.take_append_drop (encFs st).length us] at hu
   rcases List.mem_append.1 hu with hu | hu
   ·exact oneCell_encFs st _ h1 u hu
   ·rw [encF,encN_ask] at h2
    simp only [List.cons_append,List.nil_append,Reps_cons,Reps_nil,Rep_val] at h2
    obtain ⟨_,_,e,rfl,_,_,rfl,rfl,x2,_,rfl,q2,x3,_,rfl,q3,x4,_,rfl,q4,_,_,rfl,rfl,rfl⟩:=h2
    obtain ⟨_,ba1,bc1,e1,_⟩:=Rep_sl.1 q2
    obtain ⟨_,ba2,bc2,e2,_⟩:=Rep_sl.1 q3
    obtain ⟨_,ea,ec,e3,_⟩:=Rep_sl.1 q4
    subst e1;subst e2;subst e3
    rw [e] at hu
    simp only [List.mem_cons,List.not_mem_nil,or_false] at hu
    rcases hu with rfl | rfl | rfl | rfl | rfl | rfl <;> rfl
theorem Tryz.infoFW:(Tryz.prog.info? 124).map (fun i=>(i.zero,i.size,i.bytes))=some (some (.agg #[str [],.int .i64 0,.slice none 0 0,.slice none 0 0,.slice none 0 0,.int .i64 0]),6,104):=by kernel_rfl
def WRel (F:Nat→Prop) (ww D k n:Nat) (H:List Ty) (R:Option (Bd×Nat×Nat)) (w:World) (ev sv:Value) (wr:World):Prop :=
 ∃ d l b env st s0 v0 a1 a2 n1 c1 n2 c2,d≤D∧R=evN d k l b env n (st.map WFr.gf)∧WAt F ww d k l n H b env st s0 v0 a1 a2 n1 c1 n2 c2 ev sv w wr
end Go.Proofs.YtapjaflnmklmeaaGreatDoor
namespace Go.Proofs.YtapjaflnmklmeaaGreatDoor
open Go.RowKit
set_option maxRecDepth 100000 in
set_option maxHeartbeats 8000000 in
theorem write_step (D:Nat) (ih:∀ d,d<D→WriteSaid d):WriteSaid D:=by
 intro F ww k L n H b0 env0 st0 s00 v00 a10 a20 n10 c10 n20 c20 ev0 sv0 w h
 suffices HS:∀ R,R=evN D k L b0 env0 n (st0.map WFr.gf)→Calls Tryz.prog 44 #[.pointer (some ⟨ww,0,none⟩),.agg #[str s00,.int .i64 v00,.slice a10 n10 c10,.slice a20 n20 c20],ev0,sv0,.int .i64 (n:Nat)] w (WritePost F ww (20001+20*D) R w) from HS _ rfl
 intro R hR
 have IH:=Lib.hid ih
 have hst:=WAt.start h
 have hD20:=h.d20
 have HST:=Lib.hid hst
 clear h hst ih
 obtain ⟨W,hW⟩:∃ W,(w.alloc (.cells #[str s00,.int .i64 v00,.slice a10 n10 c10,.slice a20 n20 c20] 36)).alloc (.cells #[str [],.int .i64 0,.slice none 0 0,.slice none 0 0] 36)=W:=⟨_,rfl⟩
 have HW:=Lib.hid hW;clear hW
 have HR:=Lib.hid hR;clear hR
 go_enter Tryz.func44,Tryz.ntmps44
 go_upto_region 1 with (fail)
 rw [HW.out]
 go_wp2_with fail
 go_loopw [2,3] (fun e s wr=>WRel F ww D k n H R w e s wr) (fun _ _ wr=>leftW ww wr)
 case atStart=>exact ⟨D,L,b0,env0,st0,s00,v00,a10,a20,n10,c10,n20,c20,Nat.le_refl _,HR.out,by rw [← HW.out];exact HST.out⟩
 case round =>
  obtain ⟨d,l,b,env,st,s0,v0,a1,a2,n1,c1,n2,c2,hdD,hRe,hat⟩:=hrel
  have hlm:=leftW_eq hat.pre.wri
  obtain ⟨s,hs⟩:∃ s:Int,s=20000-(l:Int):=⟨_,rfl⟩
  have hl20:l≤20000:=by have:=hat.pre.ld;have:=hat.pre.d20;omega
  have hs0:0≤s:=by omega
  have hs1:s≤20000:=by omega
  have hWr:Wri wr ww (k:Nat) s:=by rw [hs];exact hat.pre.wri
  obtain ⟨k0,k1,kf,klt⟩:=hWr.cell
  have kf1:=kf 1
  have hk200:=hat.pre.k200
  obtain ⟨W2,hW2⟩:∃ W2,wr.setCell ⟨ww,1,none⟩ (.int .i64 (s+1))=W2:=⟨_,rfl⟩
  have hWr2:Wri W2 ww (k:Nat) (s+1):=by unfold Wri at *;rw [← hW2,setCell_at hWr];rfl
  have hb2:But (· = ww) wr W2:=by rw [← hW2];exact (But.refl (· = ww) wr).setCell (p:=⟨ww,1,none⟩) (.inl rfl) _
  have hww:=hat.hww
  have hbx2:W2.heap[w.heap.size]? = some (.cells #[str s0,.int .i64 v0,.slice a1 n1 c1,.slice a2 n2 c2] 36 (0,0)):=by
   have hx:=hat.box
   rw [hb2.block _ (lt_of_heap hx) (by omega)];exact hx
  have hres2:NewN (w.heap.size+1) 0 (.slice none 0 0) (.slice none 0 0) W2:=hat.res.but hb2 (by omega)
  obtain ⟨m0,m1,mf,mlt⟩:=hWr2.cell
  have mf0:=mf 0
  have HAT:=Lib.hid (And.intro hdD (And.intro hRe (And.intro hlm (And.intro hs hat))))
  have H2:=Lib.hid (And.intro hW2 (And.intro hWr2 (And.intro hb2 (And.intro hbx2 hres2))))
  obtain ⟨y0,y1,y2,y3⟩:=cells4 hbx2
  clear hdD hRe hlm hs hat hW2 hWr2 hb2 hbx2 hres2 hWr kf mf
  by_cases hbad:k=0∨l=0
  ·have HB:=Lib.hid hbad
   have hNone:R=none:=by
    rw [HAT.out.2.1]
    rcases hbad with h | h
    ·rw [h];exact evN_zk
    ·rw [h];exact evN_zl
   obtain ⟨W3,hW3⟩:∃ W3,W2.setCell ⟨ww,0,none⟩ (.int .i64 (-1))=W3:=⟨_,rfl⟩
   have hWr3:Wri W3 ww (-1) (s+1):=by have:=H2.out.2.1;unfold Wri at *;rw [← hW3,setCell_at this];rfl
   have hb3:But (· = ww) W2 W3:=by rw [← hW3];exact (But.refl (· = ww) W2).setCell (p:=⟨ww,0,none⟩) (.inl rfl) _
   have hres3:NewN (w.heap.size+1) 0 (.slice none 0 0) (.slice none 0 0) W3:=H2.out.2.2.2.2.but hb3 (by omega)
   obtain ⟨r0,r1,r2,r3,rlt,rf⟩:=hres3.cells
   have rf0:=rf 0;have rf1:=rf 1;have rf2:=rf 2;have rf3:=rf 3
   have hpost:=write_ret (F:=F) (ww:=ww) (D:=20001+20*(D:Int)) (o:=R) (s:=[117]) (v:=0) (a1:=none) (n1:=0) (c1:=0) (a2:=none) (n2:=0) (c2:=0) ((HAT.out.2.2.2.2.but.trans H2.out.2.2.1).trans hb3) hww hres3 (fun _=>⟨s+1,hWr3,by omega,by omega⟩) (fun x hx=>by rw [hNone] at hx;simp at hx)
   have HQ:=Lib.hid (And.intro hW3 hpost)
   clear hW3 hWr3 hb3 hres3 rf hNone hpost
   rcases hbad with hk | hl
   ·subst hk
    have m0':W2.cell? ⟨ww,0,none⟩=some (.int .i64 0):=m0
    have k0':wr.cell? ⟨ww,0,none⟩=some (.int .i64 0):=k0
    clear m0 k0
    go_upto_region 2 with (fail)
    rw [H2.out.1]
    go_upto_region 4 with (fail)
    rw [HQ.out.1]
    go_wp2_with fail
    obtain ⟨W4,hW4,s0',s1',s2',s3',hp⟩:=HQ.out.2
    rw [show (Value.string ⟨#[117]⟩)=str [117] from rfl,← hW4]
    exact bodyPost_ret (v:=.agg #[str [117],.int .i64 0,.slice none 0 0,.slice none 0 0]) (by simp [results,Tryz.results44,go_sem,s0',s1',s2',s3']) rfl hp
   ·by_cases hk:k=0
    ·subst hk
     have m0':W2.cell? ⟨ww,0,none⟩=some (.int .i64 0):=m0
     have k0':wr.cell? ⟨ww,0,none⟩=some (.int .i64 0):=k0
     clear m0 k0
     go_upto_region 2 with (fail)
     rw [H2.out.1]
     go_upto_region 4 with (fail)
     rw [HQ.out.1]
     go_wp2_with fail
     obtain ⟨W4,hW4,s0',s1',s2',s3',hp⟩:=HQ.out.2
     rw [show (Value.string ⟨#[117]⟩)=str [117] from rfl,← hW4]
     exact bodyPost_ret (v:=.agg #[str [117],.int .i64 0,.slice none 0 0,.slice none 0 0]) (by simp [results,Tryz.results44,go_sem,s0',s1',s2',s3']) rfl hp
    ·have hk1:¬ ((k:Int)<1):=by omega
     have hs2:(20000:Int)<s+1:=by have:=HAT.out.2.2.2.1;omega
     go_upto_region 2 with (fail)
     rw [H2.out.1]
     go_upto_region 4 with (fail)
     rw [HQ.out.1]
     go_wp2_with fail
     obtain ⟨W4,hW4,s0',s1',s2',s3',hp⟩:=HQ.out.2
     rw [show (Value.string ⟨#[117]⟩)=str [117] from rfl,← hW4]
     exact bodyPost_ret (v:=.agg #[str [117],.int .i64 0,.slice none 0 0,.slice none 0 0]) (by simp [results,Tryz.results44,go_sem,s0',s1',s2',s3']) rfl hp
  ·obtain ⟨k,rfl⟩:∃ k',k=k'+1:=⟨k-1,by omega⟩
   obtain ⟨l,rfl⟩:∃ l',l=l'+1:=⟨l-1,by omega⟩
   obtain ⟨d,rfl⟩:∃ d',d=d'+1:=⟨d-1,by have:=HAT.out.2.2.2.2.pre.ld;omega⟩
   have m0':W2.cell? ⟨ww,0,none⟩=some (.int .i64 ((k:Int)+1)):=by rw [m0];rfl
   have hk1:¬ ((k:Int)+1<1):=by omega
   have hs2:¬ ((20000:Int)<s+1):=by have:=HAT.out.2.2.2.1;omega
   have hsl:s+1=20000-(l:Int):=by have:=HAT.out.2.2.2.1;omega
   have HSL:=Lib.hid hsl
   have rb2:=HAT.out.2.2.2.2.pre.rb.but H2.out.2.2.1 (F':=Fx F w 2) (fun i hi=>⟨HAT.out.2.2.2.2.pre.hF i hi,hi⟩)
   clear m0 hsl hbad hl20
   have re2:=HAT.out.2.2.2.2.pre.re.but H2.out.2.2.1 (F':=Fx F w 2) (fun i hi=>⟨HAT.out.2.2.2.2.pre.hF i hi,hi⟩)
   have rs2:=HAT.out.2.2.2.2.pre.rs.but H2.out.2.2.1 (F':=Fx F w 2) (fun i hi=>⟨HAT.out.2.2.2.2.pre.hF i hi,hi⟩)
   have HR2:=Lib.hid (And.intro rb2 (And.intro re2 rs2))
   obtain ⟨bv,bx2,bk2,bx3,bk3,ebx,-,-⟩:=encN_open rb2
   simp only [List.cons.injEq,Value.int.injEq,Value.slice.injEq,and_true,true_and] at ebx
   obtain ⟨eat,rfl,⟨rfl,ek2,rfl⟩,rfl,ek3,rfl⟩:=ebx
   obtain ⟨sa,scap,esv⟩:∃ a c,u3=.slice a st.length c:=by have h:=rs2;rw [Rep_sl] at h;obtain ⟨_,a,c,e,_⟩:=h;exact ⟨a,c,e⟩
   clear rb2 re2 rs2
   cases b with
   | leaf c =>
     have hatom:atomOf (.leaf c)=[c]:=rfl
     rw [eat,hatom] at y0
     have EAT:=Lib.hid eat
     subst esv
     by_cases h117:c=117
     ·subst h117
      have hRR:R=some (.leaf 117,k,l):=by rw [HAT.out.2.1];exact evN_u
      obtain ⟨W3,hW3⟩:∃ W3,W2.setCell ⟨ww,0,none⟩ (.int .i64 (k:Nat))=W3:=⟨_,rfl⟩
      have hWr3:Wri W3 ww (k:Nat) (s+1):=by have:=H2.out.2.1;unfold Wri at *;rw [← hW3,setCell_at this];rfl
      have hb3:But (· = ww) W2 W3:=by rw [← hW3];exact (But.refl (· = ww) W2).setCell (p:=⟨ww,0,none⟩) (.inl rfl) _
      have hres3:NewN (w.heap.size+1) 0 (.slice none 0 0) (.slice none 0 0) W3:=H2.out.2.2.2.2.but hb3 (by omega)
      obtain ⟨r0,r1,r2,r3,rlt,rf⟩:=hres3.cells
      have rf0:=rf 0;have rf1:=rf 1;have rf2:=rf 2;have rf3:=rf 3
      have x0:W3.cell? ⟨w.heap.size,0,none⟩=some (.string ⟨#[117]⟩):=(hb3.cell (p:=⟨w.heap.size,0,none⟩) (World.block_lt_of_cell? W2 _ y0) (by show w.heap.size≠ww;omega)).trans y0
      have y0':W2.cell? ⟨w.heap.size,0,none⟩=some (.string ⟨#[117]⟩):=y0
      have hpost:=write_ret (F:=F) (ww:=ww) (D:=20001+20*(D:Int)) (o:=R) (s:=[117]) (v:=0) (a1:=none) (n1:=0) (c1:=0) (a2:=none) (n2:=0) (c2:=0) ((HAT.out.2.2.2.2.but.trans H2.out.2.2.1).trans hb3) hww hres3 (fun h=>by rw [hRR] at h;simp at h)
       (fun x hx=>by rw [hRR] at hx;simp only [Option.some.injEq] at hx;subst hx;exact ⟨by rw [← HSL.out];exact hWr3,leaf_reps _ _ _⟩)
      have HQ:=Lib.hid (And.intro hW3 hpost)
      clear hW3 hWr3 hb3 hres3 rf hRR hpost y0
      go_upto_region 2 with (fail)
      rw [H2.out.1]
      go_upto_region 7 with (fail)
      rw [HQ.out.1]
      go_wp2_with fail
      obtain ⟨W4,hW4,s0',s1',s2',s3',hp⟩:=HQ.out.2
      rw [show (Value.string ⟨#[117]⟩)=str [117] from rfl,← hW4]
      exact bodyPost_ret (v:=.agg #[str [117],.int .i64 0,.slice none 0 0,.slice none 0 0]) (by simp [results,Tryz.results44,go_sem,s0',s1',s2',s3']) rfl hp
     ·obtain ⟨S,hS1⟩:∃ S:Bs,S=[c]:=⟨_,rfl⟩
      rw [← hS1] at y0
      have e117:(S == [117])=false:=by rw [beq_eq_false_iff_ne,hS1];simpa using h117
      have ene:(S != [])=true:=by rw [bne_iff_ne,hS1];simp
      have ene2:(!S.isEmpty)=true:=by rw [hS1];rfl
      have HS1:=Lib.hid hS1;clear hS1
      cases st with
      | nil =>
        have hRR:R=some (.leaf c,k,l):=by rw [HAT.out.2.1];exact evN_end
        obtain ⟨W3,hW3⟩:∃ W3,W2.setCell ⟨ww,0,none⟩ (.int .i64 (k:Nat))=W3:=⟨_,rfl⟩
        have hWr3:Wri W3 ww (k:Nat) (s+1):=by have:=H2.out.2.1;unfold Wri at *;rw [← hW3,setCell_at this];rfl
        have hb3:But (· = ww) W2 W3:=by rw [← hW3];exact (But.refl (· = ww) W2).setCell (p:=⟨ww,0,none⟩) (.inl rfl) _
        have hres3:NewN (w.heap.size+1) 0 (.slice none 0 0) (.slice none 0 0) W3:=H2.out.2.2.2.2.but hb3 (by omega)
        obtain ⟨r0,r1,r2,r3,rlt,rf⟩:=hres3.cells
        have rf0:=rf 0;have rf1:=rf 1;have rf2:=rf 2;have rf3:=rf 3
        have x0:W3.cell? ⟨w.heap.size,0,none⟩=some (str S):=(hb3.cell (p:=⟨w.heap.size,0,none⟩) (World.block_lt_of_cell? W2 _ y0) (by show w.heap.size≠ww;omega)).trans y0
        have hpost:=write_ret (F:=F) (ww:=ww) (D:=20001+20*(D:Int)) (o:=R) (s:=S) (v:=0) (a1:=none) (n1:=0) (c1:=0) (a2:=none) (n2:=0) (c2:=0) ((HAT.out.2.2.2.2.but.trans H2.out.2.2.1).trans hb3) hww hres3 (fun h=>by rw [hRR] at h;simp at h)
         (fun x hx=>by rw [hRR] at hx;simp only [Option.some.injEq] at hx;subst hx;exact ⟨by rw [← HSL.out];exact hWr3,by rw [HS1.out];exact leaf_reps _ _ _⟩)
        have HQ:=Lib.hid (And.intro hW3 hpost)
        clear hW3 hWr3 hb3 hres3 rf hRR hpost
        rw [List.length_nil]
        go_upto_region 2 with (fail)
        rw [H2.out.1]
        go_upto_region 7 with (fail)
        rw [HQ.out.1]
        go_wp2_with fail
        obtain ⟨W4,hW4,s0',s1',s2',s3',hp⟩:=HQ.out.2
        rw [← hW4]
        exact bodyPost_ret (v:=.agg #[str S,.int .i64 0,.slice none 0 0,.slice none 0 0]) (by simp [results,Tryz.results44,go_sem,s0',s1',s2',s3']) rfl hp
      | cons f st =>
        obtain ⟨tb,tO,tcap,ba1,bc1,ba2,bc2,ea,ec,etop,hFt,htlt,hcap,t0,t1,t2,t3,t4,t5,hry,hre,hrs⟩:=top_rep (st:=st) HR2.out.2.2
        simp only [List.length_cons,Value.slice.injEq,true_and] at etop
        obtain ⟨rfl,rfl⟩:=etop
        have hk:∃ i:Nat,i<2∧(i=1↔c=102):=by
         by_cases h:c=102
         ·exact ⟨1,by omega,by simp [h]⟩
         ·exact ⟨0,by omega,by simp [h]⟩
        obtain ⟨i,hi2,hkc⟩:=hk
        have hc3:c=116∨c=102:=by
         have h:=HAT.out.2.2.2.2.pre.wf.1
         rw [wfB] at h
         rcases h with h | h | h
         ·exact .inl h
         ·exact .inr h
         ·exact absurd h h117
        obtain ⟨pa,pc,ep,hpat⟩:=AtNs.of (bs:=[f.yes,f.no]) hry
        simp only [Value.slice.injEq] at ep
        obtain ⟨rfl,_,rfl⟩:=ep
        obtain ⟨pb,po,ns,nv,na2,nn2,nc2,na3,nn3,nc3,nx,e,hpb,hnx,p0,p1,p2,p3,hrn⟩:=hpat i hi2
        subst e
        obtain ⟨nv',na2',nc2',na3',nc3',en,_,_⟩:=encN_open hrn
        simp only [List.cons.injEq,Value.int.injEq,Value.slice.injEq,and_true,true_and] at en
        obtain ⟨ens,rfl,⟨rfl,rfl,rfl⟩,rfl,rfl,rfl⟩:=en
        rw [ens] at p0 hrn
        have hnx2:(if c=116 then (WFr.gf f).yes else (WFr.gf f).no)=nx:=by
         rcases (by omega:i=0∨i=1) with rfl | rfl
         ·have:¬ c=102:=fun h=>by have:=hkc.2 h;omega
          have h116:c=116:=hc3.resolve_right this
          simp at hnx;rw [if_pos h116];exact hnx
         ·have h102:c=102:=hkc.1 rfl
          have:¬ c=116:=by rw [h102];decide
          simp at hnx;rw [if_neg this];exact hnx
        have HF:=Lib.hid (And.intro hrn (And.intro hre (And.intro hrs (And.intro hkc hnx2))))
        have hstl:=HAT.out.2.2.2.2.pre.stl
        rw [List.length_cons] at hstl ⊢
        clear hrn hre hrs hnx2 hnx hry hpat ens hc3
        have hne0:(((st.length:Int)+1) == 0)=false:=by rw [beq_eq_false_iff_ne];omega
        have hsc:(st.length:Int)≤(scap:Int):=by omega
        rcases (by omega:i=0∨i=1) with rfl | rfl
        ·have hkc:¬ c=102:=fun h=>by have:=HF.out.2.2.2.1.2 h;omega
         simp only [Nat.zero_mul,Nat.add_zero] at p0 p1 p2 p3
         have e102:(S == [102])=false:=by rw [beq_eq_false_iff_ne,HS1.out];have:=hkc;simpa using this
         go_upto_region 2 with (fail)
         rw [H2.out.1]
         go_upto_region 13 with (fail)
         obtain ⟨W3,hW3⟩:∃ W3,W2.alloc (.cells #[str [],.int .i64 (f.v:Nat),.slice ba1 f.ss.length bc1,.slice (some ⟨pb,po,none⟩) 2 bc2,.slice ea f.env.length ec,.int .i64 0] 124)=W3:=⟨_,rfl⟩
         rw [hW3]
         have hz3:W3.heap.size=W2.heap.size+1:=by rw [← hW3];exact size_alloc _ _
         have hb3:Below W2.heap.size W2 W3:=by rw [← hW3];exact (Below.refl _ _).alloc (Nat.le_refl _) _
         have u3':W3.cell? ⟨W2.heap.size,3,none⟩=some (.slice (some ⟨pb,po,none⟩) 2 bc2):=by rw [← hW3];simp
         have u4':W3.cell? ⟨W2.heap.size,4,none⟩=some (.slice ea f.env.length ec):=by rw [← hW3];simp
         have r0:W3.cell? ⟨pb,po,none⟩=some (str (atomOf nx)):=by rw [← hW3];exact cell_alloc p0
         have r1:W3.cell? ⟨pb,po+1,none⟩=some (.int .i64 nv):=by rw [← hW3];exact cell_alloc p1
         have r2:W3.cell? ⟨pb,po+2,none⟩=some (.slice na2 (kidsOf nx).length nc2):=by rw [← hW3];exact cell_alloc p2
         have r3:W3.cell? ⟨pb,po+3,none⟩=some (.slice na3 (yesOf nx).length nc3):=by rw [← hW3];exact cell_alloc p3
         have hB3:W3.heap[w.heap.size]? = some (.cells #[str s0,.int .i64 v0,.slice a1 n1 c1,.slice a2 n2 c2] 36 (0,0)):=by rw [← hW3];exact heap_past H2.out.2.2.2.1
         have v0':W3.cell? ⟨w.heap.size,0,none⟩=some (str s0):=by simp [World.cell?,hB3]
         have v1':W3.cell? ⟨w.heap.size,1,none⟩=some (.int .i64 v0):=by simp [World.cell?,hB3]
         have v2':W3.cell? ⟨w.heap.size,2,none⟩=some (.slice a1 n1 c1):=by simp [World.cell?,hB3]
         have v3':W3.cell? ⟨w.heap.size,3,none⟩=some (.slice a2 n2 c2):=by simp [World.cell?,hB3]
         have f0:W3.frozen? ⟨w.heap.size,0,none⟩=false:=by simp [World.frozen?,hB3]
         have f1:W3.frozen? ⟨w.heap.size,1,none⟩=false:=by simp [World.frozen?,hB3]
         have f2:W3.frozen? ⟨w.heap.size,2,none⟩=false:=by simp [World.frozen?,hB3]
         have f3:W3.frozen? ⟨w.heap.size,3,none⟩=false:=by simp [World.frozen?,hB3]
         have H3:=Lib.hid (And.intro hW3 (And.intro hz3 (And.intro hb3 hB3)));clear hW3 hz3 hb3 hB3 t0 t1 t2 t3 t4 t5 p0 p1 p2 p3 y0 y1 y2 y3
         go_upto_region 15 with (fail)
         obtain ⟨W4,hW4⟩:∃ W4,boxSet w.heap.size (str (atomOf nx)) (.int .i64 nv) (.slice na2 (kidsOf nx).length nc2) (.slice na3 (yesOf nx).length nc3) W3=W4:=⟨_,rfl⟩
         have hWu:=hW4
         unfold boxSet at hWu
         rw [hWu]
         have hat:=HAT.out.2.2.2.2
         have hzw:=hat.zw
         have hz2:=H2.out.2.2.1.size
         have hb4:But (fun i=>i=w.heap.size) W3 W4:=by rw [← hW4];exact boxSet_but (But.refl _ _) rfl
         have u4'':W4.cell? ⟨W2.heap.size,4,none⟩=some (.slice ea f.env.length ec):=(hb4.cell (p:=⟨W2.heap.size,4,none⟩) (World.block_lt_of_cell? W3 _ u4') (by show W2.heap.size≠w.heap.size;omega)).trans u4'
         have hbox4:W4.heap[w.heap.size]? = some (.cells #[str (atomOf nx),.int .i64 nv,.slice na2 (kidsOf nx).length nc2,.slice na3 (yesOf nx).length nc3] 36 (0,0)):=by rw [← hW4];exact boxSet_at H3.out.2.2.2
         have hb34:But (fun i=>i=ww∨i=w.heap.size) W2 W4:=(But.ofBelow (m:=fun i=>i=ww∨i=w.heap.size) H3.out.2.2.1).trans (hb4.weak fun i _ h=>.inr h)
         have hwr4:Wri W4 ww ((k+1:Nat):Int) (20000-(l:Nat)):=by
          have h:=H2.out.2.1
          unfold Wri at *
          rw [hb4.block ww (by have:=H3.out.2.1;omega) (by show ww≠w.heap.size;omega),H3.out.2.2.1.block ww (by omega),h,HSL.out]
         have kp:∀ (i:Nat) (o:Obj),Fx F w 2 i→W2.heap[i]? = some o→Fx F w 2 i∧W4.heap[i]? = some o:=fun i o hi ho=>by
          have hx:=Fx.low' hat.pre.hF hi (by omega)
          exact ⟨hi,by rw [hb34.block i (lt_of_heap ho) (fun e=>e.elim hx.1 hx.2)];exact ho⟩
         have hnext:=hat.move (b':=nx) (env':=f.env) (st':=st) ((H2.out.2.2.1.weak fun i _ h=>.inl h).trans hb34) hwr4 hbox4 (by have:=hat.pre.fit.back c;rw [show (if c=116 then (WFr.gf f).yes else (WFr.gf f).no)=nx from HF.out.2.2.2.2] at this;exact this)
          (by have:=hat.pre.okg.1;have:=hat.pre.ld;have:=hat.pre.d20;show f.env.length+16*d≤1000000;have h9:f.env.length≤1000000-16*(d+1):=hat.pre.okg.1;omega) (by have:=hat.pre.stl;rw [List.length_cons] at this;omega) (okMs_mono (by omega) _ hat.pre.okg.2.1) (okGs_mono (by omega) _ hat.pre.okg.2.2)
          (by
           have h1:=hat.pre.wf.2.2 (WFr.gf f) (by simp)
           refine ⟨?_,h1.2.2,fun g hg=>hat.pre.wf.2.2 g (by rw [List.map_cons];exact List.mem_cons_of_mem _ hg)⟩
           rw [← show (if c=116 then (WFr.gf f).yes else (WFr.gf f).no)=nx from HF.out.2.2.2.2]
           split
           ·exact h1.1
           ·exact h1.2.1)
          ((Rep.keep kp).2 _ _ HF.out.1) ((Rep.keep kp).1 _ _ HF.out.2.1) ((Rep.keep kp).1 _ _ HF.out.2.2.1)
         have hRn:R=evN d (k+1) l nx f.env n (st.map WFr.gf):=by
          rw [HAT.out.2.1,List.map_cons,evN_back h117]
          rw [show (if c=116 then (WFr.gf f).yes else (WFr.gf f).no)=nx from HF.out.2.2.2.2];rfl
         have HN:=Lib.hid (And.intro hnext (And.intro hRn hwr4))
         clear hnext hRn hwr4 kp hb34 hbox4 hb4 hWu hW4 hat hz2 hzw u3' u4' r0 r1 r2 r3 v0' v1' v2' v3' f0 f1 f2 f3
         go_wp2_with fail
         go_roundw
         case rel=>exact ⟨d,l,nx,f.env,st,_,_,_,_,_,_,_,_,by have:=HAT.out.1;omega,HN.out.2.1,HN.out.1⟩
         case measure =>
          rw [HAT.out.2.2.1]
          refine Nat.lt_of_le_of_lt (Nat.le_of_eq (leftW_eq HN.out.2.2)) ?_
          omega
        ·have hkc:c=102:=HF.out.2.2.2.1.1 rfl
         simp only [Nat.one_mul,Nat.add_assoc,Nat.reduceAdd] at p0 p1 p2 p3
         have e102:(S == [102])=true:=by rw [beq_iff_eq,HS1.out];have:=hkc;simpa using this
         go_upto_region 2 with (fail)
         rw [H2.out.1]
         go_upto_region 13 with (fail)
         obtain ⟨W3,hW3⟩:∃ W3,W2.alloc (.cells #[str [],.int .i64 (f.v:Nat),.slice ba1 f.ss.length bc1,.slice (some ⟨pb,po,none⟩) 2 bc2,.slice ea f.env.length ec,.int .i64 0] 124)=W3:=⟨_,rfl⟩
         rw [hW3]
         have hz3:W3.heap.size=W2.heap.size+1:=by rw [← hW3];exact size_alloc _ _
         have hb3:Below W2.heap.size W2 W3:=by rw [← hW3];exact (Below.refl _ _).alloc (Nat.le_refl _) _
         have u3':W3.cell? ⟨W2.heap.size,3,none⟩=some (.slice (some ⟨pb,po,none⟩) 2 bc2):=by rw [← hW3];simp
         have u4':W3.cell? ⟨W2.heap.size,4,none⟩=some (.slice ea f.env.length ec):=by rw [← hW3];simp
         have r0:W3.cell? ⟨pb,po+4,none⟩=some (str (atomOf nx)):=by rw [← hW3];exact cell_alloc p0
         have r1:W3.cell? ⟨pb,po+5,none⟩=some (.int .i64 nv):=by rw [← hW3];exact cell_alloc p1
         have r2:W3.cell? ⟨pb,po+6,none⟩=some (.slice na2 (kidsOf nx).length nc2):=by rw [← hW3];exact cell_alloc p2
         have r3:W3.cell? ⟨pb,po+7,none⟩=some (.slice na3 (yesOf nx).length nc3):=by rw [← hW3];exact cell_alloc p3
         have hB3:W3.heap[w.heap.size]? = some (.cells #[str s0,.int .i64 v0,.slice a1 n1 c1,.slice a2 n2 c2] 36 (0,0)):=by rw [← hW3];exact heap_past H2.out.2.2.2.1
         have v0':W3.cell? ⟨w.heap.size,0,none⟩=some (str s0):=by simp [World.cell?,hB3]
         have v1':W3.cell? ⟨w.heap.size,1,none⟩=some (.int .i64 v0):=by simp [World.cell?,hB3]
         have v2':W3.cell? ⟨w.heap.size,2,none⟩=some (.slice a1 n1 c1):=by simp [World.cell?,hB3]
         have v3':W3.cell? ⟨w.heap.size,3,none⟩=some (.slice a2 n2 c2):=by simp [World.cell?,hB3]
         have f0:W3.frozen? ⟨w.heap.size,0,none⟩=false:=by simp [World.frozen?,hB3]
         have f1:W3.frozen? ⟨w.heap.size,1,none⟩=false:=by simp [World.frozen?,hB3]
         have f2:W3.frozen? ⟨w.heap.size,2,none⟩=false:=by simp [World.frozen?,hB3]
         have f3:W3.frozen? ⟨w.heap.size,3,none⟩=false:=by simp [World.frozen?,hB3]
         have H3:=Lib.hid (And.intro hW3 (And.intro hz3 (And.intro hb3 hB3)));clear hW3 hz3 hb3 hB3 t0 t1 t2 t3 t4 t5 p0 p1 p2 p3 y0 y1 y2 y3
         go_upto_region 15 with (fail)
         obtain ⟨W4,hW4⟩:∃ W4,boxSet w.heap.size (str (atomOf nx)) (.int .i64 nv) (.slice na2 (kidsOf nx).length nc2) (.slice na3 (yesOf nx).length nc3) W3=W4:=⟨_,rfl⟩
         have hWu:=hW4
         unfold boxSet at hWu
         rw [hWu]
         have hat:=HAT.out.2.2.2.2
         have hzw:=hat.zw
         have hz2:=H2.out.2.2.1.size
         have hb4:But (fun i=>i=w.heap.size) W3 W4:=by rw [← hW4];exact boxSet_but (But.refl _ _) rfl
         have u4'':W4.cell? ⟨W2.heap.size,4,none⟩=some (.slice ea f.env.length ec):=(hb4.cell (p:=⟨W2.heap.size,4,none⟩) (World.block_lt_of_cell? W3 _ u4') (by show W2.heap.size≠w.heap.size;omega)).trans u4'
         have hbox4:W4.heap[w.heap.size]? = some (.cells #[str (atomOf nx),.int .i64 nv,.slice na2 (kidsOf nx).length nc2,.slice na3 (yesOf nx).length nc3] 36 (0,0)):=by rw [← hW4];exact boxSet_at H3.out.2.2.2
         have hb34:But (fun i=>i=ww∨i=w.heap.size) W2 W4:=(But.ofBelow (m:=fun i=>i=ww∨i=w.heap.size) H3.out.2.2.1).trans (hb4.weak fun i _ h=>.inr h)
         have hwr4:Wri W4 ww ((k+1:Nat):Int) (20000-(l:Nat)):=by
          have h:=H2.out.2.1
          unfold Wri at *
          rw [hb4.block ww (by have:=H3.out.2.1;omega) (by show ww≠w.heap.size;omega),H3.out.2.2.1.block ww (by omega),h,HSL.out]
         have kp:∀ (i:Nat) (o:Obj),Fx F w 2 i→W2.heap[i]? = some o→Fx F w 2 i∧W4.heap[i]? = some o:=fun i o hi ho=>by
          have hx:=Fx.low' hat.pre.hF hi (by omega)
          exact ⟨hi,by rw [hb34.block i (lt_of_heap ho) (fun e=>e.elim hx.1 hx.2)];exact ho⟩
         have hnext:=hat.move (b':=nx) (env':=f.env) (st':=st) ((H2.out.2.2.1.weak fun i _ h=>.inl h).trans hb34) hwr4 hbox4 (by have:=hat.pre.fit.back c;rw [show (if c=116 then (WFr.gf f).yes else (WFr.gf f).no)=nx from HF.out.2.2.2.2] at this;exact this)
          (by have:=hat.pre.okg.1;have:=hat.pre.ld;have:=hat.pre.d20;show f.env.length+16*d≤1000000;have h9:f.env.length≤1000000-16*(d+1):=hat.pre.okg.1;omega) (by have:=hat.pre.stl;rw [List.length_cons] at this;omega) (okMs_mono (by omega) _ hat.pre.okg.2.1) (okGs_mono (by omega) _ hat.pre.okg.2.2)
          (by
           have h1:=hat.pre.wf.2.2 (WFr.gf f) (by simp)
           refine ⟨?_,h1.2.2,fun g hg=>hat.pre.wf.2.2 g (by rw [List.map_cons];exact List.mem_cons_of_mem _ hg)⟩
           rw [← show (if c=116 then (WFr.gf f).yes else (WFr.gf f).no)=nx from HF.out.2.2.2.2]
           split
           ·exact h1.1
           ·exact h1.2.1)
          ((Rep.keep kp).2 _ _ HF.out.1) ((Rep.keep kp).1 _ _ HF.out.2.1) ((Rep.keep kp).1 _ _ HF.out.2.2.1)
         have hRn:R=evN d (k+1) l nx f.env n (st.map WFr.gf):=by
          rw [HAT.out.2.1,List.map_cons,evN_back h117]
          rw [show (if c=116 then (WFr.gf f).yes else (WFr.gf f).no)=nx from HF.out.2.2.2.2];rfl
         have HN:=Lib.hid (And.intro hnext (And.intro hRn hwr4))
         clear hnext hRn hwr4 kp hb34 hbox4 hb4 hWu hW4 hat hz2 hzw u3' u4' r0 r1 r2 r3 v0' v1' v2' v3' f0 f1 f2 f3
         go_wp2_with fail
         go_roundw
         case rel=>exact ⟨d,l,nx,f.env,st,_,_,_,_,_,_,_,_,by have:=HAT.out.1;omega,HN.out.2.1,HN.out.1⟩
         case measure =>
          rw [HAT.out.2.2.1]
          refine Nat.lt_of_le_of_lt (Nat.le_of_eq (leftW_eq HN.out.2.2)) ?_
          omega
   | ask v ss y no =>
     subst esv
     have hfit:=HAT.out.2.2.2.2.pre.fit
     obtain ⟨m,t,hh,hm,hmf,-,-,-,-⟩:=hfit.ask
     have hbx:=HR2.out.1
     rw [encN_ask] at hbx
     simp only [Reps_cons,Reps_nil] at hbx
     obtain ⟨_,_,e0,hv0,_,_,rfl,hv1,_,_,rfl,hkids,_,_,rfl,hyn,rfl⟩:=hbx
     simp only [List.cons.injEq,and_true] at e0
     obtain ⟨rfl,rfl,rfl,rfl⟩:=e0
     rw [Rep_val] at hv0 hv1
     rw [hv0] at y0
     rw [hv1] at y1
     simp only [Value.int.injEq,true_and] at hv1
     subst hv1
     obtain ⟨-,ka,kc,ek,-⟩:=Rep_sl.1 hkids
     simp only [Value.slice.injEq] at ek
     obtain ⟨rfl,rfl,rfl⟩:=ek
     obtain ⟨-,ya,yc,ey,-⟩:=Rep_sl.1 hyn
     simp only [Value.slice.injEq] at ey
     obtain ⟨rfl,rfl,rfl⟩:=ey
     have hs00:s0=[]:=by simpa [str] using hv0
     subst hs00
     have HK:=Lib.hid (And.intro hkids (And.intro hyn (And.intro hv0 hfit)))
     clear hkids hyn hv0 hfit eat ek2 ek3
     cases m with
     | op o t' =>
       have ett:t'=t:=by rw [mnFit] at hmf;exact hmf.1
       subst ett
       obtain ⟨eb,eo,ecap,ta,tc,i0,e,heF,hew,q0,q1,q2,q3,q4,q5,q6,q7,q8,htr⟩:=bound_op HR2.out.2.1 hm
       subst e
       have HM:=Lib.hid (And.intro hm (And.intro hmf htr));clear hm hmf htr
       obtain ⟨W3,hW3⟩:∃ W3,W2.alloc (.cells #[.int .i64 (o:Nat),str [],.int .i64 0,.slice none 0 0,.slice none 0 0,.slice ta t'.args.length tc,.slice none 0 0,.int .i64 0,.int .i64 i0] 89)=W3:=⟨_,rfl⟩
       have hb3:Below W2.heap.size W2 W3:=by rw [← hW3];exact (Below.refl _ _).alloc (Nat.le_refl _) _
       have hz3:W3.heap.size=W2.heap.size+1:=by rw [← hW3];exact size_alloc _ _
       have hbx3:=(hb3.block _ (lt_of_heap H2.out.2.2.2.1)).trans H2.out.2.2.2.1
       obtain ⟨x0,x1,x2,x3⟩:=cells4 hbx3
       have z0:W3.cell? ⟨W2.heap.size,0,none⟩=some (.int .i64 (o:Nat)):=by rw [← hW3];simp
       have ho0:(0:Int)≤(o:Int):=by omega
       have hres3:NewN (w.heap.size+1) 0 (.slice none 0 0) (.slice none 0 0) W3:=by
        have h:=H2.out.2.2.2.2
        unfold NewN at *
        rw [hb3.block _ (lt_of_heap h)];exact h
       have hvl:=(List.getElem?_eq_some_iff.1 HM.out.1).1
       have hv1:(v:Int)<(env.length:Int):=by omega
       have hat:=HAT.out.2.2.2.2
       have hld:=hat.pre.ld;have hdd:=hat.pre.d20;have hstl:=hat.pre.stl
       have k3:∀ (i:Nat) (ob:Obj),Fx F w 2 i→W2.heap[i]? = some ob→Fx F w 2 i∧W3.heap[i]? = some ob:=fun i ob hi hh=>⟨hi,by rw [hb3.block i (lt_of_heap hh)];exact hh⟩
       have hwr3:Wri W3 ww ((k:Nat)+1) (20000-(l:Nat)):=by
        have h:=H2.out.2.1
        unfold Wri at *
        rw [hb3.block ww (lt_of_heap h),h,HSL.out];rfl
       have C:=Lib.hid (keepN_any d (IH.out d (by have:=HAT.out.1;omega)) (Fx F w 2) ww k l n v o H t' ss y no env st 0 a1 a2 c1 c2 (.slice (some ⟨eb,eo,none⟩) env.length ecap) (.slice sa st.length scap) W3
        { wri:=hwr3,hF:=hat.pre.hF,ld:=by omega,d20:=by omega,k200:=by omega,hv:=HM.out.1,fit:=hat.pre.fit,hn:=hat.pre.hn,el:=hat.pre.el,nl:=hat.pre.nl,stl:=by omega,ok:=hat.pre.ok,okg:=hat.pre.okg,wf:=hat.pre.wf,
          rb:=(Rep.keep k3).2 _ _ HR2.out.1,re:=(Rep.keep k3).1 _ _ HR2.out.2.1,rs:=(Rep.keep k3).1 _ _ HR2.out.2.2 })
       have hRR:R=keptN d k l n o t' ss y no env (st.map WFr.gf):=by rw [HAT.out.2.1];exact evN_op HM.out.1
       have H3:=Lib.hid (And.intro hW3 (And.intro hb3 (And.intro hz3 (And.intro hres3 hRR))))
       clear hW3 hb3 hz3 hbx3 hres3 hvl hat hwr3 hRR k3 hld
       go_upto_region 2 with (fail)
       rw [H2.out.1]
       go_upto_region 17 with (fail)
       rw [H3.out.1]
       go_wp2_with fail
       (with_reducible refine C.out.mono ?_)
       rintro en w9 ⟨s9,v9,b1,p1,d1,b2,p2,d2,rfl,hb9,hn9,hy9⟩
       have hres9:=H3.out.2.2.2.1.but hb9 (show ¬ (w.heap.size+1=ww) by omega)
       obtain ⟨r0,r1,r2,r3,rlt,rf⟩:=hres9.cells
       have rf0:=rf 0;have rf1:=rf 1;have rf2:=rf 2;have rf3:=rf 3
       have hpost:=write_ret (F:=F) (ww:=ww) (D:=20001+20*(D:Int)) (o:=R) (s:=s9) (v:=v9) (a1:=b1) (n1:=p1) (c1:=d1) (a2:=b2) (n2:=p2) (c2:=d2) (((HAT.out.2.2.2.2.but.trans H2.out.2.2.1).trans (But.ofBelow H3.out.2.1)).trans hb9) hww hres9
        (fun h=>by
         obtain ⟨st',u1,u2,u3⟩:=hn9 (by rw [← H3.out.2.2.2.2];exact h)
         exact ⟨st',u1,u2,by have:=HAT.out.1;omega⟩)
        (fun x hx=>by
         obtain ⟨u1,u2⟩:=hy9 x (by rw [← H3.out.2.2.2.2];exact hx)
         refine ⟨u1,(Rep.keep fun i ob hi hh=>⟨?_,hh⟩).2 _ _ u2⟩
         rcases hi with h | h
         ·exact h
         ·have h1:=H3.out.2.2.1
          have h2:=HAT.out.2.2.2.2.zw
          have h3:=H2.out.2.2.1.size
          exact .inr (by omega))
       have HQ:=Lib.hid hpost
       clear hpost hb9 hn9 hy9 hres9 rf
       go_wp2_with fail
       obtain ⟨W4,hW4,s0',s1',s2',s3',hp⟩:=HQ.out
       rw [← hW4]
       exact bodyPost_ret (v:=.agg #[str s9,.int .i64 v9,.slice b1 p1 d1,.slice b2 p2 d2]) (by simp [results,Tryz.results44,go_sem,s0',s1',s2',s3']) rfl hp
     | bd t' b' e' =>
       have ett:t'=t:=by rw [mnFit] at hmf;exact hmf.1
       subst ett
       obtain ⟨eb,eo,ecap,ta,tc,bs,bv,ba1,bm1,bc1,ba2,bm2,bc2,ha,hcap,i0,e,heF,hew,q0,q1,q2,q3,q4,q5,q6,q7,q8,htr,hrb,hre⟩:=bound_bd HR2.out.2.1 hm
       subst e
       obtain ⟨hsst,hfit2⟩:=HK.out.2.2.2.call hm
       obtain ⟨xs,hxs,hsrc⟩:=SrcSl.ofRep HR2.out.2.2 (oneCell_encFs st)
       have hokb:=okMs_at _ HAT.out.2.2.2.2.pre.ok v _ hm
       rw [okM] at hokb
       have hwfb:=wfMs_at _ HAT.out.2.2.2.2.pre.wf.2.1 v _ hm
       rw [wfM] at hwfb
       have h15:=(args_atoms hokb.1).2
       have hss15:ss.length≤15:=by omega
       have hel:=HAT.out.2.2.2.2.pre.el
       have hle:e'.length≤1000000:=by have:=hokb.2.1;omega
       have HM:=Lib.hid (And.intro hm (And.intro htr (And.intro hrb (And.intro hre (And.intro hsst (And.intro hfit2 (And.intro hxs (And.intro hsrc (And.intro hokb hwfb)))))))))
       clear hm hmf htr hrb hre hsst hfit2 hxs hsrc hokb hwfb h15
       obtain ⟨W3,hW3⟩:∃ W3,W2.alloc (.cells #[.int .i64 (-1),str bs,.int .i64 bv,.slice ba1 bm1 bc1,.slice ba2 bm2 bc2,.slice ta t'.args.length tc,.slice ha e'.length hcap,.int .i64 0,.int .i64 i0] 89)=W3:=⟨_,rfl⟩
       have hb3:Below W2.heap.size W2 W3:=by rw [← hW3];exact (Below.refl _ _).alloc (Nat.le_refl _) _
       have hz3:W3.heap.size=W2.heap.size+1:=by rw [← hW3];exact size_alloc _ _
       have hbx3:=(hb3.block _ (lt_of_heap H2.out.2.2.2.1)).trans H2.out.2.2.2.1
       have hbd3:W3.heap[W2.heap.size]? = some (.cells #[.int .i64 (-1),str bs,.int .i64 bv,.slice ba1 bm1 bc1,.slice ba2 bm2 bc2,.slice ta t'.args.length tc,.slice ha e'.length hcap,.int .i64 0,.int .i64 i0] 89 (0,0)):=by rw [← hW3];exact heap_new _ _
       obtain ⟨x0,x1,x2,x3⟩:=cells4 hbx3
       have z0:W3.cell? ⟨W2.heap.size,0,none⟩=some (.int .i64 (-1)):=by rw [← hW3];simp
       have hvl:=(List.getElem?_eq_some_iff.1 HM.out.1).1
       have hv1:(v:Int)<(env.length:Int):=by omega
       have hwB:w.heap.size<W3.heap.size:=by have:=HAT.out.2.2.2.2.zw;have:=H2.out.2.2.1.size;omega
       have hstl:st.length≤40000:=by have:=HAT.out.2.2.2.2.pre.stl;omega
       have H3:=Lib.hid (And.intro hW3 (And.intro hb3 (And.intro hz3 (And.intro hbx3 hbd3))))
       have SX:Hid (∀ w',Below W3.heap.size W3 w'→w'.cell? ⟨w.heap.size,0,none⟩=some (str [])∧w'.cell? ⟨w.heap.size,1,none⟩=some (.int .i64 (v:Nat))∧w'.cell? ⟨w.heap.size,2,none⟩=some (.slice a1 ss.length c1)∧w'.cell? ⟨w.heap.size,3,none⟩=some (.slice a2 2 c2)):=by
        show ∀ w',_→_
        intro w' hb'
        exact ⟨(hb'.cell (by show w.heap.size<_;omega)).trans x0,(hb'.cell (by show w.heap.size<_;omega)).trans x1,(hb'.cell (by show w.heap.size<_;omega)).trans x2,(hb'.cell (by show w.heap.size<_;omega)).trans x3⟩
       have SRC:Hid (∀ w',Below W3.heap.size W3 w'→SrcSl 6 (.slice sa st.length scap) st.length xs w'):=by
        show ∀ w',_→_
        intro w' hb'
        exact (HM.out.2.2.2.2.2.2.2.1.belowAll hb3 (Nat.le_refl _)).belowAll hb' (Nat.le_refl _)
       clear hW3 hb3 hz3 hbx3 hbd3 hvl x0 x1 x2 x3
       go_upto_region 2 with (fail)
       rw [H2.out.1]
       go_upto_region 17 with (fail)
       rw [H3.out.1]
       go_upto_region 19 with (fail)
       refine wp_region_noPanic ?_
       refine wp_region_S (fun w'=>Below W3.heap.size W3 w') (fun _=>false) (by kernel_rfl) ?_
       have hSd:Below W3.heap.size W3 W3.drew:=Below.drew (Below.refl _ _)
       refine tk [1,3,4,5] hSd ?_
       (intro d hd;simp [tkD] at hd;subst hd;simp only [tks,pQ,pZ,pS])
       iterate 4 (refine ⟨?_,?_,?_⟩;rotate_left;· (intro oi ho;simp at ho;subst ho;refine Or.inl ⟨by rfl,fun w' hw'=>?_⟩;obtain ⟨e0,e1,e2,e3⟩:=SX.out w' hw';go_simp;try with_reducible rfl))
       refine wpAnyS_two 0 6 (by kernel_rfl) ?_ ?_
       ·(intro o0 ho K' hK;simp at ho;subst ho)
        go_simp
        (refine hK.out _ _ (fun _=>(hSd.alloc (Nat.le_refl _) (.cells #[] 124))) ?_;clear hK K';try simp only [pQ,pN,pZ,pS])
        refine wpAnyS_two 2 6 (by kernel_rfl) ?_ ?_
        ·(intro o2 ho K' hK;simp at ho;subst ho)
         refine step_append_gen (by rfl) _ _ _ (by rfl) 124 (.agg #[str [],.int .i64 0,.slice none 0 0,.slice none 0 0,.slice none 0 0,.int .i64 0]) 6 104 Tryz.underlying91 Tryz.infoFW rfl (by decide) (.slice (some ⟨W3.heap.size,0,none⟩) 0 0) 0 [] (by rfl) (Own.litAt #[] 0 _ rfl (by decide) rfl) _ st.length xs (by rfl) (SRC.out _ (hSd.alloc (Nat.le_refl _) (.cells #[] 124))) (by unfold maxLen;omega) (by omega) ?_
         intro a5 c5 w5 ho5 hb5 hg5
         simp only [Nat.zero_add,List.nil_append] at ho5 hg5 ⊢
         have hB5:Below W3.heap.size W3 w5:=(hSd.alloc (Nat.le_refl _) (.cells #[] 124)).trans (hb5.toBelow ((hSd.alloc (Nat.le_refl _) (.cells #[] 124))).size fun i hi e=>by simp [Value.ownBlock] at e;omega)
         have HG5:Hid (∀ g,(Value.slice a5 st.length c5).ownBlock=some g→W3.heap.size≤g):=fun g hg=>by rcases hg5 g hg with h | h;simp [Value.ownBlock] at h;omega;have h:g=W3.heap.size+1:=h.trans (size_alloc _ _);omega
         (refine hK.out _ _ (fun _=>hB5) ?_;clear hK K';try simp only [pQ,pN,pZ,pS])
         (refine on 6 ?_;intro o ho K' hK;simp at ho;subst ho;go_simp)
         (refine hK.out _ _ (fun _=>hB5.alloc hB5.size _) ?_;clear hK K';try simp only [pQ,pN,pZ,pS])
         (refine on 7 ?_;intro o ho K' hK;simp at ho;subst ho)
         refine step_append_gen (by rfl) _ _ _ (by rfl) 124 (.agg #[str [],.int .i64 0,.slice none 0 0,.slice none 0 0,.slice none 0 0,.int .i64 0]) 6 104 Tryz.underlying91 Tryz.infoFW rfl (by decide) (.slice a5 st.length c5) st.length xs (by rfl) (ho5.alloc _) _ 1 [str [],.int .i64 (v:Nat),.slice a1 ss.length c1,.slice a2 2 c2,.slice (some ⟨eb,eo,none⟩) env.length ecap,.int .i64 0] (by rfl) (SrcSl.lit1 #[str [],.int .i64 (v:Nat),.slice a1 ss.length c1,.slice a2 2 c2,.slice (some ⟨eb,eo,none⟩) env.length ecap,.int .i64 0] rfl (by simp [str,Value.oneCell']) _ (by rfl)) (by unfold maxLen;omega) (by omega) ?_
         intro a7 c7 w7 ho7 hb7 hg7
         have hB7:Below W3.heap.size W3 w7:=(hB5.alloc hB5.size (.cells #[str [],.int .i64 (v:Nat),.slice a1 ss.length c1,.slice a2 2 c2,.slice (some ⟨eb,eo,none⟩) env.length ecap,.int .i64 0] 124)).trans (hb7.toBelow ((hB5.alloc hB5.size (.cells #[str [],.int .i64 (v:Nat),.slice a1 ss.length c1,.slice a2 2 c2,.slice (some ⟨eb,eo,none⟩) env.length ecap,.int .i64 0] 124))).size fun i hi e=>by have:=HG5.out i e;omega)
         have hg7':∀ g,(Value.slice a7 (st.length+1) c7).ownBlock=some g→W3.heap.size≤g:=fun g hg=>by rcases hg7 g hg with h | h;exact HG5.out g h;exact Nat.le_trans ((hB5.alloc hB5.size (.cells #[str [],.int .i64 (v:Nat),.slice a1 ss.length c1,.slice a2 2 c2,.slice (some ⟨eb,eo,none⟩) env.length ecap,.int .i64 0] 124))).size (Nat.le_of_eq h.symm)
         (refine hK.out _ _ (fun _=>hB7) ?_;clear hK K';try simp only [pQ,pN,pZ,pS])
         (refine on 8 ?_;intro o ho K' hK;simp at ho;subst ho;go_simp)
         (refine hK.out _ _ (fun _=>hB7) ?_;clear hK K';try simp only [pQ,pN,pZ,pS])
         refine wpAnyS_done (by kernel_rfl) (NoPanic.normal ?_) _
         clear hb5 hg5 ho5 hb7 hg7 hB5
         have H7:=Lib.hid (And.intro ho7 (And.intro hB7 hg7'));clear ho7 hB7 hg7' hSd
         have hz3:=H3.out.2.2.1
         have hz7:=H7.out.2.1.size
         have hzw:=HAT.out.2.2.2.2.zw
         have hz2:=H2.out.2.2.1.size
         have hbd7:=(H7.out.2.1.block W2.heap.size (by omega)).trans H3.out.2.2.2.2
         have hbx7:=(H7.out.2.1.block w.heap.size (by omega)).trans H3.out.2.2.2.1
         have g5:w7.cell? ⟨W2.heap.size,5,none⟩=some (.slice ta t'.args.length tc):=by simp [World.cell?,hbd7]
         have g6:w7.cell? ⟨W2.heap.size,6,none⟩=some (.slice ha e'.length hcap):=by simp [World.cell?,hbd7]
         have x2:w7.cell? ⟨w.heap.size,2,none⟩=some (.slice a1 ss.length c1):=by simp [World.cell?,hbx7]
         have k7:∀ (i:Nat) (ob:Obj),Fx F w 2 i→W2.heap[i]? = some ob→Fx F w 2 i∧w7.heap[i]? = some ob:=fun i ob hi hh=>by
          have hl:=lt_of_heap hh
          exact ⟨hi,by rw [H7.out.2.1.block i (by omega),H3.out.2.1.block i hl];exact hh⟩
         have CH0:=(l4Hand_any (Fx F w 2) e' env ss t' (.slice ha e'.length hcap) (.slice a1 ss.length c1) (.slice ta t'.args.length tc) (.slice (some ⟨eb,eo,none⟩) env.length ecap) w7 ((Rep.keep k7).1 _ _ HM.out.2.2.2.1) ((Rep.keep k7).1 _ _ HK.out.1) ((Rep.keep k7).1 _ _ HM.out.2.1) ((Rep.keep k7).1 _ _ HR2.out.2.1) (by omega) HM.out.2.2.2.2.1 (by omega))
         rw [show ((0:Nat):Int)=0 from rfl] at CH0
         have CH:=Lib.hid CH0;clear CH0
         have HX7:=Lib.hid (And.intro hbd7 (And.intro hbx7 k7));clear hbd7 hbx7 k7 hz3 hz2
         go_wp2_with fail
         (with_reducible refine CH.out.mono ?_)
         rintro en w8 ⟨a8,c8,rfl,hb8,hr8⟩
         have hz3:=H3.out.2.2.1
         have hz8:=hb8.size
         have hbd8:=(hb8.block W2.heap.size (by omega)).trans HX7.out.1
         have hbx8:=(hb8.block w.heap.size (by omega)).trans HX7.out.2.1
         have p1:w8.cell? ⟨W2.heap.size,1,none⟩=some (str bs):=by simp [World.cell?,hbd8]
         have p2:w8.cell? ⟨W2.heap.size,2,none⟩=some (.int .i64 bv):=by simp [World.cell?,hbd8]
         have p3:w8.cell? ⟨W2.heap.size,3,none⟩=some (.slice ba1 bm1 bc1):=by simp [World.cell?,hbd8]
         have p4:w8.cell? ⟨W2.heap.size,4,none⟩=some (.slice ba2 bm2 bc2):=by simp [World.cell?,hbd8]
         have d0:w8.cell? ⟨w.heap.size,0,none⟩=some (str []):=by simp [World.cell?,hbx8]
         have d1:w8.cell? ⟨w.heap.size,1,none⟩=some (.int .i64 (v:Nat)):=by simp [World.cell?,hbx8]
         have d2:w8.cell? ⟨w.heap.size,2,none⟩=some (.slice a1 ss.length c1):=by simp [World.cell?,hbx8]
         have d3:w8.cell? ⟨w.heap.size,3,none⟩=some (.slice a2 2 c2):=by simp [World.cell?,hbx8]
         have f0:w8.frozen? ⟨w.heap.size,0,none⟩=false:=by simp [World.frozen?,hbx8]
         have f1:w8.frozen? ⟨w.heap.size,1,none⟩=false:=by simp [World.frozen?,hbx8]
         have f2:w8.frozen? ⟨w.heap.size,2,none⟩=false:=by simp [World.frozen?,hbx8]
         have f3:w8.frozen? ⟨w.heap.size,3,none⟩=false:=by simp [World.frozen?,hbx8]
         have H8:=Lib.hid (And.intro hb8 (And.intro hr8 hbx8));clear hb8 hr8 hbd8 hbx8 g5 g6 x2 hz3
         go_upto_region 22 with (fail)
         obtain ⟨W9,hW9⟩:∃ W9,boxSet w.heap.size (str bs) (.int .i64 bv) (.slice ba1 bm1 bc1) (.slice ba2 bm2 bc2) w8=W9:=⟨_,rfl⟩
         have hWu:=hW9
         unfold boxSet at hWu
         rw [hWu]
         have hnext:WAt F ww d (k+1) l n H b' (e'++owns env t'.args ss) (⟨v,ss,y,no,env⟩::st) bs bv ba1 ba2 bm1 bc1 bm2 bc2 (.slice a8 (e'.length+(owns env t'.args ss).length) c8) (.slice a7 (st.length+1) c7) w W9:=by
          have hat:=HAT.out.2.2.2.2
          have hz2:=H2.out.2.2.1.size
          have hz3:=H3.out.2.2.1
          have hb9:But (fun i=>i=w.heap.size) w8 W9:=by rw [← hW9];exact boxSet_but (But.refl _ _) rfl
          have hb29:But (fun i=>i=ww∨i=w.heap.size) W2 W9:=(((But.ofBelow (m:=fun i=>i=ww∨i=w.heap.size) H3.out.2.1).trans (But.ofBelow (H7.out.2.1))).trans (But.ofBelow H8.out.1)).trans (hb9.weak fun i _ h=>.inr h)
          have hz9:=hb29.size
          have hol:(owns env t'.args ss).length=t'.args.length:=owns_len _ _ HM.out.2.2.2.2.1
          have hokb:=HM.out.2.2.2.2.2.2.2.2.1
          have hwfb:=HM.out.2.2.2.2.2.2.2.2.2
          have hld:=hat.pre.ld;have hdd:=hat.pre.d20;have hstl2:=hat.pre.stl
          have kp:∀ (i:Nat) (ob:Obj),Fx F w 2 i→W2.heap[i]? = some ob→Fx F w 2 i∧W9.heap[i]? = some ob:=fun i ob hi ho=>by
           have hx:=Fx.low' hat.pre.hF hi (by omega)
           exact ⟨hi,by rw [hb29.block i (lt_of_heap ho) (fun e=>e.elim hx.1 hx.2)];exact ho⟩
          refine hat.move ((H2.out.2.2.1.weak fun i _ h=>.inl h).trans hb29) ?_ (by rw [← hW9];exact boxSet_at H8.out.2.2) HM.out.2.2.2.2.2.1 (by rw [List.length_append,hol];have:=hokb.2.1;have:=HM.out.2.2.2.2.1;omega) (by rw [List.length_cons];omega)
           (okMs_append _ _ (okMs_mono (by omega) _ hokb.2.2) (okMs_owns (okMs_mono (by omega) _ hat.pre.ok) (by omega) _ _ (args_atoms hokb.1).1)) ⟨by show env.length≤_;omega,okMs_mono (by omega) _ hat.pre.ok,okGs_mono (by omega) _ hat.pre.okg⟩
           ⟨hwfb.1,wfMs_append _ _ hwfb.2 (wfMs_owns hat.pre.wf.2.1 _ _ hat.pre.wf.1.1),fun f hf=>?_⟩ ((Rep.keep kp).2 _ _ HM.out.2.2.1) ?_ ?_
          ·have h:=H2.out.2.1
           unfold Wri at *
           rw [hb9.block ww (by omega) (by show ww≠w.heap.size;omega),H8.out.1.block ww (by omega),H7.out.2.1.block ww (by omega),H3.out.2.1.block ww (by omega),h,HSL.out]
          ·rw [List.map_cons] at hf
           rcases List.mem_cons.1 hf with rfl | hf
           ·exact ⟨hat.pre.wf.1.2.1,hat.pre.wf.1.2.2,hat.pre.wf.2.1⟩
           ·exact hat.pre.wf.2.2 f hf
          ·rw [List.length_append]
           refine (Rep.keep fun i ob hi ho=>?_).1 _ _ H8.out.2.1
           have hx:Fx F w 2 i:=by
            rcases hi with h | h
            ·exact h
            ·exact .inr (by omega)
           exact ⟨hx,by rw [hb9.block i (lt_of_heap ho) (Fx.low' hat.pre.hF hx (by omega)).2];exact ho⟩
          ·rw [List.length_cons]
           refine (H7.out.1.keep (w':=W9) fun g o hg ho=>?_).rep (fun g hg=>.inr (by have:=H7.out.2.2 g hg;omega)) ?_
           ·have h1:=H7.out.2.2 g hg
            have h2:=lt_of_heap ho
            rw [hb9.block g (by omega) (by omega),H8.out.1.block g h2];exact ho
           ·rw [encFs]
            refine Reps.append ((Rep.keep kp).2 _ _ HM.out.2.2.2.2.2.2.1) ?_
            rw [encF]
            exact Reps.append ((Rep.keep kp).2 _ _ HR2.out.1) (Reps_cons.2 ⟨_,_,rfl,(Rep.keep kp).1 _ _ HR2.out.2.1,Reps_cons.2 ⟨_,_,rfl,Rep_val.2 rfl,Reps_nil.2 rfl⟩⟩)
         have hRn:R=evN d (k+1) l b' (e'++owns env t'.args ss) n (List.map WFr.gf (⟨v,ss,y,no,env⟩::st)):=by
          rw [HAT.out.2.1,evN_bd HM.out.1];rfl
         have HN:=Lib.hid (And.intro hnext (And.intro hRn hnext.pre.wri))
         clear hnext hRn hWu hW9 p1 p2 p3 p4 d0 d1 d2 d3 f0 f1 f2 f3
         go_wp2_with fail
         go_roundw
         case rel=>exact ⟨d,l,b',_,_,_,_,_,_,_,_,_,_,by have:=HAT.out.1;omega,HN.out.2.1,HN.out.1⟩
         case measure =>
          rw [HAT.out.2.2.1]
          refine Nat.lt_of_le_of_lt (Nat.le_of_eq (leftW_eq HN.out.2.2)) ?_
          omega
        ·(intro o6 ho K' hK;simp at ho;subst ho)
         go_simp
         refine hK.out _ _ (fun _=>?_) ?_
         ·exact ((hSd.alloc (Nat.le_refl _) (.cells #[] 124)).alloc (by rw [size_alloc];exact Nat.le_succ _) (.cells #[str [],.int .i64 (v:Nat),.slice a1 ss.length c1,.slice a2 2 c2,.slice (some ⟨eb,eo,none⟩) env.length ecap,.int .i64 0] 124))
         clear hK K'
         (try simp only [pQ,pN,pZ,pS])
         (refine on 2 ?_;intro o ho K' hK;simp at ho;subst ho)
         refine step_append_gen (by rfl) _ _ _ (by rfl) 124 (.agg #[str [],.int .i64 0,.slice none 0 0,.slice none 0 0,.slice none 0 0,.int .i64 0]) 6 104 Tryz.underlying91 Tryz.infoFW rfl (by decide) (.slice (some ⟨W3.heap.size,0,none⟩) 0 0) 0 [] (by rfl) ((Own.litAt #[] 0 _ rfl (by decide) rfl).alloc _) _ st.length xs (by rfl) (SRC.out _ ((hSd.alloc (Nat.le_refl _) (.cells #[] 124)).alloc (by rw [size_alloc];exact Nat.le_succ _) (.cells #[str [],.int .i64 (v:Nat),.slice a1 ss.length c1,.slice a2 2 c2,.slice (some ⟨eb,eo,none⟩) env.length ecap,.int .i64 0] 124))) (by unfold maxLen;omega) (by omega) ?_
         intro a5 c5 w5 ho5 hb5 hg5
         simp only [Nat.zero_add,List.nil_append] at ho5 hg5 ⊢
         have hB5:Below W3.heap.size W3 w5:=((hSd.alloc (Nat.le_refl _) (.cells #[] 124)).alloc (by rw [size_alloc];exact Nat.le_succ _) (.cells #[str [],.int .i64 (v:Nat),.slice a1 ss.length c1,.slice a2 2 c2,.slice (some ⟨eb,eo,none⟩) env.length ecap,.int .i64 0] 124)).trans (hb5.toBelow (((hSd.alloc (Nat.le_refl _) (.cells #[] 124)).alloc (by rw [size_alloc];exact Nat.le_succ _) (.cells #[str [],.int .i64 (v:Nat),.slice a1 ss.length c1,.slice a2 2 c2,.slice (some ⟨eb,eo,none⟩) env.length ecap,.int .i64 0] 124))).size fun i hi e=>by simp [Value.ownBlock] at e;omega)
         have HG5:Hid (∀ g,(Value.slice a5 st.length c5).ownBlock=some g→W3.heap.size≤g):=fun g hg=>by rcases hg5 g hg with h | h;simp [Value.ownBlock] at h;omega;have h:g=W3.heap.size+1+1:=h.trans (size_alloc2 W3 _ _);omega
         have hS5:SrcSl 6 (.slice (some ⟨W3.heap.size+1,0,none⟩) 1 1) 1 #[str [],.int .i64 (v:Nat),.slice a1 ss.length c1,.slice a2 2 c2,.slice (some ⟨eb,eo,none⟩) env.length ecap,.int .i64 0].toList w5:=(SrcSl.lit1 #[str [],.int .i64 (v:Nat),.slice a1 ss.length c1,.slice a2 2 c2,.slice (some ⟨eb,eo,none⟩) env.length ecap,.int .i64 0] rfl (by simp [str,Value.oneCell']) _ (by simp):SrcSl 6 (.slice (some ⟨W3.heap.size+1,0,none⟩) 1 1) 1 #[str [],.int .i64 (v:Nat),.slice a1 ss.length c1,.slice a2 2 c2,.slice (some ⟨eb,eo,none⟩) env.length ecap,.int .i64 0].toList ((W3.drew.alloc (.cells #[] 124)).alloc (.cells #[str [],.int .i64 (v:Nat),.slice a1 ss.length c1,.slice a2 2 c2,.slice (some ⟨eb,eo,none⟩) env.length ecap,.int .i64 0] 124))).thru hb5 (fun e=>by simp [Value.ownBlock] at e)
         (refine hK.out _ _ (fun _=>hB5) ?_;clear hK K';try simp only [pQ,pN,pZ,pS])
         (refine on 7 ?_;intro o ho K' hK;simp at ho;subst ho)
         refine step_append_gen (by rfl) _ _ _ (by rfl) 124 (.agg #[str [],.int .i64 0,.slice none 0 0,.slice none 0 0,.slice none 0 0,.int .i64 0]) 6 104 Tryz.underlying91 Tryz.infoFW rfl (by decide) (.slice a5 st.length c5) st.length xs (by rfl) (ho5) _ 1 [str [],.int .i64 (v:Nat),.slice a1 ss.length c1,.slice a2 2 c2,.slice (some ⟨eb,eo,none⟩) env.length ecap,.int .i64 0] (by rfl) (hS5) (by unfold maxLen;omega) (by omega) ?_
         intro a7 c7 w7 ho7 hb7 hg7
         have hB7:Below W3.heap.size W3 w7:=hB5.trans (hb7.toBelow (hB5).size fun i hi e=>by have:=HG5.out i e;omega)
         have hg7':∀ g,(Value.slice a7 (st.length+1) c7).ownBlock=some g→W3.heap.size≤g:=fun g hg=>by rcases hg7 g hg with h | h;exact HG5.out g h;exact Nat.le_trans (hB5).size (Nat.le_of_eq h.symm)
         (refine hK.out _ _ (fun _=>hB7) ?_;clear hK K';try simp only [pQ,pN,pZ,pS])
         (refine on 8 ?_;intro o ho K' hK;simp at ho;subst ho;go_simp)
         (refine hK.out _ _ (fun _=>hB7) ?_;clear hK K';try simp only [pQ,pN,pZ,pS])
         refine wpAnyS_done (by kernel_rfl) (NoPanic.normal ?_) _
         clear hb5 hg5 ho5 hb7 hg7 hB5
         have H7:=Lib.hid (And.intro ho7 (And.intro hB7 hg7'));clear ho7 hB7 hg7' hSd
         have hz3:=H3.out.2.2.1
         have hz7:=H7.out.2.1.size
         have hzw:=HAT.out.2.2.2.2.zw
         have hz2:=H2.out.2.2.1.size
         have hbd7:=(H7.out.2.1.block W2.heap.size (by omega)).trans H3.out.2.2.2.2
         have hbx7:=(H7.out.2.1.block w.heap.size (by omega)).trans H3.out.2.2.2.1
         have g5:w7.cell? ⟨W2.heap.size,5,none⟩=some (.slice ta t'.args.length tc):=by simp [World.cell?,hbd7]
         have g6:w7.cell? ⟨W2.heap.size,6,none⟩=some (.slice ha e'.length hcap):=by simp [World.cell?,hbd7]
         have x2:w7.cell? ⟨w.heap.size,2,none⟩=some (.slice a1 ss.length c1):=by simp [World.cell?,hbx7]
         have k7:∀ (i:Nat) (ob:Obj),Fx F w 2 i→W2.heap[i]? = some ob→Fx F w 2 i∧w7.heap[i]? = some ob:=fun i ob hi hh=>by
          have hl:=lt_of_heap hh
          exact ⟨hi,by rw [H7.out.2.1.block i (by omega),H3.out.2.1.block i hl];exact hh⟩
         have CH0:=(l4Hand_any (Fx F w 2) e' env ss t' (.slice ha e'.length hcap) (.slice a1 ss.length c1) (.slice ta t'.args.length tc) (.slice (some ⟨eb,eo,none⟩) env.length ecap) w7 ((Rep.keep k7).1 _ _ HM.out.2.2.2.1) ((Rep.keep k7).1 _ _ HK.out.1) ((Rep.keep k7).1 _ _ HM.out.2.1) ((Rep.keep k7).1 _ _ HR2.out.2.1) (by omega) HM.out.2.2.2.2.1 (by omega))
         rw [show ((0:Nat):Int)=0 from rfl] at CH0
         have CH:=Lib.hid CH0;clear CH0
         have HX7:=Lib.hid (And.intro hbd7 (And.intro hbx7 k7));clear hbd7 hbx7 k7 hz3 hz2
         go_wp2_with fail
         (with_reducible refine CH.out.mono ?_)
         rintro en w8 ⟨a8,c8,rfl,hb8,hr8⟩
         have hz3:=H3.out.2.2.1
         have hz8:=hb8.size
         have hbd8:=(hb8.block W2.heap.size (by omega)).trans HX7.out.1
         have hbx8:=(hb8.block w.heap.size (by omega)).trans HX7.out.2.1
         have p1:w8.cell? ⟨W2.heap.size,1,none⟩=some (str bs):=by simp [World.cell?,hbd8]
         have p2:w8.cell? ⟨W2.heap.size,2,none⟩=some (.int .i64 bv):=by simp [World.cell?,hbd8]
         have p3:w8.cell? ⟨W2.heap.size,3,none⟩=some (.slice ba1 bm1 bc1):=by simp [World.cell?,hbd8]
         have p4:w8.cell? ⟨W2.heap.size,4,none⟩=some (.slice ba2 bm2 bc2):=by simp [World.cell?,hbd8]
         have d0:w8.cell? ⟨w.heap.size,0,none⟩=some (str []):=by simp [World.cell?,hbx8]
         have d1:w8.cell? ⟨w.heap.size,1,none⟩=some (.int .i64 (v:Nat)):=by simp [World.cell?,hbx8]
         have d2:w8.cell? ⟨w.heap.size,2,none⟩=some (.slice a1 ss.length c1):=by simp [World.cell?,hbx8]
         have d3:w8.cell? ⟨w.heap.size,3,none⟩=some (.slice a2 2 c2):=by simp [World.cell?,hbx8]
         have f0:w8.frozen? ⟨w.heap.size,0,none⟩=false:=by simp [World.frozen?,hbx8]
         have f1:w8.frozen? ⟨w.heap.size,1,none⟩=false:=by simp [World.frozen?,hbx8]
         have f2:w8.frozen? ⟨w.heap.size,2,none⟩=false:=by simp [World.frozen?,hbx8]
         have f3:w8.frozen? ⟨w.heap.size,3,none⟩=false:=by simp [World.frozen?,hbx8]
         have H8:=Lib.hid (And.intro hb8 (And.intro hr8 hbx8));clear hb8 hr8 hbd8 hbx8 g5 g6 x2 hz3
         go_upto_region 22 with (fail)
         obtain ⟨W9,hW9⟩:∃ W9,boxSet w.heap.size (str bs) (.int .i64 bv) (.slice ba1 bm1 bc1) (.slice ba2 bm2 bc2) w8=W9:=⟨_,rfl⟩
         have hWu:=hW9
         unfold boxSet at hWu
         rw [hWu]
         have hnext:WAt F ww d (k+1) l n H b' (e'++owns env t'.args ss) (⟨v,ss,y,no,env⟩::st) bs bv ba1 ba2 bm1 bc1 bm2 bc2 (.slice a8 (e'.length+(owns env t'.args ss).length) c8) (.slice a7 (st.length+1) c7) w W9:=by
          have hat:=HAT.out.2.2.2.2
          have hz2:=H2.out.2.2.1.size
          have hz3:=H3.out.2.2.1
          have hb9:But (fun i=>i=w.heap.size) w8 W9:=by rw [← hW9];exact boxSet_but (But.refl _ _) rfl
          have hb29:But (fun i=>i=ww∨i=w.heap.size) W2 W9:=(((But.ofBelow (m:=fun i=>i=ww∨i=w.heap.size) H3.out.2.1).trans (But.ofBelow (H7.out.2.1))).trans (But.ofBelow H8.out.1)).trans (hb9.weak fun i _ h=>.inr h)
          have hz9:=hb29.size
          have hol:(owns env t'.args ss).length=t'.args.length:=owns_len _ _ HM.out.2.2.2.2.1
          have hokb:=HM.out.2.2.2.2.2.2.2.2.1
          have hwfb:=HM.out.2.2.2.2.2.2.2.2.2
          have hld:=hat.pre.ld;have hdd:=hat.pre.d20;have hstl2:=hat.pre.stl
          have kp:∀ (i:Nat) (ob:Obj),Fx F w 2 i→W2.heap[i]? = some ob→Fx F w 2 i∧W9.heap[i]? = some ob:=fun i ob hi ho=>by
           have hx:=Fx.low' hat.pre.hF hi (by omega)
           exact ⟨hi,by rw [hb29.block i (lt_of_heap ho) (fun e=>e.elim hx.1 hx.2)];exact ho⟩
          refine hat.move ((H2.out.2.2.1.weak fun i _ h=>.inl h).trans hb29) ?_ (by rw [← hW9];exact boxSet_at H8.out.2.2) HM.out.2.2.2.2.2.1 (by rw [List.length_append,hol];have:=hokb.2.1;have:=HM.out.2.2.2.2.1;omega) (by rw [List.length_cons];omega)
           (okMs_append _ _ (okMs_mono (by omega) _ hokb.2.2) (okMs_owns (okMs_mono (by omega) _ hat.pre.ok) (by omega) _ _ (args_atoms hokb.1).1)) ⟨by show env.length≤_;omega,okMs_mono (by omega) _ hat.pre.ok,okGs_mono (by omega) _ hat.pre.okg⟩
           ⟨hwfb.1,wfMs_append _ _ hwfb.2 (wfMs_owns hat.pre.wf.2.1 _ _ hat.pre.wf.1.1),fun f hf=>?_⟩ ((Rep.keep kp).2 _ _ HM.out.2.2.1) ?_ ?_
          ·have h:=H2.out.2.1
           unfold Wri at *
           rw [hb9.block ww (by omega) (by show ww≠w.heap.size;omega),H8.out.1.block ww (by omega),H7.out.2.1.block ww (by omega),H3.out.2.1.block ww (by omega),h,HSL.out]
          ·rw [List.map_cons] at hf
           rcases List.mem_cons.1 hf with rfl | hf
           ·exact ⟨hat.pre.wf.1.2.1,hat.pre.wf.1.2.2,hat.pre.wf.2.1⟩
           ·exact hat.pre.wf.2.2 f hf
          ·rw [List.length_append]
           refine (Rep.keep fun i ob hi ho=>?_).1 _ _ H8.out.2.1
           have hx:Fx F w 2 i:=by
            rcases hi with h | h
            ·exact h
            ·exact .inr (by omega)
           exact ⟨hx,by rw [hb9.block i (lt_of_heap ho) (Fx.low' hat.pre.hF hx (by omega)).2];exact ho⟩
          ·rw [List.length_cons]
           refine (H7.out.1.keep (w':=W9) fun g o hg ho=>?_).rep (fun g hg=>.inr (by have:=H7.out.2.2 g hg;omega)) ?_
           ·have h1:=H7.out.2.2 g hg
            have h2:=lt_of_heap ho
            rw [hb9.block g (by omega) (by omega),H8.out.1.block g h2];exact ho
           ·rw [encFs]
            refine Reps.append ((Rep.keep kp).2 _ _ HM.out.2.2.2.2.2.2.1) ?_
            rw [encF]
            exact Reps.append ((Rep.keep kp).2 _ _ HR2.out.1) (Reps_cons.2 ⟨_,_,rfl,(Rep.keep kp).1 _ _ HR2.out.2.1,Reps_cons.2 ⟨_,_,rfl,Rep_val.2 rfl,Reps_nil.2 rfl⟩⟩)
         have hRn:R=evN d (k+1) l b' (e'++owns env t'.args ss) n (List.map WFr.gf (⟨v,ss,y,no,env⟩::st)):=by
          rw [HAT.out.2.1,evN_bd HM.out.1];rfl
         have HN:=Lib.hid (And.intro hnext (And.intro hRn hnext.pre.wri))
         clear hnext hRn hWu hW9 p1 p2 p3 p4 d0 d1 d2 d3 f0 f1 f2 f3
         go_wp2_with fail
         go_roundw
         case rel=>exact ⟨d,l,b',_,_,_,_,_,_,_,_,_,_,by have:=HAT.out.1;omega,HN.out.2.1,HN.out.1⟩
         case measure =>
          rw [HAT.out.2.2.1]
          refine Nat.lt_of_le_of_lt (Nat.le_of_eq (leftW_eq HN.out.2.2)) ?_
          omega
       ·(intro o6 ho K' hK;simp at ho;subst ho)
        go_simp
        (refine hK.out _ _ (fun _=>(hSd.alloc (Nat.le_refl _) (.cells #[str [],.int .i64 (v:Nat),.slice a1 ss.length c1,.slice a2 2 c2,.slice (some ⟨eb,eo,none⟩) env.length ecap,.int .i64 0] 124))) ?_;clear hK K';try simp only [pQ,pN,pZ,pS])
        (refine on 0 ?_;intro o ho K' hK;simp at ho;subst ho;go_simp)
        refine hK.out _ _ (fun _=>?_) ?_
        ·exact ((hSd.alloc (Nat.le_refl _) (.cells #[str [],.int .i64 (v:Nat),.slice a1 ss.length c1,.slice a2 2 c2,.slice (some ⟨eb,eo,none⟩) env.length ecap,.int .i64 0] 124)).alloc (by rw [size_alloc];exact Nat.le_succ _) (.cells #[] 124))
        clear hK K'
        (try simp only [pQ,pN,pZ,pS])
        (refine on 2 ?_;intro o ho K' hK;simp at ho;subst ho)
        refine step_append_gen (by rfl) _ _ _ (by rfl) 124 (.agg #[str [],.int .i64 0,.slice none 0 0,.slice none 0 0,.slice none 0 0,.int .i64 0]) 6 104 Tryz.underlying91 Tryz.infoFW rfl (by decide) (.slice (some ⟨W3.heap.size+1,0,none⟩) 0 0) 0 [] (by rfl) (Own.litAt #[] 0 _ (by simp) (by decide) rfl) _ st.length xs (by rfl) (SRC.out _ ((hSd.alloc (Nat.le_refl _) (.cells #[str [],.int .i64 (v:Nat),.slice a1 ss.length c1,.slice a2 2 c2,.slice (some ⟨eb,eo,none⟩) env.length ecap,.int .i64 0] 124)).alloc (by rw [size_alloc];exact Nat.le_succ _) (.cells #[] 124))) (by unfold maxLen;omega) (by omega) ?_
        intro a5 c5 w5 ho5 hb5 hg5
        simp only [Nat.zero_add,List.nil_append] at ho5 hg5 ⊢
        have hB5:Below W3.heap.size W3 w5:=((hSd.alloc (Nat.le_refl _) (.cells #[str [],.int .i64 (v:Nat),.slice a1 ss.length c1,.slice a2 2 c2,.slice (some ⟨eb,eo,none⟩) env.length ecap,.int .i64 0] 124)).alloc (by rw [size_alloc];exact Nat.le_succ _) (.cells #[] 124)).trans (hb5.toBelow (((hSd.alloc (Nat.le_refl _) (.cells #[str [],.int .i64 (v:Nat),.slice a1 ss.length c1,.slice a2 2 c2,.slice (some ⟨eb,eo,none⟩) env.length ecap,.int .i64 0] 124)).alloc (by rw [size_alloc];exact Nat.le_succ _) (.cells #[] 124))).size fun i hi e=>by simp [Value.ownBlock] at e;omega)
        have HG5:Hid (∀ g,(Value.slice a5 st.length c5).ownBlock=some g→W3.heap.size≤g):=fun g hg=>by rcases hg5 g hg with h | h;simp [Value.ownBlock] at h;omega;have h:g=W3.heap.size+1+1:=h.trans (size_alloc2 W3 _ _);omega
        have hS5:SrcSl 6 (.slice (some ⟨W3.heap.size,0,none⟩) 1 1) 1 #[str [],.int .i64 (v:Nat),.slice a1 ss.length c1,.slice a2 2 c2,.slice (some ⟨eb,eo,none⟩) env.length ecap,.int .i64 0].toList w5:=((SrcSl.lit1 #[str [],.int .i64 (v:Nat),.slice a1 ss.length c1,.slice a2 2 c2,.slice (some ⟨eb,eo,none⟩) env.length ecap,.int .i64 0] rfl (by simp [str,Value.oneCell']) _ (by simp):SrcSl 6 (.slice (some ⟨W3.heap.size,0,none⟩) 1 1) 1 #[str [],.int .i64 (v:Nat),.slice a1 ss.length c1,.slice a2 2 c2,.slice (some ⟨eb,eo,none⟩) env.length ecap,.int .i64 0].toList (W3.drew.alloc (.cells #[str [],.int .i64 (v:Nat),.slice a1 ss.length c1,.slice a2 2 c2,.slice (some ⟨eb,eo,none⟩) env.length ecap,.int .i64 0] 124))).alloc (.cells #[] 124)).thru hb5 (fun e=>by simp [Value.ownBlock] at e)
        (refine hK.out _ _ (fun _=>hB5) ?_;clear hK K';try simp only [pQ,pN,pZ,pS])
        (refine on 7 ?_;intro o ho K' hK;simp at ho;subst ho)
        refine step_append_gen (by rfl) _ _ _ (by rfl) 124 (.agg #[str [],.int .i64 0,.slice none 0 0,.slice none 0 0,.slice none 0 0,.int .i64 0]) 6 104 Tryz.underlying91 Tryz.infoFW rfl (by decide) (.slice a5 st.length c5) st.length xs (by rfl) (ho5) _ 1 [str [],.int .i64 (v:Nat),.slice a1 ss.length c1,.slice a2 2 c2,.slice (some ⟨eb,eo,none⟩) env.length ecap,.int .i64 0] (by rfl) (hS5) (by unfold maxLen;omega) (by omega) ?_
        intro a7 c7 w7 ho7 hb7 hg7
        have hB7:Below W3.heap.size W3 w7:=hB5.trans (hb7.toBelow (hB5).size fun i hi e=>by have:=HG5.out i e;omega)
        have hg7':∀ g,(Value.slice a7 (st.length+1) c7).ownBlock=some g→W3.heap.size≤g:=fun g hg=>by rcases hg7 g hg with h | h;exact HG5.out g h;exact Nat.le_trans (hB5).size (Nat.le_of_eq h.symm)
        (refine hK.out _ _ (fun _=>hB7) ?_;clear hK K';try simp only [pQ,pN,pZ,pS])
        (refine on 8 ?_;intro o ho K' hK;simp at ho;subst ho;go_simp)
        (refine hK.out _ _ (fun _=>hB7) ?_;clear hK K';try simp only [pQ,pN,pZ,pS])
        refine wpAnyS_done (by kernel_rfl) (NoPanic.normal ?_) _
        clear hb5 hg5 ho5 hb7 hg7 hB5
        have H7:=Lib.hid (And.intro ho7 (And.intro hB7 hg7'));clear ho7 hB7 hg7' hSd
        have hz3:=H3.out.2.2.1
        have hz7:=H7.out.2.1.size
        have hzw:=HAT.out.2.2.2.2.zw
        have hz2:=H2.out.2.2.1.size
        have hbd7:=(H7.out.2.1.block W2.heap.size (by omega)).trans H3.out.2.2.2.2
        have hbx7:=(H7.out.2.1.block w.heap.size (by omega)).trans H3.out.2.2.2.1
        have g5:w7.cell? ⟨W2.heap.size,5,none⟩=some (.slice ta t'.args.length tc):=by simp [World.cell?,hbd7]
        have g6:w7.cell? ⟨W2.heap.size,6,none⟩=some (.slice ha e'.length hcap):=by simp [World.cell?,hbd7]
        have x2:w7.cell? ⟨w.heap.size,2,none⟩=some (.slice a1 ss.length c1):=by simp [World.cell?,hbx7]
        have k7:∀ (i:Nat) (ob:Obj),Fx F w 2 i→W2.heap[i]? = some ob→Fx F w 2 i∧w7.heap[i]? = some ob:=fun i ob hi hh=>by
         have hl:=lt_of_heap hh
         exact ⟨hi,by rw [H7.out.2.1.block i (by omega),H3.out.2.1.block i hl];exact hh⟩
        have CH0:=(l4Hand_any (Fx F w 2) e' env ss t' (.slice ha e'.length hcap) (.slice a1 ss.length c1) (.slice ta t'.args.length tc) (.slice (some ⟨eb,eo,none⟩) env.length ecap) w7 ((Rep.keep k7).1 _ _ HM.out.2.2.2.1) ((Rep.keep k7).1 _ _ HK.out.1) ((Rep.keep k7).1 _ _ HM.out.2.1) ((Rep.keep k7).1 _ _ HR2.out.2.1) (by omega) HM.out.2.2.2.2.1 (by omega))
        rw [show ((0:Nat):Int)=0 from rfl] at CH0
        have CH:=Lib.hid CH0;clear CH0
        have HX7:=Lib.hid (And.intro hbd7 (And.intro hbx7 k7));clear hbd7 hbx7 k7 hz3 hz2
        go_wp2_with fail
        (with_reducible refine CH.out.mono ?_)
        rintro en w8 ⟨a8,c8,rfl,hb8,hr8⟩
        have hz3:=H3.out.2.2.1
        have hz8:=hb8.size
        have hbd8:=(hb8.block W2.heap.size (by omega)).trans HX7.out.1
        have hbx8:=(hb8.block w.heap.size (by omega)).trans HX7.out.2.1
        have p1:w8.cell? ⟨W2.heap.size,1,none⟩=some (str bs):=by simp [World.cell?,hbd8]
        have p2:w8.cell? ⟨W2.heap.size,2,none⟩=some (.int .i64 bv):=by simp [World.cell?,hbd8]
        have p3:w8.cell? ⟨W2.heap.size,3,none⟩=some (.slice ba1 bm1 bc1):=by simp [World.cell?,hbd8]
        have p4:w8.cell? ⟨W2.heap.size,4,none⟩=some (.slice ba2 bm2 bc2):=by simp [World.cell?,hbd8]
        have d0:w8.cell? ⟨w.heap.size,0,none⟩=some (str []):=by simp [World.cell?,hbx8]
        have d1:w8.cell? ⟨w.heap.size,1,none⟩=some (.int .i64 (v:Nat)):=by simp [World.cell?,hbx8]
        have d2:w8.cell? ⟨w.heap.size,2,none⟩=some (.slice a1 ss.length c1):=by simp [World.cell?,hbx8]
        have d3:w8.cell? ⟨w.heap.size,3,none⟩=some (.slice a2 2 c2):=by simp [World.cell?,hbx8]
        have f0:w8.frozen? ⟨w.heap.size,0,none⟩=false:=by simp [World.frozen?,hbx8]
        have f1:w8.frozen? ⟨w.heap.size,1,none⟩=false:=by simp [World.frozen?,hbx8]
        have f2:w8.frozen? ⟨w.heap.size,2,none⟩=false:=by simp [World.frozen?,hbx8]
        have f3:w8.frozen? ⟨w.heap.size,3,none⟩=false:=by simp [World.frozen?,hbx8]
        have H8:=Lib.hid (And.intro hb8 (And.intro hr8 hbx8));clear hb8 hr8 hbd8 hbx8 g5 g6 x2 hz3
        go_upto_region 22 with (fail)
        obtain ⟨W9,hW9⟩:∃ W9,boxSet w.heap.size (str bs) (.int .i64 bv) (.slice ba1 bm1 bc1) (.slice ba2 bm2 bc2) w8=W9:=⟨_,rfl⟩
        have hWu:=hW9
        unfold boxSet at hWu
        rw [hWu]
        have hnext:WAt F ww d (k+1) l n H b' (e'++owns env t'.args ss) (⟨v,ss,y,no,env⟩::st) bs bv ba1 ba2 bm1 bc1 bm2 bc2 (.slice a8 (e'.length+(owns env t'.args ss).length) c8) (.slice a7 (st.length+1) c7) w W9:=by
         have hat:=HAT.out.2.2.2.2
         have hz2:=H2.out.2.2.1.size
         have hz3:=H3.out.2.2.1
         have hb9:But (fun i=>i=w.heap.size) w8 W9:=by rw [← hW9];exact boxSet_but (But.refl _ _) rfl
         have hb29:But (fun i=>i=ww∨i=w.heap.size) W2 W9:=(((But.ofBelow (m:=fun i=>i=ww∨i=w.heap.size) H3.out.2.1).trans (But.ofBelow (H7.out.2.1))).trans (But.ofBelow H8.out.1)).trans (hb9.weak fun i _ h=>.inr h)
         have hz9:=hb29.size
         have hol:(owns env t'.args ss).length=t'.args.length:=owns_len _ _ HM.out.2.2.2.2.1
         have hokb:=HM.out.2.2.2.2.2.2.2.2.1
         have hwfb:=HM.out.2.2.2.2.2.2.2.2.2
         have hld:=hat.pre.ld;have hdd:=hat.pre.d20;have hstl2:=hat.pre.stl
         have kp:∀ (i:Nat) (ob:Obj),Fx F w 2 i→W2.heap[i]? = some ob→Fx F w 2 i∧W9.heap[i]? = some ob:=fun i ob hi ho=>by
          have hx:=Fx.low' hat.pre.hF hi (by omega)
          exact ⟨hi,by rw [hb29.block i (lt_of_heap ho) (fun e=>e.elim hx.1 hx.2)];exact ho⟩
         refine hat.move ((H2.out.2.2.1.weak fun i _ h=>.inl h).trans hb29) ?_ (by rw [← hW9];exact boxSet_at H8.out.2.2) HM.out.2.2.2.2.2.1 (by rw [List.length_append,hol];have:=hokb.2.1;have:=HM.out.2.2.2.2.1;omega) (by rw [List.length_cons];omega)
          (okMs_append _ _ (okMs_mono (by omega) _ hokb.2.2) (okMs_owns (okMs_mono (by omega) _ hat.pre.ok) (by omega) _ _ (args_atoms hokb.1).1)) ⟨by show env.length≤_;omega,okMs_mono (by omega) _ hat.pre.ok,okGs_mono (by omega) _ hat.pre.okg⟩
          ⟨hwfb.1,wfMs_append _ _ hwfb.2 (wfMs_owns hat.pre.wf.2.1 _ _ hat.pre.wf.1.1),fun f hf=>?_⟩ ((Rep.keep kp).2 _ _ HM.out.2.2.1) ?_ ?_
         ·have h:=H2.out.2.1
          unfold Wri at *
          rw [hb9.block ww (by omega) (by show ww≠w.heap.size;omega),H8.out.1.block ww (by omega),H7.out.2.1.block ww (by omega),H3.out.2.1.block ww (by omega),h,HSL.out]
         ·rw [List.map_cons] at hf
          rcases List.mem_cons.1 hf with rfl | hf
          ·exact ⟨hat.pre.wf.1.2.1,hat.pre.wf.1.2.2,hat.pre.wf.2.1⟩
          ·exact hat.pre.wf.2.2 f hf
         ·rw [List.length_append]
          refine (Rep.keep fun i ob hi ho=>?_).1 _ _ H8.out.2.1
          have hx:Fx F w 2 i:=by
           rcases hi with h | h
           ·exact h
           ·exact .inr (by omega)
          exact ⟨hx,by rw [hb9.block i (lt_of_heap ho) (Fx.low' hat.pre.hF hx (by omega)).2];exact ho⟩
         ·rw [List.length_cons]
          refine (H7.out.1.keep (w':=W9) fun g o hg ho=>?_).rep (fun g hg=>.inr (by have:=H7.out.2.2 g hg;omega)) ?_
          ·have h1:=H7.out.2.2 g hg
           have h2:=lt_of_heap ho
           rw [hb9.block g (by omega) (by omega),H8.out.1.block g h2];exact ho
          ·rw [encFs]
           refine Reps.append ((Rep.keep kp).2 _ _ HM.out.2.2.2.2.2.2.1) ?_
           rw [encF]
           exact Reps.append ((Rep.keep kp).2 _ _ HR2.out.1) (Reps_cons.2 ⟨_,_,rfl,(Rep.keep kp).1 _ _ HR2.out.2.1,Reps_cons.2 ⟨_,_,rfl,Rep_val.2 rfl,Reps_nil.2 rfl⟩⟩)
        have hRn:R=evN d (k+1) l b' (e'++owns env t'.args ss) n (List.map WFr.gf (⟨v,ss,y,no,env⟩::st)):=by
         rw [HAT.out.2.1,evN_bd HM.out.1];rfl
        have HN:=Lib.hid (And.intro hnext (And.intro hRn hnext.pre.wri))
        clear hnext hRn hWu hW9 p1 p2 p3 p4 d0 d1 d2 d3 f0 f1 f2 f3
        go_wp2_with fail
        go_roundw
        case rel=>exact ⟨d,l,b',_,_,_,_,_,_,_,_,_,_,by have:=HAT.out.1;omega,HN.out.2.1,HN.out.1⟩
        case measure =>
         rw [HAT.out.2.2.1]
         refine Nat.lt_of_le_of_lt (Nat.le_of_eq (leftW_eq HN.out.2.2)) ?_
         omega
end Go.Proofs.YtapjaflnmklmeaaGreatDoor
namespace Go.Proofs.YtapjaflnmklmeaaGreatDoor
open Go.RowKit
theorem write_any (d:Nat):WriteSaid d:=by
 induction d using Nat.strongRecOn with
 | _ d ih=>exact write_step d ih
def SAppPost (F:Nat→Prop) (o:Option Bd) (w:World) (en:Ending) (w':World):Prop :=
 ∃ s v a1 n1 c1 a2 n2 c2,en=.returned (.tuple #[.agg #[str s,.int .i64 v,.slice a1 n1 c1,.slice a2 n2 c2],.bool o.isSome])∧Below w.heap.size w w' ∧
   ∀ x,o=some x→Reps (fun i=>F i∨w.heap.size≤i) w' (encN x) [str s,.int .i64 v,.slice a1 n1 c1,.slice a2 n2 c2]
theorem SAppPost.drew {F:Nat→Prop} {o:Option Bd} {w w':World} {en:Ending} (h:SAppPost F o w en w'):SAppPost F o w en w'.drew:=by
 obtain ⟨s,v,a1,n1,c1,a2,n2,c2,e,hb,hr⟩:=h
 exact ⟨s,v,a1,n1,c1,a2,n2,c2,e,Below.drew hb,fun x hx=>(hr x hx).drew⟩
structure SAppPre (F:Nat→Prop) (t a:Ty) (rest bs:List Ty) (m n:Bd) (tv bv:Value) (ms ns:Bs) (mv nv:Int) (ma1 ma2 na1 na2:Option Addr) (mn1 mc1 mn2 mc2 nn1 nc1 nn2 nc2:Nat) (w:World):Prop where
 ts:t.args=a::rest
 t15:atomsT t≤15
 bl:bs.length≤100
 b15:∀ t∈bs,atomsT t≤15
 fit:EvFit (bs++rest) m (betweenEnv bs a n rest) []
 wm:wfB m
 wn:wfB n
 rt:Rep F w (encS t) tv
 rm:Reps F w (encN m) [str ms,.int .i64 mv,.slice ma1 mn1 mc1,.slice ma2 mn2 mc2]
 rn:Reps F w (encN n) [str ns,.int .i64 nv,.slice na1 nn1 nc1,.slice na2 nn2 nc2]
 rb:Rep F w (.sl 31 1 bs.length (encSs bs)) bv
 hF:∀ i,F i→i<w.heap.size
set_option maxRecDepth 100000 in
set_option maxHeartbeats 8000000 in
theorem l4Apply_any (F:Nat→Prop) (t a:Ty) (rest bs:List Ty) (m n:Bd) (tv bv:Value) (ms ns:Bs) (mv nv:Int) (ma1 ma2 na1 na2:Option Addr) (mn1 mc1 mn2 mc2 nn1 nc1 nn2 nc2:Nat) (w:World) (h:SAppPre F t a rest bs m n tv bv ms ns mv nv ma1 ma2 na1 na2 mn1 mc1 mn2 mc2 nn1 nc1 nn2 nc2 w) :
 Calls Tryz.prog 24 #[.agg #[tv],.agg #[str ms,.int .i64 mv,.slice ma1 mn1 mc1,.slice ma2 mn2 mc2],.agg #[str ns,.int .i64 nv,.slice na1 nn1 nc1,.slice na2 nn2 nc2],bv] w
  (SAppPost F (writes m (betweenEnv bs a n rest) (bs.length+rest.length)) w):=by
 have hrt:=h.rt
 rw [encS_eq] at hrt
 obtain ⟨ta,tc,e,htc,_,hta⟩:=Rep_sl1_open hrt
 subst e
 rw [h.ts] at hrt htc hta
 obtain ⟨kb,ko,u,d1,e,hkF,hkw,hd1,hk0,hru⟩:=hta 0 (by simp)
 subst e
 simp only [encSs,List.getElem?_cons_zero,Option.some.injEq] at hd1
 subst hd1
 obtain ⟨ua,uc,rfl⟩:=encS_slice hru
 obtain ⟨ba,bc,ebv,_⟩:=Rep_sl1_open h.rb
 subst ebv
 have hbl:=h.bl
 have hFw:=h.hF
 have hlen:t.args.length=rest.length+1:=by rw [h.ts];rfl
 rw [hlen]
 have h15:=args_atoms h.t15
 have hrl:rest.length≤15:=by have:=h15.2;omega
 have hk0':w.cell? ⟨kb,ko,none⟩=some (.slice ua a.args.length uc):=hk0
 obtain ⟨W,hW⟩:∃ W,((((w.alloc (.cells #[.slice (some ⟨kb,ko,none⟩) (rest.length+1) tc] 31)).alloc (.cells #[str ms,.int .i64 mv,.slice ma1 mn1 mc1,.slice ma2 mn2 mc2] 36)).alloc (.cells #[str ns,.int .i64 nv,.slice na1 nn1 nc1,.slice na2 nn2 nc2] 36)).alloc (.cells #[str [],.int .i64 0,.slice none 0 0,.slice none 0 0] 36)).alloc (.cells #[.int .i64 200,.int .i64 0] 85)=W:=⟨_,rfl⟩
 have hzW:W.heap.size=w.heap.size+5:=by rw [← hW];simp only [size_alloc]
 have hbW:Below w.heap.size w W:=by rw [← hW];exact (((((Below.refl _ _).alloc (Nat.le_refl _) _).alloc (by simp only [size_alloc];omega) _).alloc (by simp only [size_alloc];omega) _).alloc (by simp only [size_alloc];omega) _).alloc (by simp only [size_alloc];omega) _
 have bT:W.heap[w.heap.size]? = some (.cells #[.slice (some ⟨kb,ko,none⟩) (rest.length+1) tc] 31 (0,0)):=by rw [← hW];exact heap_past (heap_past (heap_past (heap_past (heap_new _ _))))
 have bM:W.heap[w.heap.size+1]? = some (.cells #[str ms,.int .i64 mv,.slice ma1 mn1 mc1,.slice ma2 mn2 mc2] 36 (0,0)):=by
  rw [← hW];refine heap_past (heap_past (heap_past ?_))
  have:=heap_new (w.alloc (.cells #[.slice (some ⟨kb,ko,none⟩) (rest.length+1) tc] 31)) (.cells #[str ms,.int .i64 mv,.slice ma1 mn1 mc1,.slice ma2 mn2 mc2] 36)
  rwa [size_alloc] at this
 have bN:W.heap[w.heap.size+2]? = some (.cells #[str ns,.int .i64 nv,.slice na1 nn1 nc1,.slice na2 nn2 nc2] 36 (0,0)):=by
  rw [← hW];refine heap_past (heap_past ?_)
  have:=heap_new ((w.alloc (.cells #[.slice (some ⟨kb,ko,none⟩) (rest.length+1) tc] 31)).alloc (.cells #[str ms,.int .i64 mv,.slice ma1 mn1 mc1,.slice ma2 mn2 mc2] 36)) (.cells #[str ns,.int .i64 nv,.slice na1 nn1 nc1,.slice na2 nn2 nc2] 36)
  simpa only [size_alloc] using this
 have bR:NewN (w.heap.size+3) 0 (.slice none 0 0) (.slice none 0 0) W:=by
  unfold NewN
  rw [← hW];refine heap_past ?_
  have:=heap_new (((w.alloc (.cells #[.slice (some ⟨kb,ko,none⟩) (rest.length+1) tc] 31)).alloc (.cells #[str ms,.int .i64 mv,.slice ma1 mn1 mc1,.slice ma2 mn2 mc2] 36)).alloc (.cells #[str ns,.int .i64 nv,.slice na1 nn1 nc1,.slice na2 nn2 nc2] 36)) (.cells #[str [],.int .i64 0,.slice none 0 0,.slice none 0 0] 36)
  simpa only [size_alloc] using this
 have bW:Wri W (w.heap.size+4) 200 0:=by
  unfold Wri
  rw [← hW]
  have:=heap_new ((((w.alloc (.cells #[.slice (some ⟨kb,ko,none⟩) (rest.length+1) tc] 31)).alloc (.cells #[str ms,.int .i64 mv,.slice ma1 mn1 mc1,.slice ma2 mn2 mc2] 36)).alloc (.cells #[str ns,.int .i64 nv,.slice na1 nn1 nc1,.slice na2 nn2 nc2] 36)).alloc (.cells #[str [],.int .i64 0,.slice none 0 0,.slice none 0 0] 36)) (.cells #[.int .i64 200,.int .i64 0] 85)
  simpa only [size_alloc] using this
 have C1:=l4Opens_any F 0 bs _ W (Rep.below hbW (fun _ h=>h) h.rb) (by omega) (by omega)
 rw [show ((0:Nat):Int)=0 from rfl] at C1
 have C1:=Lib.hid C1
 have HP:=Lib.hid h
 have HFw:=Lib.hid hFw;clear hFw
 have HT:=Lib.hid (And.intro hrt (And.intro hru (And.intro htc (And.intro h15 hlen))))
 have HW:=Lib.hid (And.intro hW (And.intro hzW (And.intro hbW (And.intro bT (And.intro bM (And.intro bN (And.intro bR bW)))))))
 clear h hrt hru htc h15 hlen hta hW hzW hbW bT bM bN bR bW hk0
 go_enter Tryz.func24,Tryz.ntmps24
 go_upto_region 2 with (fail)
 rw [HW.out.1]
 go_wp2_with fail
 (with_reducible refine C1.out.mono ?_)
 rintro en w1 ⟨oa,oc,oxs,rfl,ho1,hr1,hb1,hf1⟩
 have hzW:=HW.out.2.1
 have hz1:=hb1.size
 have b1:=fun {i:Nat} {o:Obj} (hi:i<W.heap.size) (h:W.heap[i]? = some o)=>(hb1.block i hi).trans h
 have bT1:=b1 (by omega) HW.out.2.2.2.1
 have bN1:=b1 (by omega) HW.out.2.2.2.2.2.1
 obtain ⟨n0,n1,n2,n3⟩:=cells4 bN1
 have t0:w1.cell? ⟨w.heap.size,0,none⟩=some (.slice (some ⟨kb,ko,none⟩) (rest.length+1) tc):=by simp [World.cell?,bT1]
 have k1:w1.cell? ⟨kb,ko,none⟩=some (.slice ua a.args.length uc):=(hb1.cell (by show kb<W.heap.size;omega)).trans ((HW.out.2.2.1.cell hkw).trans hk0')
 have SX:Hid (∀ w',Below w1.heap.size w1 w'→w'.cell? ⟨w.heap.size+2,0,none⟩=some (str ns)∧w'.cell? ⟨w.heap.size+2,1,none⟩=some (.int .i64 nv)∧w'.cell? ⟨w.heap.size+2,2,none⟩=some (.slice na1 nn1 nc1)∧w'.cell? ⟨w.heap.size+2,3,none⟩=some (.slice na2 nn2 nc2) ∧
  w'.cell? ⟨w.heap.size,0,none⟩=some (.slice (some ⟨kb,ko,none⟩) (rest.length+1) tc)∧w'.cell? ⟨kb,ko,none⟩=some (.slice ua a.args.length uc)):=by
  show ∀ w',_→_
  intro w' hb'
  exact ⟨(hb'.cell (World.block_lt_of_cell? _ _ n0)).trans n0,(hb'.cell (World.block_lt_of_cell? _ _ n1)).trans n1,(hb'.cell (World.block_lt_of_cell? _ _ n2)).trans n2,(hb'.cell (World.block_lt_of_cell? _ _ n3)).trans n3,(hb'.cell (World.block_lt_of_cell? _ _ t0)).trans t0,(hb'.cell (World.block_lt_of_cell? _ _ k1)).trans k1⟩
 have H1:=Lib.hid (And.intro ho1 (And.intro hr1 (And.intro hb1 hf1)))
 clear ho1 hr1 hb1 hf1 b1 bT1 bN1 n0 n1 n2 n3 t0 k1 hk0' C1
 go_wp2_with fail
 refine wp_region_noPanic ?_
 refine wp_region_S (fun w'=>Below w1.heap.size w1 w') (fun _=>false) (by kernel_rfl) ?_
 have hSd:Below w1.heap.size w1 w1.drew:=Below.drew (Below.refl _ _)
 refine tk [0,1,2,3,4,5,6] hSd ?_
 (intro d hd;simp [tkD] at hd;subst hd;simp only [tks,pQ,pZ,pS])
 iterate 7 (refine ⟨?_,?_,?_⟩;rotate_left;· (intro oi ho;simp at ho;subst ho;refine Or.inl ⟨by rfl,fun w' hw'=>?_⟩;obtain ⟨e0,e1,e2,e3,e4,e5⟩:=SX.out w' hw';go_simp;try with_reducible rfl))
 (refine on 7 ?_;intro o ho K' hK;simp at ho;subst ho;go_simp)
 (refine hK.out _ _ (fun _=>hSd.alloc (Nat.le_refl _) _) ?_;clear hK K';try simp only [pQ,pN,pZ,pS])
 (refine on 8 ?_;intro o ho K' hK;simp at ho;subst ho;go_simp)
 (refine hK.out _ _ (fun _=>hSd.alloc (Nat.le_refl _) _) ?_;clear hK K';try simp only [pQ,pN,pZ,pS])
 refine wpAnyS_done (by kernel_rfl) (NoPanic.normal ?_) _
 obtain ⟨W2,hW2⟩:∃ W2,(w1.alloc (.cells #[.int .i64 (-1),.string ⟨ns.toArray⟩,.int .i64 nv,.slice na1 nn1 nc1,.slice na2 nn2 nc2,.slice ua a.args.length uc,.slice oa bs.length oc,.int .i64 0,.int .i64 0] 89)).drew=W2:=⟨_,rfl⟩
 rw [hW2]
 have hb2:Below w1.heap.size w1 W2:=by rw [← hW2];exact Below.drew ((Below.refl _ _).alloc (Nat.le_refl _) _)
 have hz2:W2.heap.size=w1.heap.size+1:=by rw [← hW2];exact size_alloc _ _
 have hF2:W2.heap[w1.heap.size]? = some (.cells #[.int .i64 (-1),str ns,.int .i64 nv,.slice na1 nn1 nc1,.slice na2 nn2 nc2,.slice ua a.args.length uc,.slice oa bs.length oc,.int .i64 0,.int .i64 0] 89 (0,0)):=by rw [← hW2];exact heap_new _ _
 have SY:Hid (∀ w',Below W2.heap.size W2 w'→w'.cell? ⟨w1.heap.size,0,none⟩=some (.int .i64 (-1))∧w'.cell? ⟨w1.heap.size,1,none⟩=some (str ns)∧w'.cell? ⟨w1.heap.size,2,none⟩=some (.int .i64 nv)∧w'.cell? ⟨w1.heap.size,3,none⟩=some (.slice na1 nn1 nc1)∧w'.cell? ⟨w1.heap.size,4,none⟩=some (.slice na2 nn2 nc2) ∧
  w'.cell? ⟨w1.heap.size,5,none⟩=some (.slice ua a.args.length uc)∧w'.cell? ⟨w1.heap.size,6,none⟩=some (.slice oa bs.length oc)∧w'.cell? ⟨w1.heap.size,7,none⟩=some (.int .i64 0)∧w'.cell? ⟨w1.heap.size,8,none⟩=some (.int .i64 0)):=by
  show ∀ w',_→_
  intro w' hb'
  have h:=(hb'.block w1.heap.size (by omega)).trans hF2
  simp [World.cell?,h]
 have hsrc2:SrcSl 9 (.slice oa bs.length oc) bs.length oxs w1:=H1.out.1.src (oneCell_encWs _ _ H1.out.2.1)
 have SRC:Hid (∀ w',Below W2.heap.size W2 w'→SrcSl 9 (.slice oa bs.length oc) bs.length oxs w'):=by
  show ∀ w',_→_
  intro w' hb'
  exact (hsrc2.belowAll hb2 (Nat.le_refl _)).belowAll hb' (Nat.le_refl _)
 have H2:=Lib.hid (And.intro hb2 (And.intro hz2 hF2))
 clear hW2 hb2 hF2 hsrc2 hSd hz2 hzW hz1
 go_wp2_with fail
 refine cut_code (X:=Nat×Nat×Option Addr×Nat×Option Addr×Nat) (fun ac x=>(((((((ac.put (some 29) (.slice (some ⟨x.1,0,none⟩) 0 0)).put (some 30) (.slice oa bs.length oc)).put (some 31) (.slice x.2.2.1 (bs.length) x.2.2.2.1)).put (some 32) (.agg #[.int .i64 (-1),str ns,.int .i64 nv,.slice na1 nn1 nc1,.slice na2 nn2 nc2,.slice ua a.args.length uc,.slice oa bs.length oc,.int .i64 0,.int .i64 0])).put (some 33) (.slice (some ⟨x.2.1,0,none⟩) 1 1)).put (some 34) (.slice x.2.2.2.2.1 (bs.length+1) x.2.2.2.2.2)).put (some 14) (.slice x.2.2.2.2.1 (bs.length+1) x.2.2.2.2.2))) (fun x w7=>Own w7 89 9 (.slice x.2.2.2.2.1 (bs.length+1) x.2.2.2.2.2) (bs.length+1) (oxs++[.int .i64 (-1),str ns,.int .i64 nv,.slice na1 nn1 nc1,.slice na2 nn2 nc2,.slice ua a.args.length uc,.slice oa bs.length oc,.int .i64 0,.int .i64 0])∧Below W2.heap.size W2 w7∧∀ g,(Value.slice x.2.2.2.2.1 (bs.length+1) x.2.2.2.2.2).ownBlock=some g→W2.heap.size≤g) ?_ ?_
 ·refine wp_region_noPanic ?_
  refine wp_region_S (fun w'=>Below W2.heap.size W2 w') (fun _=>false) (by kernel_rfl) ?_
  have hSd:Below W2.heap.size W2 W2.drew:=Below.drew (Below.refl _ _)
  refine tk [1,3] hSd ?_
  (intro d hd;simp [tkD] at hd;subst hd;simp only [tks,pQ,pZ,pS])
  iterate 2 (refine ⟨?_,?_,?_⟩;rotate_left;· (intro oi ho;simp at ho;subst ho;refine Or.inl ⟨by rfl,fun w' hw'=>?_⟩;obtain ⟨e0,e1,e2,e3,e4,e5,e6,e7,e8⟩:=SY.out w' hw';go_simp;try with_reducible rfl))
  refine wpAnyS_two 0 4 (by kernel_rfl) ?_ ?_
  ·(intro o0 ho K' hK;simp at ho;subst ho)
   go_simp
   (refine hK.out _ _ (fun _=>(hSd.alloc (Nat.le_refl _) (.cells #[] 89))) ?_;clear hK K';try simp only [pQ,pN,pZ,pS])
   refine wpAnyS_two 2 4 (by kernel_rfl) ?_ ?_
   ·(intro o2 ho K' hK;simp at ho;subst ho)
    refine step_append_gen (by rfl) _ _ _ (by rfl) 89 (.agg #[.int .i64 0,str [],.int .i64 0,.slice none 0 0,.slice none 0 0,.slice none 0 0,.slice none 0 0,.int .i64 0,.int .i64 0]) 9 144 Tryz.underlying86 Tryz.infoBo rfl (by decide) (.slice (some ⟨W2.heap.size,0,none⟩) 0 0) 0 [] (by rfl) (Own.litAt #[] 0 _ rfl (by decide) rfl) _ bs.length oxs (by rfl) (SRC.out _ (hSd.alloc (Nat.le_refl _) (.cells #[] 89))) (by unfold maxLen;omega) (by omega) ?_
    intro a5 c5 w5 ho5 hb5 hg5
    simp only [Nat.zero_add,List.nil_append] at ho5 hg5 ⊢
    have hB5:Below W2.heap.size W2 w5:=(hSd.alloc (Nat.le_refl _) (.cells #[] 89)).trans (hb5.toBelow ((hSd.alloc (Nat.le_refl _) (.cells #[] 89))).size fun i hi e=>by simp [Value.ownBlock] at e;omega)
    have HG5:Hid (∀ g,(Value.slice a5 (bs.length) c5).ownBlock=some g→W2.heap.size≤g):=fun g hg=>by rcases hg5 g hg with h | h;simp [Value.ownBlock] at h;omega;have h:g=W2.heap.size+1:=h.trans (size_alloc _ _);omega
    (refine hK.out _ _ (fun _=>hB5) ?_;clear hK K';try simp only [pQ,pN,pZ,pS])
    (refine on 4 ?_;intro o ho K' hK;simp at ho;subst ho;go_simp)
    (refine hK.out _ _ (fun _=>hB5.alloc hB5.size _) ?_;clear hK K';try simp only [pQ,pN,pZ,pS])
    (refine on 5 ?_;intro o ho K' hK;simp at ho;subst ho)
    refine step_append_gen (by rfl) _ _ _ (by rfl) 89 (.agg #[.int .i64 0,str [],.int .i64 0,.slice none 0 0,.slice none 0 0,.slice none 0 0,.slice none 0 0,.int .i64 0,.int .i64 0]) 9 144 Tryz.underlying86 Tryz.infoBo rfl (by decide) (.slice a5 (bs.length) c5) (bs.length) oxs (by rfl) (ho5.alloc _) _ 1 [.int .i64 (-1),str ns,.int .i64 nv,.slice na1 nn1 nc1,.slice na2 nn2 nc2,.slice ua a.args.length uc,.slice oa bs.length oc,.int .i64 0,.int .i64 0] (by rfl) (SrcSl.lit1 #[.int .i64 (-1),str ns,.int .i64 nv,.slice na1 nn1 nc1,.slice na2 nn2 nc2,.slice ua a.args.length uc,.slice oa bs.length oc,.int .i64 0,.int .i64 0] rfl (by simp [str,Value.oneCell']) _ (by rfl)) (by unfold maxLen;omega) (by omega) ?_
    intro a7 c7 w7 ho7 hb7 hg7
    have hB7:Below W2.heap.size W2 w7:=(hB5.alloc hB5.size (.cells #[.int .i64 (-1),str ns,.int .i64 nv,.slice na1 nn1 nc1,.slice na2 nn2 nc2,.slice ua a.args.length uc,.slice oa bs.length oc,.int .i64 0,.int .i64 0] 89)).trans (hb7.toBelow ((hB5.alloc hB5.size (.cells #[.int .i64 (-1),str ns,.int .i64 nv,.slice na1 nn1 nc1,.slice na2 nn2 nc2,.slice ua a.args.length uc,.slice oa bs.length oc,.int .i64 0,.int .i64 0] 89))).size fun i hi e=>by have:=HG5.out i e;omega)
    have hg7':∀ g,(Value.slice a7 (bs.length+1) c7).ownBlock=some g→W2.heap.size≤g:=fun g hg=>by rcases hg7 g hg with h | h;exact HG5.out g h;exact Nat.le_trans ((hB5.alloc hB5.size (.cells #[.int .i64 (-1),str ns,.int .i64 nv,.slice na1 nn1 nc1,.slice na2 nn2 nc2,.slice ua a.args.length uc,.slice oa bs.length oc,.int .i64 0,.int .i64 0] 89))).size (Nat.le_of_eq h.symm)
    (refine hK.out _ _ (fun _=>hB7) ?_;clear hK K';try simp only [pQ,pN,pZ,pS])
    (refine on 6 ?_;intro o ho K' hK;simp at ho;subst ho;go_simp)
    (refine hK.out _ _ (fun _=>hB7) ?_;clear hK K';try simp only [pQ,pN,pZ,pS])
    refine wpAnyS_done (by kernel_rfl) (NoPanic.normal ?_) _
    clear hb5 hg5 ho5 hb7 hg7 hB5 hSd HG5
    exact ⟨rfl,⟨_,_,a5,c5,a7,c7⟩,by rfl,ho7,hB7,hg7'⟩
   ·(intro o4 ho K' hK;simp at ho;subst ho)
    go_simp
    refine hK.out _ _ (fun _=>?_) ?_
    ·exact ((hSd.alloc (Nat.le_refl _) (.cells #[] 89)).alloc (by rw [size_alloc];exact Nat.le_succ _) (.cells #[.int .i64 (-1),str ns,.int .i64 nv,.slice na1 nn1 nc1,.slice na2 nn2 nc2,.slice ua a.args.length uc,.slice oa bs.length oc,.int .i64 0,.int .i64 0] 89))
    clear hK K'
    (try simp only [pQ,pN,pZ,pS])
    (refine on 2 ?_;intro o ho K' hK;simp at ho;subst ho)
    refine step_append_gen (by rfl) _ _ _ (by rfl) 89 (.agg #[.int .i64 0,str [],.int .i64 0,.slice none 0 0,.slice none 0 0,.slice none 0 0,.slice none 0 0,.int .i64 0,.int .i64 0]) 9 144 Tryz.underlying86 Tryz.infoBo rfl (by decide) (.slice (some ⟨W2.heap.size,0,none⟩) 0 0) 0 [] (by rfl) ((Own.litAt #[] 0 _ rfl (by decide) rfl).alloc _) _ bs.length oxs (by rfl) (SRC.out _ ((hSd.alloc (Nat.le_refl _) (.cells #[] 89)).alloc (by rw [size_alloc];exact Nat.le_succ _) (.cells #[.int .i64 (-1),str ns,.int .i64 nv,.slice na1 nn1 nc1,.slice na2 nn2 nc2,.slice ua a.args.length uc,.slice oa bs.length oc,.int .i64 0,.int .i64 0] 89))) (by unfold maxLen;omega) (by omega) ?_
    intro a5 c5 w5 ho5 hb5 hg5
    simp only [Nat.zero_add,List.nil_append] at ho5 hg5 ⊢
    have hB5:Below W2.heap.size W2 w5:=((hSd.alloc (Nat.le_refl _) (.cells #[] 89)).alloc (by rw [size_alloc];exact Nat.le_succ _) (.cells #[.int .i64 (-1),str ns,.int .i64 nv,.slice na1 nn1 nc1,.slice na2 nn2 nc2,.slice ua a.args.length uc,.slice oa bs.length oc,.int .i64 0,.int .i64 0] 89)).trans (hb5.toBelow (((hSd.alloc (Nat.le_refl _) (.cells #[] 89)).alloc (by rw [size_alloc];exact Nat.le_succ _) (.cells #[.int .i64 (-1),str ns,.int .i64 nv,.slice na1 nn1 nc1,.slice na2 nn2 nc2,.slice ua a.args.length uc,.slice oa bs.length oc,.int .i64 0,.int .i64 0] 89))).size fun i hi e=>by simp [Value.ownBlock] at e;omega)
    have HG5:Hid (∀ g,(Value.slice a5 (bs.length) c5).ownBlock=some g→W2.heap.size≤g):=fun g hg=>by rcases hg5 g hg with h | h;simp [Value.ownBlock] at h;omega;have h:g=W2.heap.size+1+1:=h.trans (size_alloc2 W2 _ _);omega
    have hS5:SrcSl 9 (.slice (some ⟨W2.heap.size+1,0,none⟩) 1 1) 1 #[.int .i64 (-1),str ns,.int .i64 nv,.slice na1 nn1 nc1,.slice na2 nn2 nc2,.slice ua a.args.length uc,.slice oa bs.length oc,.int .i64 0,.int .i64 0].toList w5:=(SrcSl.lit1 #[.int .i64 (-1),str ns,.int .i64 nv,.slice na1 nn1 nc1,.slice na2 nn2 nc2,.slice ua a.args.length uc,.slice oa bs.length oc,.int .i64 0,.int .i64 0] rfl (by simp [str,Value.oneCell']) _ (by simp):SrcSl 9 (.slice (some ⟨W2.heap.size+1,0,none⟩) 1 1) 1 #[.int .i64 (-1),str ns,.int .i64 nv,.slice na1 nn1 nc1,.slice na2 nn2 nc2,.slice ua a.args.length uc,.slice oa bs.length oc,.int .i64 0,.int .i64 0].toList ((W2.drew.alloc (.cells #[] 89)).alloc (.cells #[.int .i64 (-1),str ns,.int .i64 nv,.slice na1 nn1 nc1,.slice na2 nn2 nc2,.slice ua a.args.length uc,.slice oa bs.length oc,.int .i64 0,.int .i64 0] 89))).thru hb5 (fun e=>by simp [Value.ownBlock] at e)
    (refine hK.out _ _ (fun _=>hB5) ?_;clear hK K';try simp only [pQ,pN,pZ,pS])
    (refine on 5 ?_;intro o ho K' hK;simp at ho;subst ho)
    refine step_append_gen (by rfl) _ _ _ (by rfl) 89 (.agg #[.int .i64 0,str [],.int .i64 0,.slice none 0 0,.slice none 0 0,.slice none 0 0,.slice none 0 0,.int .i64 0,.int .i64 0]) 9 144 Tryz.underlying86 Tryz.infoBo rfl (by decide) (.slice a5 (bs.length) c5) (bs.length) oxs (by rfl) (ho5) _ 1 [.int .i64 (-1),str ns,.int .i64 nv,.slice na1 nn1 nc1,.slice na2 nn2 nc2,.slice ua a.args.length uc,.slice oa bs.length oc,.int .i64 0,.int .i64 0] (by rfl) (hS5) (by unfold maxLen;omega) (by omega) ?_
    intro a7 c7 w7 ho7 hb7 hg7
    have hB7:Below W2.heap.size W2 w7:=hB5.trans (hb7.toBelow (hB5).size fun i hi e=>by have:=HG5.out i e;omega)
    have hg7':∀ g,(Value.slice a7 (bs.length+1) c7).ownBlock=some g→W2.heap.size≤g:=fun g hg=>by rcases hg7 g hg with h | h;exact HG5.out g h;exact Nat.le_trans (hB5).size (Nat.le_of_eq h.symm)
    (refine hK.out _ _ (fun _=>hB7) ?_;clear hK K';try simp only [pQ,pN,pZ,pS])
    (refine on 6 ?_;intro o ho K' hK;simp at ho;subst ho;go_simp)
    (refine hK.out _ _ (fun _=>hB7) ?_;clear hK K';try simp only [pQ,pN,pZ,pS])
    refine wpAnyS_done (by kernel_rfl) (NoPanic.normal ?_) _
    clear hb5 hg5 ho5 hb7 hg7 hB5 hSd HG5
    exact ⟨rfl,⟨_,_,a5,c5,a7,c7⟩,by rfl,ho7,hB7,hg7'⟩
  ·(intro o4 ho K' hK;simp at ho;subst ho)
   go_simp
   (refine hK.out _ _ (fun _=>(hSd.alloc (Nat.le_refl _) (.cells #[.int .i64 (-1),str ns,.int .i64 nv,.slice na1 nn1 nc1,.slice na2 nn2 nc2,.slice ua a.args.length uc,.slice oa bs.length oc,.int .i64 0,.int .i64 0] 89))) ?_;clear hK K';try simp only [pQ,pN,pZ,pS])
   (refine on 0 ?_;intro o ho K' hK;simp at ho;subst ho;go_simp)
   refine hK.out _ _ (fun _=>?_) ?_
   ·exact ((hSd.alloc (Nat.le_refl _) (.cells #[.int .i64 (-1),str ns,.int .i64 nv,.slice na1 nn1 nc1,.slice na2 nn2 nc2,.slice ua a.args.length uc,.slice oa bs.length oc,.int .i64 0,.int .i64 0] 89)).alloc (by rw [size_alloc];exact Nat.le_succ _) (.cells #[] 89))
   clear hK K'
   (try simp only [pQ,pN,pZ,pS])
   (refine on 2 ?_;intro o ho K' hK;simp at ho;subst ho)
   refine step_append_gen (by rfl) _ _ _ (by rfl) 89 (.agg #[.int .i64 0,str [],.int .i64 0,.slice none 0 0,.slice none 0 0,.slice none 0 0,.slice none 0 0,.int .i64 0,.int .i64 0]) 9 144 Tryz.underlying86 Tryz.infoBo rfl (by decide) (.slice (some ⟨W2.heap.size+1,0,none⟩) 0 0) 0 [] (by rfl) (Own.litAt #[] 0 _ (by simp) (by decide) rfl) _ bs.length oxs (by rfl) (SRC.out _ ((hSd.alloc (Nat.le_refl _) (.cells #[.int .i64 (-1),str ns,.int .i64 nv,.slice na1 nn1 nc1,.slice na2 nn2 nc2,.slice ua a.args.length uc,.slice oa bs.length oc,.int .i64 0,.int .i64 0] 89)).alloc (by rw [size_alloc];exact Nat.le_succ _) (.cells #[] 89))) (by unfold maxLen;omega) (by omega) ?_
   intro a5 c5 w5 ho5 hb5 hg5
   simp only [Nat.zero_add,List.nil_append] at ho5 hg5 ⊢
   have hB5:Below W2.heap.size W2 w5:=((hSd.alloc (Nat.le_refl _) (.cells #[.int .i64 (-1),str ns,.int .i64 nv,.slice na1 nn1 nc1,.slice na2 nn2 nc2,.slice ua a.args.length uc,.slice oa bs.length oc,.int .i64 0,.int .i64 0] 89)).alloc (by rw [size_alloc];exact Nat.le_succ _) (.cells #[] 89)).trans (hb5.toBelow (((hSd.alloc (Nat.le_refl _) (.cells #[.int .i64 (-1),str ns,.int .i64 nv,.slice na1 nn1 nc1,.slice na2 nn2 nc2,.slice ua a.args.length uc,.slice oa bs.length oc,.int .i64 0,.int .i64 0] 89)).alloc (by rw [size_alloc];exact Nat.le_succ _) (.cells #[] 89))).size fun i hi e=>by simp [Value.ownBlock] at e;omega)
   have HG5:Hid (∀ g,(Value.slice a5 (bs.length) c5).ownBlock=some g→W2.heap.size≤g):=fun g hg=>by rcases hg5 g hg with h | h;simp [Value.ownBlock] at h;omega;have h:g=W2.heap.size+1+1:=h.trans (size_alloc2 W2 _ _);omega
   have hS5:SrcSl 9 (.slice (some ⟨W2.heap.size,0,none⟩) 1 1) 1 #[.int .i64 (-1),str ns,.int .i64 nv,.slice na1 nn1 nc1,.slice na2 nn2 nc2,.slice ua a.args.length uc,.slice oa bs.length oc,.int .i64 0,.int .i64 0].toList w5:=((SrcSl.lit1 #[.int .i64 (-1),str ns,.int .i64 nv,.slice na1 nn1 nc1,.slice na2 nn2 nc2,.slice ua a.args.length uc,.slice oa bs.length oc,.int .i64 0,.int .i64 0] rfl (by simp [str,Value.oneCell']) _ (by simp):SrcSl 9 (.slice (some ⟨W2.heap.size,0,none⟩) 1 1) 1 #[.int .i64 (-1),str ns,.int .i64 nv,.slice na1 nn1 nc1,.slice na2 nn2 nc2,.slice ua a.args.length uc,.slice oa bs.length oc,.int .i64 0,.int .i64 0].toList (W2.drew.alloc (.cells #[.int .i64 (-1),str ns,.int .i64 nv,.slice na1 nn1 nc1,.slice na2 nn2 nc2,.slice ua a.args.length uc,.slice oa bs.length oc,.int .i64 0,.int .i64 0] 89))).alloc (.cells #[] 89)).thru hb5 (fun e=>by simp [Value.ownBlock] at e)
   (refine hK.out _ _ (fun _=>hB5) ?_;clear hK K';try simp only [pQ,pN,pZ,pS])
   (refine on 5 ?_;intro o ho K' hK;simp at ho;subst ho)
   refine step_append_gen (by rfl) _ _ _ (by rfl) 89 (.agg #[.int .i64 0,str [],.int .i64 0,.slice none 0 0,.slice none 0 0,.slice none 0 0,.slice none 0 0,.int .i64 0,.int .i64 0]) 9 144 Tryz.underlying86 Tryz.infoBo rfl (by decide) (.slice a5 (bs.length) c5) (bs.length) oxs (by rfl) (ho5) _ 1 [.int .i64 (-1),str ns,.int .i64 nv,.slice na1 nn1 nc1,.slice na2 nn2 nc2,.slice ua a.args.length uc,.slice oa bs.length oc,.int .i64 0,.int .i64 0] (by rfl) (hS5) (by unfold maxLen;omega) (by omega) ?_
   intro a7 c7 w7 ho7 hb7 hg7
   have hB7:Below W2.heap.size W2 w7:=hB5.trans (hb7.toBelow (hB5).size fun i hi e=>by have:=HG5.out i e;omega)
   have hg7':∀ g,(Value.slice a7 (bs.length+1) c7).ownBlock=some g→W2.heap.size≤g:=fun g hg=>by rcases hg7 g hg with h | h;exact HG5.out g h;exact Nat.le_trans (hB5).size (Nat.le_of_eq h.symm)
   (refine hK.out _ _ (fun _=>hB7) ?_;clear hK K';try simp only [pQ,pN,pZ,pS])
   (refine on 6 ?_;intro o ho K' hK;simp at ho;subst ho;go_simp)
   (refine hK.out _ _ (fun _=>hB7) ?_;clear hK K';try simp only [pQ,pN,pZ,pS])
   refine wpAnyS_done (by kernel_rfl) (NoPanic.normal ?_) _
   clear hb5 hg5 ho5 hb7 hg7 hB5 hSd HG5
   exact ⟨rfl,⟨_,_,a5,c5,a7,c7⟩,by rfl,ho7,hB7,hg7'⟩
 rintro ⟨gE,gL,a5,c5,a7,c7⟩ w7 ⟨ho7,hB7,hg7'⟩
 simp only [pQ,pN,pZ,pS]
 have H7:=Lib.hid (And.intro ho7 (And.intro hB7 hg7'));clear ho7 hB7 hg7'
 have hb27:Below w1.heap.size w1 w7:=H2.out.1.trans (H7.out.2.1.mono (by have:=H2.out.2.1;omega))
 have hbW7:Below W.heap.size W w7:=H1.out.2.2.1.trans (hb27.mono H1.out.2.2.1.size)
 have hbw7:Below w.heap.size w w7:=HW.out.2.2.1.trans (hbW7.mono HW.out.2.2.1.size)
 have t7:w7.cell? ⟨w.heap.size,0,none⟩=some (.slice (some ⟨kb,ko,none⟩) (rest.length+1) tc):=by
  have h:=(hbW7.block w.heap.size (by have:=HW.out.2.1;omega)).trans HW.out.2.2.2.1
  simp [World.cell?,h]
 have hT2:¬ tc=1→Rep F w7 (.sl 31 1 rest.length (encSs rest)) (.slice (some ⟨kb,ko+1,none⟩) rest.length (tc-1)):=fun _=>Rep.below hbw7 (fun _ h=>h) (Rep_sl1_tail (d:=encS a) HT.out.1)
 have hT1:tc=1→rest=[]∧Rep F w7 (.sl 31 1 rest.length (encSs rest)) (.slice (some ⟨kb,ko,none⟩) rest.length 0):=fun h=>by
  obtain rfl:rest=[]:=by
   have h1:=HT.out.2.2.1
   rw [h] at h1
   simp at h1;exact h1
  exact ⟨rfl,Rep_sl.2 ⟨by simp [encSs],_,_,rfl,Nat.zero_le _,fun h=>by simp at h,.inl rfl⟩⟩
 have H8:=Lib.hid (And.intro hb27 (And.intro hbW7 hbw7));clear hb27 hbW7 hbw7
 by_cases htc1:tc=1
 ·have hT7:=(hT1 htc1).2
  subst htc1
  have htc0:(rest.length:Int)=0:=by have:=HT.out.2.2.1;simp at this;simp [this]
  clear hT1 hT2
  have C6:=Lib.hid (l4Opens_any F bs.length rest _ w7 hT7 (by omega) (by omega));clear hT7
  go_wp2_with fail
  (with_reducible refine C6.out.mono ?_)
  rintro en w8 ⟨a8,c8,xs8,rfl,ho8,hr8,hb8,hf8⟩
  have ho78:=H7.out.1.keep (w':=w8) fun g o hg hh=>by rw [hb8.block g (lt_of_heap hh)];exact hh
  have hsrc8:=ho8.src (oneCell_encWs _ _ hr8)
  have HA:=Lib.hid (And.intro ho78 (And.intro hsrc8 (And.intro hr8 hb8)));clear ho78 hsrc8 ho8 hr8 hb8 hf8
  go_wp2_with (at_builtin;refine wpList_append_gen rfl _ _ 86 rfl 89 (.agg #[.int .i64 0,str [],.int .i64 0,.slice none 0 0,.slice none 0 0,.slice none 0 0,.slice none 0 0,.int .i64 0,.int .i64 0]) 9 144 Tryz.underlying86 Tryz.infoBo rfl (by decide) (.slice a7 (bs.length+1) c7) (bs.length+1) _ rfl HA.out.1 _ rest.length xs8 rfl HA.out.2.1 (by unfold maxLen;omega) (by omega) ?_)
  intro a9 c9 w9 ho9 hb9 hg9
  have hb79:Below W2.heap.size W2 w9:=(H7.out.2.1.trans (HA.out.2.2.2.mono H7.out.2.1.size)).trans (hb9.toBelow (by have:=H7.out.2.1.size;have:=HA.out.2.2.2.size;omega) fun i hi e=>by have:=H7.out.2.2 i e;omega)
  have hg9':∀ g,(Value.slice a9 (bs.length+1+rest.length) c9).ownBlock=some g→W2.heap.size≤g:=fun g hg=>by
   rcases hg9 g hg with h | h
   ·exact H7.out.2.2 g h
   ·have:=H7.out.2.1.size;have:=HA.out.2.2.2.size;omega
  have hbW9:Below W.heap.size W w9:=H1.out.2.2.1.trans ((H2.out.1.trans (hb79.mono (by have:=H2.out.2.1;omega))).mono H1.out.2.2.1.size)
  have hzW:=HW.out.2.1
  have hk9:∀ {i:Nat} {o:Obj},i<W.heap.size→W.heap[i]? = some o→w9.heap[i]? = some o:=fun hi h=>(hbW9.block _ hi).trans h
  have bT9:=hk9 (by omega) HW.out.2.2.2.1
  have bM9:=hk9 (by omega) HW.out.2.2.2.2.1
  have bR9:NewN (w.heap.size+3) 0 (.slice none 0 0) (.slice none 0 0) w9:=hk9 (by omega) HW.out.2.2.2.2.2.2.1
  have bW9:Wri w9 (w.heap.size+4) 200 0:=hk9 (by omega) HW.out.2.2.2.2.2.2.2
  obtain ⟨m0,m1,m2,m3⟩:=cells4 bM9
  have t9:w9.cell? ⟨w.heap.size,0,none⟩=some (.slice (some ⟨kb,ko,none⟩) (rest.length+1) 1):=by simp [World.cell?,bT9]
  have t9':(w9.alloc (.cells #[] 124)).cell? ⟨w.heap.size,0,none⟩=some (.slice (some ⟨kb,ko,none⟩) (rest.length+1) 1):=cell_alloc t9
  have hbw9:Below w.heap.size w (w9.alloc (.cells #[] 124)):=(HW.out.2.2.1.trans (hbW9.mono HW.out.2.2.1.size)).alloc (by have:=hbW9.size;omega) _
  have hr9:Reps (fun i=>(F i∧i<w.heap.size)∨w.heap.size+5≤i) w9 (encWs (betweenEnv bs a n rest)) (oxs++([.int .i64 (-1),str ns,.int .i64 nv,.slice na1 nn1 nc1,.slice na2 nn2 nc2,.slice ua a.args.length uc,.slice oa bs.length oc,.int .i64 0,.int .i64 0]++xs8)):=by
   have kw:∀ (i:Nat) (o:Obj),F i→w.heap[i]? = some o→((F i∧i<w.heap.size)∨w.heap.size+5≤i)∧w9.heap[i]? = some o:=fun i o hi ho=>⟨.inl ⟨hi,lt_of_heap ho⟩,by rw [hbW9.block i (by have:=lt_of_heap ho;omega),HW.out.2.2.1.block i (lt_of_heap ho)];exact ho⟩
   have h29:∀ (i:Nat),i<w1.heap.size→w9.heap[i]? = w1.heap[i]?:=fun i hi=>by rw [hb79.block i (by have:=H2.out.2.1;omega),H2.out.1.block i hi]
   have kf:∀ (i:Nat),F i→(F i∧i<w.heap.size)∨w.heap.size+5≤i:=fun i hi=>by
    rcases Nat.lt_or_ge i w.heap.size with h | h
    ·exact .inl ⟨hi,h⟩
    ·exact .inr (by have:=HFw.out i hi;omega)
   have hopens:Reps (fun i=>(F i∧i<w.heap.size)∨w.heap.size+5≤i) w9 (encWs (opens 0 bs)) oxs:=(Rep.keep fun i o hi ho=>⟨kf i hi,by rw [h29 i (lt_of_heap ho)];exact ho⟩).2 _ _ H1.out.2.1
   unfold betweenEnv
   rw [encWs_append,encWs,encW]
   refine Reps.append hopens ?_
   refine Reps.append (vs:=[.int .i64 (-1),str ns,.int .i64 nv,.slice na1 nn1 nc1,.slice na2 nn2 nc2,.slice ua a.args.length uc,.slice oa bs.length oc,.int .i64 0,.int .i64 0]) ?_ ?_
   ·refine Reps.append (vs:=[.int .i64 (-1)]) (Reps.one (Rep_val.2 rfl)) (Reps.append (ds:=encN n) (vs:=[str ns,.int .i64 nv,.slice na1 nn1 nc1,.slice na2 nn2 nc2]) ((Rep.keep kw).2 _ _ HP.out.rn) ?_)
    refine Reps_cons.2 ⟨_,_,rfl,(Rep.keep kw).1 _ _ HT.out.2.1,Reps_cons.2 ⟨_,_,rfl,?_,Reps_cons.2 ⟨_,_,rfl,Rep_val.2 rfl,Reps_cons.2 ⟨_,_,rfl,Rep_any.2 ⟨_,rfl⟩,Reps_nil.2 rfl⟩⟩⟩⟩
    rw [opens_length]
    refine (H1.out.1.keep (w':=w9) fun g o hg hh=>by rw [h29 g (lt_of_heap hh)];exact hh).rep (fun g hg=>.inr (by have:=H1.out.2.2.2 g hg;omega)) hopens
   ·refine (Rep.keep fun i o hi ho=>⟨kf i hi,?_⟩).2 _ _ HA.out.2.2.1
    have hl:=lt_of_heap ho
    rw [hb9.block i hl (fun e=>?_)];exact ho
    have:=H7.out.2.2 i e
    have h1:=HFw.out i hi
    have h2:=H2.out.1.size
    have h3:=H1.out.2.2.1.size
    omega
  have hlen9:(betweenEnv bs a n rest).length=bs.length+1+rest.length:=by unfold betweenEnv;simp [opens_length];omega
  have hre9:Rep (fun i=>(F i∧i<w.heap.size)∨w.heap.size+5≤i) (w9.alloc (.cells #[] 124)) (.sl 89 9 (betweenEnv bs a n rest).length (encWs (betweenEnv bs a n rest))) (.slice a9 (bs.length+1+rest.length) c9):=by
   rw [hlen9]
   refine (Rep.keep fun i o hi ho=>⟨hi,heap_past ho⟩).1 _ _ (ho9.rep (fun g hg=>.inr ?_) hr9)
   have:=hg9' g hg
   have h2:=H2.out.1.size
   have h3:=H1.out.2.2.1.size
   omega
  have hrm9:Reps (fun i=>(F i∧i<w.heap.size)∨w.heap.size+5≤i) (w9.alloc (.cells #[] 124)) (encN m) [str ms,.int .i64 mv,.slice ma1 mn1 mc1,.slice ma2 mn2 mc2] :=
   (Rep.keep fun i o hi ho=>⟨.inl ⟨hi,lt_of_heap ho⟩,by rw [hbw9.block i (lt_of_heap ho)];exact ho⟩).2 _ _ HP.out.rm
  have hatoms:=HT.out.2.2.2.1
  have hr15:∀ x∈rest,atomsT x≤15:=fun x hx=>hatoms.1 x (by rw [HP.out.ts];simp [hx])
  have ha15:atomsT a≤15:=hatoms.1 a (by rw [HP.out.ts];simp)
  have hwE:Wri (w9.alloc (.cells #[] 124)) (w.heap.size+4) ((200:Nat):Int) (20000-((20000:Nat):Int)):=heap_past bW9
  have C7:=write_any 20000 (fun i=>(F i∧i<w.heap.size)∨w.heap.size+5≤i) (w.heap.size+4) 200 20000 (bs.length+rest.length) (bs++rest) m (betweenEnv bs a n rest) [] ms mv ma1 ma2 mn1 mc1 mn2 mc2 (.slice a9 (bs.length+1+rest.length) c9) (.slice (some ⟨w9.heap.size,0,none⟩) 0 0) (w9.alloc (.cells #[] 124))
   { wri:=hwE,hF:=fun i hi=>(by
    rcases hi with h | h
    ·have:=h.2;omega
    ·omega),ld:=Nat.le_refl _,d20:=Nat.le_refl _,k200:=Nat.le_refl _,fit:=HP.out.fit,hn:=by simp,el:=by rw [hlen9];omega,nl:=by omega,stl:=by simp,
     ok:=okMs_append _ _ (okMs_opens _ _ HP.out.b15 (by omega)) ⟨by rw [okM];exact ⟨ha15,by rw [opens_length];omega,okMs_opens _ _ HP.out.b15 (by omega)⟩,okMs_opens _ _ hr15 (by omega)⟩,okg:=trivial,
     wf:=⟨HP.out.wm,wfMs_append _ _ (wfMs_opens _ _) ⟨⟨HP.out.wn,wfMs_opens _ _⟩,wfMs_opens _ _⟩,by simp⟩,rb:=hrm9,re:=hre9,rs:=Rep_sl.2 ⟨by simp [encFs],_,_,rfl,Nat.le_refl _,fun h=>by simp at h,.inl rfl⟩ }
  rw [show ((bs.length+rest.length:Nat):Int)=(bs.length:Int) from by omega,show w.heap.size+4=w.heap.size+1+1+1+1 from rfl] at C7
  have C7:=Lib.hid C7
  have hb9z:=Lib.hid (show w8.heap.size≤w9.heap.size from hb9.size)
  have H9:=Lib.hid (And.intro hbw9 (And.intro bR9 hzW))
  clear hk9 bT9 bM9 bR9 bW9 hbw9 hr9 hlen9 hre9 hrm9 hatoms hr15 ha15 hwE hb79 hg9' hbW9 hzW ho9 hb9 hg9
  go_wp2_with fail
  (with_reducible refine C7.out.mono ?_)
  rintro en w11 ⟨s,v,b1,p1,d1,b2,p2,d2,rfl,hb11,hn11,hy11⟩
  obtain ⟨L,S,hWL,hL⟩:∃ L S:Int,Wri w11 (w.heap.size+4) L S∧decide (0≤L)=(writes m (betweenEnv bs a n rest) (bs.length+rest.length)).isSome:=by
   unfold writes
   cases hq:evN 20000 200 20000 m (betweenEnv bs a n rest) (bs.length+rest.length) (List.map WFr.gf []) with
   | none =>
     obtain ⟨st,u1,_,_⟩:=hn11 hq
     exact ⟨-1,st,u1,by rw [show (List.map WFr.gf []:List Gf)=[] from rfl] at hq;rw [hq];rfl⟩
   | some x =>
     obtain ⟨u1,_⟩:=hy11 x hq
     exact ⟨_,_,u1,by rw [show (List.map WFr.gf []:List Gf)=[] from rfl] at hq;rw [hq];simp⟩
  have hR11:NewN (w.heap.size+3) 0 (.slice none 0 0) (.slice none 0 0) w11:=NewN.but (heap_past H9.out.2.1) hb11 (show ¬ (w.heap.size+3=w.heap.size+1+1+1+1) by omega)
  have hbw11:Below w.heap.size w w11:=H9.out.1.trans (hb11.toBelow H9.out.1.size fun i hi e=>by have e:i=w.heap.size+1+1+1+1:=e;omega)
  obtain ⟨W12,hW12⟩:∃ W,w11.alloc (.cells #[str s,.int .i64 v,.slice b1 p1 d1,.slice b2 p2 d2] 36)=W:=⟨_,rfl⟩
  have hb12:Below w11.heap.size w11 W12:=by rw [← hW12];exact (Below.refl _ _).alloc (Nat.le_refl _) _
  have ho12:W12.heap[w11.heap.size]? = some (.cells #[str s,.int .i64 v,.slice b1 p1 d1,.slice b2 p2 d2] 36 (0,0)):=by rw [← hW12];exact heap_new _ _
  have hR12:NewN (w.heap.size+3) 0 (.slice none 0 0) (.slice none 0 0) W12:=hR11.below hb12 (lt_of_heap hR11)
  have hL12:W12.cell? ⟨w.heap.size+4,0,none⟩=some (.int .i64 L):=(hb12.cell (p:=⟨w.heap.size+4,0,none⟩) hWL.cell.2.2.2).trans hWL.cell.1
  obtain ⟨o0,o1,o2,o3⟩:=cells4 ho12
  obtain ⟨r0,r1,r2,r3,rlt,rf⟩:=hR12.cells
  have rf0:=rf 0;have rf1:=rf 1;have rf2:=rf 2;have rf3:=rf 3
  have hzw11:=hbw11.size
  have hne:w11.heap.size≠w.heap.size+3:=by have:=lt_of_heap hR11;omega
  have SZ:Hid (∀ w',But (fun i=>i=w.heap.size+3) W12 w'→w'.cell? ⟨w11.heap.size,0,none⟩=some (str s)∧w'.cell? ⟨w11.heap.size,1,none⟩=some (.int .i64 v)∧w'.cell? ⟨w11.heap.size,2,none⟩=some (.slice b1 p1 d1)∧w'.cell? ⟨w11.heap.size,3,none⟩=some (.slice b2 p2 d2)∧w'.cell? ⟨w.heap.size+4,0,none⟩=some (.int .i64 L)):=by
   show ∀ w',_→_
   intro w' hb'
   have k:∀ {p:Addr} {u:Value},p.block≠w.heap.size+3→W12.cell? p=some u→w'.cell? p=some u:=fun hn hu=>(hb'.cell (World.block_lt_of_cell? _ _ hu) hn).trans hu
   exact ⟨k hne o0,k hne o1,k hne o2,k hne o3,k (by show w.heap.size+4≠w.heap.size+3;omega) hL12⟩
  obtain ⟨W13,hW13,s0',s1',s2',s3',hkb,hkk⟩:=hR12.store (str s) (.int .i64 v) (.slice b1 p1 d1) (.slice b2 p2 d2)
  have hfin:SAppPost F (writes m (betweenEnv bs a n rest) (bs.length+rest.length)) w (.returned (.tuple #[.agg #[str s,.int .i64 v,.slice b1 p1 d1,.slice b2 p2 d2],.bool (decide (0≤L))])) W13:=by
   refine ⟨s,v,b1,p1,d1,b2,p2,d2,by rw [hL],hkb _ _ (hbw11.trans (hb12.mono hbw11.size)) (by omega),fun x hx=>?_⟩
   unfold writes at hx
   rw [Option.map_eq_some_iff] at hx
   obtain ⟨y,hy,rfl⟩:=hx
   obtain ⟨_,u2⟩:=hy11 y hy
   refine (Rep.keep fun i o hi ho=>?_).2 _ _ u2
   have hl:=lt_of_heap ho
   have h9:w.heap.size+5≤(w9.alloc (.cells #[] 124)).heap.size:=by
    have:=lt_of_heap (H9.out.2.1)
    have h5:=H9.out.2.2
    have:=HA.out.2.2.2.size;have:=H7.out.2.1.size;have:=H2.out.1.size;have:=H1.out.2.2.1.size;have:=hb9z.out
    rw [size_alloc];omega
   have hc:(F i∨w.heap.size≤i)∧i≠w.heap.size+3:=by
    rcases hi with (h | h) | h
    ·exact ⟨.inl h.1,by have:=h.2;omega⟩
    ·exact ⟨.inr (by omega),by omega⟩
    ·exact ⟨.inr (by omega),by omega⟩
   exact ⟨hc.1,hkk i _ hc.2 (by rw [hb12.block i hl];exact ho)⟩
  have HF:=Lib.hid (And.intro hW12 (And.intro hW13 (And.intro hfin hkb)))
  clear hW12 hb12 ho12 hR12 hL12 rf hW13 hfin hkb hkk hL hWL hR11 hbw11 hb11 hn11 hy11
  go_wp2_with fail
  rw [HF.out.1]
  refine wp_region_noPanic ?_
  refine wp_region_S (fun w'=>But (fun i=>i=w.heap.size+3) W12 w') (fun _=>false) (by kernel_rfl) ?_
  have hSd:But (fun i=>i=w.heap.size+3) W12 W12.drew:=(But.refl _ W12).drew
  refine tk [0,1,2,3,4,5] hSd ?_
  (intro d hd;simp [tkD] at hd;subst hd;simp only [tks,pQ,pZ,pS])
  iterate 6 (refine ⟨?_,?_,?_⟩;rotate_left;· (intro oi ho;simp at ho;subst ho;refine Or.inl ⟨by rfl,fun w' hw'=>?_⟩;obtain ⟨e0,e1,e2,e3,e4⟩:=SZ.out w' hw';go_simp;try with_reducible rfl))
  (refine on 6 ?_;intro o ho K' hK;simp at ho;subst ho;go_simp)
  (refine hK.out _ _ (fun _=>(((hSd.setCell (p:=⟨w.heap.size+3,0,none⟩) (.inl rfl) _).setCell (p:=⟨w.heap.size+3,1,none⟩) (.inl rfl) _).setCell (p:=⟨w.heap.size+3,2,none⟩) (.inl rfl) _).setCell (p:=⟨w.heap.size+3,3,none⟩) (.inl rfl) _) ?_;clear hK K';try simp only [pQ,pN,pZ,pS])
  (refine on 7 ?_;intro o ho K' hK;simp at ho;subst ho;go_simp)
  (refine hK.out _ _ (fun _=>(((hSd.setCell (p:=⟨w.heap.size+3,0,none⟩) (.inl rfl) _).setCell (p:=⟨w.heap.size+3,1,none⟩) (.inl rfl) _).setCell (p:=⟨w.heap.size+3,2,none⟩) (.inl rfl) _).setCell (p:=⟨w.heap.size+3,3,none⟩) (.inl rfl) _) ?_;clear hK K';try simp only [pQ,pN,pZ,pS])
  refine wpAnyS_done (by kernel_rfl) (NoPanic.normal ?_) _
  go_wp2_with fail
  obtain ⟨-,hW13,hfin,-⟩:=HF.out
  rw [← hW13]
  refine bodyPost_ret (v:=.tuple #[.agg #[str s,.int .i64 v,.slice b1 p1 d1,.slice b2 p2 d2],.bool (decide (0≤L))]) (by simp [results,Tryz.results24,go_sem,s0',s1',s2',s3']) rfl ?_
  exact hfin.drew
 ·have hT7:=hT2 htc1
  have htc2:rest.length+1≤tc:=by have:=HT.out.2.2.1;simpa using this
  clear hT1 hT2
  have C6:=Lib.hid (l4Opens_any F bs.length rest _ w7 hT7 (by omega) (by omega));clear hT7
  go_wp2_with fail
  (with_reducible refine C6.out.mono ?_)
  rintro en w8 ⟨a8,c8,xs8,rfl,ho8,hr8,hb8,hf8⟩
  have ho78:=H7.out.1.keep (w':=w8) fun g o hg hh=>by rw [hb8.block g (lt_of_heap hh)];exact hh
  have hsrc8:=ho8.src (oneCell_encWs _ _ hr8)
  have HA:=Lib.hid (And.intro ho78 (And.intro hsrc8 (And.intro hr8 hb8)));clear ho78 hsrc8 ho8 hr8 hb8 hf8
  go_wp2_with (at_builtin;refine wpList_append_gen rfl _ _ 86 rfl 89 (.agg #[.int .i64 0,str [],.int .i64 0,.slice none 0 0,.slice none 0 0,.slice none 0 0,.slice none 0 0,.int .i64 0,.int .i64 0]) 9 144 Tryz.underlying86 Tryz.infoBo rfl (by decide) (.slice a7 (bs.length+1) c7) (bs.length+1) _ rfl HA.out.1 _ rest.length xs8 rfl HA.out.2.1 (by unfold maxLen;omega) (by omega) ?_)
  intro a9 c9 w9 ho9 hb9 hg9
  have hb79:Below W2.heap.size W2 w9:=(H7.out.2.1.trans (HA.out.2.2.2.mono H7.out.2.1.size)).trans (hb9.toBelow (by have:=H7.out.2.1.size;have:=HA.out.2.2.2.size;omega) fun i hi e=>by have:=H7.out.2.2 i e;omega)
  have hg9':∀ g,(Value.slice a9 (bs.length+1+rest.length) c9).ownBlock=some g→W2.heap.size≤g:=fun g hg=>by
   rcases hg9 g hg with h | h
   ·exact H7.out.2.2 g h
   ·have:=H7.out.2.1.size;have:=HA.out.2.2.2.size;omega
  have hbW9:Below W.heap.size W w9:=H1.out.2.2.1.trans ((H2.out.1.trans (hb79.mono (by have:=H2.out.2.1;omega))).mono H1.out.2.2.1.size)
  have hzW:=HW.out.2.1
  have hk9:∀ {i:Nat} {o:Obj},i<W.heap.size→W.heap[i]? = some o→w9.heap[i]? = some o:=fun hi h=>(hbW9.block _ hi).trans h
  have bT9:=hk9 (by omega) HW.out.2.2.2.1
  have bM9:=hk9 (by omega) HW.out.2.2.2.2.1
  have bR9:NewN (w.heap.size+3) 0 (.slice none 0 0) (.slice none 0 0) w9:=hk9 (by omega) HW.out.2.2.2.2.2.2.1
  have bW9:Wri w9 (w.heap.size+4) 200 0:=hk9 (by omega) HW.out.2.2.2.2.2.2.2
  obtain ⟨m0,m1,m2,m3⟩:=cells4 bM9
  have t9:w9.cell? ⟨w.heap.size,0,none⟩=some (.slice (some ⟨kb,ko,none⟩) (rest.length+1) tc):=by simp [World.cell?,bT9]
  have t9':(w9.alloc (.cells #[] 124)).cell? ⟨w.heap.size,0,none⟩=some (.slice (some ⟨kb,ko,none⟩) (rest.length+1) tc):=cell_alloc t9
  have hbw9:Below w.heap.size w (w9.alloc (.cells #[] 124)):=(HW.out.2.2.1.trans (hbW9.mono HW.out.2.2.1.size)).alloc (by have:=hbW9.size;omega) _
  have hr9:Reps (fun i=>(F i∧i<w.heap.size)∨w.heap.size+5≤i) w9 (encWs (betweenEnv bs a n rest)) (oxs++([.int .i64 (-1),str ns,.int .i64 nv,.slice na1 nn1 nc1,.slice na2 nn2 nc2,.slice ua a.args.length uc,.slice oa bs.length oc,.int .i64 0,.int .i64 0]++xs8)):=by
   have kw:∀ (i:Nat) (o:Obj),F i→w.heap[i]? = some o→((F i∧i<w.heap.size)∨w.heap.size+5≤i)∧w9.heap[i]? = some o:=fun i o hi ho=>⟨.inl ⟨hi,lt_of_heap ho⟩,by rw [hbW9.block i (by have:=lt_of_heap ho;omega),HW.out.2.2.1.block i (lt_of_heap ho)];exact ho⟩
   have h29:∀ (i:Nat),i<w1.heap.size→w9.heap[i]? = w1.heap[i]?:=fun i hi=>by rw [hb79.block i (by have:=H2.out.2.1;omega),H2.out.1.block i hi]
   have kf:∀ (i:Nat),F i→(F i∧i<w.heap.size)∨w.heap.size+5≤i:=fun i hi=>by
    rcases Nat.lt_or_ge i w.heap.size with h | h
    ·exact .inl ⟨hi,h⟩
    ·exact .inr (by have:=HFw.out i hi;omega)
   have hopens:Reps (fun i=>(F i∧i<w.heap.size)∨w.heap.size+5≤i) w9 (encWs (opens 0 bs)) oxs:=(Rep.keep fun i o hi ho=>⟨kf i hi,by rw [h29 i (lt_of_heap ho)];exact ho⟩).2 _ _ H1.out.2.1
   unfold betweenEnv
   rw [encWs_append,encWs,encW]
   refine Reps.append hopens ?_
   refine Reps.append (vs:=[.int .i64 (-1),str ns,.int .i64 nv,.slice na1 nn1 nc1,.slice na2 nn2 nc2,.slice ua a.args.length uc,.slice oa bs.length oc,.int .i64 0,.int .i64 0]) ?_ ?_
   ·refine Reps.append (vs:=[.int .i64 (-1)]) (Reps.one (Rep_val.2 rfl)) (Reps.append (ds:=encN n) (vs:=[str ns,.int .i64 nv,.slice na1 nn1 nc1,.slice na2 nn2 nc2]) ((Rep.keep kw).2 _ _ HP.out.rn) ?_)
    refine Reps_cons.2 ⟨_,_,rfl,(Rep.keep kw).1 _ _ HT.out.2.1,Reps_cons.2 ⟨_,_,rfl,?_,Reps_cons.2 ⟨_,_,rfl,Rep_val.2 rfl,Reps_cons.2 ⟨_,_,rfl,Rep_any.2 ⟨_,rfl⟩,Reps_nil.2 rfl⟩⟩⟩⟩
    rw [opens_length]
    refine (H1.out.1.keep (w':=w9) fun g o hg hh=>by rw [h29 g (lt_of_heap hh)];exact hh).rep (fun g hg=>.inr (by have:=H1.out.2.2.2 g hg;omega)) hopens
   ·refine (Rep.keep fun i o hi ho=>⟨kf i hi,?_⟩).2 _ _ HA.out.2.2.1
    have hl:=lt_of_heap ho
    rw [hb9.block i hl (fun e=>?_)];exact ho
    have:=H7.out.2.2 i e
    have h1:=HFw.out i hi
    have h2:=H2.out.1.size
    have h3:=H1.out.2.2.1.size
    omega
  have hlen9:(betweenEnv bs a n rest).length=bs.length+1+rest.length:=by unfold betweenEnv;simp [opens_length];omega
  have hre9:Rep (fun i=>(F i∧i<w.heap.size)∨w.heap.size+5≤i) (w9.alloc (.cells #[] 124)) (.sl 89 9 (betweenEnv bs a n rest).length (encWs (betweenEnv bs a n rest))) (.slice a9 (bs.length+1+rest.length) c9):=by
   rw [hlen9]
   refine (Rep.keep fun i o hi ho=>⟨hi,heap_past ho⟩).1 _ _ (ho9.rep (fun g hg=>.inr ?_) hr9)
   have:=hg9' g hg
   have h2:=H2.out.1.size
   have h3:=H1.out.2.2.1.size
   omega
  have hrm9:Reps (fun i=>(F i∧i<w.heap.size)∨w.heap.size+5≤i) (w9.alloc (.cells #[] 124)) (encN m) [str ms,.int .i64 mv,.slice ma1 mn1 mc1,.slice ma2 mn2 mc2] :=
   (Rep.keep fun i o hi ho=>⟨.inl ⟨hi,lt_of_heap ho⟩,by rw [hbw9.block i (lt_of_heap ho)];exact ho⟩).2 _ _ HP.out.rm
  have hatoms:=HT.out.2.2.2.1
  have hr15:∀ x∈rest,atomsT x≤15:=fun x hx=>hatoms.1 x (by rw [HP.out.ts];simp [hx])
  have ha15:atomsT a≤15:=hatoms.1 a (by rw [HP.out.ts];simp)
  have hwE:Wri (w9.alloc (.cells #[] 124)) (w.heap.size+4) ((200:Nat):Int) (20000-((20000:Nat):Int)):=heap_past bW9
  have C7:=write_any 20000 (fun i=>(F i∧i<w.heap.size)∨w.heap.size+5≤i) (w.heap.size+4) 200 20000 (bs.length+rest.length) (bs++rest) m (betweenEnv bs a n rest) [] ms mv ma1 ma2 mn1 mc1 mn2 mc2 (.slice a9 (bs.length+1+rest.length) c9) (.slice (some ⟨w9.heap.size,0,none⟩) 0 0) (w9.alloc (.cells #[] 124))
   { wri:=hwE,hF:=fun i hi=>(by
    rcases hi with h | h
    ·have:=h.2;omega
    ·omega),ld:=Nat.le_refl _,d20:=Nat.le_refl _,k200:=Nat.le_refl _,fit:=HP.out.fit,hn:=by simp,el:=by rw [hlen9];omega,nl:=by omega,stl:=by simp,
     ok:=okMs_append _ _ (okMs_opens _ _ HP.out.b15 (by omega)) ⟨by rw [okM];exact ⟨ha15,by rw [opens_length];omega,okMs_opens _ _ HP.out.b15 (by omega)⟩,okMs_opens _ _ hr15 (by omega)⟩,okg:=trivial,
     wf:=⟨HP.out.wm,wfMs_append _ _ (wfMs_opens _ _) ⟨⟨HP.out.wn,wfMs_opens _ _⟩,wfMs_opens _ _⟩,by simp⟩,rb:=hrm9,re:=hre9,rs:=Rep_sl.2 ⟨by simp [encFs],_,_,rfl,Nat.le_refl _,fun h=>by simp at h,.inl rfl⟩ }
  rw [show ((bs.length+rest.length:Nat):Int)=(bs.length:Int)+((rest.length:Int)+1)-1 from by omega,show w.heap.size+4=w.heap.size+1+1+1+1 from rfl] at C7
  have C7:=Lib.hid C7
  have hb9z:=Lib.hid (show w8.heap.size≤w9.heap.size from hb9.size)
  have H9:=Lib.hid (And.intro hbw9 (And.intro bR9 hzW))
  clear hk9 bT9 bM9 bR9 bW9 hbw9 hr9 hlen9 hre9 hrm9 hatoms hr15 ha15 hwE hb79 hg9' hbW9 hzW ho9 hb9 hg9
  go_wp2_with fail
  (with_reducible refine C7.out.mono ?_)
  rintro en w11 ⟨s,v,b1,p1,d1,b2,p2,d2,rfl,hb11,hn11,hy11⟩
  obtain ⟨L,S,hWL,hL⟩:∃ L S:Int,Wri w11 (w.heap.size+4) L S∧decide (0≤L)=(writes m (betweenEnv bs a n rest) (bs.length+rest.length)).isSome:=by
   unfold writes
   cases hq:evN 20000 200 20000 m (betweenEnv bs a n rest) (bs.length+rest.length) (List.map WFr.gf []) with
   | none =>
     obtain ⟨st,u1,_,_⟩:=hn11 hq
     exact ⟨-1,st,u1,by rw [show (List.map WFr.gf []:List Gf)=[] from rfl] at hq;rw [hq];rfl⟩
   | some x =>
     obtain ⟨u1,_⟩:=hy11 x hq
     exact ⟨_,_,u1,by rw [show (List.map WFr.gf []:List Gf)=[] from rfl] at hq;rw [hq];simp⟩
  have hR11:NewN (w.heap.size+3) 0 (.slice none 0 0) (.slice none 0 0) w11:=NewN.but (heap_past H9.out.2.1) hb11 (show ¬ (w.heap.size+3=w.heap.size+1+1+1+1) by omega)
  have hbw11:Below w.heap.size w w11:=H9.out.1.trans (hb11.toBelow H9.out.1.size fun i hi e=>by have e:i=w.heap.size+1+1+1+1:=e;omega)
  obtain ⟨W12,hW12⟩:∃ W,w11.alloc (.cells #[str s,.int .i64 v,.slice b1 p1 d1,.slice b2 p2 d2] 36)=W:=⟨_,rfl⟩
  have hb12:Below w11.heap.size w11 W12:=by rw [← hW12];exact (Below.refl _ _).alloc (Nat.le_refl _) _
  have ho12:W12.heap[w11.heap.size]? = some (.cells #[str s,.int .i64 v,.slice b1 p1 d1,.slice b2 p2 d2] 36 (0,0)):=by rw [← hW12];exact heap_new _ _
  have hR12:NewN (w.heap.size+3) 0 (.slice none 0 0) (.slice none 0 0) W12:=hR11.below hb12 (lt_of_heap hR11)
  have hL12:W12.cell? ⟨w.heap.size+4,0,none⟩=some (.int .i64 L):=(hb12.cell (p:=⟨w.heap.size+4,0,none⟩) hWL.cell.2.2.2).trans hWL.cell.1
  obtain ⟨o0,o1,o2,o3⟩:=cells4 ho12
  obtain ⟨r0,r1,r2,r3,rlt,rf⟩:=hR12.cells
  have rf0:=rf 0;have rf1:=rf 1;have rf2:=rf 2;have rf3:=rf 3
  have hzw11:=hbw11.size
  have hne:w11.heap.size≠w.heap.size+3:=by have:=lt_of_heap hR11;omega
  have SZ:Hid (∀ w',But (fun i=>i=w.heap.size+3) W12 w'→w'.cell? ⟨w11.heap.size,0,none⟩=some (str s)∧w'.cell? ⟨w11.heap.size,1,none⟩=some (.int .i64 v)∧w'.cell? ⟨w11.heap.size,2,none⟩=some (.slice b1 p1 d1)∧w'.cell? ⟨w11.heap.size,3,none⟩=some (.slice b2 p2 d2)∧w'.cell? ⟨w.heap.size+4,0,none⟩=some (.int .i64 L)):=by
   show ∀ w',_→_
   intro w' hb'
   have k:∀ {p:Addr} {u:Value},p.block≠w.heap.size+3→W12.cell? p=some u→w'.cell? p=some u:=fun hn hu=>(hb'.cell (World.block_lt_of_cell? _ _ hu) hn).trans hu
   exact ⟨k hne o0,k hne o1,k hne o2,k hne o3,k (by show w.heap.size+4≠w.heap.size+3;omega) hL12⟩
  obtain ⟨W13,hW13,s0',s1',s2',s3',hkb,hkk⟩:=hR12.store (str s) (.int .i64 v) (.slice b1 p1 d1) (.slice b2 p2 d2)
  have hfin:SAppPost F (writes m (betweenEnv bs a n rest) (bs.length+rest.length)) w (.returned (.tuple #[.agg #[str s,.int .i64 v,.slice b1 p1 d1,.slice b2 p2 d2],.bool (decide (0≤L))])) W13:=by
   refine ⟨s,v,b1,p1,d1,b2,p2,d2,by rw [hL],hkb _ _ (hbw11.trans (hb12.mono hbw11.size)) (by omega),fun x hx=>?_⟩
   unfold writes at hx
   rw [Option.map_eq_some_iff] at hx
   obtain ⟨y,hy,rfl⟩:=hx
   obtain ⟨_,u2⟩:=hy11 y hy
   refine (Rep.keep fun i o hi ho=>?_).2 _ _ u2
   have hl:=lt_of_heap ho
   have h9:w.heap.size+5≤(w9.alloc (.cells #[] 124)).heap.size:=by
    have:=lt_of_heap (H9.out.2.1)
    have h5:=H9.out.2.2
    have:=HA.out.2.2.2.size;have:=H7.out.2.1.size;have:=H2.out.1.size;have:=H1.out.2.2.1.size;have:=hb9z.out
    rw [size_alloc];omega
   have hc:(F i∨w.heap.size≤i)∧i≠w.heap.size+3:=by
    rcases hi with (h | h) | h
    ·exact ⟨.inl h.1,by have:=h.2;omega⟩
    ·exact ⟨.inr (by omega),by omega⟩
    ·exact ⟨.inr (by omega),by omega⟩
   exact ⟨hc.1,hkk i _ hc.2 (by rw [hb12.block i hl];exact ho)⟩
  have HF:=Lib.hid (And.intro hW12 (And.intro hW13 (And.intro hfin hkb)))
  clear hW12 hb12 ho12 hR12 hL12 rf hW13 hfin hkb hkk hL hWL hR11 hbw11 hb11 hn11 hy11
  go_wp2_with fail
  rw [HF.out.1]
  refine wp_region_noPanic ?_
  refine wp_region_S (fun w'=>But (fun i=>i=w.heap.size+3) W12 w') (fun _=>false) (by kernel_rfl) ?_
  have hSd:But (fun i=>i=w.heap.size+3) W12 W12.drew:=(But.refl _ W12).drew
  refine tk [0,1,2,3,4,5] hSd ?_
  (intro d hd;simp [tkD] at hd;subst hd;simp only [tks,pQ,pZ,pS])
  iterate 6 (refine ⟨?_,?_,?_⟩;rotate_left;· (intro oi ho;simp at ho;subst ho;refine Or.inl ⟨by rfl,fun w' hw'=>?_⟩;obtain ⟨e0,e1,e2,e3,e4⟩:=SZ.out w' hw';go_simp;try with_reducible rfl))
  (refine on 6 ?_;intro o ho K' hK;simp at ho;subst ho;go_simp)
  (refine hK.out _ _ (fun _=>(((hSd.setCell (p:=⟨w.heap.size+3,0,none⟩) (.inl rfl) _).setCell (p:=⟨w.heap.size+3,1,none⟩) (.inl rfl) _).setCell (p:=⟨w.heap.size+3,2,none⟩) (.inl rfl) _).setCell (p:=⟨w.heap.size+3,3,none⟩) (.inl rfl) _) ?_;clear hK K';try simp only [pQ,pN,pZ,pS])
  (refine on 7 ?_;intro o ho K' hK;simp at ho;subst ho;go_simp)
  (refine hK.out _ _ (fun _=>(((hSd.setCell (p:=⟨w.heap.size+3,0,none⟩) (.inl rfl) _).setCell (p:=⟨w.heap.size+3,1,none⟩) (.inl rfl) _).setCell (p:=⟨w.heap.size+3,2,none⟩) (.inl rfl) _).setCell (p:=⟨w.heap.size+3,3,none⟩) (.inl rfl) _) ?_;clear hK K';try simp only [pQ,pN,pZ,pS])
  refine wpAnyS_done (by kernel_rfl) (NoPanic.normal ?_) _
  go_wp2_with fail
  obtain ⟨-,hW13,hfin,-⟩:=HF.out
  rw [← hW13]
  refine bodyPost_ret (v:=.tuple #[.agg #[str s,.int .i64 v,.slice b1 p1 d1,.slice b2 p2 d2],.bool (decide (0≤L))]) (by simp [results,Tryz.results24,go_sem,s0',s1',s2',s3']) rfl ?_
  exact hfin.drew
end Go.Proofs.YtapjaflnmklmeaaGreatDoor

/- Walks of functions that the statement reaches, and plain words. No conditions. -/
import Derived.Test.YtjggkhmojjaomaaGreatDoorQ15
set_option linter.unusedVariables false
set_option linter.unusedSimpArgs false
set_option maxHeartbeats 8000000
namespace Go.Proofs.YtjggkhmojjaomaaGreatDoor
open Go.RowKit
structure KeepPre (F:Nat->Prop) (ww d k l n vv o:Nat) (H:List Ty) (t:Ty) (ss:List Bd) (y no:Bd) (env:List Mn) (st:List WFr) (v0:Int) (a1 a2:Option Addr) (c1 c2:Nat) (ev sv:Value) (w:World):Prop where
 wri:Wri w ww ((k:Nat)+1) (20000-(l:Nat))
 hF:∀ i,F i->i≠ww
 ld:l<=d
 d20:d<=20000
 k200:k<=200
 hv:env[vv]? = some (.op o t)
 fit:jT H (.ask vv ss y no) env (st.map WFr.gf)
 hn:H.length=n
 el:env.length+16*(d+1)<=1000000
 nl:n+16*(d+1)<=1000000
 stl:st.length+d<=40000
 ok:yC (1000000-16*(d+1)) env
 okg:okGs (1000000-16*(d+1)) (st.map WFr.gf)
 wf:wfB (.ask vv ss y no)/\xI env/\∀ f∈st.map WFr.gf,wfG f
 rb:zX F w (kE (.ask vv ss y no)) [str [],.int .i64 (vv:Nat),.slice a1 ss.length c1,.slice a2 2 c2]
 re:Rep F w (.sl 130 9 env.length (ke env)) ev
 rs:Rep F w (.sl 146 6 st.length (uy st)) sv
def fpos:Bool->Nat
 | false=>2
 | true=>3
def fk:Bool->Value->Value->Value
 | false,_,sv=>sv
 | true,ks,_=>ks
def fy:Bool->Value->Value
 | false,_=>.slice none 0 0
 | true,sv=>sv
structure NInv (F:Nat->Prop) (ww:Nat) (D:Int) (k l n o vv nk:Nat) (env:List Mn) (f:Nat->Nat->Bd->List Mn->Nat->List Gf->Option (Bd×Nat×Nat)) (k0 l0:Nat) (ts:List Ty) (bs:List Bd) (A Z:Prop) (fld:Bool) (ks:Value) (outs:List Bd)
 (a1 a2 ta:Option Addr) (c1 c2 nt tc:Nat) (i0:Int) (w:World) (Q j:Nat) (sv:Value) (us:List Value) (wr:World):Prop where
 but:But (· = ww) w wr
 zw:Q+1<=wr.heap.size
 box:wr.heap[w.heap.size]? = some (.cells #[str [],.int .i64 (vv:Nat),.slice a1 nk c1,.slice a2 2 c2] 48 (0,0))
 res:z9 (w.heap.size+1) 0 (.slice none 0 0) (.slice none 0 0) wr
 bnd:wr.heap[w.heap.size+2]? = some (.cells #[.int .i64 (o:Nat),str [],.int .i64 0,.slice none 0 0,.slice none 0 0,.slice ta nt tc,.slice none 0 0,.int .i64 0,.int .i64 i0] 130 (0,0))
 blk:z9 Q (o:Nat) (fk fld ks sv) (fy fld sv) wr
 own:Own wr 48 4 sv j us
 fr:∀ g,sv.ownBlock=some g->Q+1<=g
 mode:(∃ zs kj lj,A/\kD f env n k0 l0 (ts.take j) (bs.take j)=some (zs,kj,lj)/\zs.length=j/\Wri wr ww (kj:Nat) (20000-(lj:Nat))/\kj<=k/\lj<=l/\zX (fun i=>Fx F w 4 i/\sv.ownBlock≠some i) wr (zg zs) us /\
  Rep (fun i=>Fx F w 4 i/\sv.ownBlock≠some i) wr (.sl 48 4 outs.length (zg outs)) ks) \/
  (Z/\∃ s,Wri wr ww (-1) s/\0<=s/\s<=D+(j:Int))
theorem NInv.next {F:Nat->Prop} {ww:Nat} {D:Int} {k l n o vv nk:Nat} {env:List Mn} {f:Nat->Nat->Bd->List Mn->Nat->List Gf->Option (Bd×Nat×Nat)} {k0 l0:Nat} {ts:List Ty} {bs:List Bd} {A Z:Prop} {fld:Bool} {ks:Value} {outs:List Bd}
 {a1 a2 ta:Option Addr} {c1 c2 nt tc:Nat} {i0:Int} {w:World} {Q j:Nat} {sv:Value} {us:List Value} {wr:World}
 (h:NInv F ww D k l n o vv nk env f k0 l0 ts bs A Z fld ks outs a1 a2 ta c1 c2 nt tc i0 w Q j sv us wr) (hQ:Q=w.heap.size+3) (hww:ww<w.heap.size) (hF:∀ i,F i->i≠ww)
 {w6 w7:World} {O:Obj} {oo:Option (Bd×Nat×Nat)} {cs:List Value} {a':Option Addr} {c':Nat}
 (fC:But (· = ww) wr.drew w6)
 (aS:oo=none->∃ st,Wri w6 ww (-1) st/\0<=st/\st<=D+((j+1:Nat):Int))
 (aF:∀ x,oo=some x->Wri w6 ww (x.2.1:Nat) (20000-(x.2.2:Nat))/\zX (fun i=>(F i/\i<w.heap.size)\/wr.drew.heap.size<=i) w6 (kE x.1) cs)
 (Gq:oo=none->Z)
 (Ck:∀ x,oo=some x->∃ zs,A/\kD f env n k0 l0 (ts.take (j+1)) (bs.take (j+1))=some (zs++[x.1],x.2.1,x.2.2)/\zs.length=j/\x.2.1<=k/\x.2.2<=l/\zX (fun i=>Fx F w 4 i/\sv.ownBlock≠some i) wr (zg zs) us /\
  Rep (fun i=>Fx F w 4 i/\sv.ownBlock≠some i) wr (.sl 48 4 outs.length (zg outs)) ks)
 (fu:Own w7 48 4 (.slice a' (j+1) c') (j+1) (us++cs)) (fW:But (fun b=>sv.ownBlock=some b) (w6.alloc O) w7)
 (fR:∀ g,(Value.slice a' (j+1) c').ownBlock=some g->sv.ownBlock=some g\/g=(w6.alloc O).heap.size) :
 NInv F ww D k l n o vv nk env f k0 l0 ts bs A Z fld ks outs a1 a2 ta c1 c2 nt tc i0 w Q (j+1) (.slice a' (j+1) c') (us++cs) (w7.setCell ⟨Q,fpos fld,none⟩ (.slice a' (j+1) c')):=by
 have z6:wr.heap.size<=w6.heap.size:=fC.size
 have z7:=fW.size
 rw [zK] at z7
 have zr:=h.zw
 have svlt:∀ g,sv.ownBlock=some g->g<wr.heap.size:=fun g hg=>h.own.lt hg
 obtain ⟨w8,Ep⟩:=zzN (w7.setCell ⟨Q,fpos fld,none⟩ (.slice a' (j+1) c'))
 have mh:∀ i x,w6.heap[i]? = some x->sv.ownBlock≠some i->i≠Q->w8.heap[i]? = some x:=by
  intro i x hx h2 h3
  have hl:=zZ hx
  rw [<- Ep,fZ _ _ _ _ (by simpa using h3),fW.block i (by rw [zK];omega) h2,Below.heap_alloc _ _ _ hl];exact hx
 have keep:∀ i x,wr.heap[i]? = some x->i≠ww->sv.ownBlock≠some i->i≠Q->w8.heap[i]? = some x:=by
  intro i x hx h1 h2 h3
  exact mh i x (by rw [fC.block i (zZ hx) h1];exact hx) h2 h3
 have nsv:∀ i,i<Q+1->sv.ownBlock≠some i:=fun i hi e=>by have:=h.fr i e;omega
 have fr':∀ g,(Value.slice a' (j+1) c').ownBlock=some g->Q+1<=g:=fun g hg=>by
  rcases fR g hg with e | e
  ·exact h.fr g e
  ·rw [zK] at e;omega
 have fxw:∀ i,Fx F w 4 i->i≠ww/\i≠Q:=fun i hi=>by
  rcases hi with hi | hi
  ·exact ⟨hF i hi.1,by have:=hi.2;omega⟩
  ·exact ⟨by omega,by omega⟩
 have fD:But (· = ww) w w8:=by
  have h1:But (· = ww) w w6:=h.but.trans ⟨fC.os,fC.tape,fC.output,fC.size,fC.block⟩
  have h2:But (· = ww) w w7:=(h1.alloc O).trans' fW (fun i hi e=>absurd (h.fr i e) (by omega))
  rw [<- Ep]
  exact h2.setCell (p:=⟨Q,fpos fld,none⟩) (.inr (show w.heap.size<=Q by omega)) _
 have hsz:w8.heap.size=w7.heap.size:=by rw [<- Ep];simp [World.setCell]
 have hbk:z9 Q (o:Nat) (fk fld ks (.slice a' (j+1) c')) (fy fld (.slice a' (j+1) c')) w8:=by
  have h1:z9 Q (o:Nat) (fk fld ks sv) (fy fld sv) w7:=by
   unfold z9
   rw [fW.block Q (by rw [zK];omega) (nsv Q (by omega)),Below.heap_alloc _ _ _ (by omega),fC.block Q (by show Q<wr.heap.size;omega) (by show Q≠ww;omega)];exact h.blk
  rw [<- Ep]
  cases fld
  ·exact h1.put2
  ·exact h1.put3
 have fp:Own w8 48 4 (.slice a' (j+1) c') (j+1) (us++cs) :=
  fu.keep fun g o hg ho=>by rw [<- Ep,fZ _ _ _ _ (by have:=fr' g hg;simp;omega)];exact ho
 have I9:(∃ zs kj lj,A/\kD f env n k0 l0 (ts.take (j+1)) (bs.take (j+1))=some (zs,kj,lj)/\zs.length=j+1/\Wri w8 ww (kj:Nat) (20000-(lj:Nat))/\kj<=k/\lj<=l/\zX (fun i=>Fx F w 4 i/\(Value.slice a' (j+1) c').ownBlock≠some i) w8 (zg zs) (us++cs) /\
  Rep (fun i=>Fx F w 4 i/\(Value.slice a' (j+1) c').ownBlock≠some i) w8 (.sl 48 4 outs.length (zg outs)) ks)\/(Z/\∃ s,Wri w8 ww (-1) s/\0<=s/\s<=D+((j+1:Nat):Int)):=by
  cases hoo:oo with
  | none =>
    obtain ⟨st,q1,q2,q3⟩:=aS hoo
    exact .inr ⟨Gq hoo,st,mh ww _ q1 (nsv ww (by omega)) (by omega),q2,q3⟩
  | some x =>
    obtain ⟨q1,q2⟩:=aF x hoo
    obtain ⟨zs,hA,r1,r2,r3,r4,r5,r6⟩:=Ck x hoo
    have kG:∀ (i:Nat) (y:Obj),(Fx F w 4 i/\sv.ownBlock≠some i)->wr.heap[i]? = some y->(Fx F w 4 i/\(Value.slice a' (j+1) c').ownBlock≠some i)/\w8.heap[i]? = some y:=fun i y hi hy =>
     ⟨⟨hi.1,fun e=>by
       rcases fR i e with e' | e'
       ·exact hi.2 e'
       ·rw [zK] at e';have:=zZ hy;omega⟩,keep i y hy (fxw i hi.1).1 hi.2 (fxw i hi.1).2⟩
    refine .inl ⟨zs++[x.1],x.2.1,x.2.2,hA,r1,by simp [r2],mh ww _ q1 (nsv ww (by omega)) (by omega),r3,r4,?_,(Rep.keep kG).1 _ _ r6⟩
    rw [qU]
    refine zX.append ((Rep.keep kG).2 _ _ r5) ?_
    have e1:zg [x.1]=kE x.1:=by simp [zg]
    rw [e1]
    refine (Rep.keep fun i y hi hy=>?_).2 _ _ q2
    have hl:=zZ hy
    rcases hi with hi | hi
    ·have h2:=hi.2
     exact ⟨⟨.inl hi,fun e=>by have:=fr' i e;omega⟩,mh i y hy (nsv i (by omega)) (by omega)⟩
    ·have h2:wr.heap.size<=i:=hi
     refine ⟨⟨.inr (by omega),fun e=>?_⟩,mh i y hy (fun e=>by have:=svlt i e;omega) (by omega)⟩
     rcases fR i e with e' | e'
     ·have:=svlt i e';omega
     ·rw [zK] at e';omega
 rw [Ep]
 exact { but:=fD,zw:=by omega,box:=keep _ _ h.box (by omega) (nsv _ (by omega)) (by omega),res:=keep _ _ h.res (by omega) (nsv _ (by omega)) (by omega),bnd:=keep _ _ h.bnd (by omega) (nsv _ (by omega)) (by omega),blk:=hbk,own:=fp,fr:=fr',mode:=I9 }
theorem node_ne {w:World} {ww:Nat} {k s:Int} {kb off:Nat} {s':Bs} (hw:Wri w ww k s) (g:w.cell? ⟨kb,off,none⟩=some (str s')):kb≠ww:=by
 intro e
 subst e
 unfold Wri at hw
 simp only [World.cell?,hw] at g
 rcases Nat.lt_or_ge off 2 with h | h
 ·have h2:off=0\/off=1:=by omega
  rcases h2 with h2 | h2 <;> rw [h2] at g <;> simp [str] at g
 ·rw [Array.getElem?_eq_none (by simpa using h)] at g;simp at g
theorem keptN_of {d k l n o k1 l1 kj lj:Nat} {t:Ty} {ss:List Bd} {y no:Bd} {env:List Mn} {st:List Gf} {outs zs:List Bd} (h0:kD (evN d) env n k l t.args ss=some (outs,k1,l1))
 (h1:kD (fun k l b _ _ _=>evN d k l b env n st) env n k1 l1 [t,t] [y,no]=some (zs,kj,lj)):∃ z1 z2,zs=[z1,z2]/\xC d k l n o t ss y no env st=some (.ask o outs z1 z2,kj,lj):=by
 unfold xC
 rw [h0]
 simp only [kD,Option.bind_eq_bind,Option.bind_some] at h1 ⊢
 cases h2:evN d k1 l1 y env n st with
 | none=>rw [h2] at h1;simp at h1
 | some x =>
   rw [h2] at h1
   simp only [Option.bind_some] at h1 ⊢
   cases h3:evN d x.2.1 x.2.2 no env n st with
   | none=>rw [h3] at h1;simp at h1
   | some u =>
     rw [h3] at h1
     simp only [Option.bind_some,Option.some.injEq,Prod.mk.injEq] at h1 ⊢
     obtain ⟨rfl,rfl,rfl⟩:=h1
     exact ⟨x.1,u.1,rfl,rfl,rfl,rfl⟩
theorem keptN_none {d k l n o k1 l1:Nat} {t:Ty} {ss:List Bd} {y no:Bd} {env:List Mn} {st:List Gf} {outs:List Bd} (h0:kD (evN d) env n k l t.args ss=some (outs,k1,l1))
 (h1:kD (fun k l b _ _ _=>evN d k l b env n st) env n k1 l1 [t,t] [y,no]=none):xC d k l n o t ss y no env st=none:=by
 unfold xC
 rw [h0]
 simp only [kD,Option.bind_eq_bind,Option.bind_some] at h1 ⊢
 cases h2:evN d k1 l1 y env n st with
 | none=>rfl
 | some x =>
   rw [h2] at h1
   simp only [Option.bind_some] at h1 ⊢
   cases h3:evN d x.2.1 x.2.2 no env n st with
   | none=>rfl
   | some u=>rw [h3] at h1;simp at h1
set_option maxRecDepth 100000 in
theorem keepN_any (d:Nat) (ih:xt d) (F:Nat->Prop) (ww k l n vv o:Nat) (H:List Ty) (t:Ty) (ss:List Bd) (y no:Bd) (env:List Mn) (st:List WFr) (v0:Int) (a1 a2:Option Addr) (c1 c2:Nat) (ev sv:Value) (w:World) (h:KeepPre F ww d k l n vv o H t ss y no env st v0 a1 a2 c1 c2 ev sv w) :
 Calls Tryz.prog 87 #[.pointer (some ⟨ww,0,none⟩),.agg #[str [],.int .i64 (vv:Nat),.slice a1 ss.length c1,.slice a2 2 c2],ev,sv,.int .i64 (n:Nat)] w
  (vF F ww (20001+20*(d+1)) (xC d k l n o t ss y no env (st.map WFr.gf)) w):=by
 have HP:=ed h
 have IH:=ed ih
 obtain ⟨eb,eo,ecap,ta,tc,i0,e,F7,hew,m0,m1,m2,m3,m4,m5,m6,m7,m8,DC⟩:=bound_op h.re h.hv
 subst e
 have hww:=h.wri.cell.2.2.2
 have hebw:=h.hF _ F7
 obtain ⟨W,hW⟩:=zzN ((w.alloc (.cells #[str [],.int .i64 (vv:Nat),.slice a1 ss.length c1,.slice a2 2 c2] 48)).alloc (.cells #[str [],.int .i64 0,.slice none 0 0,.slice none 0 0] 48))
 have fD:Below w.heap.size w W:=by rw [<- hW];exact ((e_ _ _).alloc (ei _) _).alloc (by rw [zK];omega) _
 have rS:w.heap.size+2=W.heap.size:=by rw [<- hW];simp only [zK]
 have Ci:=h.wri.below fD
 obtain ⟨k0,k1,kf,klt⟩:=Ci.cell
 have kf0:=kf 0
 have k0':W.cell? ⟨ww,0,none⟩=some (.int .i64 ((k:Int)+1)):=k0
 obtain ⟨W2,fb⟩:=zzN (W.setCell ⟨ww,0,none⟩ (.int .i64 (k:Nat)))
 have tE:Wri W2 ww (k:Nat) (20000-(l:Nat)):=by unfold Wri at *;rw [<- fb,zy Ci];rfl
 have fY:But (· = ww) w W2:=by rw [<- fb];exact (But.ofBelow (m:=(· = ww)) fD).setCell (p:=⟨ww,0,none⟩) (.inl rfl) _
 have b0:W.heap[w.heap.size]? = some (.cells #[str [],.int .i64 (vv:Nat),.slice a1 ss.length c1,.slice a2 2 c2] 48 (0,0)):=by rw [<- hW];exact zY (zG _ _)
 have KC:W2.heap[w.heap.size]? = some (.cells #[str [],.int .i64 (vv:Nat),.slice a1 ss.length c1,.slice a2 2 c2] 48 (0,0)):=by
  rw [<- fb,fZ _ _ _ _ (by show w.heap.size≠ww;omega)];exact b0
 obtain ⟨x0,x1,x2,x3⟩:=kP KC
 have kX:∀ {j:Nat} {x:Value},w.cell? ⟨eb,j,none⟩=some x->W2.cell? ⟨eb,j,none⟩=some x:=fun hc=>(fY.cell (e9 w _ hc) hebw).trans hc
 have j0:=kX m0;have j1:=kX m1;have j2:=kX m2;have j3:=kX m3;have j4:=kX m4;have j5:=kX m5;have j6:=kX m6;have j7:=kX m7;have j8:=kX m8
 have Eq:=(List.getElem?_eq_some_iff.1 h.hv).1
 have lI:(0:Int)<=(vv:Int):=by omega
 have se:(vv:Int)<(env.length:Int):=by omega
 have Jk:=h.k200
 have nJ:W2.heap.size=w.heap.size+2:=by rw [<- fb,rS];simp [World.setCell]
 have mY:z9 (w.heap.size+1) 0 (.slice none 0 0) (.slice none 0 0) W2:=by
  have:=zG (w.alloc (.cells #[str [],.int .i64 (vv:Nat),.slice a1 ss.length c1,.slice a2 2 c2] 48)) (.cells #[str [],.int .i64 0,.slice none 0 0,.slice none 0 0] 48)
  rw [zK,hW] at this
  unfold z9
  rw [<- fb,fZ _ _ _ _ (by show w.heap.size+1≠ww;omega)];exact this
 have HZ:=ed (ef nJ mY);clear nJ mY
 have HW:=ed (ef hW (ef fb (ef fY (ef tE (ef KC DC)))))
 clear hW fb fD Ci tE fY b0 KC DC kX m0 m1 m2 m3 m4 m5 m6 m7 m8 k0 kf h ih rS
 go_enter Tryz.func87,Tryz.ntmps87
 go_upto_region 1 with (fail)
 rw [HW.out.1]
 go_upto_region 2 with (fail)
 rw [HW.out.2.1]
 go_wp2_with fail
 go_loopw [13] (fun i wr=>∃ (j:Nat) (sv:Value) (us:List Value),j<=ss.length/\i=.int .i64 j/\NInv F ww (20001+20*(d:Int)) k l n o vv ss.length env (evN d) k l t.args ss True (kD (evN d) env n k l t.args ss=none) false (.slice none 0 0) [] a1 a2 ta c1 c2 t.args.length tc i0 w (W2.heap.size+1) j sv us wr) (fun i _=>ss.length-(intOf i).toNat)
 case atStart =>
  obtain ⟨nJ,mY⟩:=HZ.out
  obtain ⟨hW,fb,fY,tE,KC,DC⟩:=HW.out
  refine ⟨0,.slice none 0 0,[],Nat.zero_le _,rfl,?_⟩
  refine { but:=(fY.alloc _).alloc _,zw:=by simp only [zK];omega,box:=zY (zY KC),res:=zY (zY mY),bnd:=?_,blk:=?_,own:=World.ownsRow_nil _ _ _ _,fr:=fun g hg=>by simp [Value.ownBlock] at hg,mode:=.inl ⟨[],k,l,trivial,by simp [kD],rfl,zY (zY tE),ei _,ei _,by simp [zg,zC],zp.2 ⟨by simp [zg],none,0,rfl,ei _,fun _=>rfl,.inl rfl⟩⟩ }
  ·rw [<- nJ];exact zY (zG _ _)
  ·have:=zG (W2.alloc (.cells #[.int .i64 (o:Nat),str [],.int .i64 0,.slice none 0 0,.slice none 0 0,.slice ta t.args.length tc,.slice none 0 0,.int .i64 0,.int .i64 i0] 130)) (.cells #[str [],.int .i64 (o:Nat),.slice none 0 0,.slice none 0 0] 48)
   rw [zK] at this
   exact this
 case round =>
  rename_i wr
  obtain ⟨j,sv,us,hj,rfl,fH⟩:=hrel
  obtain ⟨sa,sc,e⟩:=fH.own.slice
  subst e
  obtain ⟨y0,y1,y2,y3⟩:=kP fH.box
  obtain ⟨q0,q1,q2,q3,qlt,qf⟩:=fH.blk.cells
  have z5:wr.cell? ⟨W2.heap.size,5,none⟩=some (.slice ta t.args.length tc):=by
   rw [HZ.out.1];simp [World.cell?,fH.bnd]
  have HI:=ed fH;clear fH
  by_cases fG:j<ss.length
  ·have mX:(j:Int)<(ss.length:Int):=by omega
   have fA:Rep F w (.sl 48 4 ss.length (zg ss)) (.slice a1 ss.length c1):=by
    have mj:=HP.out.rb
    simp only [kE,zQ,zC] at mj
    obtain ⟨_,_,e0,_,_,_,rfl,_,_,_,rfl,h2,_⟩:=mj
    simp only [List.cons.injEq] at e0
    obtain ⟨_,_,e2,_⟩:=e0
    rw [e2];exact h2
   obtain ⟨ka',kc',e,lU⟩:=pm.of fA
   simp only [Value.slice.injEq] at e
   obtain ⟨rfl,_,rfl⟩:=e
   obtain ⟨kb,ko,s',v',lN,iF,lM,AS,lg,AP,sd,e,sK,aj,g0,g1,g2,g3,rU⟩:=lU j fG
   subst e
   have A6:=HP.out.fit.keep HP.out.hv
   have hne:kb≠ww:=node_ne HP.out.wri g0
   have FA:=HW.out.2.2.2.2.2
   rw [qv] at FA
   obtain ⟨ta',tc',e,_,_,r_⟩:=zP FA
   simp only [Value.slice.injEq] at e
   obtain ⟨rfl,_,rfl⟩:=e
   have hjt:j<t.args.length:=by omega
   obtain ⟨tb,tO,tu,td,e,htF,htw,htd,g4,Fy⟩:=r_ j hjt
   subst e
   rw [vj,Option.map_eq_some_iff] at htd
   obtain ⟨tj,De,rfl⟩:=htd
   obtain ⟨ua,uc,rfl⟩:=kK Fy
   have p0:=(HI.out.but.cell (p:=⟨kb,ko+j*4,none⟩) sK hne).trans g0
   have p1:=(HI.out.but.cell (p:=⟨kb,ko+j*4+1,none⟩) sK hne).trans g1
   have p2:=(HI.out.but.cell (p:=⟨kb,ko+j*4+2,none⟩) sK hne).trans g2
   have p3:=(HI.out.but.cell (p:=⟨kb,ko+j*4+3,none⟩) sK hne).trans g3
   have p4:=(HI.out.but.cell (p:=⟨tb,tO+j,none⟩) htw (HP.out.hF _ htF)).trans g4
   have iS:=pT _ HP.out.ok vv _ HP.out.hv
   rw [okM] at iS
   have Es:=(zo iS.1).1 tj (List.mem_of_getElem? De)
   have Ak:But (· = ww) w wr.drew:=HI.out.but.drew
   have rL:∀ b,(F b/\b<w.heap.size)->¬ (b=ww)/\(F b/\b<w.heap.size):=fun b hb=>⟨HP.out.hF b hb.1,hb⟩
   have BE:zX (fun i=>F i/\i<w.heap.size) wr.drew (kE sd) [str s',.int .i64 v',.slice lN iF lM,.slice AS lg AP]:=(zX.low rU).but Ak rL
   have Fz:=(Rep.low Fy).but Ak rL
   have Az:=(Rep.low HP.out.re).but Ak rL
   have al:=HP.out.el;have iY:=HP.out.nl;have oW:=HP.out.ld;have F8:=HP.out.d20;have ir:=HP.out.k200
   have mI:=bG (f:=evN d) (env:=env) (n:=n) (k:=k) (l:=l) De aj
   obtain ⟨oo,Kf,Gq,Ck⟩:∃ oo,Calls Tryz.prog 102 #[.pointer (some ⟨ww,0,none⟩),.agg #[str s',.int .i64 v',.slice lN iF lM,.slice AS lg AP],.agg #[.slice ua tj.args.length uc],.slice (some ⟨eb,eo,none⟩) env.length ecap,.int .i64 (n:Nat)] wr.drew (vF (fun i=>F i/\i<w.heap.size) ww (20001+20*(d:Int)+((j+1:Nat):Int)) oo wr.drew) /\
    (oo=none->kD (evN d) env n k l t.args ss=none) /\
    (∀ y,oo=some y->∃ outs,True/\kD (evN d) env n k l (t.args.take (j+1)) (ss.take (j+1))=some (outs++[y.1],y.2.1,y.2.2)/\outs.length=j/\y.2.1<=k/\y.2.2<=l/\zX (fun i=>Fx F w 4 i/\(Value.slice sa j sc).ownBlock≠some i) wr (zg outs) us /\
     Rep (fun i=>Fx F w 4 i/\(Value.slice sa j sc).ownBlock≠some i) wr (.sl 48 4 ([]:List Bd).length (zg [])) (.slice none 0 0)):=by
    rcases HI.out.mode with ⟨outs,kj,lj,_,nA,aM,rJ,F1,FW,rW,mD⟩ | ⟨nA,s,rJ,l_,rV⟩
    ·refine ⟨evN d kj lj sd (env++opens n tj.args) (n+tj.args.length) [],(open_live d IH.out _ ww kj lj n H tj sd env s' v' lN AS iF lM lg AP _ _ wr.drew rJ (fun i hi=>HP.out.hF i hi.1) (by omega) F8 (by omega) (A6.2.2.1 j tj sd De aj) HP.out.hn al iY Es HP.out.ok Fz BE Az ⟨wfBs_at _ HP.out.wf.1.1 j sd aj,HP.out.wf.2.1⟩).mono ?_,fun h=>?_,fun y h=>?_⟩
     ·rintro en w' ⟨q1,q2,q3,q4,q5,q6,q7,q8,q9,GL,Em,GK⟩
      exact ⟨q1,q2,q3,q4,q5,q6,q7,q8,q9,GL,fun h=>by obtain ⟨st,u1,u2,u3⟩:=Em h;exact ⟨st,u1,u2,by omega⟩,GK⟩
     ·refine x_ (j+1) _ _ _ _ ?_
      rw [mI,nA];simp only [Option.bind_some];rw [h];rfl
     ·have mH:=evN_left _ _ _ _ _ _ _ _ _ _ h
      exact ⟨outs,trivial,by rw [mI,nA];simp only [Option.bind_some];rw [h];rfl,aM,fQ mH.1 F1,fQ mH.2 FW,rW,mD⟩
    ·have hj15:=(zo iS.1).2
     refine ⟨none,(open_dead _ ww n s tj env s' v' lN AS iF lM lg AP _ _ wr.drew rJ l_ (by omega) (by omega) (by omega) Es Fz Az).mono ?_,fun _=>nA,fun y h=>by simp at h⟩
     rintro en w' ⟨q1,q2,q3,q4,q5,q6,q7,q8,q9,GL,Em,GK⟩
     exact ⟨q1,q2,q3,q4,q5,q6,q7,q8,q9,GL,fun h=>by obtain ⟨st,u1,u2,u3⟩:=Em h;exact ⟨st,u1,u2,by omega⟩,GK⟩
   have CC:=ed Kf
   have Cy:=ed (ef Gq Ck)
   have tK:j+1<=maxLen:=by unfold maxLen;have:=(zo iS.1).2;omega
   have nP:(j+1)*72<=140737488355328:=by have:=(zo iS.1).2;omega
   have h04:0<4:=by omega
   have FK:¬ (W2.heap.size+1=ww):=by rw [HZ.out.1];omega
   have NB:=ed (show ¬ (Value.slice sa j sc).ownBlock=some (W2.heap.size+1) from fun e=>by have:=HI.out.fr _ e;omega)
   have OWN:=ed (fun (w6:World) (h6:But (· = ww) wr.drew w6)=>(HI.out.own.keep (w':=w6) fun g o hg hh=>by
    have:=HI.out.fr g hg
    rw [h6.block g (zZ hh) (fun e=>by have e:g=ww:=e;rw [HZ.out.1] at this;omega)];exact hh))
   have nJ:=HZ.out.1
   have Is:=HP.out.hF _ htF
   have SX:Hid (∀ w',But (fun i=>i=ww\/(Value.slice sa j sc).ownBlock=some i) wr w'->w'.cell? ⟨W2.heap.size+1,2,none⟩=some (.slice sa j sc)/\w'.cell? ⟨w.heap.size,2,none⟩=some (.slice (some ⟨kb,ko,none⟩) ss.length c1) /\
    w'.cell? ⟨kb,ko+j*4,none⟩=some (str s')/\w'.cell? ⟨kb,ko+j*4+1,none⟩=some (.int .i64 v')/\w'.cell? ⟨kb,ko+j*4+2,none⟩=some (.slice lN iF lM)/\w'.cell? ⟨kb,ko+j*4+3,none⟩=some (.slice AS lg AP) /\
    w'.cell? ⟨W2.heap.size,5,none⟩=some (.slice (some ⟨tb,tO,none⟩) t.args.length tc)/\w'.cell? ⟨tb,tO+j,none⟩=some (.slice ua tj.args.length uc)):=by
    show ∀ w',_->_
    intro w' fN
    have key:∀ {p:Addr} {u:Value},p.block<W2.heap.size+2->p.block≠ww->wr.cell? p=some u->w'.cell? p=some u:=fun hp hne hu =>
     (fN.cell (e9 wr _ hu) (fun e=>e.elim hne (fun e=>by have:=HI.out.fr _ e;omega))).trans hu
    exact ⟨key (by show W2.heap.size+1<_;omega) FK q2,key (by show w.heap.size<_;omega) (by show w.heap.size≠ww;omega) y2,key (by show kb<_;omega) hne p0,key (by show kb<_;omega) hne p1,key (by show kb<_;omega) hne p2,key (by show kb<_;omega) hne p3,
     key (by show W2.heap.size<_;omega) (by show W2.heap.size≠ww;omega) z5,key (by show tb<_;omega) Is p4⟩
   have C8:=qf 2
   clear A6 hne FA iS rL BE Fz Az mI Gq Ck Kf fA lU r_ g0 g1 g2 g3 g4 rU Fy aj De qf Ak nJ Is y0 y1 y3 q0 q1 q3 p0 p1 p2 p3 p4 z5
   go_wp2_with fail
   refine wp_region_noPanic ?_
   refine zB (fun w'=>But (fun i=>i=ww\/(Value.slice sa j sc).ownBlock=some i) wr w') (fun i=>i == 20) (by kernel_rfl) ?_
   have fV:But (fun i=>i=ww\/(Value.slice sa j sc).ownBlock=some i) wr wr.drew:=(But.refl _ wr).drew
   refine tk [0,1,2,3,4,5,6,7,8,9,10,11,12,13,14,15] fV ?_
   (intro d hd;simp [tkD] at hd;subst hd;simp only [tks,pQ,pZ,pS])
   iterate 16 (refine ⟨?_,?_,?_⟩;rotate_left;· (intro oi ho;simp at ho;subst ho;refine Or.inl ⟨by rfl,fun w' fB=>?_⟩;obtain ⟨e0,e1,e2,e3,e4,e5,e6,e7⟩:=SX.out w' fB;go_simp;try with_reducible rfl))
   refine qr 16 (by kernel_rfl) ?_
   intro o16 ho K' hK
   (simp at ho;subst ho)
   go_simp
   go_at_call 102
   (with_reducible refine CC.out.mono ?_)
   rintro Ao w6 ⟨s6,v6,b1,m1,d1,b2,m2,d2,rfl,fC,aS,aF⟩
   have fm:Hid (But (fun i=>i=ww\/(Value.slice sa j sc).ownBlock=some i) wr w6):=fV.trans (fC.weak fun i _ h=>.inl h)
   have Hy:=but_cell fC FK q2
   have Fm:=fK qlt fC.size
   have Bi:=but_free fC FK qlt C8
   have fd:=(OWN.out _ fC).alloc (.cells #[str s6,.int .i64 v6,.slice b1 m1 d1,.slice b2 m2 d2] 48)
   have H6:=ed (ef fC (ef aS aF));clear fC aS aF
   (refine hK.out _ _ (fun _=>fm.out) ?_;clear hK K';try simp only [pQ,pN,pZ,pS])
   refine qr 17 (by kernel_rfl) ?_
   intro o17 ho K' hK
   (simp at ho;subst ho)
   go_simp
   (refine hK.out _ _ (fun _=>fm.out.alloc _) ?_;clear hK K';try simp only [pQ,pN,pZ,pS])
   refine qr 18 (by kernel_rfl) ?_
   intro o18 ho K' hK
   (simp at ho;subst ho)
   refine zE (by rfl) _ _ _ (by rfl) 48 (.agg #[str [],.int .i64 0,.slice none 0 0,.slice none 0 0]) 4 72 Tryz.underlying46 Tryz.infoN rfl h04 (.slice sa j sc) j us (by rfl) fd _ 1 [str s6,.int .i64 v6,.slice b1 m1 d1,.slice b2 m2 d2] (by rfl) (zO.lit4 #[str s6,.int .i64 v6,.slice b1 m1 d1,.slice b2 m2 d2] rfl (by simp [str,Value.oneCell']) _ rfl) tK nP ?_
   intro a' c' w7 fu fW fR
   (refine hK.out _ _ (fun _=>(fm.out.alloc _).trans (fW.weak fun i _ h=>.inr h)) ?_;clear hK K';try simp only [pQ,pN,pZ,pS])
   have mM:=out_cell fW NB.out Hy
   have ai:=out_free fW NB.out Fm Bi
   refine qr 19 (by kernel_rfl) ?_
   intro o19 ho K' hK
   (simp at ho;subst ho)
   go_simp
   (refine hK.out _ _ (fun _=>(fm.out.alloc _).trans (fW.weak fun i _ h=>.inr h)) ?_;clear hK K';try simp only [pQ,pN,pZ,pS])
   refine qr 20 (by kernel_rfl) ?_
   intro o20 ho K' hK
   (simp at ho;subst ho)
   go_simp
   (refine hK.out _ _ (fun h=>by simp at h) ?_;clear hK K';try simp only [pQ,pN,pZ,pS])
   refine zU (by kernel_rfl) (NoPanic.normal ?_) _
   have hX:=HI.out.next (by rw [HZ.out.1]) hww HP.out.hF H6.out.1 H6.out.2.1 H6.out.2.2 Cy.out.1 Cy.out.2 fu fW fR
   have HN:=ed hX
   clear hX fu fW fR fV Hy Bi fd
   go_wp2_with fail
   go_roundw
   case rel=>exact ⟨j+1,_,_,by omega,by go_num,HN.out⟩
   case measure=>simp [intOf];omega
  ·obtain rfl:j=ss.length:=by omega
   obtain ⟨outs,k1,l1,sn⟩:∃ outs k1 l1,NInv F ww (20001+20*(d:Int)+(ss.length:Int)) k l n o vv ss.length env (fun k l b _ _ _=>evN d k l b env n (st.map WFr.gf)) k1 l1 [t,t] [y,no] (kD (evN d) env n k l t.args ss=some (outs,k1,l1)) (xC d k l n o t ss y no env (st.map WFr.gf)=none) true (.slice sa ss.length sc) outs a1 a2 ta c1 c2 t.args.length tc i0 w (W2.heap.size+1) 0 (.slice none 0 0) [] wr:=by
    have ig:=(HP.out.fit.keep HP.out.hv).1
    have hI:=HI.out
    rcases hI.mode with ⟨outs,kj,lj,_,nA,aM,rJ,F1,FW,rW,_⟩ | ⟨nA,s,rJ,l_,rV⟩
    ·rw [List.take_length,List.take_of_length_le (by omega)] at nA
     refine ⟨outs,kj,lj,{ but:=hI.but,zw:=hI.zw,box:=hI.box,res:=hI.res,bnd:=hI.bnd,blk:=hI.blk,own:=World.ownsRow_nil _ _ _ _,fr:=fun g hg=>by simp [Value.ownBlock] at hg,mode:=.inl ⟨[],kj,lj,nA,by simp [kD],rfl,rJ,F1,FW,by simp [zg,zC],?_⟩ }⟩
     rw [aM]
     refine hI.own.rep (fun g hg=>⟨.inr (by have h1:=hI.fr g hg;have h2:=HZ.out.1;omega),by simp [Value.ownBlock]⟩) ?_
     exact (Rep.keep fun b o hf ho=>⟨⟨hf.1,by simp [Value.ownBlock]⟩,ho⟩).2 _ _ rW
    ·exact ⟨[],0,0,{ but:=hI.but,zw:=hI.zw,box:=hI.box,res:=hI.res,bnd:=hI.bnd,blk:=hI.blk,own:=World.ownsRow_nil _ _ _ _,fr:=fun g hg=>by simp [Value.ownBlock] at hg,mode:=.inr ⟨by unfold xC;rw [nA];rfl,s,rJ,l_,by omega⟩ }⟩
   obtain ⟨ka,kc,hk⟩:∃ a c,Value.slice sa ss.length sc=.slice a ss.length c:=⟨_,_,rfl⟩
   rw [hk] at sn
   have AV:=ed sn;clear sn hk
   have IA:ss.length<=15:=by
    have iS:=pT _ HP.out.ok vv _ HP.out.hv
    rw [okM] at iS
    have h1:=(zo iS.1).2
    have h2:=(HP.out.fit.keep HP.out.hv).1
    omega
   clear HI y0 y1 y3 q0 q1 q2 q3 qf z5 fG hj
   go_wp2_with fail
   clear y2
   go_loopw [14] (fun i wr=>∃ (j:Nat) (sv:Value) (us:List Value),j<=2/\i=.int .i64 j/\NInv F ww (20001+20*(d:Int)+(ss.length:Int)) k l n o vv ss.length env (fun k l b _ _ _=>evN d k l b env n (st.map WFr.gf)) k1 l1 [t,t] [y,no] (kD (evN d) env n k l t.args ss=some (outs,k1,l1)) (xC d k l n o t ss y no env (st.map WFr.gf)=none) true (.slice ka ss.length kc) outs a1 a2 ta c1 c2 t.args.length tc i0 w (W2.heap.size+1) j sv us wr) (fun i _=>2-(intOf i).toNat)
   case atStart=>exact ⟨0,_,_,by omega,rfl,AV.out⟩
   case round =>
    rename_i wr
    obtain ⟨j,sv1,us,hj,rfl,fH⟩:=hrel
    obtain ⟨sa,sc,e⟩:=fH.own.slice
    subst e
    obtain ⟨y0,y1,y2,y3⟩:=kP fH.box
    obtain ⟨q0,q1,q2,q3,qlt,qf⟩:=fH.blk.cells
    have HI:=ed fH;clear fH
    by_cases fG:j<2
    ·have mX:(j:Int)<2:=by omega
     have Ik:Rep F w (.sl 48 4 [y,no].length (zg [y,no])) (.slice a2 2 c2):=by
      have mj:=HP.out.rb
      rw [yN] at mj
      simp only [zQ,zC] at mj
      obtain ⟨_,_,e0,_,_,_,rfl,_,_,_,rfl,_,_,_,rfl,h3,_⟩:=mj
      simp only [List.cons.injEq] at e0
      obtain ⟨_,_,_,e2,_⟩:=e0
      rw [e2];exact h3
     obtain ⟨ya,yc,e,Il⟩:=pm.of Ik
     simp only [Value.slice.injEq] at e
     obtain ⟨rfl,_,rfl⟩:=e
     obtain ⟨kb,ko,s',v',lN,iF,lM,AS,lg,AP,sd,e,sK,aj,g0,g1,g2,g3,rU⟩:=Il j fG
     subst e
     have A6:=HP.out.fit.keep HP.out.hv
     have hne:kb≠ww:=node_ne HP.out.wri g0
     have p0:=(HI.out.but.cell (p:=⟨kb,ko+j*4,none⟩) sK hne).trans g0
     have p1:=(HI.out.but.cell (p:=⟨kb,ko+j*4+1,none⟩) sK hne).trans g1
     have p2:=(HI.out.but.cell (p:=⟨kb,ko+j*4+2,none⟩) sK hne).trans g2
     have p3:=(HI.out.but.cell (p:=⟨kb,ko+j*4+3,none⟩) sK hne).trans g3
     have Ak:But (· = ww) w wr.drew:=HI.out.but.drew
     have rL:∀ b,(F b/\b<w.heap.size)->¬ (b=ww)/\(F b/\b<w.heap.size):=fun b hb=>⟨HP.out.hF b hb.1,hb⟩
     have BE:zX (fun i=>F i/\i<w.heap.size) wr.drew (kE sd) [str s',.int .i64 v',.slice lN iF lM,.slice AS lg AP]:=(zX.low rU).but Ak rL
     have Az:=(Rep.low HP.out.re).but Ak rL
     have IJ:=(Rep.low HP.out.rs).but Ak rL
     have al:=HP.out.el;have iY:=HP.out.nl;have oW:=HP.out.ld;have F8:=HP.out.d20;have ir:=HP.out.k200;have DE:=HP.out.stl
     have hfj:jT H sd env (st.map WFr.gf):=by
      rcases (by omega:j=0\/j=1) with rfl | rfl
      ·simp at aj;subst aj;exact A6.2.2.2.1
      ·simp at aj;subst aj;exact A6.2.2.2.2
     have hwj:wfB sd:=by
      rcases (by omega:j=0\/j=1) with rfl | rfl
      ·simp at aj;subst aj;exact HP.out.wf.1.2.1
      ·simp at aj;subst aj;exact HP.out.wf.1.2.2
     have De:[t,t][j]? = some t:=by
      rcases (by omega:j=0\/j=1) with rfl | rfl <;> rfl
     have mI:=bG (f:=fun k l b _ _ _=>evN d k l b env n (st.map WFr.gf)) (env:=env) (n:=n) (k:=k1) (l:=l1) De aj
     obtain ⟨oo,Kf,Gq,Ck⟩:∃ oo,Calls Tryz.prog 67 #[.pointer (some ⟨ww,0,none⟩),.agg #[str s',.int .i64 v',.slice lN iF lM,.slice AS lg AP],.slice (some ⟨eb,eo,none⟩) env.length ecap,sv,.int .i64 (n:Nat)] wr.drew (vF (fun i=>F i/\i<w.heap.size) ww (20001+20*(d:Int)+(ss.length:Int)+((j+1:Nat):Int)) oo wr.drew) /\
      (oo=none->xC d k l n o t ss y no env (st.map WFr.gf)=none) /\
      (∀ x,oo=some x->∃ zs,kD (evN d) env n k l t.args ss=some (outs,k1,l1)/\kD (fun k l b _ _ _=>evN d k l b env n (st.map WFr.gf)) env n k1 l1 ([t,t].take (j+1)) ([y,no].take (j+1))=some (zs++[x.1],x.2.1,x.2.2)/\zs.length=j/\x.2.1<=k/\x.2.2<=l/\zX (fun i=>Fx F w 4 i/\(Value.slice sa j sc).ownBlock≠some i) wr (zg zs) us /\
       Rep (fun i=>Fx F w 4 i/\(Value.slice sa j sc).ownBlock≠some i) wr (.sl 48 4 outs.length (zg outs)) (.slice ka ss.length kc)):=by
      rcases HI.out.mode with ⟨zs,kj,lj,hA,nA,aM,rJ,F1,FW,rW,mD⟩ | ⟨nA,s,rJ,l_,rV⟩
      ·refine ⟨evN d kj lj sd env n (st.map WFr.gf),(IH.out _ ww kj lj n H sd env st s' v' lN AS iF lM lg AP _ _ wr.drew { wri:=rJ,hF:=fun i hi=>HP.out.hF i hi.1,ld:=by omega,d20:=F8,k200:=by omega,fit:=hfj,hn:=HP.out.hn,el:=by omega,nl:=by omega,stl:=by omega,ok:=k9 (by omega) _ HP.out.ok,okg:=vG (by omega) _ HP.out.okg,wf:=⟨hwj,HP.out.wf.2⟩,rb:=BE,re:=Az,rs:=IJ }).mono ?_,fun h=>?_,fun x h=>?_⟩
       ·rintro en w' ⟨q1,q2,q3,q4,q5,q6,q7,q8,q9,GL,Em,GK⟩
        exact ⟨q1,q2,q3,q4,q5,q6,q7,q8,q9,GL,fun h=>by obtain ⟨st,u1,u2,u3⟩:=Em h;exact ⟨st,u1,u2,by omega⟩,GK⟩
       ·have sL:kD (fun k l b _ _ _=>evN d k l b env n (st.map WFr.gf)) env n k1 l1 [t,t] [y,no]=none:=by
         refine x_ (j+1) _ _ _ _ ?_
         rw [mI,nA];simp only [Option.bind_some];rw [h];rfl
        exact keptN_none hA sL
       ·have mH:=evN_left _ _ _ _ _ _ _ _ _ _ h
        exact ⟨zs,hA,by rw [mI,nA];simp only [Option.bind_some];rw [h];rfl,aM,fQ mH.1 F1,fQ mH.2 FW,rW,mD⟩
      ·refine ⟨none,(dE ww s _ s' v' lN AS iF lM lg AP rfl _ _ n wr.drew rJ l_ (by omega)).mono ?_,fun _=>nA,fun y h=>by simp at h⟩
       rintro en w' ⟨rfl,q1,q2⟩
       exact ⟨_,_,_,_,_,_,_,_,rfl,q1,fun _=>⟨_,q2,by omega,by omega⟩,fun x h=>by simp at h⟩
     have CC:=ed Kf
     have Cy:=ed (ef Gq Ck)
     have tK:j+1<=maxLen:=by unfold maxLen;omega
     have nP:(j+1)*72<=140737488355328:=by omega
     have h04:0<4:=by omega
     have FK:¬ (W2.heap.size+1=ww):=by rw [HZ.out.1];omega
     have NB:=ed (show ¬ (Value.slice sa j sc).ownBlock=some (W2.heap.size+1) from fun e=>by have:=HI.out.fr _ e;omega)
     have OWN:=ed (fun (w6:World) (h6:But (· = ww) wr.drew w6)=>(HI.out.own.keep (w':=w6) fun g o hg hh=>by
      have:=HI.out.fr g hg
      rw [h6.block g (zZ hh) (fun e=>by have e:g=ww:=e;rw [HZ.out.1] at this;omega)];exact hh))
     have nJ:=HZ.out.1
     have SX:Hid (∀ w',But (fun i=>i=ww\/(Value.slice sa j sc).ownBlock=some i) wr w'->w'.cell? ⟨W2.heap.size+1,3,none⟩=some (.slice sa j sc)/\w'.cell? ⟨w.heap.size,3,none⟩=some (.slice (some ⟨kb,ko,none⟩) 2 c2) /\
      w'.cell? ⟨kb,ko+j*4,none⟩=some (str s')/\w'.cell? ⟨kb,ko+j*4+1,none⟩=some (.int .i64 v')/\w'.cell? ⟨kb,ko+j*4+2,none⟩=some (.slice lN iF lM)/\w'.cell? ⟨kb,ko+j*4+3,none⟩=some (.slice AS lg AP)/\True/\True):=by
      show ∀ w',_->_
      intro w' fN
      have key:∀ {p:Addr} {u:Value},p.block<W2.heap.size+2->p.block≠ww->wr.cell? p=some u->w'.cell? p=some u:=fun hp hne hu =>
       (fN.cell (e9 wr _ hu) (fun e=>e.elim hne (fun e=>by have:=HI.out.fr _ e;omega))).trans hu
      exact ⟨key (by show W2.heap.size+1<_;omega) FK q3,key (by show w.heap.size<_;omega) (by show w.heap.size≠ww;omega) y3,key (by show kb<_;omega) hne p0,key (by show kb<_;omega) hne p1,key (by show kb<_;omega) hne p2,key (by show kb<_;omega) hne p3,trivial,trivial⟩
     have q2:wr.cell? ⟨W2.heap.size+1,3,none⟩=some (.slice sa j sc):=q3
     have C8:=qf 3
     clear A6 hne rL BE IJ Az mI Gq Ck Kf Ik Il g0 g1 g2 g3 rU aj De hfj hwj qf Ak nJ y0 y1 y2 y3 q0 q1 q3 p0 p1 p2 p3
     go_wp2_with fail
     refine wp_region_noPanic ?_
     refine zB (fun w'=>But (fun i=>i=ww\/(Value.slice sa j sc).ownBlock=some i) wr w') (fun i=>i == 15) (by kernel_rfl) ?_
     have fV:But (fun i=>i=ww\/(Value.slice sa j sc).ownBlock=some i) wr wr.drew:=(But.refl _ wr).drew
     refine tk [0,1,2,3,4,5,6,7,8,9,10] fV ?_
     (intro d hd;simp [tkD] at hd;subst hd;simp only [tks,pQ,pZ,pS])
     iterate 11 (refine ⟨?_,?_,?_⟩;rotate_left;· (intro oi ho;simp at ho;subst ho;refine Or.inl ⟨by rfl,fun w' fB=>?_⟩;obtain ⟨e0,e1,e2,e3,e4,e5,e6,e7⟩:=SX.out w' fB;go_simp;try with_reducible rfl))
     refine qr 11 (by kernel_rfl) ?_
     intro o11 ho K' hK
     (simp at ho;subst ho)
     go_simp
     go_at_call 67
     (with_reducible refine CC.out.mono ?_)
     rintro Ao w6 ⟨s6,v6,b1,m1,d1,b2,m2,d2,rfl,fC,aS,aF⟩
     have fm:Hid (But (fun i=>i=ww\/(Value.slice sa j sc).ownBlock=some i) wr w6):=fV.trans (fC.weak fun i _ h=>.inl h)
     have Hy:=but_cell fC FK q2
     have Fm:=fK qlt fC.size
     have Bi:=but_free fC FK qlt C8
     have fd:=(OWN.out _ fC).alloc (.cells #[str s6,.int .i64 v6,.slice b1 m1 d1,.slice b2 m2 d2] 48)
     have H6:=ed (ef fC (ef aS aF));clear fC aS aF
     (refine hK.out _ _ (fun _=>fm.out) ?_;clear hK K';try simp only [pQ,pN,pZ,pS])
     refine qr 12 (by kernel_rfl) ?_
     intro o12 ho K' hK
     (simp at ho;subst ho)
     go_simp
     (refine hK.out _ _ (fun _=>fm.out.alloc _) ?_;clear hK K';try simp only [pQ,pN,pZ,pS])
     refine qr 13 (by kernel_rfl) ?_
     intro o13 ho K' hK
     (simp at ho;subst ho)
     refine zE (by rfl) _ _ _ (by rfl) 48 (.agg #[str [],.int .i64 0,.slice none 0 0,.slice none 0 0]) 4 72 Tryz.underlying46 Tryz.infoN rfl h04 (.slice sa j sc) j us (by rfl) fd _ 1 [str s6,.int .i64 v6,.slice b1 m1 d1,.slice b2 m2 d2] (by rfl) (zO.lit4 #[str s6,.int .i64 v6,.slice b1 m1 d1,.slice b2 m2 d2] rfl (by simp [str,Value.oneCell']) _ rfl) tK nP ?_
     intro a' c' w7 fu fW fR
     (refine hK.out _ _ (fun _=>(fm.out.alloc _).trans (fW.weak fun i _ h=>.inr h)) ?_;clear hK K';try simp only [pQ,pN,pZ,pS])
     have mM:=out_cell fW NB.out Hy
     have ai:=out_free fW NB.out Fm Bi
     refine qr 14 (by kernel_rfl) ?_
     intro o14 ho K' hK
     (simp at ho;subst ho)
     go_simp
     (refine hK.out _ _ (fun _=>(fm.out.alloc _).trans (fW.weak fun i _ h=>.inr h)) ?_;clear hK K';try simp only [pQ,pN,pZ,pS])
     refine qr 15 (by kernel_rfl) ?_
     intro o15 ho K' hK
     (simp at ho;subst ho)
     go_simp
     (refine hK.out _ _ (fun h=>by simp at h) ?_;clear hK K';try simp only [pQ,pN,pZ,pS])
     refine zU (by kernel_rfl) (NoPanic.normal ?_) _
     have hX:=HI.out.next (by rw [HZ.out.1]) hww HP.out.hF H6.out.1 H6.out.2.1 H6.out.2.2 Cy.out.1 Cy.out.2 fu fW fR
     have HN:=ed hX
     clear hX fu fW fR fV Hy Bi fd
     go_wp2_with fail
     go_roundw
     case rel=>exact ⟨j+1,_,_,by omega,by go_num,HN.out⟩
     case measure=>simp [intOf];omega
    ·obtain rfl:j=2:=by omega
     obtain ⟨r0,r1,r2,r3,rlt,rf⟩:=HI.out.res.cells
     have mg:=rf 0;have nD:=rf 1;have rG:=rf 2;have sh:=rf 3
     have q2':wr.cell? ⟨W2.heap.size+1,2,none⟩=some (.slice ka ss.length kc):=q2
     have q3':wr.cell? ⟨W2.heap.size+1,3,none⟩=some (.slice sa 2 sc):=q3
     clear q2 q3 y0 y1 y2 y3 qf rf
     go_wp2_with fail
     have hnn:xC d k l n o t ss y no env (st.map WFr.gf)=none->∃ s,Wri wr ww (-1) s/\0<=s/\s<=20001+20*((d:Int)+1):=by
      intro h0
      rcases HI.out.mode with ⟨zs,kj,lj,hA,nA,aM,rJ,F1,FW,rW,mD⟩ | ⟨nA,s,rJ,l_,rV⟩
      ·obtain ⟨z1,z2,_,h2⟩:=keptN_of (o:=o) hA nA
       rw [h2] at h0;simp at h0
      ·exact ⟨s,rJ,l_,by omega⟩
     have Dx:∀ x,xC d k l n o t ss y no env (st.map WFr.gf)=some x->Wri wr ww (x.2.1:Nat) (20000-(x.2.2:Nat))/\zX (fun i=>(F i/\i<w.heap.size)\/w.heap.size+2<=i) wr (kE x.1) [str [],.int .i64 (o:Nat),.slice ka ss.length kc,.slice sa 2 sc]:=by
      intro x hx
      rcases HI.out.mode with ⟨zs,kj,lj,hA,nA,aM,rJ,F1,FW,rW,mD⟩ | ⟨nA,s,rJ,l_,rV⟩
      ·obtain ⟨z1,z2,hz,h2⟩:=keptN_of (o:=o) hA nA
       rw [h2] at hx
       simp only [Option.some.injEq] at hx
       subst hx
       subst hz
       refine ⟨rJ,?_⟩
       have hgg:∀ (i:Nat) (y:Obj),(Fx F w 4 i/\(Value.slice sa 2 sc).ownBlock≠some i)->wr.heap[i]? = some y->((F i/\i<w.heap.size)\/w.heap.size+2<=i)/\wr.heap[i]? = some y:=fun i y hi hy=>⟨by
        rcases hi.1 with h | h
        ·exact .inl h
        ·exact .inr (by omega),hy⟩
       have Ay:=(Rep.keep hgg).1 _ _ mD
       have hlo:outs.length=ss.length:=by
        rw [zp] at Ay
        obtain ⟨_,a,cap,e,_⟩:=Ay
        simp only [Value.slice.injEq] at e
        exact e.2.1.symm
       rw [yN]
       refine zQ.2 ⟨_,_,rfl,zH.2 rfl,zQ.2 ⟨_,_,rfl,zH.2 rfl,zQ.2 ⟨_,_,rfl,Ay,zQ.2 ⟨_,_,rfl,?_,zC.2 rfl⟩⟩⟩⟩
       exact HI.out.own.rep (fun g hg=>.inr (by have h1:=HI.out.fr g hg;have h2:=HZ.out.1;omega)) ((Rep.keep hgg).2 _ _ rW)
      ·rw [nA] at hx;simp at hx
     obtain ⟨W4,rF,f_,fe,f7,mQ,nE⟩:=xA (F:=F) (D:=20001+20*((d:Int)+1)) (o:=xC d k l n o t ss y no env (st.map WFr.gf)) (s:=[]) (v:=(o:Nat)) (a1:=ka) (n1:=ss.length) (c1:=kc) (a2:=sa) (n2:=2) (c2:=sc) HI.out.but hww HI.out.res hnn Dx
     rw [<- rF]
     exact bodyPost_ret (v:=.agg #[str [],.int .i64 (o:Nat),.slice ka ss.length kc,.slice sa 2 sc]) (by simp [results,Tryz.results87,go_sem,f_,fe,f7,mQ]) rfl nE
def u9 (B:Nat) (x0 x1 x2 x3:Value) (w:World):World:=(((w.setCell ⟨B,0,none⟩ x0).setCell ⟨B,1,none⟩ x1).setCell ⟨B,2,none⟩ x2).setCell ⟨B,3,none⟩ x3
theorem xU {B:Nat} {x0 x1 x2 x3:Value} {m:Nat->Prop} {a w:World} (h:But m a w) (hm:m B):But m a (u9 B x0 x1 x2 x3 w) :=
 (((h.setCell (p:=⟨B,0,none⟩) (.inl hm) _).setCell (p:=⟨B,1,none⟩) (.inl hm) _).setCell (p:=⟨B,2,none⟩) (.inl hm) _).setCell (p:=⟨B,3,none⟩) (.inl hm) _
theorem xr {B:Nat} {u0 u1 u2 u3 x0 x1 x2 x3:Value} {e:TypeId} {w:World} (h:w.heap[B]? = some (.cells #[u0,u1,u2,u3] e (0,0))):(u9 B x0 x1 x2 x3 w).heap[B]? = some (.cells #[x0,x1,x2,x3] e (0,0)):=by
 unfold u9
 rw [zy (zy (zy (zy h)))];rfl
def leftW (ww:Nat) (wr:World):Nat:=match wr.heap[ww]? with
 | some (.cells c _ _)=>(20001-intOf (c.getD 1 (.int .i64 0))).toNat
 | _=>0
theorem xg {w:World} {ww:Nat} {k s:Int} (h:Wri w ww k s):leftW ww w=(20001-s).toNat:=by
 unfold Wri at h
 unfold leftW
 rw [h]
 simp [intOf]
structure WAt (F:Nat->Prop) (ww d k l n:Nat) (H:List Ty) (b:Bd) (env:List Mn) (st:List WFr) (s0:Bs) (v0:Int) (a1 a2:Option Addr) (n1 c1 n2 c2:Nat) (ev sv:Value) (w wr:World):Prop where
 pre:eT (Fx F w 2) ww d k l n H b env st s0 v0 a1 a2 n1 c1 n2 c2 ev sv wr
 box:wr.heap[w.heap.size]? = some (.cells #[str s0,.int .i64 v0,.slice a1 n1 c1,.slice a2 n2 c2] 48 (0,0))
 res:z9 (w.heap.size+1) 0 (.slice none 0 0) (.slice none 0 0) wr
 but:But (· = ww) w wr
 zw:w.heap.size+2<=wr.heap.size
 hww:ww<w.heap.size
theorem Fx.low {F:Nat->Prop} {ww:Nat} {w:World} (hF:∀ i,F i->i≠ww) (hww:ww<w.heap.size) (i:Nat) (h:Fx F w 2 i):i≠ww/\i≠w.heap.size/\i≠w.heap.size+1:=by
 rcases h with h | h
 ·exact ⟨hF i h.1,by have:=h.2;omega,by have:=h.2;omega⟩
 ·exact ⟨by omega,by omega,by omega⟩
theorem Fx.low' {F:Nat->Prop} {ww:Nat} {w:World} (hF:∀ i,Fx F w 2 i->i≠ww) {i:Nat} (h:Fx F w 2 i) (_:0<=i):i≠ww/\i≠w.heap.size:=by
 refine ⟨hF i h,?_⟩
 rcases h with h | h
 ·have:=h.2;omega
 ·omega
theorem WAt.start {F:Nat->Prop} {ww d k l n:Nat} {H:List Ty} {b:Bd} {env:List Mn} {st:List WFr} {s0:Bs} {v0:Int} {a1 a2:Option Addr} {n1 c1 n2 c2:Nat} {ev sv:Value} {w:World}
 (h:eT F ww d k l n H b env st s0 v0 a1 a2 n1 c1 n2 c2 ev sv w) :
 WAt F ww d k l n H b env st s0 v0 a1 a2 n1 c1 n2 c2 ev sv w ((w.alloc (.cells #[str s0,.int .i64 v0,.slice a1 n1 c1,.slice a2 n2 c2] 48)).alloc (.cells #[str [],.int .i64 0,.slice none 0 0,.slice none 0 0] 48)):=by
 have hww:=h.wri.cell.2.2.2
 have kk:∀ (i:Nat) (o:Obj),F i->w.heap[i]? = some o->Fx F w 2 i/\((w.alloc (.cells #[str s0,.int .i64 v0,.slice a1 n1 c1,.slice a2 n2 c2] 48)).alloc (.cells #[str [],.int .i64 0,.slice none 0 0,.slice none 0 0] 48)).heap[i]? = some o :=
  fun i o hf ho=>⟨.inl ⟨hf,zZ ho⟩,zY (zY ho)⟩
 have hn:=zG (w.alloc (.cells #[str s0,.int .i64 v0,.slice a1 n1 c1,.slice a2 n2 c2] 48)) (.cells #[str [],.int .i64 0,.slice none 0 0,.slice none 0 0] 48)
 rw [zK] at hn
 exact { pre:={ wri:=zY (zY h.wri),hF:=fun i hi=>by
                 rcases hi with hi | hi
                 ·exact h.hF i hi.1
                 ·omega
                ld:=h.ld,d20:=h.d20,k200:=h.k200,fit:=h.fit,hn:=h.hn,el:=h.el,nl:=h.nl,stl:=h.stl,ok:=h.ok,okg:=h.okg,wf:=h.wf,rb:=(Rep.keep kk).2 _ _ h.rb,re:=(Rep.keep kk).1 _ _ h.re,rs:=(Rep.keep kk).1 _ _ h.rs },
         box:=zY (zG _ _),res:=hn,but:=((But.refl _ _).alloc _).alloc _,zw:=by simp only [zK];omega,hww:=hww }
theorem WAt.move {F:Nat->Prop} {ww d k l n:Nat} {H:List Ty} {b:Bd} {env:List Mn} {st:List WFr} {s0:Bs} {v0:Int} {a1 a2:Option Addr} {n1 c1 n2 c2:Nat} {ev sv:Value} {w wr:World}
 (h:WAt F ww (d+1) k (l+1) n H b env st s0 v0 a1 a2 n1 c1 n2 c2 ev sv w wr) {w8:World} {b':Bd} {env':List Mn} {st':List WFr} {f_:Bs} {E3:Int} {a1' lN:Option Addr} {n1' c1' iF lM:Nat} {ev' sv':Value}
 (ft:But (fun i=>i=ww\/i=w.heap.size) wr w8) (Ep:Wri w8 ww (k:Nat) (20000-(l:Nat)))
 (hbox:w8.heap[w.heap.size]? = some (.cells #[str f_,.int .i64 E3,.slice a1' n1' c1',.slice lN iF lM] 48 (0,0)))
 (fit:jT H b' env' (st'.map WFr.gf)) (el:env'.length+16*d<=1000000) (stl:st'.length+d<=40000) (ok:yC (1000000-16*d) env') (okg:okGs (1000000-16*d) (st'.map WFr.gf)) (wf:wfB b'/\xI env'/\∀ f∈st'.map WFr.gf,wfG f)
 (rb:zX (Fx F w 2) w8 (kE b') [str f_,.int .i64 E3,.slice a1' n1' c1',.slice lN iF lM]) (re:Rep (Fx F w 2) w8 (.sl 130 9 env'.length (ke env')) ev') (rs:Rep (Fx F w 2) w8 (.sl 146 6 st'.length (uy st')) sv') :
 WAt F ww d k l n H b' env' st' f_ E3 a1' lN n1' c1' iF lM ev' sv' w w8:=by
 have hz:=ft.size
 have lh:=h.zw
 have hww:=h.hww
 have oW:=h.pre.ld;have hd:=h.pre.d20;have iY:=h.pre.nl
 exact { pre:={ wri:=Ep,hF:=h.pre.hF,ld:=by omega,d20:=by omega,k200:=h.pre.k200,fit:=fit,hn:=h.pre.hn,el:=el,nl:=by omega,stl:=stl,ok:=ok,okg:=okg,wf:=wf,rb:=rb,re:=re,rs:=rs },
         box:=hbox,res:=h.res.but ft (by omega),but:=h.but.trans' ft (fun i hi e=>by rcases e with e | e;exact e;omega),zw:=by omega,hww:=hww }
theorem p9 {F:Nat->Prop} {w:World}:∀ (st:List WFr) (us:List Value),zX F w (uy st) us->∀ u∈us,u.oneCell'=true
 | [],us,h,u,hu=>by rw [uy,zC] at h;subst h;simp at hu
 | f::st,us,h,u,hu=>by
   rw [uy] at h
   obtain ⟨h1,h2⟩:=h.split
   rw [<- List.take_append_drop (uy st).length us] at hu
   rcases List.mem_append.1 hu with hu | hu
   ·exact p9 st _ h1 u hu
   ·rw [encF,yN] at h2
    simp only [List.cons_append,List.nil_append,zQ,zC,zH] at h2
    obtain ⟨_,_,e,rfl,_,_,rfl,rfl,x2,_,rfl,q2,x3,_,rfl,q3,x4,_,rfl,q4,_,_,rfl,rfl,rfl⟩:=h2
    obtain ⟨_,nS,nB,e1,_⟩:=zp.1 q2
    obtain ⟨_,rY,nH,e2,_⟩:=zp.1 q3
    obtain ⟨_,ea,ec,e3,_⟩:=zp.1 q4
    subst e1;subst e2;subst e3
    rw [e] at hu
    simp only [List.mem_cons,List.not_mem_nil,or_false] at hu
    rcases hu with rfl | rfl | rfl | rfl | rfl | rfl <;> rfl
theorem Tryz.infoFW:(Tryz.prog.info? 146).map (fun i=>(i.zero,i.size,i.bytes))=some (some (.agg #[str [],.int .i64 0,.slice none 0 0,.slice none 0 0,.slice none 0 0,.int .i64 0]),6,104):=by kernel_rfl
def WRel (F:Nat->Prop) (ww D k n:Nat) (H:List Ty) (R:Option (Bd×Nat×Nat)) (w:World) (ev sv:Value) (wr:World):Prop :=
 ∃ d l b env st s0 v0 a1 a2 n1 c1 n2 c2,d<=D/\R=evN d k l b env n (st.map WFr.gf)/\WAt F ww d k l n H b env st s0 v0 a1 a2 n1 c1 n2 c2 ev sv w wr
set_option maxRecDepth 100000 in
theorem write_step (D:Nat) (ih:∀ d,d<D->xt d):xt D:=by
 intro F ww k L n H b0 Kn st0 s00 v00 Dv a20 n10 D_ n20 c20 ev0 sv0 w h
 suffices HS:∀ R,R=evN D k L b0 Kn n (st0.map WFr.gf)->Calls Tryz.prog 67 #[.pointer (some ⟨ww,0,none⟩),.agg #[str s00,.int .i64 v00,.slice Dv n10 D_,.slice a20 n20 c20],ev0,sv0,.int .i64 (n:Nat)] w (vF F ww (20001+20*D) R w) from HS _ rfl
 intro R hR
 have IH:=ed ih
 have sn:=WAt.start h
 have hD20:=h.d20
 have AV:=ed sn
 clear h sn ih
 obtain ⟨W,hW⟩:=zzN ((w.alloc (.cells #[str s00,.int .i64 v00,.slice Dv n10 D_,.slice a20 n20 c20] 48)).alloc (.cells #[str [],.int .i64 0,.slice none 0 0,.slice none 0 0] 48))
 have HW:=ed hW;clear hW
 have HR:=ed hR;clear hR
 go_enter Tryz.func67,Tryz.ntmps67
 go_upto_region 1 with (fail)
 rw [HW.out]
 go_wp2_with fail
 go_loopw [2,3] (fun e s wr=>WRel F ww D k n H R w e s wr) (fun _ _ wr=>leftW ww wr)
 case atStart=>exact ⟨D,L,b0,Kn,st0,s00,v00,Dv,a20,n10,D_,n20,c20,ei _,HR.out,by rw [<- HW.out];exact AV.out⟩
 case round =>
  obtain ⟨d,l,b,env,st,s0,v0,a1,a2,n1,c1,n2,c2,hdD,hRe,fU⟩:=hrel
  have hlm:=xg fU.pre.wri
  obtain ⟨s,hs⟩:∃ s:Int,s=20000-(l:Int):=⟨_,rfl⟩
  have hl20:l<=20000:=by have:=fU.pre.ld;have:=fU.pre.d20;omega
  have l_:0<=s:=by omega
  have rV:s<=20000:=by omega
  have Ci:Wri wr ww (k:Nat) s:=by rw [hs];exact fU.pre.wri
  obtain ⟨k0,k1,kf,klt⟩:=Ci.cell
  have If:=kf 1
  have Jk:=fU.pre.k200
  obtain ⟨W2,fb⟩:=zzN (wr.setCell ⟨ww,1,none⟩ (.int .i64 (s+1)))
  have tE:Wri W2 ww (k:Nat) (s+1):=by unfold Wri at *;rw [<- fb,zy Ci];rfl
  have fY:But (· = ww) wr W2:=by rw [<- fb];exact (But.refl (· = ww) wr).setCell (p:=⟨ww,1,none⟩) (.inl rfl) _
  have hww:=fU.hww
  have Ga:W2.heap[w.heap.size]? = some (.cells #[str s0,.int .i64 v0,.slice a1 n1 c1,.slice a2 n2 c2] 48 (0,0)):=by
   have hx:=fU.box
   rw [fY.block _ (zZ hx) (by omega)];exact hx
  have mY:z9 (w.heap.size+1) 0 (.slice none 0 0) (.slice none 0 0) W2:=fU.res.but fY (by omega)
  obtain ⟨m0,m1,mf,mlt⟩:=tE.cell
  have mf0:=mf 0
  have mS:=ed (ef hdD (ef hRe (ef hlm (ef hs fU))))
  have H2:=ed (ef fb (ef tE (ef fY (ef Ga mY))))
  obtain ⟨y0,y1,y2,y3⟩:=kP Ga
  clear hdD hRe hlm hs fU fb tE fY Ga mY Ci kf mf
  by_cases D0:k=0\/l=0
  ·have HB:=ed D0
   have EP:R=none:=by
    rw [mS.out.2.1]
    rcases D0 with h | h
    ·rw [h];exact evN_zk
    ·rw [h];exact evN_zl
   obtain ⟨W3,mG⟩:=zzN (W2.setCell ⟨ww,0,none⟩ (.int .i64 (-1)))
   have sj:Wri W3 ww (-1) (s+1):=by have:=H2.out.2.1;unfold Wri at *;rw [<- mG,zy this];rfl
   have fE:But (· = ww) W2 W3:=by rw [<- mG];exact (But.refl (· = ww) W2).setCell (p:=⟨ww,0,none⟩) (.inl rfl) _
   have mK:z9 (w.heap.size+1) 0 (.slice none 0 0) (.slice none 0 0) W3:=H2.out.2.2.2.2.but fE (by omega)
   obtain ⟨r0,r1,r2,r3,rlt,rf⟩:=mK.cells
   have mg:=rf 0;have nD:=rf 1;have rG:=rf 2;have sh:=rf 3
   have nE:=xA (F:=F) (ww:=ww) (D:=20001+20*(D:Int)) (o:=R) (s:=[117]) (v:=0) (a1:=none) (n1:=0) (c1:=0) (a2:=none) (n2:=0) (c2:=0) ((mS.out.2.2.2.2.but.trans H2.out.2.2.1).trans fE) hww mK (fun _=>⟨s+1,sj,by omega,by omega⟩) (fun x hx=>by rw [EP] at hx;simp at hx)
   have HQ:=ed (ef mG nE)
   clear mG sj fE mK rf EP nE
   rcases D0 with hk | hl
   ·subst hk
    have m0':W2.cell? ⟨ww,0,none⟩=some (.int .i64 0):=m0
    have k0':wr.cell? ⟨ww,0,none⟩=some (.int .i64 0):=k0
    clear m0 k0
    go_upto_region 2 with (fail)
    rw [H2.out.1]
    go_upto_region 4 with (fail)
    rw [HQ.out.1]
    go_wp2_with fail
    obtain ⟨W4,rF,f_,fe,f7,mQ,hp⟩:=HQ.out.2
    rw [show (Value.string ⟨#[117]⟩)=str [117] from rfl,<- rF]
    exact bodyPost_ret (v:=.agg #[str [117],.int .i64 0,.slice none 0 0,.slice none 0 0]) (by simp [results,Tryz.results67,go_sem,f_,fe,f7,mQ]) rfl hp
   ·by_cases hk:k=0
    ·subst hk
     have m0':W2.cell? ⟨ww,0,none⟩=some (.int .i64 0):=m0
     have k0':wr.cell? ⟨ww,0,none⟩=some (.int .i64 0):=k0
     clear m0 k0
     go_upto_region 2 with (fail)
     rw [H2.out.1]
     go_upto_region 4 with (fail)
     rw [HQ.out.1]
     go_wp2_with fail
     obtain ⟨W4,rF,f_,fe,f7,mQ,hp⟩:=HQ.out.2
     rw [show (Value.string ⟨#[117]⟩)=str [117] from rfl,<- rF]
     exact bodyPost_ret (v:=.agg #[str [117],.int .i64 0,.slice none 0 0,.slice none 0 0]) (by simp [results,Tryz.results67,go_sem,f_,fe,f7,mQ]) rfl hp
    ·have Dl:¬ ((k:Int)<1):=by omega
     have iU:(20000:Int)<s+1:=by have:=mS.out.2.2.2.1;omega
     go_upto_region 2 with (fail)
     rw [H2.out.1]
     go_upto_region 4 with (fail)
     rw [HQ.out.1]
     go_wp2_with fail
     obtain ⟨W4,rF,f_,fe,f7,mQ,hp⟩:=HQ.out.2
     rw [show (Value.string ⟨#[117]⟩)=str [117] from rfl,<- rF]
     exact bodyPost_ret (v:=.agg #[str [117],.int .i64 0,.slice none 0 0,.slice none 0 0]) (by simp [results,Tryz.results67,go_sem,f_,fe,f7,mQ]) rfl hp
  ·obtain ⟨k,rfl⟩:∃ k',k=k'+1:=⟨k-1,by omega⟩
   obtain ⟨l,rfl⟩:∃ l',l=l'+1:=⟨l-1,by omega⟩
   obtain ⟨d,rfl⟩:∃ d',d=d'+1:=⟨d-1,by have:=mS.out.2.2.2.2.pre.ld;omega⟩
   have m0':W2.cell? ⟨ww,0,none⟩=some (.int .i64 ((k:Int)+1)):=by rw [m0];rfl
   have Dl:¬ ((k:Int)+1<1):=by omega
   have iU:¬ ((20000:Int)<s+1):=by have:=mS.out.2.2.2.1;omega
   have mm:s+1=20000-(l:Int):=by have:=mS.out.2.2.2.1;omega
   have EX:=ed mm
   have aD:=mS.out.2.2.2.2.pre.rb.but H2.out.2.2.1 (F':=Fx F w 2) (fun i hi=>⟨mS.out.2.2.2.2.pre.hF i hi,hi⟩)
   clear m0 mm D0 hl20
   have re2:=mS.out.2.2.2.2.pre.re.but H2.out.2.2.1 (F':=Fx F w 2) (fun i hi=>⟨mS.out.2.2.2.2.pre.hF i hi,hi⟩)
   have rs2:=mS.out.2.2.2.2.pre.rs.but H2.out.2.2.1 (F':=Fx F w 2) (fun i hi=>⟨mS.out.2.2.2.2.pre.hF i hi,hi⟩)
   have aB:=ed (ef aD (ef re2 rs2))
   obtain ⟨bv,bx2,bk2,bx3,bk3,ebx,-,-⟩:=vB aD
   simp only [List.cons.injEq,Value.int.injEq,Value.slice.injEq,and_true,true_and] at ebx
   obtain ⟨eat,rfl,⟨rfl,ek2,rfl⟩,rfl,ek3,rfl⟩:=ebx
   obtain ⟨sa,scap,esv⟩:∃ a c,u3=.slice a st.length c:=by have h:=rs2;rw [zp] at h;obtain ⟨_,a,c,e,_⟩:=h;exact ⟨a,c,e⟩
   clear aD re2 rs2
   cases b with
   | leaf c =>
     have JZ:jb (.leaf c)=[c]:=rfl
     rw [eat,JZ] at y0
     have EAT:=ed eat
     subst esv
     by_cases Cs:c=117
     ·subst Cs
      have Ds:R=some (.leaf 117,k,l):=by rw [mS.out.2.1];exact evN_u
      obtain ⟨W3,mG⟩:=zzN (W2.setCell ⟨ww,0,none⟩ (.int .i64 (k:Nat)))
      have sj:Wri W3 ww (k:Nat) (s+1):=by have:=H2.out.2.1;unfold Wri at *;rw [<- mG,zy this];rfl
      have fE:But (· = ww) W2 W3:=by rw [<- mG];exact (But.refl (· = ww) W2).setCell (p:=⟨ww,0,none⟩) (.inl rfl) _
      have mK:z9 (w.heap.size+1) 0 (.slice none 0 0) (.slice none 0 0) W3:=H2.out.2.2.2.2.but fE (by omega)
      obtain ⟨r0,r1,r2,r3,rlt,rf⟩:=mK.cells
      have mg:=rf 0;have nD:=rf 1;have rG:=rf 2;have sh:=rf 3
      have x0:W3.cell? ⟨w.heap.size,0,none⟩=some (.string ⟨#[117]⟩):=(fE.cell (p:=⟨w.heap.size,0,none⟩) (e9 W2 _ y0) (by show w.heap.size≠ww;omega)).trans y0
      have y0':W2.cell? ⟨w.heap.size,0,none⟩=some (.string ⟨#[117]⟩):=y0
      have nE:=xA (F:=F) (ww:=ww) (D:=20001+20*(D:Int)) (o:=R) (s:=[117]) (v:=0) (a1:=none) (n1:=0) (c1:=0) (a2:=none) (n2:=0) (c2:=0) ((mS.out.2.2.2.2.but.trans H2.out.2.2.1).trans fE) hww mK (fun h=>by rw [Ds] at h;simp at h)
       (fun x hx=>by rw [Ds] at hx;simp only [Option.some.injEq] at hx;subst hx;exact ⟨by rw [<- EX.out];exact sj,cP _ _ _⟩)
      have HQ:=ed (ef mG nE)
      clear mG sj fE mK rf Ds nE y0
      go_upto_region 2 with (fail)
      rw [H2.out.1]
      go_upto_region 7 with (fail)
      rw [HQ.out.1]
      go_wp2_with fail
      obtain ⟨W4,rF,f_,fe,f7,mQ,hp⟩:=HQ.out.2
      rw [show (Value.string ⟨#[117]⟩)=str [117] from rfl,<- rF]
      exact bodyPost_ret (v:=.agg #[str [117],.int .i64 0,.slice none 0 0,.slice none 0 0]) (by simp [results,Tryz.results67,go_sem,f_,fe,f7,mQ]) rfl hp
     ·obtain ⟨S,He⟩:∃ S:Bs,S=[c]:=⟨_,rfl⟩
      rw [<- He] at y0
      have e117:(S == [117])=false:=by rw [beq_eq_false_iff_ne,He];simpa using Cs
      have ene:(S != [])=true:=by rw [bne_iff_ne,He];simp
      have ene2:(!S.isEmpty)=true:=by rw [He];rfl
      have HS1:=ed He;clear He
      cases st with
      | nil =>
        have Ds:R=some (.leaf c,k,l):=by rw [mS.out.2.1];exact evN_end
        obtain ⟨W3,mG⟩:=zzN (W2.setCell ⟨ww,0,none⟩ (.int .i64 (k:Nat)))
        have sj:Wri W3 ww (k:Nat) (s+1):=by have:=H2.out.2.1;unfold Wri at *;rw [<- mG,zy this];rfl
        have fE:But (· = ww) W2 W3:=by rw [<- mG];exact (But.refl (· = ww) W2).setCell (p:=⟨ww,0,none⟩) (.inl rfl) _
        have mK:z9 (w.heap.size+1) 0 (.slice none 0 0) (.slice none 0 0) W3:=H2.out.2.2.2.2.but fE (by omega)
        obtain ⟨r0,r1,r2,r3,rlt,rf⟩:=mK.cells
        have mg:=rf 0;have nD:=rf 1;have rG:=rf 2;have sh:=rf 3
        have x0:W3.cell? ⟨w.heap.size,0,none⟩=some (str S):=(fE.cell (p:=⟨w.heap.size,0,none⟩) (e9 W2 _ y0) (by show w.heap.size≠ww;omega)).trans y0
        have nE:=xA (F:=F) (ww:=ww) (D:=20001+20*(D:Int)) (o:=R) (s:=S) (v:=0) (a1:=none) (n1:=0) (c1:=0) (a2:=none) (n2:=0) (c2:=0) ((mS.out.2.2.2.2.but.trans H2.out.2.2.1).trans fE) hww mK (fun h=>by rw [Ds] at h;simp at h)
         (fun x hx=>by rw [Ds] at hx;simp only [Option.some.injEq] at hx;subst hx;exact ⟨by rw [<- EX.out];exact sj,by rw [HS1.out];exact cP _ _ _⟩)
        have HQ:=ed (ef mG nE)
        clear mG sj fE mK rf Ds nE
        rw [List.length_nil]
        go_upto_region 2 with (fail)
        rw [H2.out.1]
        go_upto_region 7 with (fail)
        rw [HQ.out.1]
        go_wp2_with fail
        obtain ⟨W4,rF,f_,fe,f7,mQ,hp⟩:=HQ.out.2
        rw [<- rF]
        exact bodyPost_ret (v:=.agg #[str S,.int .i64 0,.slice none 0 0,.slice none 0 0]) (by simp [results,Tryz.results67,go_sem,f_,fe,f7,mQ]) rfl hp
      | cons f st =>
        obtain ⟨tb,tO,tcap,nS,nB,rY,nH,ea,ec,etop,hFt,iN,hcap,t0,t1,t2,t3,t4,t5,Ez,BL,rU⟩:=top_rep (st:=st) aB.out.2.2
        simp only [List.length_cons,Value.slice.injEq,true_and] at etop
        obtain ⟨rfl,rfl⟩:=etop
        have hk:∃ i:Nat,i<2/\(i=1↔c=102):=by
         by_cases h:c=102
         ·exact ⟨1,by omega,by simp [h]⟩
         ·exact ⟨0,by omega,by simp [h]⟩
        obtain ⟨i,G4,AD⟩:=hk
        have DW:c=116\/c=102:=by
         have h:=mS.out.2.2.2.2.pre.wf.1
         rw [wfB] at h
         rcases h with h | h | h
         ·exact .inl h
         ·exact .inr h
         ·exact absurd h Cs
        obtain ⟨pa,pc,ep,IW⟩:=pm.of (bs:=[f.yes,f.no]) Ez
        simp only [Value.slice.injEq] at ep
        obtain ⟨rfl,_,rfl⟩:=ep
        obtain ⟨pb,po,ns,nv,mV,m_,mJ,GO,nn3,GN,nx,e,hpb,A2,p0,p1,p2,p3,Aa⟩:=IW i G4
        subst e
        obtain ⟨nv',na2',nc2',na3',nc3',en,_,_⟩:=vB Aa
        simp only [List.cons.injEq,Value.int.injEq,Value.slice.injEq,and_true,true_and] at en
        obtain ⟨ens,rfl,⟨rfl,rfl,rfl⟩,rfl,rfl,rfl⟩:=en
        rw [ens] at p0 Aa
        have I5:(if c=116 then (WFr.gf f).yes else (WFr.gf f).no)=nx:=by
         rcases (by omega:i=0\/i=1) with rfl | rfl
         ·have:¬ c=102:=fun h=>by have:=AD.2 h;omega
          have h116:c=116:=DW.resolve_right this
          simp at A2;rw [if_pos h116];exact A2
         ·have h102:c=102:=AD.1 rfl
          have:¬ c=116:=by rw [h102];decide
          simp at A2;rw [if_neg this];exact A2
        have HF:=ed (ef Aa (ef BL (ef rU (ef AD I5))))
        have DE:=mS.out.2.2.2.2.pre.stl
        rw [List.length_cons] at DE ⊢
        clear Aa BL rU I5 A2 Ez IW ens DW
        have DK:(((st.length:Int)+1) == 0)=false:=by rw [beq_eq_false_iff_ne];omega
        have A0:(st.length:Int)<=(scap:Int):=by omega
        rcases (by omega:i=0\/i=1) with rfl | rfl
        ·have AD:¬ c=102:=fun h=>by have:=HF.out.2.2.2.1.2 h;omega
         simp only [Nat.zero_mul,Nat.add_zero] at p0 p1 p2 p3
         have e102:(S == [102])=false:=by rw [beq_eq_false_iff_ne,HS1.out];have:=AD;simpa using this
         go_upto_region 2 with (fail)
         rw [H2.out.1]
         go_upto_region 13 with (fail)
         obtain ⟨W3,mG⟩:=zzN (W2.alloc (.cells #[str [],.int .i64 (f.v:Nat),.slice nS f.ss.length nB,.slice (some ⟨pb,po,none⟩) 2 nH,.slice ea f.env.length ec,.int .i64 0] 146))
         rw [mG]
         have sX:W3.heap.size=W2.heap.size+1:=by rw [<- mG];exact zK _ _
         have fE:Below W2.heap.size W2 W3:=by rw [<- mG];exact (e_ _ _).alloc (ei _) _
         have u3':W3.cell? ⟨W2.heap.size,3,none⟩=some (.slice (some ⟨pb,po,none⟩) 2 nH):=by rw [<- mG];simp
         have E4:W3.cell? ⟨W2.heap.size,4,none⟩=some (.slice ea f.env.length ec):=by rw [<- mG];simp
         have r0:W3.cell? ⟨pb,po,none⟩=some (str (jb nx)):=by rw [<- mG];exact zJ p0
         have r1:W3.cell? ⟨pb,po+1,none⟩=some (.int .i64 nv):=by rw [<- mG];exact zJ p1
         have r2:W3.cell? ⟨pb,po+2,none⟩=some (.slice mV (qA nx).length mJ):=by rw [<- mG];exact zJ p2
         have r3:W3.cell? ⟨pb,po+3,none⟩=some (.slice GO (jX nx).length GN):=by rw [<- mG];exact zJ p3
         have iQ:W3.heap[w.heap.size]? = some (.cells #[str s0,.int .i64 v0,.slice a1 n1 c1,.slice a2 n2 c2] 48 (0,0)):=by rw [<- mG];exact zY H2.out.2.2.2.1
         have E3:W3.cell? ⟨w.heap.size,0,none⟩=some (str s0):=by simp [World.cell?,iQ]
         have v1':W3.cell? ⟨w.heap.size,1,none⟩=some (.int .i64 v0):=by simp [World.cell?,iQ]
         have v2':W3.cell? ⟨w.heap.size,2,none⟩=some (.slice a1 n1 c1):=by simp [World.cell?,iQ]
         have v3':W3.cell? ⟨w.heap.size,3,none⟩=some (.slice a2 n2 c2):=by simp [World.cell?,iQ]
         have f0:W3.frozen? ⟨w.heap.size,0,none⟩=false:=by simp [World.frozen?,iQ]
         have f1:W3.frozen? ⟨w.heap.size,1,none⟩=false:=by simp [World.frozen?,iQ]
         have f2:W3.frozen? ⟨w.heap.size,2,none⟩=false:=by simp [World.frozen?,iQ]
         have f3:W3.frozen? ⟨w.heap.size,3,none⟩=false:=by simp [World.frozen?,iQ]
         have H3:=ed (ef mG (ef sX (ef fE iQ)));clear mG sX fE iQ t0 t1 t2 t3 t4 t5 p0 p1 p2 p3 y0 y1 y2 y3
         go_upto_region 15 with (fail)
         obtain ⟨W4,rF⟩:=zzN (u9 w.heap.size (str (jb nx)) (.int .i64 nv) (.slice mV (qA nx).length mJ) (.slice GO (jX nx).length GN) W3)
         have iO:=rF
         unfold u9 at iO
         rw [iO]
         have fU:=mS.out.2.2.2.2
         have lh:=fU.zw
         have nJ:=H2.out.2.2.1.size
         have fx:But (fun i=>i=w.heap.size) W3 W4:=by rw [<- rF];exact xU (But.refl _ _) rfl
         have u4'':W4.cell? ⟨W2.heap.size,4,none⟩=some (.slice ea f.env.length ec):=(fx.cell (p:=⟨W2.heap.size,4,none⟩) (e9 W3 _ E4) (by show W2.heap.size≠w.heap.size;omega)).trans E4
         have lP:W4.heap[w.heap.size]? = some (.cells #[str (jb nx),.int .i64 nv,.slice mV (qA nx).length mJ,.slice GO (jX nx).length GN] 48 (0,0)):=by rw [<- rF];exact xr H3.out.2.2.2
         have oR:But (fun i=>i=ww\/i=w.heap.size) W2 W4:=(But.ofBelow (m:=fun i=>i=ww\/i=w.heap.size) H3.out.2.2.1).trans (fx.weak fun i _ h=>.inr h)
         have li:Wri W4 ww ((k+1:Nat):Int) (20000-(l:Nat)):=by
          have h:=H2.out.2.1
          unfold Wri at *
          rw [fx.block ww (by have:=H3.out.2.1;omega) (by show ww≠w.heap.size;omega),H3.out.2.2.1.block ww (by omega),h,EX.out]
         have kp:∀ (i:Nat) (o:Obj),Fx F w 2 i->W2.heap[i]? = some o->Fx F w 2 i/\W4.heap[i]? = some o:=fun i o hi ho=>by
          have hx:=Fx.low' fU.pre.hF hi (by omega)
          exact ⟨hi,by rw [oR.block i (zZ ho) (fun e=>e.elim hx.1 hx.2)];exact ho⟩
         have fi:=fU.move (b':=nx) (env':=f.env) (st':=st) ((H2.out.2.2.1.weak fun i _ h=>.inl h).trans oR) li lP (by have:=fU.pre.fit.back c;rw [show (if c=116 then (WFr.gf f).yes else (WFr.gf f).no)=nx from HF.out.2.2.2.2] at this;exact this)
          (by have:=fU.pre.okg.1;have:=fU.pre.ld;have:=fU.pre.d20;show f.env.length+16*d<=1000000;have h9:f.env.length<=1000000-16*(d+1):=fU.pre.okg.1;omega) (by have:=fU.pre.stl;rw [List.length_cons] at this;omega) (k9 (by omega) _ fU.pre.okg.2.1) (vG (by omega) _ fU.pre.okg.2.2)
          (by
           have h1:=fU.pre.wf.2.2 (WFr.gf f) (by simp)
           refine ⟨?_,h1.2.2,fun g hg=>fU.pre.wf.2.2 g (by rw [List.map_cons];exact List.mem_cons_of_mem _ hg)⟩
           rw [<- show (if c=116 then (WFr.gf f).yes else (WFr.gf f).no)=nx from HF.out.2.2.2.2]
           split
           ·exact h1.1
           ·exact h1.2.1)
          ((Rep.keep kp).2 _ _ HF.out.1) ((Rep.keep kp).1 _ _ HF.out.2.1) ((Rep.keep kp).1 _ _ HF.out.2.2.1)
         have An:R=evN d (k+1) l nx f.env n (st.map WFr.gf):=by
          rw [mS.out.2.1,List.map_cons,evN_back Cs]
          rw [show (if c=116 then (WFr.gf f).yes else (WFr.gf f).no)=nx from HF.out.2.2.2.2];rfl
         have HN:=ed (ef fi (ef An li))
         clear fi An li kp oR lP fx iO rF fU nJ lh u3' E4 r0 r1 r2 r3 E3 v1' v2' v3' f0 f1 f2 f3
         go_wp2_with fail
         go_roundw
         case rel=>exact ⟨d,l,nx,f.env,st,_,_,_,_,_,_,_,_,by have:=mS.out.1;omega,HN.out.2.1,HN.out.1⟩
         case measure =>
          rw [mS.out.2.2.1]
          refine Nat.lt_of_le_of_lt (Nat.le_of_eq (xg HN.out.2.2)) ?_
          omega
        ·have AD:c=102:=HF.out.2.2.2.1.1 rfl
         simp only [Nat.one_mul,Nat.add_assoc,Nat.reduceAdd] at p0 p1 p2 p3
         have e102:(S == [102])=true:=by rw [beq_iff_eq,HS1.out];have:=AD;simpa using this
         go_upto_region 2 with (fail)
         rw [H2.out.1]
         go_upto_region 13 with (fail)
         obtain ⟨W3,mG⟩:=zzN (W2.alloc (.cells #[str [],.int .i64 (f.v:Nat),.slice nS f.ss.length nB,.slice (some ⟨pb,po,none⟩) 2 nH,.slice ea f.env.length ec,.int .i64 0] 146))
         rw [mG]
         have sX:W3.heap.size=W2.heap.size+1:=by rw [<- mG];exact zK _ _
         have fE:Below W2.heap.size W2 W3:=by rw [<- mG];exact (e_ _ _).alloc (ei _) _
         have u3':W3.cell? ⟨W2.heap.size,3,none⟩=some (.slice (some ⟨pb,po,none⟩) 2 nH):=by rw [<- mG];simp
         have E4:W3.cell? ⟨W2.heap.size,4,none⟩=some (.slice ea f.env.length ec):=by rw [<- mG];simp
         have r0:W3.cell? ⟨pb,po+4,none⟩=some (str (jb nx)):=by rw [<- mG];exact zJ p0
         have r1:W3.cell? ⟨pb,po+5,none⟩=some (.int .i64 nv):=by rw [<- mG];exact zJ p1
         have r2:W3.cell? ⟨pb,po+6,none⟩=some (.slice mV (qA nx).length mJ):=by rw [<- mG];exact zJ p2
         have r3:W3.cell? ⟨pb,po+7,none⟩=some (.slice GO (jX nx).length GN):=by rw [<- mG];exact zJ p3
         have iQ:W3.heap[w.heap.size]? = some (.cells #[str s0,.int .i64 v0,.slice a1 n1 c1,.slice a2 n2 c2] 48 (0,0)):=by rw [<- mG];exact zY H2.out.2.2.2.1
         have E3:W3.cell? ⟨w.heap.size,0,none⟩=some (str s0):=by simp [World.cell?,iQ]
         have v1':W3.cell? ⟨w.heap.size,1,none⟩=some (.int .i64 v0):=by simp [World.cell?,iQ]
         have v2':W3.cell? ⟨w.heap.size,2,none⟩=some (.slice a1 n1 c1):=by simp [World.cell?,iQ]
         have v3':W3.cell? ⟨w.heap.size,3,none⟩=some (.slice a2 n2 c2):=by simp [World.cell?,iQ]
         have f0:W3.frozen? ⟨w.heap.size,0,none⟩=false:=by simp [World.frozen?,iQ]
         have f1:W3.frozen? ⟨w.heap.size,1,none⟩=false:=by simp [World.frozen?,iQ]
         have f2:W3.frozen? ⟨w.heap.size,2,none⟩=false:=by simp [World.frozen?,iQ]
         have f3:W3.frozen? ⟨w.heap.size,3,none⟩=false:=by simp [World.frozen?,iQ]
         have H3:=ed (ef mG (ef sX (ef fE iQ)));clear mG sX fE iQ t0 t1 t2 t3 t4 t5 p0 p1 p2 p3 y0 y1 y2 y3
         go_upto_region 15 with (fail)
         obtain ⟨W4,rF⟩:=zzN (u9 w.heap.size (str (jb nx)) (.int .i64 nv) (.slice mV (qA nx).length mJ) (.slice GO (jX nx).length GN) W3)
         have iO:=rF
         unfold u9 at iO
         rw [iO]
         have fU:=mS.out.2.2.2.2
         have lh:=fU.zw
         have nJ:=H2.out.2.2.1.size
         have fx:But (fun i=>i=w.heap.size) W3 W4:=by rw [<- rF];exact xU (But.refl _ _) rfl
         have u4'':W4.cell? ⟨W2.heap.size,4,none⟩=some (.slice ea f.env.length ec):=(fx.cell (p:=⟨W2.heap.size,4,none⟩) (e9 W3 _ E4) (by show W2.heap.size≠w.heap.size;omega)).trans E4
         have lP:W4.heap[w.heap.size]? = some (.cells #[str (jb nx),.int .i64 nv,.slice mV (qA nx).length mJ,.slice GO (jX nx).length GN] 48 (0,0)):=by rw [<- rF];exact xr H3.out.2.2.2
         have oR:But (fun i=>i=ww\/i=w.heap.size) W2 W4:=(But.ofBelow (m:=fun i=>i=ww\/i=w.heap.size) H3.out.2.2.1).trans (fx.weak fun i _ h=>.inr h)
         have li:Wri W4 ww ((k+1:Nat):Int) (20000-(l:Nat)):=by
          have h:=H2.out.2.1
          unfold Wri at *
          rw [fx.block ww (by have:=H3.out.2.1;omega) (by show ww≠w.heap.size;omega),H3.out.2.2.1.block ww (by omega),h,EX.out]
         have kp:∀ (i:Nat) (o:Obj),Fx F w 2 i->W2.heap[i]? = some o->Fx F w 2 i/\W4.heap[i]? = some o:=fun i o hi ho=>by
          have hx:=Fx.low' fU.pre.hF hi (by omega)
          exact ⟨hi,by rw [oR.block i (zZ ho) (fun e=>e.elim hx.1 hx.2)];exact ho⟩
         have fi:=fU.move (b':=nx) (env':=f.env) (st':=st) ((H2.out.2.2.1.weak fun i _ h=>.inl h).trans oR) li lP (by have:=fU.pre.fit.back c;rw [show (if c=116 then (WFr.gf f).yes else (WFr.gf f).no)=nx from HF.out.2.2.2.2] at this;exact this)
          (by have:=fU.pre.okg.1;have:=fU.pre.ld;have:=fU.pre.d20;show f.env.length+16*d<=1000000;have h9:f.env.length<=1000000-16*(d+1):=fU.pre.okg.1;omega) (by have:=fU.pre.stl;rw [List.length_cons] at this;omega) (k9 (by omega) _ fU.pre.okg.2.1) (vG (by omega) _ fU.pre.okg.2.2)
          (by
           have h1:=fU.pre.wf.2.2 (WFr.gf f) (by simp)
           refine ⟨?_,h1.2.2,fun g hg=>fU.pre.wf.2.2 g (by rw [List.map_cons];exact List.mem_cons_of_mem _ hg)⟩
           rw [<- show (if c=116 then (WFr.gf f).yes else (WFr.gf f).no)=nx from HF.out.2.2.2.2]
           split
           ·exact h1.1
           ·exact h1.2.1)
          ((Rep.keep kp).2 _ _ HF.out.1) ((Rep.keep kp).1 _ _ HF.out.2.1) ((Rep.keep kp).1 _ _ HF.out.2.2.1)
         have An:R=evN d (k+1) l nx f.env n (st.map WFr.gf):=by
          rw [mS.out.2.1,List.map_cons,evN_back Cs]
          rw [show (if c=116 then (WFr.gf f).yes else (WFr.gf f).no)=nx from HF.out.2.2.2.2];rfl
         have HN:=ed (ef fi (ef An li))
         clear fi An li kp oR lP fx iO rF fU nJ lh u3' E4 r0 r1 r2 r3 E3 v1' v2' v3' f0 f1 f2 f3
         go_wp2_with fail
         go_roundw
         case rel=>exact ⟨d,l,nx,f.env,st,_,_,_,_,_,_,_,_,by have:=mS.out.1;omega,HN.out.2.1,HN.out.1⟩
         case measure =>
          rw [mS.out.2.2.1]
          refine Nat.lt_of_le_of_lt (Nat.le_of_eq (xg HN.out.2.2)) ?_
          omega
   | ask v ss y no =>
     subst esv
     have nF:=mS.out.2.2.2.2.pre.fit
     obtain ⟨m,t,hh,hm,FU,-,-,-,-⟩:=nF.ask
     have tB:=aB.out.1
     rw [yN] at tB
     simp only [zQ,zC] at tB
     obtain ⟨_,_,e0,lI,_,_,rfl,se,_,_,rfl,fA,_,_,rfl,Dy,rfl⟩:=tB
     simp only [List.cons.injEq,and_true] at e0
     obtain ⟨rfl,rfl,rfl,rfl⟩:=e0
     rw [zH] at lI se
     rw [lI] at y0
     rw [se] at y1
     simp only [Value.int.injEq,true_and] at se
     subst se
     obtain ⟨-,ka,kc,ek,-⟩:=zp.1 fA
     simp only [Value.slice.injEq] at ek
     obtain ⟨rfl,rfl,rfl⟩:=ek
     obtain ⟨-,ya,yc,ey,-⟩:=zp.1 Dy
     simp only [Value.slice.injEq] at ey
     obtain ⟨rfl,rfl,rfl⟩:=ey
     have hs00:s0=[]:=by simpa [str] using lI
     subst hs00
     have HK:=ed (ef fA (ef Dy (ef lI nF)))
     clear fA Dy lI nF eat ek2 ek3
     cases m with
     | op o t' =>
       have ett:t'=t:=by rw [xB] at FU;exact FU.1
       subst ett
       obtain ⟨eb,eo,ecap,ta,tc,i0,e,F7,hew,q0,q1,q2,q3,q4,q5,q6,q7,q8,DC⟩:=bound_op aB.out.2.1 hm
       subst e
       have HM:=ed (ef hm (ef FU DC));clear hm FU DC
       obtain ⟨W3,mG⟩:=zzN (W2.alloc (.cells #[.int .i64 (o:Nat),str [],.int .i64 0,.slice none 0 0,.slice none 0 0,.slice ta t'.args.length tc,.slice none 0 0,.int .i64 0,.int .i64 i0] 130))
       have fE:Below W2.heap.size W2 W3:=by rw [<- mG];exact (e_ _ _).alloc (ei _) _
       have sX:W3.heap.size=W2.heap.size+1:=by rw [<- mG];exact zK _ _
       have AI:=(fE.block _ (zZ H2.out.2.2.2.1)).trans H2.out.2.2.2.1
       obtain ⟨x0,x1,x2,x3⟩:=kP AI
       have z0:W3.cell? ⟨W2.heap.size,0,none⟩=some (.int .i64 (o:Nat)):=by rw [<- mG];simp
       have ho0:(0:Int)<=(o:Int):=by omega
       have mK:z9 (w.heap.size+1) 0 (.slice none 0 0) (.slice none 0 0) W3:=by
        have h:=H2.out.2.2.2.2
        unfold z9 at *
        rw [fE.block _ (zZ h)];exact h
       have Eq:=(List.getElem?_eq_some_iff.1 HM.out.1).1
       have se:(v:Int)<(env.length:Int):=by omega
       have fU:=mS.out.2.2.2.2
       have oW:=fU.pre.ld;have F8:=fU.pre.d20;have DE:=fU.pre.stl
       have k3:∀ (i:Nat) (ob:Obj),Fx F w 2 i->W2.heap[i]? = some ob->Fx F w 2 i/\W3.heap[i]? = some ob:=fun i ob hi hh=>⟨hi,by rw [fE.block i (zZ hh)];exact hh⟩
       have In:Wri W3 ww ((k:Nat)+1) (20000-(l:Nat)):=by
        have h:=H2.out.2.1
        unfold Wri at *
        rw [fE.block ww (zZ h),h,EX.out];rfl
       have C:=ed (keepN_any d (IH.out d (by have:=mS.out.1;omega)) (Fx F w 2) ww k l n v o H t' ss y no env st 0 a1 a2 c1 c2 (.slice (some ⟨eb,eo,none⟩) env.length ecap) (.slice sa st.length scap) W3
        { wri:=In,hF:=fU.pre.hF,ld:=by omega,d20:=by omega,k200:=by omega,hv:=HM.out.1,fit:=fU.pre.fit,hn:=fU.pre.hn,el:=fU.pre.el,nl:=fU.pre.nl,stl:=by omega,ok:=fU.pre.ok,okg:=fU.pre.okg,wf:=fU.pre.wf,
          rb:=(Rep.keep k3).2 _ _ aB.out.1,re:=(Rep.keep k3).1 _ _ aB.out.2.1,rs:=(Rep.keep k3).1 _ _ aB.out.2.2 })
       have Ds:R=xC d k l n o t' ss y no env (st.map WFr.gf):=by rw [mS.out.2.1];exact evN_op HM.out.1
       have H3:=ed (ef mG (ef fE (ef sX (ef mK Ds))))
       clear mG fE sX AI mK Eq fU In Ds k3 oW
       go_upto_region 2 with (fail)
       rw [H2.out.1]
       go_upto_region 17 with (fail)
       rw [H3.out.1]
       go_wp2_with fail
       (with_reducible refine C.out.mono ?_)
       rintro en w9 ⟨s9,v9,b1,p1,d1,b2,p2,d2,rfl,mB,oX,lm⟩
       have th:=H3.out.2.2.2.1.but mB (show ¬ (w.heap.size+1=ww) by omega)
       obtain ⟨r0,r1,r2,r3,rlt,rf⟩:=th.cells
       have mg:=rf 0;have nD:=rf 1;have rG:=rf 2;have sh:=rf 3
       have nE:=xA (F:=F) (ww:=ww) (D:=20001+20*(D:Int)) (o:=R) (s:=s9) (v:=v9) (a1:=b1) (n1:=p1) (c1:=d1) (a2:=b2) (n2:=p2) (c2:=d2) (((mS.out.2.2.2.2.but.trans H2.out.2.2.1).trans (But.ofBelow H3.out.2.1)).trans mB) hww th
        (fun h=>by
         obtain ⟨st',u1,u2,u3⟩:=oX (by rw [<- H3.out.2.2.2.2];exact h)
         exact ⟨st',u1,u2,by have:=mS.out.1;omega⟩)
        (fun x hx=>by
         obtain ⟨u1,u2⟩:=lm x (by rw [<- H3.out.2.2.2.2];exact hx)
         refine ⟨u1,(Rep.keep fun i ob hi hh=>⟨?_,hh⟩).2 _ _ u2⟩
         rcases hi with h | h
         ·exact h
         ·have h1:=H3.out.2.2.1
          have h2:=mS.out.2.2.2.2.zw
          have h3:=H2.out.2.2.1.size
          exact .inr (by omega))
       have HQ:=ed nE
       clear nE mB oX lm th rf
       go_wp2_with fail
       obtain ⟨W4,rF,f_,fe,f7,mQ,hp⟩:=HQ.out
       rw [<- rF]
       exact bodyPost_ret (v:=.agg #[str s9,.int .i64 v9,.slice b1 p1 d1,.slice b2 p2 d2]) (by simp [results,Tryz.results67,go_sem,f_,fe,f7,mQ]) rfl hp
     | bd t' b' e' =>
       have ett:t'=t:=by rw [xB] at FU;exact FU.1
       subst ett
       obtain ⟨eb,eo,ecap,ta,tc,bs,bv,nS,Cv,nB,rY,Cu,nH,ha,hcap,i0,e,F7,hew,q0,q1,q2,q3,q4,q5,q6,q7,q8,DC,mj,BL⟩:=bound_bd aB.out.2.1 hm
       subst e
       obtain ⟨Iz,EL⟩:=HK.out.2.2.2.call hm
       obtain ⟨xs,iu,mC⟩:=zO.ofRep aB.out.2.2 (p9 st)
       have mE:=pT _ mS.out.2.2.2.2.pre.ok v _ hm
       rw [okM] at mE
       have tP:=wfMs_at _ mS.out.2.2.2.2.pre.wf.2.1 v _ hm
       rw [wfM] at tP
       have fM:=(zo mE.1).2
       have IA:ss.length<=15:=by omega
       have al:=mS.out.2.2.2.2.pre.el
       have mH:e'.length<=1000000:=by have:=mE.2.1;omega
       have HM:=ed (ef hm (ef DC (ef mj (ef BL (ef Iz (ef EL (ef iu (ef mC (ef mE tP)))))))))
       clear hm FU DC mj BL Iz EL iu mC mE tP fM
       obtain ⟨W3,mG⟩:=zzN (W2.alloc (.cells #[.int .i64 (-1),str bs,.int .i64 bv,.slice nS Cv nB,.slice rY Cu nH,.slice ta t'.args.length tc,.slice ha e'.length hcap,.int .i64 0,.int .i64 i0] 130))
       have fE:Below W2.heap.size W2 W3:=by rw [<- mG];exact (e_ _ _).alloc (ei _) _
       have sX:W3.heap.size=W2.heap.size+1:=by rw [<- mG];exact zK _ _
       have AI:=(fE.block _ (zZ H2.out.2.2.2.1)).trans H2.out.2.2.2.1
       have JQ:W3.heap[W2.heap.size]? = some (.cells #[.int .i64 (-1),str bs,.int .i64 bv,.slice nS Cv nB,.slice rY Cu nH,.slice ta t'.args.length tc,.slice ha e'.length hcap,.int .i64 0,.int .i64 i0] 130 (0,0)):=by rw [<- mG];exact zG _ _
       obtain ⟨x0,x1,x2,x3⟩:=kP AI
       have z0:W3.cell? ⟨W2.heap.size,0,none⟩=some (.int .i64 (-1)):=by rw [<- mG];simp
       have Eq:=(List.getElem?_eq_some_iff.1 HM.out.1).1
       have se:(v:Int)<(env.length:Int):=by omega
       have hwB:w.heap.size<W3.heap.size:=by have:=mS.out.2.2.2.2.zw;have:=H2.out.2.2.1.size;omega
       have DE:st.length<=40000:=by have:=mS.out.2.2.2.2.pre.stl;omega
       have H3:=ed (ef mG (ef fE (ef sX (ef AI JQ))))
       have SX:Hid (∀ w',Below W3.heap.size W3 w'->w'.cell? ⟨w.heap.size,0,none⟩=some (str [])/\w'.cell? ⟨w.heap.size,1,none⟩=some (.int .i64 (v:Nat))/\w'.cell? ⟨w.heap.size,2,none⟩=some (.slice a1 ss.length c1)/\w'.cell? ⟨w.heap.size,3,none⟩=some (.slice a2 2 c2)):=by
        show ∀ w',_->_
        intro w' fN
        exact ⟨(fN.cell (by show w.heap.size<_;omega)).trans x0,(fN.cell (by show w.heap.size<_;omega)).trans x1,(fN.cell (by show w.heap.size<_;omega)).trans x2,(fN.cell (by show w.heap.size<_;omega)).trans x3⟩
       have SRC:Hid (∀ w',Below W3.heap.size W3 w'->zO 6 (.slice sa st.length scap) st.length xs w'):=by
        show ∀ w',_->_
        intro w' fN
        exact (HM.out.2.2.2.2.2.2.2.1.belowAll fE (ei _)).belowAll fN (ei _)
       clear mG fE sX AI JQ Eq x0 x1 x2 x3
       go_upto_region 2 with (fail)
       rw [H2.out.1]
       go_upto_region 17 with (fail)
       rw [H3.out.1]
       go_upto_region 19 with (fail)
       refine wp_region_noPanic ?_
       refine zB (fun w'=>Below W3.heap.size W3 w') (fun _=>false) (by kernel_rfl) ?_
       have fV:Below W3.heap.size W3 W3.drew:=Below.drew (e_ _ _)
       refine tk [1,3,4,5] fV ?_
       (intro d hd;simp [tkD] at hd;subst hd;simp only [tks,pQ,pZ,pS])
       iterate 4 (refine ⟨?_,?_,?_⟩;rotate_left;· (intro oi ho;simp at ho;subst ho;refine Or.inl ⟨by rfl,fun w' fB=>?_⟩;obtain ⟨e0,e1,e2,e3⟩:=SX.out w' fB;go_simp;try with_reducible rfl))
       refine k8 0 6 (by kernel_rfl) ?_ ?_
       ·(intro o0 ho K' hK;simp at ho;subst ho)
        go_simp
        (refine hK.out _ _ (fun _=>(fV.alloc (ei _) (.cells #[] 146))) ?_;clear hK K';try simp only [pQ,pN,pZ,pS])
        refine k8 2 6 (by kernel_rfl) ?_ ?_
        ·(intro o2 ho K' hK;simp at ho;subst ho)
         refine zE (by rfl) _ _ _ (by rfl) 146 (.agg #[str [],.int .i64 0,.slice none 0 0,.slice none 0 0,.slice none 0 0,.int .i64 0]) 6 104 Tryz.underlying132 Tryz.infoFW rfl (by decide) (.slice (some ⟨W3.heap.size,0,none⟩) 0 0) 0 [] (by rfl) (Own.litAt #[] 0 _ rfl (by decide) rfl) _ st.length xs (by rfl) (SRC.out _ (fV.alloc (ei _) (.cells #[] 146))) (by unfold maxLen;omega) (by omega) ?_
         intro a5 c5 w5 sM fv sN
         simp only [Nat.zero_add,List.nil_append] at sM sN ⊢
         have nX:Below W3.heap.size W3 w5:=(fV.alloc (ei _) (.cells #[] 146)).trans (fv.toBelow ((fV.alloc (ei _) (.cells #[] 146))).size fun i hi e=>by simp [Value.ownBlock] at e;omega)
         have iB:Hid (∀ g,(Value.slice a5 st.length c5).ownBlock=some g->W3.heap.size<=g):=fun g hg=>by rcases sN g hg with h | h;simp [Value.ownBlock] at h;omega;have h:g=W3.heap.size+1:=h.trans (zK _ _);omega
         (refine hK.out _ _ (fun _=>nX) ?_;clear hK K';try simp only [pQ,pN,pZ,pS])
         (refine on 6 ?_;intro o ho K' hK;simp at ho;subst ho;go_simp)
         (refine hK.out _ _ (fun _=>nX.alloc nX.size _) ?_;clear hK K';try simp only [pQ,pN,pZ,pS])
         (refine on 7 ?_;intro o ho K' hK;simp at ho;subst ho)
         refine zE (by rfl) _ _ _ (by rfl) 146 (.agg #[str [],.int .i64 0,.slice none 0 0,.slice none 0 0,.slice none 0 0,.int .i64 0]) 6 104 Tryz.underlying132 Tryz.infoFW rfl (by decide) (.slice a5 st.length c5) st.length xs (by rfl) (sM.alloc _) _ 1 [str [],.int .i64 (v:Nat),.slice a1 ss.length c1,.slice a2 2 c2,.slice (some ⟨eb,eo,none⟩) env.length ecap,.int .i64 0] (by rfl) (zO.lit1 #[str [],.int .i64 (v:Nat),.slice a1 ss.length c1,.slice a2 2 c2,.slice (some ⟨eb,eo,none⟩) env.length ecap,.int .i64 0] rfl (by simp [str,Value.oneCell']) _ (by rfl)) (by unfold maxLen;omega) (by omega) ?_
         intro a7 c7 w7 fu fW fR
         have nG:Below W3.heap.size W3 w7:=(nX.alloc nX.size (.cells #[str [],.int .i64 (v:Nat),.slice a1 ss.length c1,.slice a2 2 c2,.slice (some ⟨eb,eo,none⟩) env.length ecap,.int .i64 0] 146)).trans (fW.toBelow ((nX.alloc nX.size (.cells #[str [],.int .i64 (v:Nat),.slice a1 ss.length c1,.slice a2 2 c2,.slice (some ⟨eb,eo,none⟩) env.length ecap,.int .i64 0] 146))).size fun i hi e=>by have:=iB.out i e;omega)
         have nV:∀ g,(Value.slice a7 (st.length+1) c7).ownBlock=some g->W3.heap.size<=g:=fun g hg=>by rcases fR g hg with h | h;exact iB.out g h;exact fQ ((nX.alloc nX.size (.cells #[str [],.int .i64 (v:Nat),.slice a1 ss.length c1,.slice a2 2 c2,.slice (some ⟨eb,eo,none⟩) env.length ecap,.int .i64 0] 146))).size (Nat.le_of_eq h.symm)
         (refine hK.out _ _ (fun _=>nG) ?_;clear hK K';try simp only [pQ,pN,pZ,pS])
         (refine on 8 ?_;intro o ho K' hK;simp at ho;subst ho;go_simp)
         (refine hK.out _ _ (fun _=>nG) ?_;clear hK K';try simp only [pQ,pN,pZ,pS])
         refine zU (by kernel_rfl) (NoPanic.normal ?_) _
         clear fv sN sM fW fR nX
         have H7:=ed (ef fu (ef nG nV));clear fu nG nV fV
         have sX:=H3.out.2.2.1
         have GQ:=H7.out.2.1.size
         have lh:=mS.out.2.2.2.2.zw
         have nJ:=H2.out.2.2.1.size
         have sH:=(H7.out.2.1.block W2.heap.size (by omega)).trans H3.out.2.2.2.2
         have aX:=(H7.out.2.1.block w.heap.size (by omega)).trans H3.out.2.2.2.1
         have g5:w7.cell? ⟨W2.heap.size,5,none⟩=some (.slice ta t'.args.length tc):=by simp [World.cell?,sH]
         have g6:w7.cell? ⟨W2.heap.size,6,none⟩=some (.slice ha e'.length hcap):=by simp [World.cell?,sH]
         have x2:w7.cell? ⟨w.heap.size,2,none⟩=some (.slice a1 ss.length c1):=by simp [World.cell?,aX]
         have k7:∀ (i:Nat) (ob:Obj),Fx F w 2 i->W2.heap[i]? = some ob->Fx F w 2 i/\w7.heap[i]? = some ob:=fun i ob hi hh=>by
          have hl:=zZ hh
          exact ⟨hi,by rw [H7.out.2.1.block i (by omega),H3.out.2.1.block i hl];exact hh⟩
         have CQ:=(gN (Fx F w 2) e' env ss t' (.slice ha e'.length hcap) (.slice a1 ss.length c1) (.slice ta t'.args.length tc) (.slice (some ⟨eb,eo,none⟩) env.length ecap) w7 ((Rep.keep k7).1 _ _ HM.out.2.2.2.1) ((Rep.keep k7).1 _ _ HK.out.1) ((Rep.keep k7).1 _ _ HM.out.2.1) ((Rep.keep k7).1 _ _ aB.out.2.1) (by omega) HM.out.2.2.2.2.1 (by omega))
         rw [show ((0:Nat):Int)=0 from rfl] at CQ
         have CH:=ed CQ;clear CQ
         have EU:=ed (ef sH (ef aX k7));clear sH aX k7 sX nJ
         go_wp2_with fail
         (with_reducible refine CH.out.mono ?_)
         rintro en w8 ⟨a8,c8,rfl,ft,sF⟩
         have sX:=H3.out.2.2.1
         have hz8:=ft.size
         have rK:=(ft.block W2.heap.size (by omega)).trans EU.out.1
         have fl:=(ft.block w.heap.size (by omega)).trans EU.out.2.1
         have p1:w8.cell? ⟨W2.heap.size,1,none⟩=some (str bs):=by simp [World.cell?,rK]
         have p2:w8.cell? ⟨W2.heap.size,2,none⟩=some (.int .i64 bv):=by simp [World.cell?,rK]
         have p3:w8.cell? ⟨W2.heap.size,3,none⟩=some (.slice nS Cv nB):=by simp [World.cell?,rK]
         have p4:w8.cell? ⟨W2.heap.size,4,none⟩=some (.slice rY Cu nH):=by simp [World.cell?,rK]
         have d0:w8.cell? ⟨w.heap.size,0,none⟩=some (str []):=by simp [World.cell?,fl]
         have d1:w8.cell? ⟨w.heap.size,1,none⟩=some (.int .i64 (v:Nat)):=by simp [World.cell?,fl]
         have d2:w8.cell? ⟨w.heap.size,2,none⟩=some (.slice a1 ss.length c1):=by simp [World.cell?,fl]
         have d3:w8.cell? ⟨w.heap.size,3,none⟩=some (.slice a2 2 c2):=by simp [World.cell?,fl]
         have f0:w8.frozen? ⟨w.heap.size,0,none⟩=false:=by simp [World.frozen?,fl]
         have f1:w8.frozen? ⟨w.heap.size,1,none⟩=false:=by simp [World.frozen?,fl]
         have f2:w8.frozen? ⟨w.heap.size,2,none⟩=false:=by simp [World.frozen?,fl]
         have f3:w8.frozen? ⟨w.heap.size,3,none⟩=false:=by simp [World.frozen?,fl]
         have H8:=ed (ef ft (ef sF fl));clear ft sF rK fl g5 g6 x2 sX
         go_upto_region 22 with (fail)
         obtain ⟨W9,Am⟩:=zzN (u9 w.heap.size (str bs) (.int .i64 bv) (.slice nS Cv nB) (.slice rY Cu nH) w8)
         have iO:=Am
         unfold u9 at iO
         rw [iO]
         have fi:WAt F ww d (k+1) l n H b' (e'++owns env t'.args ss) (⟨v,ss,y,no,env⟩::st) bs bv nS rY Cv nB Cu nH (.slice a8 (e'.length+(owns env t'.args ss).length) c8) (.slice a7 (st.length+1) c7) w W9:=by
          have fU:=mS.out.2.2.2.2
          have nJ:=H2.out.2.2.1.size
          have sX:=H3.out.2.2.1
          have mB:But (fun i=>i=w.heap.size) w8 W9:=by rw [<- Am];exact xU (But.refl _ _) rfl
          have aH:But (fun i=>i=ww\/i=w.heap.size) W2 W9:=(((But.ofBelow (m:=fun i=>i=ww\/i=w.heap.size) H3.out.2.1).trans (But.ofBelow (H7.out.2.1))).trans (But.ofBelow H8.out.1)).trans (mB.weak fun i _ h=>.inr h)
          have hz9:=aH.size
          have aM:(owns env t'.args ss).length=t'.args.length:=xy _ _ HM.out.2.2.2.2.1
          have mE:=HM.out.2.2.2.2.2.2.2.2.1
          have tP:=HM.out.2.2.2.2.2.2.2.2.2
          have oW:=fU.pre.ld;have F8:=fU.pre.d20;have Eu:=fU.pre.stl
          have kp:∀ (i:Nat) (ob:Obj),Fx F w 2 i->W2.heap[i]? = some ob->Fx F w 2 i/\W9.heap[i]? = some ob:=fun i ob hi ho=>by
           have hx:=Fx.low' fU.pre.hF hi (by omega)
           exact ⟨hi,by rw [aH.block i (zZ ho) (fun e=>e.elim hx.1 hx.2)];exact ho⟩
          refine fU.move ((H2.out.2.2.1.weak fun i _ h=>.inl h).trans aH) ?_ (by rw [<- Am];exact xr H8.out.2.2) HM.out.2.2.2.2.2.1 (by rw [List.length_append,aM];have:=mE.2.1;have:=HM.out.2.2.2.2.1;omega) (by rw [List.length_cons];omega)
           (jD _ _ (k9 (by omega) _ mE.2.2) (xp (k9 (by omega) _ fU.pre.ok) (by omega) _ _ (zo mE.1).1)) ⟨by show env.length<=_;omega,k9 (by omega) _ fU.pre.ok,vG (by omega) _ fU.pre.okg⟩
           ⟨tP.1,jC _ _ tP.2 (xL fU.pre.wf.2.1 _ _ fU.pre.wf.1.1),fun f hf=>?_⟩ ((Rep.keep kp).2 _ _ HM.out.2.2.1) ?_ ?_
          ·have h:=H2.out.2.1
           unfold Wri at *
           rw [mB.block ww (by omega) (by show ww≠w.heap.size;omega),H8.out.1.block ww (by omega),H7.out.2.1.block ww (by omega),H3.out.2.1.block ww (by omega),h,EX.out]
          ·rw [List.map_cons] at hf
           rcases List.mem_cons.1 hf with rfl | hf
           ·exact ⟨fU.pre.wf.1.2.1,fU.pre.wf.1.2.2,fU.pre.wf.2.1⟩
           ·exact fU.pre.wf.2.2 f hf
          ·rw [List.length_append]
           refine (Rep.keep fun i ob hi ho=>?_).1 _ _ H8.out.2.1
           have hx:Fx F w 2 i:=by
            rcases hi with h | h
            ·exact h
            ·exact .inr (by omega)
           exact ⟨hx,by rw [mB.block i (zZ ho) (Fx.low' fU.pre.hF hx (by omega)).2];exact ho⟩
          ·rw [List.length_cons]
           refine (H7.out.1.keep (w':=W9) fun g o hg ho=>?_).rep (fun g hg=>.inr (by have:=H7.out.2.2 g hg;omega)) ?_
           ·have h1:=H7.out.2.2 g hg
            have h2:=zZ ho
            rw [mB.block g (by omega) (by omega),H8.out.1.block g h2];exact ho
           ·rw [uy]
            refine zX.append ((Rep.keep kp).2 _ _ HM.out.2.2.2.2.2.2.1) ?_
            rw [encF]
            exact zX.append ((Rep.keep kp).2 _ _ aB.out.1) (zQ.2 ⟨_,_,rfl,(Rep.keep kp).1 _ _ aB.out.2.1,zQ.2 ⟨_,_,rfl,zH.2 rfl,zC.2 rfl⟩⟩)
         have An:R=evN d (k+1) l b' (e'++owns env t'.args ss) n (List.map WFr.gf (⟨v,ss,y,no,env⟩::st)):=by
          rw [mS.out.2.1,evN_bd HM.out.1];rfl
         have HN:=ed (ef fi (ef An fi.pre.wri))
         clear fi An iO Am p1 p2 p3 p4 d0 d1 d2 d3 f0 f1 f2 f3
         go_wp2_with fail
         go_roundw
         case rel=>exact ⟨d,l,b',_,_,_,_,_,_,_,_,_,_,by have:=mS.out.1;omega,HN.out.2.1,HN.out.1⟩
         case measure =>
          rw [mS.out.2.2.1]
          refine Nat.lt_of_le_of_lt (Nat.le_of_eq (xg HN.out.2.2)) ?_
          omega
        ·(intro o6 ho K' hK;simp at ho;subst ho)
         go_simp
         refine hK.out _ _ (fun _=>?_) ?_
         ·exact ((fV.alloc (ei _) (.cells #[] 146)).alloc (by rw [zK];exact Nat.le_succ _) (.cells #[str [],.int .i64 (v:Nat),.slice a1 ss.length c1,.slice a2 2 c2,.slice (some ⟨eb,eo,none⟩) env.length ecap,.int .i64 0] 146))
         clear hK K'
         (try simp only [pQ,pN,pZ,pS])
         (refine on 2 ?_;intro o ho K' hK;simp at ho;subst ho)
         refine zE (by rfl) _ _ _ (by rfl) 146 (.agg #[str [],.int .i64 0,.slice none 0 0,.slice none 0 0,.slice none 0 0,.int .i64 0]) 6 104 Tryz.underlying132 Tryz.infoFW rfl (by decide) (.slice (some ⟨W3.heap.size,0,none⟩) 0 0) 0 [] (by rfl) ((Own.litAt #[] 0 _ rfl (by decide) rfl).alloc _) _ st.length xs (by rfl) (SRC.out _ ((fV.alloc (ei _) (.cells #[] 146)).alloc (by rw [zK];exact Nat.le_succ _) (.cells #[str [],.int .i64 (v:Nat),.slice a1 ss.length c1,.slice a2 2 c2,.slice (some ⟨eb,eo,none⟩) env.length ecap,.int .i64 0] 146))) (by unfold maxLen;omega) (by omega) ?_
         intro a5 c5 w5 sM fv sN
         simp only [Nat.zero_add,List.nil_append] at sM sN ⊢
         have nX:Below W3.heap.size W3 w5:=((fV.alloc (ei _) (.cells #[] 146)).alloc (by rw [zK];exact Nat.le_succ _) (.cells #[str [],.int .i64 (v:Nat),.slice a1 ss.length c1,.slice a2 2 c2,.slice (some ⟨eb,eo,none⟩) env.length ecap,.int .i64 0] 146)).trans (fv.toBelow (((fV.alloc (ei _) (.cells #[] 146)).alloc (by rw [zK];exact Nat.le_succ _) (.cells #[str [],.int .i64 (v:Nat),.slice a1 ss.length c1,.slice a2 2 c2,.slice (some ⟨eb,eo,none⟩) env.length ecap,.int .i64 0] 146))).size fun i hi e=>by simp [Value.ownBlock] at e;omega)
         have iB:Hid (∀ g,(Value.slice a5 st.length c5).ownBlock=some g->W3.heap.size<=g):=fun g hg=>by rcases sN g hg with h | h;simp [Value.ownBlock] at h;omega;have h:g=W3.heap.size+1+1:=h.trans (xP W3 _ _);omega
         have Gl:zO 6 (.slice (some ⟨W3.heap.size+1,0,none⟩) 1 1) 1 #[str [],.int .i64 (v:Nat),.slice a1 ss.length c1,.slice a2 2 c2,.slice (some ⟨eb,eo,none⟩) env.length ecap,.int .i64 0].toList w5:=(zO.lit1 #[str [],.int .i64 (v:Nat),.slice a1 ss.length c1,.slice a2 2 c2,.slice (some ⟨eb,eo,none⟩) env.length ecap,.int .i64 0] rfl (by simp [str,Value.oneCell']) _ (by simp):zO 6 (.slice (some ⟨W3.heap.size+1,0,none⟩) 1 1) 1 #[str [],.int .i64 (v:Nat),.slice a1 ss.length c1,.slice a2 2 c2,.slice (some ⟨eb,eo,none⟩) env.length ecap,.int .i64 0].toList ((W3.drew.alloc (.cells #[] 146)).alloc (.cells #[str [],.int .i64 (v:Nat),.slice a1 ss.length c1,.slice a2 2 c2,.slice (some ⟨eb,eo,none⟩) env.length ecap,.int .i64 0] 146))).thru fv (fun e=>by simp [Value.ownBlock] at e)
         (refine hK.out _ _ (fun _=>nX) ?_;clear hK K';try simp only [pQ,pN,pZ,pS])
         (refine on 7 ?_;intro o ho K' hK;simp at ho;subst ho)
         refine zE (by rfl) _ _ _ (by rfl) 146 (.agg #[str [],.int .i64 0,.slice none 0 0,.slice none 0 0,.slice none 0 0,.int .i64 0]) 6 104 Tryz.underlying132 Tryz.infoFW rfl (by decide) (.slice a5 st.length c5) st.length xs (by rfl) (sM) _ 1 [str [],.int .i64 (v:Nat),.slice a1 ss.length c1,.slice a2 2 c2,.slice (some ⟨eb,eo,none⟩) env.length ecap,.int .i64 0] (by rfl) (Gl) (by unfold maxLen;omega) (by omega) ?_
         intro a7 c7 w7 fu fW fR
         have nG:Below W3.heap.size W3 w7:=nX.trans (fW.toBelow (nX).size fun i hi e=>by have:=iB.out i e;omega)
         have nV:∀ g,(Value.slice a7 (st.length+1) c7).ownBlock=some g->W3.heap.size<=g:=fun g hg=>by rcases fR g hg with h | h;exact iB.out g h;exact fQ (nX).size (Nat.le_of_eq h.symm)
         (refine hK.out _ _ (fun _=>nG) ?_;clear hK K';try simp only [pQ,pN,pZ,pS])
         (refine on 8 ?_;intro o ho K' hK;simp at ho;subst ho;go_simp)
         (refine hK.out _ _ (fun _=>nG) ?_;clear hK K';try simp only [pQ,pN,pZ,pS])
         refine zU (by kernel_rfl) (NoPanic.normal ?_) _
         clear fv sN sM fW fR nX
         have H7:=ed (ef fu (ef nG nV));clear fu nG nV fV
         have sX:=H3.out.2.2.1
         have GQ:=H7.out.2.1.size
         have lh:=mS.out.2.2.2.2.zw
         have nJ:=H2.out.2.2.1.size
         have sH:=(H7.out.2.1.block W2.heap.size (by omega)).trans H3.out.2.2.2.2
         have aX:=(H7.out.2.1.block w.heap.size (by omega)).trans H3.out.2.2.2.1
         have g5:w7.cell? ⟨W2.heap.size,5,none⟩=some (.slice ta t'.args.length tc):=by simp [World.cell?,sH]
         have g6:w7.cell? ⟨W2.heap.size,6,none⟩=some (.slice ha e'.length hcap):=by simp [World.cell?,sH]
         have x2:w7.cell? ⟨w.heap.size,2,none⟩=some (.slice a1 ss.length c1):=by simp [World.cell?,aX]
         have k7:∀ (i:Nat) (ob:Obj),Fx F w 2 i->W2.heap[i]? = some ob->Fx F w 2 i/\w7.heap[i]? = some ob:=fun i ob hi hh=>by
          have hl:=zZ hh
          exact ⟨hi,by rw [H7.out.2.1.block i (by omega),H3.out.2.1.block i hl];exact hh⟩
         have CQ:=(gN (Fx F w 2) e' env ss t' (.slice ha e'.length hcap) (.slice a1 ss.length c1) (.slice ta t'.args.length tc) (.slice (some ⟨eb,eo,none⟩) env.length ecap) w7 ((Rep.keep k7).1 _ _ HM.out.2.2.2.1) ((Rep.keep k7).1 _ _ HK.out.1) ((Rep.keep k7).1 _ _ HM.out.2.1) ((Rep.keep k7).1 _ _ aB.out.2.1) (by omega) HM.out.2.2.2.2.1 (by omega))
         rw [show ((0:Nat):Int)=0 from rfl] at CQ
         have CH:=ed CQ;clear CQ
         have EU:=ed (ef sH (ef aX k7));clear sH aX k7 sX nJ
         go_wp2_with fail
         (with_reducible refine CH.out.mono ?_)
         rintro en w8 ⟨a8,c8,rfl,ft,sF⟩
         have sX:=H3.out.2.2.1
         have hz8:=ft.size
         have rK:=(ft.block W2.heap.size (by omega)).trans EU.out.1
         have fl:=(ft.block w.heap.size (by omega)).trans EU.out.2.1
         have p1:w8.cell? ⟨W2.heap.size,1,none⟩=some (str bs):=by simp [World.cell?,rK]
         have p2:w8.cell? ⟨W2.heap.size,2,none⟩=some (.int .i64 bv):=by simp [World.cell?,rK]
         have p3:w8.cell? ⟨W2.heap.size,3,none⟩=some (.slice nS Cv nB):=by simp [World.cell?,rK]
         have p4:w8.cell? ⟨W2.heap.size,4,none⟩=some (.slice rY Cu nH):=by simp [World.cell?,rK]
         have d0:w8.cell? ⟨w.heap.size,0,none⟩=some (str []):=by simp [World.cell?,fl]
         have d1:w8.cell? ⟨w.heap.size,1,none⟩=some (.int .i64 (v:Nat)):=by simp [World.cell?,fl]
         have d2:w8.cell? ⟨w.heap.size,2,none⟩=some (.slice a1 ss.length c1):=by simp [World.cell?,fl]
         have d3:w8.cell? ⟨w.heap.size,3,none⟩=some (.slice a2 2 c2):=by simp [World.cell?,fl]
         have f0:w8.frozen? ⟨w.heap.size,0,none⟩=false:=by simp [World.frozen?,fl]
         have f1:w8.frozen? ⟨w.heap.size,1,none⟩=false:=by simp [World.frozen?,fl]
         have f2:w8.frozen? ⟨w.heap.size,2,none⟩=false:=by simp [World.frozen?,fl]
         have f3:w8.frozen? ⟨w.heap.size,3,none⟩=false:=by simp [World.frozen?,fl]
         have H8:=ed (ef ft (ef sF fl));clear ft sF rK fl g5 g6 x2 sX
         go_upto_region 22 with (fail)
         obtain ⟨W9,Am⟩:=zzN (u9 w.heap.size (str bs) (.int .i64 bv) (.slice nS Cv nB) (.slice rY Cu nH) w8)
         have iO:=Am
         unfold u9 at iO
         rw [iO]
         have fi:WAt F ww d (k+1) l n H b' (e'++owns env t'.args ss) (⟨v,ss,y,no,env⟩::st) bs bv nS rY Cv nB Cu nH (.slice a8 (e'.length+(owns env t'.args ss).length) c8) (.slice a7 (st.length+1) c7) w W9:=by
          have fU:=mS.out.2.2.2.2
          have nJ:=H2.out.2.2.1.size
          have sX:=H3.out.2.2.1
          have mB:But (fun i=>i=w.heap.size) w8 W9:=by rw [<- Am];exact xU (But.refl _ _) rfl
          have aH:But (fun i=>i=ww\/i=w.heap.size) W2 W9:=(((But.ofBelow (m:=fun i=>i=ww\/i=w.heap.size) H3.out.2.1).trans (But.ofBelow (H7.out.2.1))).trans (But.ofBelow H8.out.1)).trans (mB.weak fun i _ h=>.inr h)
          have hz9:=aH.size
          have aM:(owns env t'.args ss).length=t'.args.length:=xy _ _ HM.out.2.2.2.2.1
          have mE:=HM.out.2.2.2.2.2.2.2.2.1
          have tP:=HM.out.2.2.2.2.2.2.2.2.2
          have oW:=fU.pre.ld;have F8:=fU.pre.d20;have Eu:=fU.pre.stl
          have kp:∀ (i:Nat) (ob:Obj),Fx F w 2 i->W2.heap[i]? = some ob->Fx F w 2 i/\W9.heap[i]? = some ob:=fun i ob hi ho=>by
           have hx:=Fx.low' fU.pre.hF hi (by omega)
           exact ⟨hi,by rw [aH.block i (zZ ho) (fun e=>e.elim hx.1 hx.2)];exact ho⟩
          refine fU.move ((H2.out.2.2.1.weak fun i _ h=>.inl h).trans aH) ?_ (by rw [<- Am];exact xr H8.out.2.2) HM.out.2.2.2.2.2.1 (by rw [List.length_append,aM];have:=mE.2.1;have:=HM.out.2.2.2.2.1;omega) (by rw [List.length_cons];omega)
           (jD _ _ (k9 (by omega) _ mE.2.2) (xp (k9 (by omega) _ fU.pre.ok) (by omega) _ _ (zo mE.1).1)) ⟨by show env.length<=_;omega,k9 (by omega) _ fU.pre.ok,vG (by omega) _ fU.pre.okg⟩
           ⟨tP.1,jC _ _ tP.2 (xL fU.pre.wf.2.1 _ _ fU.pre.wf.1.1),fun f hf=>?_⟩ ((Rep.keep kp).2 _ _ HM.out.2.2.1) ?_ ?_
          ·have h:=H2.out.2.1
           unfold Wri at *
           rw [mB.block ww (by omega) (by show ww≠w.heap.size;omega),H8.out.1.block ww (by omega),H7.out.2.1.block ww (by omega),H3.out.2.1.block ww (by omega),h,EX.out]
          ·rw [List.map_cons] at hf
           rcases List.mem_cons.1 hf with rfl | hf
           ·exact ⟨fU.pre.wf.1.2.1,fU.pre.wf.1.2.2,fU.pre.wf.2.1⟩
           ·exact fU.pre.wf.2.2 f hf
          ·rw [List.length_append]
           refine (Rep.keep fun i ob hi ho=>?_).1 _ _ H8.out.2.1
           have hx:Fx F w 2 i:=by
            rcases hi with h | h
            ·exact h
            ·exact .inr (by omega)
           exact ⟨hx,by rw [mB.block i (zZ ho) (Fx.low' fU.pre.hF hx (by omega)).2];exact ho⟩
          ·rw [List.length_cons]
           refine (H7.out.1.keep (w':=W9) fun g o hg ho=>?_).rep (fun g hg=>.inr (by have:=H7.out.2.2 g hg;omega)) ?_
           ·have h1:=H7.out.2.2 g hg
            have h2:=zZ ho
            rw [mB.block g (by omega) (by omega),H8.out.1.block g h2];exact ho
           ·rw [uy]
            refine zX.append ((Rep.keep kp).2 _ _ HM.out.2.2.2.2.2.2.1) ?_
            rw [encF]
            exact zX.append ((Rep.keep kp).2 _ _ aB.out.1) (zQ.2 ⟨_,_,rfl,(Rep.keep kp).1 _ _ aB.out.2.1,zQ.2 ⟨_,_,rfl,zH.2 rfl,zC.2 rfl⟩⟩)
         have An:R=evN d (k+1) l b' (e'++owns env t'.args ss) n (List.map WFr.gf (⟨v,ss,y,no,env⟩::st)):=by
          rw [mS.out.2.1,evN_bd HM.out.1];rfl
         have HN:=ed (ef fi (ef An fi.pre.wri))
         clear fi An iO Am p1 p2 p3 p4 d0 d1 d2 d3 f0 f1 f2 f3
         go_wp2_with fail
         go_roundw
         case rel=>exact ⟨d,l,b',_,_,_,_,_,_,_,_,_,_,by have:=mS.out.1;omega,HN.out.2.1,HN.out.1⟩
         case measure =>
          rw [mS.out.2.2.1]
          refine Nat.lt_of_le_of_lt (Nat.le_of_eq (xg HN.out.2.2)) ?_
          omega
       ·(intro o6 ho K' hK;simp at ho;subst ho)
        go_simp
        (refine hK.out _ _ (fun _=>(fV.alloc (ei _) (.cells #[str [],.int .i64 (v:Nat),.slice a1 ss.length c1,.slice a2 2 c2,.slice (some ⟨eb,eo,none⟩) env.length ecap,.int .i64 0] 146))) ?_;clear hK K';try simp only [pQ,pN,pZ,pS])
        (refine on 0 ?_;intro o ho K' hK;simp at ho;subst ho;go_simp)
        refine hK.out _ _ (fun _=>?_) ?_
        ·exact ((fV.alloc (ei _) (.cells #[str [],.int .i64 (v:Nat),.slice a1 ss.length c1,.slice a2 2 c2,.slice (some ⟨eb,eo,none⟩) env.length ecap,.int .i64 0] 146)).alloc (by rw [zK];exact Nat.le_succ _) (.cells #[] 146))
        clear hK K'
        (try simp only [pQ,pN,pZ,pS])
        (refine on 2 ?_;intro o ho K' hK;simp at ho;subst ho)
        refine zE (by rfl) _ _ _ (by rfl) 146 (.agg #[str [],.int .i64 0,.slice none 0 0,.slice none 0 0,.slice none 0 0,.int .i64 0]) 6 104 Tryz.underlying132 Tryz.infoFW rfl (by decide) (.slice (some ⟨W3.heap.size+1,0,none⟩) 0 0) 0 [] (by rfl) (Own.litAt #[] 0 _ (by simp) (by decide) rfl) _ st.length xs (by rfl) (SRC.out _ ((fV.alloc (ei _) (.cells #[str [],.int .i64 (v:Nat),.slice a1 ss.length c1,.slice a2 2 c2,.slice (some ⟨eb,eo,none⟩) env.length ecap,.int .i64 0] 146)).alloc (by rw [zK];exact Nat.le_succ _) (.cells #[] 146))) (by unfold maxLen;omega) (by omega) ?_
        intro a5 c5 w5 sM fv sN
        simp only [Nat.zero_add,List.nil_append] at sM sN ⊢
        have nX:Below W3.heap.size W3 w5:=((fV.alloc (ei _) (.cells #[str [],.int .i64 (v:Nat),.slice a1 ss.length c1,.slice a2 2 c2,.slice (some ⟨eb,eo,none⟩) env.length ecap,.int .i64 0] 146)).alloc (by rw [zK];exact Nat.le_succ _) (.cells #[] 146)).trans (fv.toBelow (((fV.alloc (ei _) (.cells #[str [],.int .i64 (v:Nat),.slice a1 ss.length c1,.slice a2 2 c2,.slice (some ⟨eb,eo,none⟩) env.length ecap,.int .i64 0] 146)).alloc (by rw [zK];exact Nat.le_succ _) (.cells #[] 146))).size fun i hi e=>by simp [Value.ownBlock] at e;omega)
        have iB:Hid (∀ g,(Value.slice a5 st.length c5).ownBlock=some g->W3.heap.size<=g):=fun g hg=>by rcases sN g hg with h | h;simp [Value.ownBlock] at h;omega;have h:g=W3.heap.size+1+1:=h.trans (xP W3 _ _);omega
        have Gl:zO 6 (.slice (some ⟨W3.heap.size,0,none⟩) 1 1) 1 #[str [],.int .i64 (v:Nat),.slice a1 ss.length c1,.slice a2 2 c2,.slice (some ⟨eb,eo,none⟩) env.length ecap,.int .i64 0].toList w5:=((zO.lit1 #[str [],.int .i64 (v:Nat),.slice a1 ss.length c1,.slice a2 2 c2,.slice (some ⟨eb,eo,none⟩) env.length ecap,.int .i64 0] rfl (by simp [str,Value.oneCell']) _ (by simp):zO 6 (.slice (some ⟨W3.heap.size,0,none⟩) 1 1) 1 #[str [],.int .i64 (v:Nat),.slice a1 ss.length c1,.slice a2 2 c2,.slice (some ⟨eb,eo,none⟩) env.length ecap,.int .i64 0].toList (W3.drew.alloc (.cells #[str [],.int .i64 (v:Nat),.slice a1 ss.length c1,.slice a2 2 c2,.slice (some ⟨eb,eo,none⟩) env.length ecap,.int .i64 0] 146))).alloc (.cells #[] 146)).thru fv (fun e=>by simp [Value.ownBlock] at e)
        (refine hK.out _ _ (fun _=>nX) ?_;clear hK K';try simp only [pQ,pN,pZ,pS])
        (refine on 7 ?_;intro o ho K' hK;simp at ho;subst ho)
        refine zE (by rfl) _ _ _ (by rfl) 146 (.agg #[str [],.int .i64 0,.slice none 0 0,.slice none 0 0,.slice none 0 0,.int .i64 0]) 6 104 Tryz.underlying132 Tryz.infoFW rfl (by decide) (.slice a5 st.length c5) st.length xs (by rfl) (sM) _ 1 [str [],.int .i64 (v:Nat),.slice a1 ss.length c1,.slice a2 2 c2,.slice (some ⟨eb,eo,none⟩) env.length ecap,.int .i64 0] (by rfl) (Gl) (by unfold maxLen;omega) (by omega) ?_
        intro a7 c7 w7 fu fW fR
        have nG:Below W3.heap.size W3 w7:=nX.trans (fW.toBelow (nX).size fun i hi e=>by have:=iB.out i e;omega)
        have nV:∀ g,(Value.slice a7 (st.length+1) c7).ownBlock=some g->W3.heap.size<=g:=fun g hg=>by rcases fR g hg with h | h;exact iB.out g h;exact fQ (nX).size (Nat.le_of_eq h.symm)
        (refine hK.out _ _ (fun _=>nG) ?_;clear hK K';try simp only [pQ,pN,pZ,pS])
        (refine on 8 ?_;intro o ho K' hK;simp at ho;subst ho;go_simp)
        (refine hK.out _ _ (fun _=>nG) ?_;clear hK K';try simp only [pQ,pN,pZ,pS])
        refine zU (by kernel_rfl) (NoPanic.normal ?_) _
        clear fv sN sM fW fR nX
        have H7:=ed (ef fu (ef nG nV));clear fu nG nV fV
        have sX:=H3.out.2.2.1
        have GQ:=H7.out.2.1.size
        have lh:=mS.out.2.2.2.2.zw
        have nJ:=H2.out.2.2.1.size
        have sH:=(H7.out.2.1.block W2.heap.size (by omega)).trans H3.out.2.2.2.2
        have aX:=(H7.out.2.1.block w.heap.size (by omega)).trans H3.out.2.2.2.1
        have g5:w7.cell? ⟨W2.heap.size,5,none⟩=some (.slice ta t'.args.length tc):=by simp [World.cell?,sH]
        have g6:w7.cell? ⟨W2.heap.size,6,none⟩=some (.slice ha e'.length hcap):=by simp [World.cell?,sH]
        have x2:w7.cell? ⟨w.heap.size,2,none⟩=some (.slice a1 ss.length c1):=by simp [World.cell?,aX]
        have k7:∀ (i:Nat) (ob:Obj),Fx F w 2 i->W2.heap[i]? = some ob->Fx F w 2 i/\w7.heap[i]? = some ob:=fun i ob hi hh=>by
         have hl:=zZ hh
         exact ⟨hi,by rw [H7.out.2.1.block i (by omega),H3.out.2.1.block i hl];exact hh⟩
        have CQ:=(gN (Fx F w 2) e' env ss t' (.slice ha e'.length hcap) (.slice a1 ss.length c1) (.slice ta t'.args.length tc) (.slice (some ⟨eb,eo,none⟩) env.length ecap) w7 ((Rep.keep k7).1 _ _ HM.out.2.2.2.1) ((Rep.keep k7).1 _ _ HK.out.1) ((Rep.keep k7).1 _ _ HM.out.2.1) ((Rep.keep k7).1 _ _ aB.out.2.1) (by omega) HM.out.2.2.2.2.1 (by omega))
        rw [show ((0:Nat):Int)=0 from rfl] at CQ
        have CH:=ed CQ;clear CQ
        have EU:=ed (ef sH (ef aX k7));clear sH aX k7 sX nJ
        go_wp2_with fail
        (with_reducible refine CH.out.mono ?_)
        rintro en w8 ⟨a8,c8,rfl,ft,sF⟩
        have sX:=H3.out.2.2.1
        have hz8:=ft.size
        have rK:=(ft.block W2.heap.size (by omega)).trans EU.out.1
        have fl:=(ft.block w.heap.size (by omega)).trans EU.out.2.1
        have p1:w8.cell? ⟨W2.heap.size,1,none⟩=some (str bs):=by simp [World.cell?,rK]
        have p2:w8.cell? ⟨W2.heap.size,2,none⟩=some (.int .i64 bv):=by simp [World.cell?,rK]
        have p3:w8.cell? ⟨W2.heap.size,3,none⟩=some (.slice nS Cv nB):=by simp [World.cell?,rK]
        have p4:w8.cell? ⟨W2.heap.size,4,none⟩=some (.slice rY Cu nH):=by simp [World.cell?,rK]
        have d0:w8.cell? ⟨w.heap.size,0,none⟩=some (str []):=by simp [World.cell?,fl]
        have d1:w8.cell? ⟨w.heap.size,1,none⟩=some (.int .i64 (v:Nat)):=by simp [World.cell?,fl]
        have d2:w8.cell? ⟨w.heap.size,2,none⟩=some (.slice a1 ss.length c1):=by simp [World.cell?,fl]
        have d3:w8.cell? ⟨w.heap.size,3,none⟩=some (.slice a2 2 c2):=by simp [World.cell?,fl]
        have f0:w8.frozen? ⟨w.heap.size,0,none⟩=false:=by simp [World.frozen?,fl]
        have f1:w8.frozen? ⟨w.heap.size,1,none⟩=false:=by simp [World.frozen?,fl]
        have f2:w8.frozen? ⟨w.heap.size,2,none⟩=false:=by simp [World.frozen?,fl]
        have f3:w8.frozen? ⟨w.heap.size,3,none⟩=false:=by simp [World.frozen?,fl]
        have H8:=ed (ef ft (ef sF fl));clear ft sF rK fl g5 g6 x2 sX
        go_upto_region 22 with (fail)
        obtain ⟨W9,Am⟩:=zzN (u9 w.heap.size (str bs) (.int .i64 bv) (.slice nS Cv nB) (.slice rY Cu nH) w8)
        have iO:=Am
        unfold u9 at iO
        rw [iO]
        have fi:WAt F ww d (k+1) l n H b' (e'++owns env t'.args ss) (⟨v,ss,y,no,env⟩::st) bs bv nS rY Cv nB Cu nH (.slice a8 (e'.length+(owns env t'.args ss).length) c8) (.slice a7 (st.length+1) c7) w W9:=by
         have fU:=mS.out.2.2.2.2
         have nJ:=H2.out.2.2.1.size
         have sX:=H3.out.2.2.1
         have mB:But (fun i=>i=w.heap.size) w8 W9:=by rw [<- Am];exact xU (But.refl _ _) rfl
         have aH:But (fun i=>i=ww\/i=w.heap.size) W2 W9:=(((But.ofBelow (m:=fun i=>i=ww\/i=w.heap.size) H3.out.2.1).trans (But.ofBelow (H7.out.2.1))).trans (But.ofBelow H8.out.1)).trans (mB.weak fun i _ h=>.inr h)
         have hz9:=aH.size
         have aM:(owns env t'.args ss).length=t'.args.length:=xy _ _ HM.out.2.2.2.2.1
         have mE:=HM.out.2.2.2.2.2.2.2.2.1
         have tP:=HM.out.2.2.2.2.2.2.2.2.2
         have oW:=fU.pre.ld;have F8:=fU.pre.d20;have Eu:=fU.pre.stl
         have kp:∀ (i:Nat) (ob:Obj),Fx F w 2 i->W2.heap[i]? = some ob->Fx F w 2 i/\W9.heap[i]? = some ob:=fun i ob hi ho=>by
          have hx:=Fx.low' fU.pre.hF hi (by omega)
          exact ⟨hi,by rw [aH.block i (zZ ho) (fun e=>e.elim hx.1 hx.2)];exact ho⟩
         refine fU.move ((H2.out.2.2.1.weak fun i _ h=>.inl h).trans aH) ?_ (by rw [<- Am];exact xr H8.out.2.2) HM.out.2.2.2.2.2.1 (by rw [List.length_append,aM];have:=mE.2.1;have:=HM.out.2.2.2.2.1;omega) (by rw [List.length_cons];omega)
          (jD _ _ (k9 (by omega) _ mE.2.2) (xp (k9 (by omega) _ fU.pre.ok) (by omega) _ _ (zo mE.1).1)) ⟨by show env.length<=_;omega,k9 (by omega) _ fU.pre.ok,vG (by omega) _ fU.pre.okg⟩
          ⟨tP.1,jC _ _ tP.2 (xL fU.pre.wf.2.1 _ _ fU.pre.wf.1.1),fun f hf=>?_⟩ ((Rep.keep kp).2 _ _ HM.out.2.2.1) ?_ ?_
         ·have h:=H2.out.2.1
          unfold Wri at *
          rw [mB.block ww (by omega) (by show ww≠w.heap.size;omega),H8.out.1.block ww (by omega),H7.out.2.1.block ww (by omega),H3.out.2.1.block ww (by omega),h,EX.out]
         ·rw [List.map_cons] at hf
          rcases List.mem_cons.1 hf with rfl | hf
          ·exact ⟨fU.pre.wf.1.2.1,fU.pre.wf.1.2.2,fU.pre.wf.2.1⟩
          ·exact fU.pre.wf.2.2 f hf
         ·rw [List.length_append]
          refine (Rep.keep fun i ob hi ho=>?_).1 _ _ H8.out.2.1
          have hx:Fx F w 2 i:=by
           rcases hi with h | h
           ·exact h
           ·exact .inr (by omega)
          exact ⟨hx,by rw [mB.block i (zZ ho) (Fx.low' fU.pre.hF hx (by omega)).2];exact ho⟩
         ·rw [List.length_cons]
          refine (H7.out.1.keep (w':=W9) fun g o hg ho=>?_).rep (fun g hg=>.inr (by have:=H7.out.2.2 g hg;omega)) ?_
          ·have h1:=H7.out.2.2 g hg
           have h2:=zZ ho
           rw [mB.block g (by omega) (by omega),H8.out.1.block g h2];exact ho
          ·rw [uy]
           refine zX.append ((Rep.keep kp).2 _ _ HM.out.2.2.2.2.2.2.1) ?_
           rw [encF]
           exact zX.append ((Rep.keep kp).2 _ _ aB.out.1) (zQ.2 ⟨_,_,rfl,(Rep.keep kp).1 _ _ aB.out.2.1,zQ.2 ⟨_,_,rfl,zH.2 rfl,zC.2 rfl⟩⟩)
        have An:R=evN d (k+1) l b' (e'++owns env t'.args ss) n (List.map WFr.gf (⟨v,ss,y,no,env⟩::st)):=by
         rw [mS.out.2.1,evN_bd HM.out.1];rfl
        have HN:=ed (ef fi (ef An fi.pre.wri))
        clear fi An iO Am p1 p2 p3 p4 d0 d1 d2 d3 f0 f1 f2 f3
        go_wp2_with fail
        go_roundw
        case rel=>exact ⟨d,l,b',_,_,_,_,_,_,_,_,_,_,by have:=mS.out.1;omega,HN.out.2.1,HN.out.1⟩
        case measure =>
         rw [mS.out.2.2.1]
         refine Nat.lt_of_le_of_lt (Nat.le_of_eq (xg HN.out.2.2)) ?_
         omega
theorem write_any (d:Nat):xt d:=by
 induction d using Nat.strongRecOn with
 | _ d ih=>exact write_step d ih
def qj (F:Nat->Prop) (o:Option Bd) (w:World) (en:Ending) (w':World):Prop :=
 ∃ s v a1 n1 c1 a2 n2 c2,en=.returned (.tuple #[.agg #[str s,.int .i64 v,.slice a1 n1 c1,.slice a2 n2 c2],.bool o.isSome])/\Below w.heap.size w w' /\
   ∀ x,o=some x->zX (fun i=>F i\/w.heap.size<=i) w' (kE x) [str s,.int .i64 v,.slice a1 n1 c1,.slice a2 n2 c2]
theorem qj.drew {F:Nat->Prop} {o:Option Bd} {w w':World} {en:Ending} (h:qj F o w en w'):qj F o w en w'.drew:=by
 obtain ⟨s,v,a1,n1,c1,a2,n2,c2,e,hb,hr⟩:=h
 exact ⟨s,v,a1,n1,c1,a2,n2,c2,e,Below.drew hb,fun x hx=>(hr x hx).drew⟩
structure SAppPre (F:Nat->Prop) (t a:Ty) (rest bs:List Ty) (m n:Bd) (tv bv:Value) (ms ns:Bs) (mv nv:Int) (oh og mA mV:Option Addr) (oy ow ou ox nQ mT m_ mJ:Nat) (w:World):Prop where
 ts:t.args=a::rest
 t15:zV t<=15
 bl:bs.length<=100
 b15:∀ t∈bs,zV t<=15
 fit:jT (bs++rest) m (zq bs a n rest) []
 wm:wfB m
 wn:wfB n
 rt:Rep F w (kz t) tv
 rm:zX F w (kE m) [str ms,.int .i64 mv,.slice oh oy ow,.slice og ou ox]
 rn:zX F w (kE n) [str ns,.int .i64 nv,.slice mA nQ mT,.slice mV m_ mJ]
 rb:Rep F w (.sl 43 1 bs.length (qH bs)) bv
 hF:∀ i,F i->i<w.heap.size
set_option maxRecDepth 100000 in
theorem l4Apply_any (F:Nat->Prop) (t a:Ty) (rest bs:List Ty) (m n:Bd) (tv bv:Value) (ms ns:Bs) (mv nv:Int) (oh og mA mV:Option Addr) (oy ow ou ox nQ mT m_ mJ:Nat) (w:World) (h:SAppPre F t a rest bs m n tv bv ms ns mv nv oh og mA mV oy ow ou ox nQ mT m_ mJ w) :
 Calls Tryz.prog 41 #[.agg #[tv],.agg #[str ms,.int .i64 mv,.slice oh oy ow,.slice og ou ox],.agg #[str ns,.int .i64 nv,.slice mA nQ mT,.slice mV m_ mJ],bv] w
  (qj F (uf m (zq bs a n rest) (bs.length+rest.length)) w):=by
 have fa:=h.rt
 rw [qv] at fa
 obtain ⟨ta,tc,e,Et,_,r_⟩:=zP fa
 subst e
 rw [h.ts] at fa Et r_
 obtain ⟨kb,ko,u,d1,e,hkF,nT,oB,Ae,nI⟩:=r_ 0 (by simp)
 subst e
 simp only [qH,List.getElem?_cons_zero,Option.some.injEq] at oB
 subst oB
 obtain ⟨ua,uc,rfl⟩:=kK nI
 obtain ⟨ba,bc,ebv,_⟩:=zP h.rb
 subst ebv
 have hbl:=h.bl
 have hFw:=h.hF
 have hlen:t.args.length=rest.length+1:=by rw [h.ts];rfl
 rw [hlen]
 have fM:=zo h.t15
 have EC:rest.length<=15:=by have:=fM.2;omega
 have Jl:w.cell? ⟨kb,ko,none⟩=some (.slice ua a.args.length uc):=Ae
 obtain ⟨W,hW⟩:=zzN (((((w.alloc (.cells #[.slice (some ⟨kb,ko,none⟩) (rest.length+1) tc] 43)).alloc (.cells #[str ms,.int .i64 mv,.slice oh oy ow,.slice og ou ox] 48)).alloc (.cells #[str ns,.int .i64 nv,.slice mA nQ mT,.slice mV m_ mJ] 48)).alloc (.cells #[str [],.int .i64 0,.slice none 0 0,.slice none 0 0] 48)).alloc (.cells #[.int .i64 200,.int .i64 0] 126))
 have rS:W.heap.size=w.heap.size+5:=by rw [<- hW];simp only [zK]
 have fD:Below w.heap.size w W:=by rw [<- hW];exact (((((e_ _ _).alloc (ei _) _).alloc (by simp only [zK];omega) _).alloc (by simp only [zK];omega) _).alloc (by simp only [zK];omega) _).alloc (by simp only [zK];omega) _
 have bT:W.heap[w.heap.size]? = some (.cells #[.slice (some ⟨kb,ko,none⟩) (rest.length+1) tc] 43 (0,0)):=by rw [<- hW];exact zY (zY (zY (zY (zG _ _))))
 have bM:W.heap[w.heap.size+1]? = some (.cells #[str ms,.int .i64 mv,.slice oh oy ow,.slice og ou ox] 48 (0,0)):=by
  rw [<- hW];refine zY (zY (zY ?_))
  have:=zG (w.alloc (.cells #[.slice (some ⟨kb,ko,none⟩) (rest.length+1) tc] 43)) (.cells #[str ms,.int .i64 mv,.slice oh oy ow,.slice og ou ox] 48)
  rwa [zK] at this
 have bN:W.heap[w.heap.size+2]? = some (.cells #[str ns,.int .i64 nv,.slice mA nQ mT,.slice mV m_ mJ] 48 (0,0)):=by
  rw [<- hW];refine zY (zY ?_)
  have:=zG ((w.alloc (.cells #[.slice (some ⟨kb,ko,none⟩) (rest.length+1) tc] 43)).alloc (.cells #[str ms,.int .i64 mv,.slice oh oy ow,.slice og ou ox] 48)) (.cells #[str ns,.int .i64 nv,.slice mA nQ mT,.slice mV m_ mJ] 48)
  simpa only [zK] using this
 have bR:z9 (w.heap.size+3) 0 (.slice none 0 0) (.slice none 0 0) W:=by
  unfold z9
  rw [<- hW];refine zY ?_
  have:=zG (((w.alloc (.cells #[.slice (some ⟨kb,ko,none⟩) (rest.length+1) tc] 43)).alloc (.cells #[str ms,.int .i64 mv,.slice oh oy ow,.slice og ou ox] 48)).alloc (.cells #[str ns,.int .i64 nv,.slice mA nQ mT,.slice mV m_ mJ] 48)) (.cells #[str [],.int .i64 0,.slice none 0 0,.slice none 0 0] 48)
  simpa only [zK] using this
 have bW:Wri W (w.heap.size+4) 200 0:=by
  unfold Wri
  rw [<- hW]
  have:=zG ((((w.alloc (.cells #[.slice (some ⟨kb,ko,none⟩) (rest.length+1) tc] 43)).alloc (.cells #[str ms,.int .i64 mv,.slice oh oy ow,.slice og ou ox] 48)).alloc (.cells #[str ns,.int .i64 nv,.slice mA nQ mT,.slice mV m_ mJ] 48)).alloc (.cells #[str [],.int .i64 0,.slice none 0 0,.slice none 0 0] 48)) (.cells #[.int .i64 200,.int .i64 0] 126)
  simpa only [zK] using this
 have C1:=wl F 0 bs _ W (Rep.below fD (fun _ h=>h) h.rb) (by omega) (by omega)
 rw [show ((0:Nat):Int)=0 from rfl] at C1
 have C1:=ed C1
 have HP:=ed h
 have HFw:=ed hFw;clear hFw
 have HT:=ed (ef fa (ef nI (ef Et (ef fM hlen))))
 have HW:=ed (ef hW (ef rS (ef fD (ef bT (ef bM (ef bN (ef bR bW)))))))
 clear h fa nI Et fM hlen r_ hW rS fD bT bM bN bR bW Ae
 go_enter Tryz.func41,Tryz.ntmps41
 go_upto_region 2 with (fail)
 rw [HW.out.1]
 go_wp2_with fail
 (with_reducible refine C1.out.mono ?_)
 rintro en w1 ⟨oa,oc,oxs,rfl,GY,mu,fP,JF⟩
 have rS:=HW.out.2.1
 have aO:=fP.size
 have b1:=fun {i:Nat} {o:Obj} (hi:i<W.heap.size) (h:W.heap[i]? = some o)=>(fP.block i hi).trans h
 have bT1:=b1 (by omega) HW.out.2.2.2.1
 have bN1:=b1 (by omega) HW.out.2.2.2.2.2.1
 obtain ⟨n0,n1,n2,n3⟩:=kP bN1
 have t0:w1.cell? ⟨w.heap.size,0,none⟩=some (.slice (some ⟨kb,ko,none⟩) (rest.length+1) tc):=by simp [World.cell?,bT1]
 have k1:w1.cell? ⟨kb,ko,none⟩=some (.slice ua a.args.length uc):=(fP.cell (by show kb<W.heap.size;omega)).trans ((HW.out.2.2.1.cell nT).trans Jl)
 have SX:Hid (∀ w',Below w1.heap.size w1 w'->w'.cell? ⟨w.heap.size+2,0,none⟩=some (str ns)/\w'.cell? ⟨w.heap.size+2,1,none⟩=some (.int .i64 nv)/\w'.cell? ⟨w.heap.size+2,2,none⟩=some (.slice mA nQ mT)/\w'.cell? ⟨w.heap.size+2,3,none⟩=some (.slice mV m_ mJ) /\
  w'.cell? ⟨w.heap.size,0,none⟩=some (.slice (some ⟨kb,ko,none⟩) (rest.length+1) tc)/\w'.cell? ⟨kb,ko,none⟩=some (.slice ua a.args.length uc)):=by
  show ∀ w',_->_
  intro w' fN
  exact ⟨(fN.cell (e9 _ _ n0)).trans n0,(fN.cell (e9 _ _ n1)).trans n1,(fN.cell (e9 _ _ n2)).trans n2,(fN.cell (e9 _ _ n3)).trans n3,(fN.cell (e9 _ _ t0)).trans t0,(fN.cell (e9 _ _ k1)).trans k1⟩
 have H1:=ed (ef GY (ef mu (ef fP JF)))
 clear GY mu fP JF b1 bT1 bN1 n0 n1 n2 n3 t0 k1 Jl C1
 go_wp2_with fail
 refine wp_region_noPanic ?_
 refine zB (fun w'=>Below w1.heap.size w1 w') (fun _=>false) (by kernel_rfl) ?_
 have fV:Below w1.heap.size w1 w1.drew:=Below.drew (e_ _ _)
 refine tk [0,1,2,3,4,5,6] fV ?_
 (intro d hd;simp [tkD] at hd;subst hd;simp only [tks,pQ,pZ,pS])
 iterate 7 (refine ⟨?_,?_,?_⟩;rotate_left;· (intro oi ho;simp at ho;subst ho;refine Or.inl ⟨by rfl,fun w' fB=>?_⟩;obtain ⟨e0,e1,e2,e3,e4,e5⟩:=SX.out w' fB;go_simp;try with_reducible rfl))
 (refine on 7 ?_;intro o ho K' hK;simp at ho;subst ho;go_simp)
 (refine hK.out _ _ (fun _=>fV.alloc (ei _) _) ?_;clear hK K';try simp only [pQ,pN,pZ,pS])
 (refine on 8 ?_;intro o ho K' hK;simp at ho;subst ho;go_simp)
 (refine hK.out _ _ (fun _=>fV.alloc (ei _) _) ?_;clear hK K';try simp only [pQ,pN,pZ,pS])
 refine zU (by kernel_rfl) (NoPanic.normal ?_) _
 obtain ⟨W2,fb⟩:=zzN ((w1.alloc (.cells #[.int .i64 (-1),.string ⟨ns.toArray⟩,.int .i64 nv,.slice mA nQ mT,.slice mV m_ mJ,.slice ua a.args.length uc,.slice oa bs.length oc,.int .i64 0,.int .i64 0] 130)).drew)
 rw [fb]
 have fY:Below w1.heap.size w1 W2:=by rw [<- fb];exact Below.drew ((e_ _ _).alloc (ei _) _)
 have nJ:W2.heap.size=w1.heap.size+1:=by rw [<- fb];exact zK _ _
 have Cr:W2.heap[w1.heap.size]? = some (.cells #[.int .i64 (-1),str ns,.int .i64 nv,.slice mA nQ mT,.slice mV m_ mJ,.slice ua a.args.length uc,.slice oa bs.length oc,.int .i64 0,.int .i64 0] 130 (0,0)):=by rw [<- fb];exact zG _ _
 have SY:Hid (∀ w',Below W2.heap.size W2 w'->w'.cell? ⟨w1.heap.size,0,none⟩=some (.int .i64 (-1))/\w'.cell? ⟨w1.heap.size,1,none⟩=some (str ns)/\w'.cell? ⟨w1.heap.size,2,none⟩=some (.int .i64 nv)/\w'.cell? ⟨w1.heap.size,3,none⟩=some (.slice mA nQ mT)/\w'.cell? ⟨w1.heap.size,4,none⟩=some (.slice mV m_ mJ) /\
  w'.cell? ⟨w1.heap.size,5,none⟩=some (.slice ua a.args.length uc)/\w'.cell? ⟨w1.heap.size,6,none⟩=some (.slice oa bs.length oc)/\w'.cell? ⟨w1.heap.size,7,none⟩=some (.int .i64 0)/\w'.cell? ⟨w1.heap.size,8,none⟩=some (.int .i64 0)):=by
  show ∀ w',_->_
  intro w' fN
  have h:=(fN.block w1.heap.size (by omega)).trans Cr
  simp [World.cell?,h]
 have Ew:zO 9 (.slice oa bs.length oc) bs.length oxs w1:=H1.out.1.src (vW _ _ H1.out.2.1)
 have SRC:Hid (∀ w',Below W2.heap.size W2 w'->zO 9 (.slice oa bs.length oc) bs.length oxs w'):=by
  show ∀ w',_->_
  intro w' fN
  exact (Ew.belowAll fY (ei _)).belowAll fN (ei _)
 have H2:=ed (ef fY (ef nJ Cr))
 clear fb fY Cr Ew fV nJ rS aO
 go_wp2_with fail
 refine jR (X:=Nat×Nat×Option Addr×Nat×Option Addr×Nat) (fun ac x=>(((((((ac.put (some 29) (.slice (some ⟨x.1,0,none⟩) 0 0)).put (some 30) (.slice oa bs.length oc)).put (some 31) (.slice x.2.2.1 (bs.length) x.2.2.2.1)).put (some 32) (.agg #[.int .i64 (-1),str ns,.int .i64 nv,.slice mA nQ mT,.slice mV m_ mJ,.slice ua a.args.length uc,.slice oa bs.length oc,.int .i64 0,.int .i64 0])).put (some 33) (.slice (some ⟨x.2.1,0,none⟩) 1 1)).put (some 34) (.slice x.2.2.2.2.1 (bs.length+1) x.2.2.2.2.2)).put (some 14) (.slice x.2.2.2.2.1 (bs.length+1) x.2.2.2.2.2))) (fun x w7=>Own w7 130 9 (.slice x.2.2.2.2.1 (bs.length+1) x.2.2.2.2.2) (bs.length+1) (oxs++[.int .i64 (-1),str ns,.int .i64 nv,.slice mA nQ mT,.slice mV m_ mJ,.slice ua a.args.length uc,.slice oa bs.length oc,.int .i64 0,.int .i64 0])/\Below W2.heap.size W2 w7/\∀ g,(Value.slice x.2.2.2.2.1 (bs.length+1) x.2.2.2.2.2).ownBlock=some g->W2.heap.size<=g) ?_ ?_
 ·refine wp_region_noPanic ?_
  refine zB (fun w'=>Below W2.heap.size W2 w') (fun _=>false) (by kernel_rfl) ?_
  have fV:Below W2.heap.size W2 W2.drew:=Below.drew (e_ _ _)
  refine tk [1,3] fV ?_
  (intro d hd;simp [tkD] at hd;subst hd;simp only [tks,pQ,pZ,pS])
  iterate 2 (refine ⟨?_,?_,?_⟩;rotate_left;· (intro oi ho;simp at ho;subst ho;refine Or.inl ⟨by rfl,fun w' fB=>?_⟩;obtain ⟨e0,e1,e2,e3,e4,e5,e6,e7,e8⟩:=SY.out w' fB;go_simp;try with_reducible rfl))
  refine k8 0 4 (by kernel_rfl) ?_ ?_
  ·(intro o0 ho K' hK;simp at ho;subst ho)
   go_simp
   (refine hK.out _ _ (fun _=>(fV.alloc (ei _) (.cells #[] 130))) ?_;clear hK K';try simp only [pQ,pN,pZ,pS])
   refine k8 2 4 (by kernel_rfl) ?_ ?_
   ·(intro o2 ho K' hK;simp at ho;subst ho)
    refine zE (by rfl) _ _ _ (by rfl) 130 (.agg #[.int .i64 0,str [],.int .i64 0,.slice none 0 0,.slice none 0 0,.slice none 0 0,.slice none 0 0,.int .i64 0,.int .i64 0]) 9 144 Tryz.underlying127 Tryz.infoBo rfl (by decide) (.slice (some ⟨W2.heap.size,0,none⟩) 0 0) 0 [] (by rfl) (Own.litAt #[] 0 _ rfl (by decide) rfl) _ bs.length oxs (by rfl) (SRC.out _ (fV.alloc (ei _) (.cells #[] 130))) (by unfold maxLen;omega) (by omega) ?_
    intro a5 c5 w5 sM fv sN
    simp only [Nat.zero_add,List.nil_append] at sM sN ⊢
    have nX:Below W2.heap.size W2 w5:=(fV.alloc (ei _) (.cells #[] 130)).trans (fv.toBelow ((fV.alloc (ei _) (.cells #[] 130))).size fun i hi e=>by simp [Value.ownBlock] at e;omega)
    have iB:Hid (∀ g,(Value.slice a5 (bs.length) c5).ownBlock=some g->W2.heap.size<=g):=fun g hg=>by rcases sN g hg with h | h;simp [Value.ownBlock] at h;omega;have h:g=W2.heap.size+1:=h.trans (zK _ _);omega
    (refine hK.out _ _ (fun _=>nX) ?_;clear hK K';try simp only [pQ,pN,pZ,pS])
    (refine on 4 ?_;intro o ho K' hK;simp at ho;subst ho;go_simp)
    (refine hK.out _ _ (fun _=>nX.alloc nX.size _) ?_;clear hK K';try simp only [pQ,pN,pZ,pS])
    (refine on 5 ?_;intro o ho K' hK;simp at ho;subst ho)
    refine zE (by rfl) _ _ _ (by rfl) 130 (.agg #[.int .i64 0,str [],.int .i64 0,.slice none 0 0,.slice none 0 0,.slice none 0 0,.slice none 0 0,.int .i64 0,.int .i64 0]) 9 144 Tryz.underlying127 Tryz.infoBo rfl (by decide) (.slice a5 (bs.length) c5) (bs.length) oxs (by rfl) (sM.alloc _) _ 1 [.int .i64 (-1),str ns,.int .i64 nv,.slice mA nQ mT,.slice mV m_ mJ,.slice ua a.args.length uc,.slice oa bs.length oc,.int .i64 0,.int .i64 0] (by rfl) (zO.lit1 #[.int .i64 (-1),str ns,.int .i64 nv,.slice mA nQ mT,.slice mV m_ mJ,.slice ua a.args.length uc,.slice oa bs.length oc,.int .i64 0,.int .i64 0] rfl (by simp [str,Value.oneCell']) _ (by rfl)) (by unfold maxLen;omega) (by omega) ?_
    intro a7 c7 w7 fu fW fR
    have nG:Below W2.heap.size W2 w7:=(nX.alloc nX.size (.cells #[.int .i64 (-1),str ns,.int .i64 nv,.slice mA nQ mT,.slice mV m_ mJ,.slice ua a.args.length uc,.slice oa bs.length oc,.int .i64 0,.int .i64 0] 130)).trans (fW.toBelow ((nX.alloc nX.size (.cells #[.int .i64 (-1),str ns,.int .i64 nv,.slice mA nQ mT,.slice mV m_ mJ,.slice ua a.args.length uc,.slice oa bs.length oc,.int .i64 0,.int .i64 0] 130))).size fun i hi e=>by have:=iB.out i e;omega)
    have nV:∀ g,(Value.slice a7 (bs.length+1) c7).ownBlock=some g->W2.heap.size<=g:=fun g hg=>by rcases fR g hg with h | h;exact iB.out g h;exact fQ ((nX.alloc nX.size (.cells #[.int .i64 (-1),str ns,.int .i64 nv,.slice mA nQ mT,.slice mV m_ mJ,.slice ua a.args.length uc,.slice oa bs.length oc,.int .i64 0,.int .i64 0] 130))).size (Nat.le_of_eq h.symm)
    (refine hK.out _ _ (fun _=>nG) ?_;clear hK K';try simp only [pQ,pN,pZ,pS])
    (refine on 6 ?_;intro o ho K' hK;simp at ho;subst ho;go_simp)
    (refine hK.out _ _ (fun _=>nG) ?_;clear hK K';try simp only [pQ,pN,pZ,pS])
    refine zU (by kernel_rfl) (NoPanic.normal ?_) _
    clear fv sN sM fW fR nX fV iB
    exact ⟨rfl,⟨_,_,a5,c5,a7,c7⟩,by rfl,fu,nG,nV⟩
   ·(intro o4 ho K' hK;simp at ho;subst ho)
    go_simp
    refine hK.out _ _ (fun _=>?_) ?_
    ·exact ((fV.alloc (ei _) (.cells #[] 130)).alloc (by rw [zK];exact Nat.le_succ _) (.cells #[.int .i64 (-1),str ns,.int .i64 nv,.slice mA nQ mT,.slice mV m_ mJ,.slice ua a.args.length uc,.slice oa bs.length oc,.int .i64 0,.int .i64 0] 130))
    clear hK K'
    (try simp only [pQ,pN,pZ,pS])
    (refine on 2 ?_;intro o ho K' hK;simp at ho;subst ho)
    refine zE (by rfl) _ _ _ (by rfl) 130 (.agg #[.int .i64 0,str [],.int .i64 0,.slice none 0 0,.slice none 0 0,.slice none 0 0,.slice none 0 0,.int .i64 0,.int .i64 0]) 9 144 Tryz.underlying127 Tryz.infoBo rfl (by decide) (.slice (some ⟨W2.heap.size,0,none⟩) 0 0) 0 [] (by rfl) ((Own.litAt #[] 0 _ rfl (by decide) rfl).alloc _) _ bs.length oxs (by rfl) (SRC.out _ ((fV.alloc (ei _) (.cells #[] 130)).alloc (by rw [zK];exact Nat.le_succ _) (.cells #[.int .i64 (-1),str ns,.int .i64 nv,.slice mA nQ mT,.slice mV m_ mJ,.slice ua a.args.length uc,.slice oa bs.length oc,.int .i64 0,.int .i64 0] 130))) (by unfold maxLen;omega) (by omega) ?_
    intro a5 c5 w5 sM fv sN
    simp only [Nat.zero_add,List.nil_append] at sM sN ⊢
    have nX:Below W2.heap.size W2 w5:=((fV.alloc (ei _) (.cells #[] 130)).alloc (by rw [zK];exact Nat.le_succ _) (.cells #[.int .i64 (-1),str ns,.int .i64 nv,.slice mA nQ mT,.slice mV m_ mJ,.slice ua a.args.length uc,.slice oa bs.length oc,.int .i64 0,.int .i64 0] 130)).trans (fv.toBelow (((fV.alloc (ei _) (.cells #[] 130)).alloc (by rw [zK];exact Nat.le_succ _) (.cells #[.int .i64 (-1),str ns,.int .i64 nv,.slice mA nQ mT,.slice mV m_ mJ,.slice ua a.args.length uc,.slice oa bs.length oc,.int .i64 0,.int .i64 0] 130))).size fun i hi e=>by simp [Value.ownBlock] at e;omega)
    have iB:Hid (∀ g,(Value.slice a5 (bs.length) c5).ownBlock=some g->W2.heap.size<=g):=fun g hg=>by rcases sN g hg with h | h;simp [Value.ownBlock] at h;omega;have h:g=W2.heap.size+1+1:=h.trans (xP W2 _ _);omega
    have Gl:zO 9 (.slice (some ⟨W2.heap.size+1,0,none⟩) 1 1) 1 #[.int .i64 (-1),str ns,.int .i64 nv,.slice mA nQ mT,.slice mV m_ mJ,.slice ua a.args.length uc,.slice oa bs.length oc,.int .i64 0,.int .i64 0].toList w5:=(zO.lit1 #[.int .i64 (-1),str ns,.int .i64 nv,.slice mA nQ mT,.slice mV m_ mJ,.slice ua a.args.length uc,.slice oa bs.length oc,.int .i64 0,.int .i64 0] rfl (by simp [str,Value.oneCell']) _ (by simp):zO 9 (.slice (some ⟨W2.heap.size+1,0,none⟩) 1 1) 1 #[.int .i64 (-1),str ns,.int .i64 nv,.slice mA nQ mT,.slice mV m_ mJ,.slice ua a.args.length uc,.slice oa bs.length oc,.int .i64 0,.int .i64 0].toList ((W2.drew.alloc (.cells #[] 130)).alloc (.cells #[.int .i64 (-1),str ns,.int .i64 nv,.slice mA nQ mT,.slice mV m_ mJ,.slice ua a.args.length uc,.slice oa bs.length oc,.int .i64 0,.int .i64 0] 130))).thru fv (fun e=>by simp [Value.ownBlock] at e)
    (refine hK.out _ _ (fun _=>nX) ?_;clear hK K';try simp only [pQ,pN,pZ,pS])
    (refine on 5 ?_;intro o ho K' hK;simp at ho;subst ho)
    refine zE (by rfl) _ _ _ (by rfl) 130 (.agg #[.int .i64 0,str [],.int .i64 0,.slice none 0 0,.slice none 0 0,.slice none 0 0,.slice none 0 0,.int .i64 0,.int .i64 0]) 9 144 Tryz.underlying127 Tryz.infoBo rfl (by decide) (.slice a5 (bs.length) c5) (bs.length) oxs (by rfl) (sM) _ 1 [.int .i64 (-1),str ns,.int .i64 nv,.slice mA nQ mT,.slice mV m_ mJ,.slice ua a.args.length uc,.slice oa bs.length oc,.int .i64 0,.int .i64 0] (by rfl) (Gl) (by unfold maxLen;omega) (by omega) ?_
    intro a7 c7 w7 fu fW fR
    have nG:Below W2.heap.size W2 w7:=nX.trans (fW.toBelow (nX).size fun i hi e=>by have:=iB.out i e;omega)
    have nV:∀ g,(Value.slice a7 (bs.length+1) c7).ownBlock=some g->W2.heap.size<=g:=fun g hg=>by rcases fR g hg with h | h;exact iB.out g h;exact fQ (nX).size (Nat.le_of_eq h.symm)
    (refine hK.out _ _ (fun _=>nG) ?_;clear hK K';try simp only [pQ,pN,pZ,pS])
    (refine on 6 ?_;intro o ho K' hK;simp at ho;subst ho;go_simp)
    (refine hK.out _ _ (fun _=>nG) ?_;clear hK K';try simp only [pQ,pN,pZ,pS])
    refine zU (by kernel_rfl) (NoPanic.normal ?_) _
    clear fv sN sM fW fR nX fV iB
    exact ⟨rfl,⟨_,_,a5,c5,a7,c7⟩,by rfl,fu,nG,nV⟩
  ·(intro o4 ho K' hK;simp at ho;subst ho)
   go_simp
   (refine hK.out _ _ (fun _=>(fV.alloc (ei _) (.cells #[.int .i64 (-1),str ns,.int .i64 nv,.slice mA nQ mT,.slice mV m_ mJ,.slice ua a.args.length uc,.slice oa bs.length oc,.int .i64 0,.int .i64 0] 130))) ?_;clear hK K';try simp only [pQ,pN,pZ,pS])
   (refine on 0 ?_;intro o ho K' hK;simp at ho;subst ho;go_simp)
   refine hK.out _ _ (fun _=>?_) ?_
   ·exact ((fV.alloc (ei _) (.cells #[.int .i64 (-1),str ns,.int .i64 nv,.slice mA nQ mT,.slice mV m_ mJ,.slice ua a.args.length uc,.slice oa bs.length oc,.int .i64 0,.int .i64 0] 130)).alloc (by rw [zK];exact Nat.le_succ _) (.cells #[] 130))
   clear hK K'
   (try simp only [pQ,pN,pZ,pS])
   (refine on 2 ?_;intro o ho K' hK;simp at ho;subst ho)
   refine zE (by rfl) _ _ _ (by rfl) 130 (.agg #[.int .i64 0,str [],.int .i64 0,.slice none 0 0,.slice none 0 0,.slice none 0 0,.slice none 0 0,.int .i64 0,.int .i64 0]) 9 144 Tryz.underlying127 Tryz.infoBo rfl (by decide) (.slice (some ⟨W2.heap.size+1,0,none⟩) 0 0) 0 [] (by rfl) (Own.litAt #[] 0 _ (by simp) (by decide) rfl) _ bs.length oxs (by rfl) (SRC.out _ ((fV.alloc (ei _) (.cells #[.int .i64 (-1),str ns,.int .i64 nv,.slice mA nQ mT,.slice mV m_ mJ,.slice ua a.args.length uc,.slice oa bs.length oc,.int .i64 0,.int .i64 0] 130)).alloc (by rw [zK];exact Nat.le_succ _) (.cells #[] 130))) (by unfold maxLen;omega) (by omega) ?_
   intro a5 c5 w5 sM fv sN
   simp only [Nat.zero_add,List.nil_append] at sM sN ⊢
   have nX:Below W2.heap.size W2 w5:=((fV.alloc (ei _) (.cells #[.int .i64 (-1),str ns,.int .i64 nv,.slice mA nQ mT,.slice mV m_ mJ,.slice ua a.args.length uc,.slice oa bs.length oc,.int .i64 0,.int .i64 0] 130)).alloc (by rw [zK];exact Nat.le_succ _) (.cells #[] 130)).trans (fv.toBelow (((fV.alloc (ei _) (.cells #[.int .i64 (-1),str ns,.int .i64 nv,.slice mA nQ mT,.slice mV m_ mJ,.slice ua a.args.length uc,.slice oa bs.length oc,.int .i64 0,.int .i64 0] 130)).alloc (by rw [zK];exact Nat.le_succ _) (.cells #[] 130))).size fun i hi e=>by simp [Value.ownBlock] at e;omega)
   have iB:Hid (∀ g,(Value.slice a5 (bs.length) c5).ownBlock=some g->W2.heap.size<=g):=fun g hg=>by rcases sN g hg with h | h;simp [Value.ownBlock] at h;omega;have h:g=W2.heap.size+1+1:=h.trans (xP W2 _ _);omega
   have Gl:zO 9 (.slice (some ⟨W2.heap.size,0,none⟩) 1 1) 1 #[.int .i64 (-1),str ns,.int .i64 nv,.slice mA nQ mT,.slice mV m_ mJ,.slice ua a.args.length uc,.slice oa bs.length oc,.int .i64 0,.int .i64 0].toList w5:=((zO.lit1 #[.int .i64 (-1),str ns,.int .i64 nv,.slice mA nQ mT,.slice mV m_ mJ,.slice ua a.args.length uc,.slice oa bs.length oc,.int .i64 0,.int .i64 0] rfl (by simp [str,Value.oneCell']) _ (by simp):zO 9 (.slice (some ⟨W2.heap.size,0,none⟩) 1 1) 1 #[.int .i64 (-1),str ns,.int .i64 nv,.slice mA nQ mT,.slice mV m_ mJ,.slice ua a.args.length uc,.slice oa bs.length oc,.int .i64 0,.int .i64 0].toList (W2.drew.alloc (.cells #[.int .i64 (-1),str ns,.int .i64 nv,.slice mA nQ mT,.slice mV m_ mJ,.slice ua a.args.length uc,.slice oa bs.length oc,.int .i64 0,.int .i64 0] 130))).alloc (.cells #[] 130)).thru fv (fun e=>by simp [Value.ownBlock] at e)
   (refine hK.out _ _ (fun _=>nX) ?_;clear hK K';try simp only [pQ,pN,pZ,pS])
   (refine on 5 ?_;intro o ho K' hK;simp at ho;subst ho)
   refine zE (by rfl) _ _ _ (by rfl) 130 (.agg #[.int .i64 0,str [],.int .i64 0,.slice none 0 0,.slice none 0 0,.slice none 0 0,.slice none 0 0,.int .i64 0,.int .i64 0]) 9 144 Tryz.underlying127 Tryz.infoBo rfl (by decide) (.slice a5 (bs.length) c5) (bs.length) oxs (by rfl) (sM) _ 1 [.int .i64 (-1),str ns,.int .i64 nv,.slice mA nQ mT,.slice mV m_ mJ,.slice ua a.args.length uc,.slice oa bs.length oc,.int .i64 0,.int .i64 0] (by rfl) (Gl) (by unfold maxLen;omega) (by omega) ?_
   intro a7 c7 w7 fu fW fR
   have nG:Below W2.heap.size W2 w7:=nX.trans (fW.toBelow (nX).size fun i hi e=>by have:=iB.out i e;omega)
   have nV:∀ g,(Value.slice a7 (bs.length+1) c7).ownBlock=some g->W2.heap.size<=g:=fun g hg=>by rcases fR g hg with h | h;exact iB.out g h;exact fQ (nX).size (Nat.le_of_eq h.symm)
   (refine hK.out _ _ (fun _=>nG) ?_;clear hK K';try simp only [pQ,pN,pZ,pS])
   (refine on 6 ?_;intro o ho K' hK;simp at ho;subst ho;go_simp)
   (refine hK.out _ _ (fun _=>nG) ?_;clear hK K';try simp only [pQ,pN,pZ,pS])
   refine zU (by kernel_rfl) (NoPanic.normal ?_) _
   clear fv sN sM fW fR nX fV iB
   exact ⟨rfl,⟨_,_,a5,c5,a7,c7⟩,by rfl,fu,nG,nV⟩
 rintro ⟨gE,gL,a5,c5,a7,c7⟩ w7 ⟨fu,nG,nV⟩
 simp only [pQ,pN,pZ,pS]
 have H7:=ed (ef fu (ef nG nV));clear fu nG nV
 have Gg:Below w1.heap.size w1 w7:=H2.out.1.trans (H7.out.2.1.mono (by have:=H2.out.2.1;omega))
 have D1:Below W.heap.size W w7:=zzT H1.out.2.2.1 Gg
 have oE:Below w.heap.size w w7:=zzT HW.out.2.2.1 D1
 have t7:w7.cell? ⟨w.heap.size,0,none⟩=some (.slice (some ⟨kb,ko,none⟩) (rest.length+1) tc):=by
  have h:=(D1.block w.heap.size (by have:=HW.out.2.1;omega)).trans HW.out.2.2.2.1
  simp [World.cell?,h]
 have D7:¬ tc=1->Rep F w7 (.sl 43 1 rest.length (qH rest)) (.slice (some ⟨kb,ko+1,none⟩) rest.length (tc-1)):=fun _=>Rep.below oE (fun _ h=>h) (wH (d:=kz a) HT.out.1)
 have hT1:tc=1->rest=[]/\Rep F w7 (.sl 43 1 rest.length (qH rest)) (.slice (some ⟨kb,ko,none⟩) rest.length 0):=fun h=>by
  obtain rfl:rest=[]:=by
   have h1:=HT.out.2.2.1
   rw [h] at h1
   simp at h1;exact h1
  exact ⟨rfl,zp.2 ⟨by simp [qH],_,_,rfl,Nat.zero_le _,fun h=>by simp at h,.inl rfl⟩⟩
 have H8:=ed (ef Gg (ef D1 oE));clear Gg D1 oE
 by_cases FB:tc=1
 ·have J9:=(hT1 FB).2
  subst FB
  have htc0:(rest.length:Int)=0:=by have:=HT.out.2.2.1;simp at this;simp [this]
  clear hT1 D7
  have C6:=ed (wl F bs.length rest _ w7 J9 (by omega) (by omega));clear J9
  go_wp2_with fail
  (with_reducible refine C6.out.mono ?_)
  rintro en w8 ⟨a8,c8,Hr,rfl,EF,sF,ft,rz⟩
  have BQ:=H7.out.1.keep (w':=w8) fun g o hg hh=>by rw [ft.block g (zZ hh)];exact hh
  have i9:=EF.src (vW _ _ sF)
  have HA:=ed (ef BQ (ef i9 (ef sF ft)));clear BQ i9 EF sF ft rz
  go_wp2_with (at_builtin;refine zD rfl _ _ 127 rfl 130 (.agg #[.int .i64 0,str [],.int .i64 0,.slice none 0 0,.slice none 0 0,.slice none 0 0,.slice none 0 0,.int .i64 0,.int .i64 0]) 9 144 Tryz.underlying127 Tryz.infoBo rfl (by decide) (.slice a7 (bs.length+1) c7) (bs.length+1) _ rfl HA.out.1 _ rest.length Hr rfl HA.out.2.1 (by unfold maxLen;omega) (by omega) ?_)
  intro a9 c9 w9 IY mB Js
  have oF:Below W2.heap.size W2 w9:=(zzT H7.out.2.1 HA.out.2.2.2).trans (mB.toBelow (by have:=H7.out.2.1.size;have:=HA.out.2.2.2.size;omega) fun i hi e=>by have:=H7.out.2.2 i e;omega)
  have B5:∀ g,(Value.slice a9 (bs.length+1+rest.length) c9).ownBlock=some g->W2.heap.size<=g:=fun g hg=>by
   rcases Js g hg with h | h
   ·exact H7.out.2.2 g h
   ·have:=H7.out.2.1.size;have:=HA.out.2.2.2.size;omega
  have aP:Below W.heap.size W w9:=H1.out.2.2.1.trans ((H2.out.1.trans (oF.mono (by have:=H2.out.2.1;omega))).mono H1.out.2.2.1.size)
  have rS:=HW.out.2.1
  have BZ:∀ {i:Nat} {o:Obj},i<W.heap.size->W.heap[i]? = some o->w9.heap[i]? = some o:=fun hi h=>(aP.block _ hi).trans h
  have Kw:=BZ (by omega) HW.out.2.2.2.1
  have Ky:=BZ (by omega) HW.out.2.2.2.2.1
  have Kx:z9 (w.heap.size+3) 0 (.slice none 0 0) (.slice none 0 0) w9:=BZ (by omega) HW.out.2.2.2.2.2.2.1
  have Kv:Wri w9 (w.heap.size+4) 200 0:=BZ (by omega) HW.out.2.2.2.2.2.2.2
  obtain ⟨m0,m1,m2,m3⟩:=kP Ky
  have t9:w9.cell? ⟨w.heap.size,0,none⟩=some (.slice (some ⟨kb,ko,none⟩) (rest.length+1) 1):=by simp [World.cell?,Kw]
  have t9':(w9.alloc (.cells #[] 146)).cell? ⟨w.heap.size,0,none⟩=some (.slice (some ⟨kb,ko,none⟩) (rest.length+1) 1):=zJ t9
  have oD:Below w.heap.size w (w9.alloc (.cells #[] 146)):=(zzT HW.out.2.2.1 aP).alloc (by have:=aP.size;omega) _
  have oZ:zX (fun i=>(F i/\i<w.heap.size)\/w.heap.size+5<=i) w9 (ke (zq bs a n rest)) (oxs++([.int .i64 (-1),str ns,.int .i64 nv,.slice mA nQ mT,.slice mV m_ mJ,.slice ua a.args.length uc,.slice oa bs.length oc,.int .i64 0,.int .i64 0]++Hr)):=by
   have kw:∀ (i:Nat) (o:Obj),F i->w.heap[i]? = some o->((F i/\i<w.heap.size)\/w.heap.size+5<=i)/\w9.heap[i]? = some o:=fun i o hi ho=>⟨.inl ⟨hi,zZ ho⟩,by rw [aP.block i (by have:=zZ ho;omega),HW.out.2.2.1.block i (zZ ho)];exact ho⟩
   have Kl:∀ (i:Nat),i<w1.heap.size->w9.heap[i]? = w1.heap[i]?:=fun i hi=>by rw [oF.block i (by have:=H2.out.2.1;omega),H2.out.1.block i hi]
   have kf:∀ (i:Nat),F i->(F i/\i<w.heap.size)\/w.heap.size+5<=i:=fun i hi=>by
    rcases Nat.lt_or_ge i w.heap.size with h | h
    ·exact .inl ⟨hi,h⟩
    ·exact .inr (by have:=HFw.out i hi;omega)
   have ti:zX (fun i=>(F i/\i<w.heap.size)\/w.heap.size+5<=i) w9 (ke (opens 0 bs)) oxs:=(Rep.keep fun i o hi ho=>⟨kf i hi,by rw [Kl i (zZ ho)];exact ho⟩).2 _ _ H1.out.2.1
   unfold zq
   rw [vQ,ke,bE]
   refine zX.append ti ?_
   refine zX.append (vs:=[.int .i64 (-1),str ns,.int .i64 nv,.slice mA nQ mT,.slice mV m_ mJ,.slice ua a.args.length uc,.slice oa bs.length oc,.int .i64 0,.int .i64 0]) ?_ ?_
   ·refine zX.append (vs:=[.int .i64 (-1)]) (zX.one (zH.2 rfl)) (zX.append (ds:=kE n) (vs:=[str ns,.int .i64 nv,.slice mA nQ mT,.slice mV m_ mJ]) ((Rep.keep kw).2 _ _ HP.out.rn) ?_)
    refine zQ.2 ⟨_,_,rfl,(Rep.keep kw).1 _ _ HT.out.2.1,zQ.2 ⟨_,_,rfl,?_,zQ.2 ⟨_,_,rfl,zH.2 rfl,zQ.2 ⟨_,_,rfl,yQ.2 ⟨_,rfl⟩,zC.2 rfl⟩⟩⟩⟩
    rw [kL]
    refine (H1.out.1.keep (w':=w9) fun g o hg hh=>by rw [Kl g (zZ hh)];exact hh).rep (fun g hg=>.inr (by have:=H1.out.2.2.2 g hg;omega)) ti
   ·refine (Rep.keep fun i o hi ho=>⟨kf i hi,?_⟩).2 _ _ HA.out.2.2.1
    have hl:=zZ ho
    rw [mB.block i hl (fun e=>?_)];exact ho
    have:=H7.out.2.2 i e
    have h1:=HFw.out i hi
    have h2:=H2.out.1.size
    have h3:=H1.out.2.2.1.size
    omega
  have aK:(zq bs a n rest).length=bs.length+1+rest.length:=by unfold zq;simp [kL];omega
  have BJ:Rep (fun i=>(F i/\i<w.heap.size)\/w.heap.size+5<=i) (w9.alloc (.cells #[] 146)) (.sl 130 9 (zq bs a n rest).length (ke (zq bs a n rest))) (.slice a9 (bs.length+1+rest.length) c9):=by
   rw [aK]
   refine (Rep.keep fun i o hi ho=>⟨hi,zY ho⟩).1 _ _ (IY.rep (fun g hg=>.inr ?_) oZ)
   have:=B5 g hg
   have h2:=H2.out.1.size
   have h3:=H1.out.2.2.1.size
   omega
  have BF:zX (fun i=>(F i/\i<w.heap.size)\/w.heap.size+5<=i) (w9.alloc (.cells #[] 146)) (kE m) [str ms,.int .i64 mv,.slice oh oy ow,.slice og ou ox] :=
   (Rep.keep fun i o hi ho=>⟨.inl ⟨hi,zZ ho⟩,by rw [oD.block i (zZ ho)];exact ho⟩).2 _ _ HP.out.rm
  have rx:=HT.out.2.2.2.1
  have te:∀ x∈rest,zV x<=15:=fun x hx=>rx.1 x (by rw [HP.out.ts];simp [hx])
  have mo:zV a<=15:=rx.1 a (by rw [HP.out.ts];simp)
  have Io:Wri (w9.alloc (.cells #[] 146)) (w.heap.size+4) ((200:Nat):Int) (20000-((20000:Nat):Int)):=zY Kv
  have C7:=write_any 20000 (fun i=>(F i/\i<w.heap.size)\/w.heap.size+5<=i) (w.heap.size+4) 200 20000 (bs.length+rest.length) (bs++rest) m (zq bs a n rest) [] ms mv oh og oy ow ou ox (.slice a9 (bs.length+1+rest.length) c9) (.slice (some ⟨w9.heap.size,0,none⟩) 0 0) (w9.alloc (.cells #[] 146))
   { wri:=Io,hF:=fun i hi=>(by
    rcases hi with h | h
    ·have:=h.2;omega
    ·omega),ld:=ei _,d20:=ei _,k200:=ei _,fit:=HP.out.fit,hn:=by simp,el:=by rw [aK];omega,nl:=by omega,stl:=by simp,
     ok:=jD _ _ (jU _ _ HP.out.b15 (by omega)) ⟨by rw [okM];exact ⟨mo,by rw [kL];omega,jU _ _ HP.out.b15 (by omega)⟩,jU _ _ te (by omega)⟩,okg:=trivial,
     wf:=⟨HP.out.wm,jC _ _ (jV _ _) ⟨⟨HP.out.wn,jV _ _⟩,jV _ _⟩,by simp⟩,rb:=BF,re:=BJ,rs:=zp.2 ⟨by simp [uy],_,_,rfl,ei _,fun h=>by simp at h,.inl rfl⟩ }
  rw [show ((bs.length+rest.length:Nat):Int)=(bs.length:Int) from by omega,show w.heap.size+4=w.heap.size+1+1+1+1 from rfl] at C7
  have C7:=ed C7
  have Ge:=ed (show w8.heap.size<=w9.heap.size from mB.size)
  have H9:=ed (ef oD (ef Kx rS))
  clear BZ Kw Ky Kx Kv oD oZ aK BJ BF rx te mo Io oF B5 aP rS IY mB Js
  go_wp2_with fail
  (with_reducible refine C7.out.mono ?_)
  rintro en r9 ⟨s,v,b1,p1,d1,b2,p2,d2,rfl,iK,BW,lr⟩
  obtain ⟨L,S,Gj,hL⟩:∃ L S:Int,Wri r9 (w.heap.size+4) L S/\decide (0<=L)=(uf m (zq bs a n rest) (bs.length+rest.length)).isSome:=by
   unfold uf
   cases hq:evN 20000 200 20000 m (zq bs a n rest) (bs.length+rest.length) (List.map WFr.gf []) with
   | none =>
     obtain ⟨st,u1,_,_⟩:=BW hq
     exact ⟨-1,st,u1,by rw [show (List.map WFr.gf []:List Gf)=[] from rfl] at hq;rw [hq];rfl⟩
   | some x =>
     obtain ⟨u1,_⟩:=lr x hq
     exact ⟨_,_,u1,by rw [show (List.map WFr.gf []:List Gf)=[] from rfl] at hq;rw [hq];simp⟩
  have iq:z9 (w.heap.size+3) 0 (.slice none 0 0) (.slice none 0 0) r9:=z9.but (zY H9.out.2.1) iK (show ¬ (w.heap.size+3=w.heap.size+1+1+1+1) by omega)
  have sG:Below w.heap.size w r9:=H9.out.1.trans (iK.toBelow H9.out.1.size fun i hi e=>by have e:i=w.heap.size+1+1+1+1:=e;omega)
  obtain ⟨iJ,ik⟩:=zzN (r9.alloc (.cells #[str s,.int .i64 v,.slice b1 p1 d1,.slice b2 p2 d2] 48))
  have sB:Below r9.heap.size r9 iJ:=by rw [<- ik];exact (e_ _ _).alloc (ei _) _
  have lJ:iJ.heap[r9.heap.size]? = some (.cells #[str s,.int .i64 v,.slice b1 p1 d1,.slice b2 p2 d2] 48 (0,0)):=by rw [<- ik];exact zG _ _
  have oA:z9 (w.heap.size+3) 0 (.slice none 0 0) (.slice none 0 0) iJ:=iq.below sB (zZ iq)
  have Co:iJ.cell? ⟨w.heap.size+4,0,none⟩=some (.int .i64 L):=(sB.cell (p:=⟨w.heap.size+4,0,none⟩) Gj.cell.2.2.2).trans Gj.cell.1
  obtain ⟨o0,o1,o2,o3⟩:=kP lJ
  obtain ⟨r0,r1,r2,r3,rlt,rf⟩:=oA.cells
  have mg:=rf 0;have nD:=rf 1;have rG:=rf 2;have sh:=rf 3
  have Ii:=sG.size
  have hne:r9.heap.size≠w.heap.size+3:=by have:=zZ iq;omega
  have SZ:Hid (∀ w',But (fun i=>i=w.heap.size+3) iJ w'->w'.cell? ⟨r9.heap.size,0,none⟩=some (str s)/\w'.cell? ⟨r9.heap.size,1,none⟩=some (.int .i64 v)/\w'.cell? ⟨r9.heap.size,2,none⟩=some (.slice b1 p1 d1)/\w'.cell? ⟨r9.heap.size,3,none⟩=some (.slice b2 p2 d2)/\w'.cell? ⟨w.heap.size+4,0,none⟩=some (.int .i64 L)):=by
   show ∀ w',_->_
   intro w' fN
   have k:∀ {p:Addr} {u:Value},p.block≠w.heap.size+3->iJ.cell? p=some u->w'.cell? p=some u:=fun hn hu=>(fN.cell (e9 _ _ hu) hn).trans hu
   exact ⟨k hne o0,k hne o1,k hne o2,k hne o3,k (by show w.heap.size+4≠w.heap.size+3;omega) Co⟩
  obtain ⟨W13,iz,f_,fe,f7,mQ,sK,ir⟩:=oA.store (str s) (.int .i64 v) (.slice b1 p1 d1) (.slice b2 p2 d2)
  have iA:qj F (uf m (zq bs a n rest) (bs.length+rest.length)) w (.returned (.tuple #[.agg #[str s,.int .i64 v,.slice b1 p1 d1,.slice b2 p2 d2],.bool (decide (0<=L))])) W13:=by
   refine ⟨s,v,b1,p1,d1,b2,p2,d2,by rw [hL],sK _ _ (zzT sG sB) (by omega),fun x hx=>?_⟩
   unfold uf at hx
   rw [Option.map_eq_some_iff] at hx
   obtain ⟨y,hy,rfl⟩:=hx
   obtain ⟨_,u2⟩:=lr y hy
   refine (Rep.keep fun i o hi ho=>?_).2 _ _ u2
   have hl:=zZ ho
   have h9:w.heap.size+5<=(w9.alloc (.cells #[] 146)).heap.size:=by
    have:=zZ (H9.out.2.1)
    have h5:=H9.out.2.2
    have:=HA.out.2.2.2.size;have:=H7.out.2.1.size;have:=H2.out.1.size;have:=H1.out.2.2.1.size;have:=Ge.out
    rw [zK];omega
   have hc:(F i\/w.heap.size<=i)/\i≠w.heap.size+3:=by
    rcases hi with (h | h) | h
    ·exact ⟨.inl h.1,by have:=h.2;omega⟩
    ·exact ⟨.inr (by omega),by omega⟩
    ·exact ⟨.inr (by omega),by omega⟩
   exact ⟨hc.1,ir i _ hc.2 (by rw [sB.block i hl];exact ho)⟩
  have HF:=ed (ef ik (ef iz (ef iA sK)))
  clear ik sB lJ oA Co rf iz iA sK ir hL Gj iq sG iK BW lr
  go_wp2_with fail
  rw [HF.out.1]
  refine wp_region_noPanic ?_
  refine zB (fun w'=>But (fun i=>i=w.heap.size+3) iJ w') (fun _=>false) (by kernel_rfl) ?_
  have fV:But (fun i=>i=w.heap.size+3) iJ iJ.drew:=(But.refl _ iJ).drew
  refine tk [0,1,2,3,4,5] fV ?_
  (intro d hd;simp [tkD] at hd;subst hd;simp only [tks,pQ,pZ,pS])
  iterate 6 (refine ⟨?_,?_,?_⟩;rotate_left;· (intro oi ho;simp at ho;subst ho;refine Or.inl ⟨by rfl,fun w' fB=>?_⟩;obtain ⟨e0,e1,e2,e3,e4⟩:=SZ.out w' fB;go_simp;try with_reducible rfl))
  (refine on 6 ?_;intro o ho K' hK;simp at ho;subst ho;go_simp)
  (refine hK.out _ _ (fun _=>(((fV.setCell (p:=⟨w.heap.size+3,0,none⟩) (.inl rfl) _).setCell (p:=⟨w.heap.size+3,1,none⟩) (.inl rfl) _).setCell (p:=⟨w.heap.size+3,2,none⟩) (.inl rfl) _).setCell (p:=⟨w.heap.size+3,3,none⟩) (.inl rfl) _) ?_;clear hK K';try simp only [pQ,pN,pZ,pS])
  (refine on 7 ?_;intro o ho K' hK;simp at ho;subst ho;go_simp)
  (refine hK.out _ _ (fun _=>(((fV.setCell (p:=⟨w.heap.size+3,0,none⟩) (.inl rfl) _).setCell (p:=⟨w.heap.size+3,1,none⟩) (.inl rfl) _).setCell (p:=⟨w.heap.size+3,2,none⟩) (.inl rfl) _).setCell (p:=⟨w.heap.size+3,3,none⟩) (.inl rfl) _) ?_;clear hK K';try simp only [pQ,pN,pZ,pS])
  refine zU (by kernel_rfl) (NoPanic.normal ?_) _
  go_wp2_with fail
  obtain ⟨-,iz,iA,-⟩:=HF.out
  rw [<- iz]
  refine bodyPost_ret (v:=.tuple #[.agg #[str s,.int .i64 v,.slice b1 p1 d1,.slice b2 p2 d2],.bool (decide (0<=L))]) (by simp [results,Tryz.results41,go_sem,f_,fe,f7,mQ]) rfl ?_
  exact iA.drew
 ·have J9:=D7 FB
  have htc2:rest.length+1<=tc:=by have:=HT.out.2.2.1;simpa using this
  clear hT1 D7
  have C6:=ed (wl F bs.length rest _ w7 J9 (by omega) (by omega));clear J9
  go_wp2_with fail
  (with_reducible refine C6.out.mono ?_)
  rintro en w8 ⟨a8,c8,Hr,rfl,EF,sF,ft,rz⟩
  have BQ:=H7.out.1.keep (w':=w8) fun g o hg hh=>by rw [ft.block g (zZ hh)];exact hh
  have i9:=EF.src (vW _ _ sF)
  have HA:=ed (ef BQ (ef i9 (ef sF ft)));clear BQ i9 EF sF ft rz
  go_wp2_with (at_builtin;refine zD rfl _ _ 127 rfl 130 (.agg #[.int .i64 0,str [],.int .i64 0,.slice none 0 0,.slice none 0 0,.slice none 0 0,.slice none 0 0,.int .i64 0,.int .i64 0]) 9 144 Tryz.underlying127 Tryz.infoBo rfl (by decide) (.slice a7 (bs.length+1) c7) (bs.length+1) _ rfl HA.out.1 _ rest.length Hr rfl HA.out.2.1 (by unfold maxLen;omega) (by omega) ?_)
  intro a9 c9 w9 IY mB Js
  have oF:Below W2.heap.size W2 w9:=(zzT H7.out.2.1 HA.out.2.2.2).trans (mB.toBelow (by have:=H7.out.2.1.size;have:=HA.out.2.2.2.size;omega) fun i hi e=>by have:=H7.out.2.2 i e;omega)
  have B5:∀ g,(Value.slice a9 (bs.length+1+rest.length) c9).ownBlock=some g->W2.heap.size<=g:=fun g hg=>by
   rcases Js g hg with h | h
   ·exact H7.out.2.2 g h
   ·have:=H7.out.2.1.size;have:=HA.out.2.2.2.size;omega
  have aP:Below W.heap.size W w9:=H1.out.2.2.1.trans ((H2.out.1.trans (oF.mono (by have:=H2.out.2.1;omega))).mono H1.out.2.2.1.size)
  have rS:=HW.out.2.1
  have BZ:∀ {i:Nat} {o:Obj},i<W.heap.size->W.heap[i]? = some o->w9.heap[i]? = some o:=fun hi h=>(aP.block _ hi).trans h
  have Kw:=BZ (by omega) HW.out.2.2.2.1
  have Ky:=BZ (by omega) HW.out.2.2.2.2.1
  have Kx:z9 (w.heap.size+3) 0 (.slice none 0 0) (.slice none 0 0) w9:=BZ (by omega) HW.out.2.2.2.2.2.2.1
  have Kv:Wri w9 (w.heap.size+4) 200 0:=BZ (by omega) HW.out.2.2.2.2.2.2.2
  obtain ⟨m0,m1,m2,m3⟩:=kP Ky
  have t9:w9.cell? ⟨w.heap.size,0,none⟩=some (.slice (some ⟨kb,ko,none⟩) (rest.length+1) tc):=by simp [World.cell?,Kw]
  have t9':(w9.alloc (.cells #[] 146)).cell? ⟨w.heap.size,0,none⟩=some (.slice (some ⟨kb,ko,none⟩) (rest.length+1) tc):=zJ t9
  have oD:Below w.heap.size w (w9.alloc (.cells #[] 146)):=(zzT HW.out.2.2.1 aP).alloc (by have:=aP.size;omega) _
  have oZ:zX (fun i=>(F i/\i<w.heap.size)\/w.heap.size+5<=i) w9 (ke (zq bs a n rest)) (oxs++([.int .i64 (-1),str ns,.int .i64 nv,.slice mA nQ mT,.slice mV m_ mJ,.slice ua a.args.length uc,.slice oa bs.length oc,.int .i64 0,.int .i64 0]++Hr)):=by
   have kw:∀ (i:Nat) (o:Obj),F i->w.heap[i]? = some o->((F i/\i<w.heap.size)\/w.heap.size+5<=i)/\w9.heap[i]? = some o:=fun i o hi ho=>⟨.inl ⟨hi,zZ ho⟩,by rw [aP.block i (by have:=zZ ho;omega),HW.out.2.2.1.block i (zZ ho)];exact ho⟩
   have Kl:∀ (i:Nat),i<w1.heap.size->w9.heap[i]? = w1.heap[i]?:=fun i hi=>by rw [oF.block i (by have:=H2.out.2.1;omega),H2.out.1.block i hi]
   have kf:∀ (i:Nat),F i->(F i/\i<w.heap.size)\/w.heap.size+5<=i:=fun i hi=>by
    rcases Nat.lt_or_ge i w.heap.size with h | h
    ·exact .inl ⟨hi,h⟩
    ·exact .inr (by have:=HFw.out i hi;omega)
   have ti:zX (fun i=>(F i/\i<w.heap.size)\/w.heap.size+5<=i) w9 (ke (opens 0 bs)) oxs:=(Rep.keep fun i o hi ho=>⟨kf i hi,by rw [Kl i (zZ ho)];exact ho⟩).2 _ _ H1.out.2.1
   unfold zq
   rw [vQ,ke,bE]
   refine zX.append ti ?_
   refine zX.append (vs:=[.int .i64 (-1),str ns,.int .i64 nv,.slice mA nQ mT,.slice mV m_ mJ,.slice ua a.args.length uc,.slice oa bs.length oc,.int .i64 0,.int .i64 0]) ?_ ?_
   ·refine zX.append (vs:=[.int .i64 (-1)]) (zX.one (zH.2 rfl)) (zX.append (ds:=kE n) (vs:=[str ns,.int .i64 nv,.slice mA nQ mT,.slice mV m_ mJ]) ((Rep.keep kw).2 _ _ HP.out.rn) ?_)
    refine zQ.2 ⟨_,_,rfl,(Rep.keep kw).1 _ _ HT.out.2.1,zQ.2 ⟨_,_,rfl,?_,zQ.2 ⟨_,_,rfl,zH.2 rfl,zQ.2 ⟨_,_,rfl,yQ.2 ⟨_,rfl⟩,zC.2 rfl⟩⟩⟩⟩
    rw [kL]
    refine (H1.out.1.keep (w':=w9) fun g o hg hh=>by rw [Kl g (zZ hh)];exact hh).rep (fun g hg=>.inr (by have:=H1.out.2.2.2 g hg;omega)) ti
   ·refine (Rep.keep fun i o hi ho=>⟨kf i hi,?_⟩).2 _ _ HA.out.2.2.1
    have hl:=zZ ho
    rw [mB.block i hl (fun e=>?_)];exact ho
    have:=H7.out.2.2 i e
    have h1:=HFw.out i hi
    have h2:=H2.out.1.size
    have h3:=H1.out.2.2.1.size
    omega
  have aK:(zq bs a n rest).length=bs.length+1+rest.length:=by unfold zq;simp [kL];omega
  have BJ:Rep (fun i=>(F i/\i<w.heap.size)\/w.heap.size+5<=i) (w9.alloc (.cells #[] 146)) (.sl 130 9 (zq bs a n rest).length (ke (zq bs a n rest))) (.slice a9 (bs.length+1+rest.length) c9):=by
   rw [aK]
   refine (Rep.keep fun i o hi ho=>⟨hi,zY ho⟩).1 _ _ (IY.rep (fun g hg=>.inr ?_) oZ)
   have:=B5 g hg
   have h2:=H2.out.1.size
   have h3:=H1.out.2.2.1.size
   omega
  have BF:zX (fun i=>(F i/\i<w.heap.size)\/w.heap.size+5<=i) (w9.alloc (.cells #[] 146)) (kE m) [str ms,.int .i64 mv,.slice oh oy ow,.slice og ou ox] :=
   (Rep.keep fun i o hi ho=>⟨.inl ⟨hi,zZ ho⟩,by rw [oD.block i (zZ ho)];exact ho⟩).2 _ _ HP.out.rm
  have rx:=HT.out.2.2.2.1
  have te:∀ x∈rest,zV x<=15:=fun x hx=>rx.1 x (by rw [HP.out.ts];simp [hx])
  have mo:zV a<=15:=rx.1 a (by rw [HP.out.ts];simp)
  have Io:Wri (w9.alloc (.cells #[] 146)) (w.heap.size+4) ((200:Nat):Int) (20000-((20000:Nat):Int)):=zY Kv
  have C7:=write_any 20000 (fun i=>(F i/\i<w.heap.size)\/w.heap.size+5<=i) (w.heap.size+4) 200 20000 (bs.length+rest.length) (bs++rest) m (zq bs a n rest) [] ms mv oh og oy ow ou ox (.slice a9 (bs.length+1+rest.length) c9) (.slice (some ⟨w9.heap.size,0,none⟩) 0 0) (w9.alloc (.cells #[] 146))
   { wri:=Io,hF:=fun i hi=>(by
    rcases hi with h | h
    ·have:=h.2;omega
    ·omega),ld:=ei _,d20:=ei _,k200:=ei _,fit:=HP.out.fit,hn:=by simp,el:=by rw [aK];omega,nl:=by omega,stl:=by simp,
     ok:=jD _ _ (jU _ _ HP.out.b15 (by omega)) ⟨by rw [okM];exact ⟨mo,by rw [kL];omega,jU _ _ HP.out.b15 (by omega)⟩,jU _ _ te (by omega)⟩,okg:=trivial,
     wf:=⟨HP.out.wm,jC _ _ (jV _ _) ⟨⟨HP.out.wn,jV _ _⟩,jV _ _⟩,by simp⟩,rb:=BF,re:=BJ,rs:=zp.2 ⟨by simp [uy],_,_,rfl,ei _,fun h=>by simp at h,.inl rfl⟩ }
  rw [show ((bs.length+rest.length:Nat):Int)=(bs.length:Int)+((rest.length:Int)+1)-1 from by omega,show w.heap.size+4=w.heap.size+1+1+1+1 from rfl] at C7
  have C7:=ed C7
  have Ge:=ed (show w8.heap.size<=w9.heap.size from mB.size)
  have H9:=ed (ef oD (ef Kx rS))
  clear BZ Kw Ky Kx Kv oD oZ aK BJ BF rx te mo Io oF B5 aP rS IY mB Js
  go_wp2_with fail
  (with_reducible refine C7.out.mono ?_)
  rintro en r9 ⟨s,v,b1,p1,d1,b2,p2,d2,rfl,iK,BW,lr⟩
  obtain ⟨L,S,Gj,hL⟩:∃ L S:Int,Wri r9 (w.heap.size+4) L S/\decide (0<=L)=(uf m (zq bs a n rest) (bs.length+rest.length)).isSome:=by
   unfold uf
   cases hq:evN 20000 200 20000 m (zq bs a n rest) (bs.length+rest.length) (List.map WFr.gf []) with
   | none =>
     obtain ⟨st,u1,_,_⟩:=BW hq
     exact ⟨-1,st,u1,by rw [show (List.map WFr.gf []:List Gf)=[] from rfl] at hq;rw [hq];rfl⟩
   | some x =>
     obtain ⟨u1,_⟩:=lr x hq
     exact ⟨_,_,u1,by rw [show (List.map WFr.gf []:List Gf)=[] from rfl] at hq;rw [hq];simp⟩
  have iq:z9 (w.heap.size+3) 0 (.slice none 0 0) (.slice none 0 0) r9:=z9.but (zY H9.out.2.1) iK (show ¬ (w.heap.size+3=w.heap.size+1+1+1+1) by omega)
  have sG:Below w.heap.size w r9:=H9.out.1.trans (iK.toBelow H9.out.1.size fun i hi e=>by have e:i=w.heap.size+1+1+1+1:=e;omega)
  obtain ⟨iJ,ik⟩:=zzN (r9.alloc (.cells #[str s,.int .i64 v,.slice b1 p1 d1,.slice b2 p2 d2] 48))
  have sB:Below r9.heap.size r9 iJ:=by rw [<- ik];exact (e_ _ _).alloc (ei _) _
  have lJ:iJ.heap[r9.heap.size]? = some (.cells #[str s,.int .i64 v,.slice b1 p1 d1,.slice b2 p2 d2] 48 (0,0)):=by rw [<- ik];exact zG _ _
  have oA:z9 (w.heap.size+3) 0 (.slice none 0 0) (.slice none 0 0) iJ:=iq.below sB (zZ iq)
  have Co:iJ.cell? ⟨w.heap.size+4,0,none⟩=some (.int .i64 L):=(sB.cell (p:=⟨w.heap.size+4,0,none⟩) Gj.cell.2.2.2).trans Gj.cell.1
  obtain ⟨o0,o1,o2,o3⟩:=kP lJ
  obtain ⟨r0,r1,r2,r3,rlt,rf⟩:=oA.cells
  have mg:=rf 0;have nD:=rf 1;have rG:=rf 2;have sh:=rf 3
  have Ii:=sG.size
  have hne:r9.heap.size≠w.heap.size+3:=by have:=zZ iq;omega
  have SZ:Hid (∀ w',But (fun i=>i=w.heap.size+3) iJ w'->w'.cell? ⟨r9.heap.size,0,none⟩=some (str s)/\w'.cell? ⟨r9.heap.size,1,none⟩=some (.int .i64 v)/\w'.cell? ⟨r9.heap.size,2,none⟩=some (.slice b1 p1 d1)/\w'.cell? ⟨r9.heap.size,3,none⟩=some (.slice b2 p2 d2)/\w'.cell? ⟨w.heap.size+4,0,none⟩=some (.int .i64 L)):=by
   show ∀ w',_->_
   intro w' fN
   have k:∀ {p:Addr} {u:Value},p.block≠w.heap.size+3->iJ.cell? p=some u->w'.cell? p=some u:=fun hn hu=>(fN.cell (e9 _ _ hu) hn).trans hu
   exact ⟨k hne o0,k hne o1,k hne o2,k hne o3,k (by show w.heap.size+4≠w.heap.size+3;omega) Co⟩
  obtain ⟨W13,iz,f_,fe,f7,mQ,sK,ir⟩:=oA.store (str s) (.int .i64 v) (.slice b1 p1 d1) (.slice b2 p2 d2)
  have iA:qj F (uf m (zq bs a n rest) (bs.length+rest.length)) w (.returned (.tuple #[.agg #[str s,.int .i64 v,.slice b1 p1 d1,.slice b2 p2 d2],.bool (decide (0<=L))])) W13:=by
   refine ⟨s,v,b1,p1,d1,b2,p2,d2,by rw [hL],sK _ _ (zzT sG sB) (by omega),fun x hx=>?_⟩
   unfold uf at hx
   rw [Option.map_eq_some_iff] at hx
   obtain ⟨y,hy,rfl⟩:=hx
   obtain ⟨_,u2⟩:=lr y hy
   refine (Rep.keep fun i o hi ho=>?_).2 _ _ u2
   have hl:=zZ ho
   have h9:w.heap.size+5<=(w9.alloc (.cells #[] 146)).heap.size:=by
    have:=zZ (H9.out.2.1)
    have h5:=H9.out.2.2
    have:=HA.out.2.2.2.size;have:=H7.out.2.1.size;have:=H2.out.1.size;have:=H1.out.2.2.1.size;have:=Ge.out
    rw [zK];omega
   have hc:(F i\/w.heap.size<=i)/\i≠w.heap.size+3:=by
    rcases hi with (h | h) | h
    ·exact ⟨.inl h.1,by have:=h.2;omega⟩
    ·exact ⟨.inr (by omega),by omega⟩
    ·exact ⟨.inr (by omega),by omega⟩
   exact ⟨hc.1,ir i _ hc.2 (by rw [sB.block i hl];exact ho)⟩
  have HF:=ed (ef ik (ef iz (ef iA sK)))
  clear ik sB lJ oA Co rf iz iA sK ir hL Gj iq sG iK BW lr
  go_wp2_with fail
  rw [HF.out.1]
  refine wp_region_noPanic ?_
  refine zB (fun w'=>But (fun i=>i=w.heap.size+3) iJ w') (fun _=>false) (by kernel_rfl) ?_
  have fV:But (fun i=>i=w.heap.size+3) iJ iJ.drew:=(But.refl _ iJ).drew
  refine tk [0,1,2,3,4,5] fV ?_
  (intro d hd;simp [tkD] at hd;subst hd;simp only [tks,pQ,pZ,pS])
  iterate 6 (refine ⟨?_,?_,?_⟩;rotate_left;· (intro oi ho;simp at ho;subst ho;refine Or.inl ⟨by rfl,fun w' fB=>?_⟩;obtain ⟨e0,e1,e2,e3,e4⟩:=SZ.out w' fB;go_simp;try with_reducible rfl))
  (refine on 6 ?_;intro o ho K' hK;simp at ho;subst ho;go_simp)
  (refine hK.out _ _ (fun _=>(((fV.setCell (p:=⟨w.heap.size+3,0,none⟩) (.inl rfl) _).setCell (p:=⟨w.heap.size+3,1,none⟩) (.inl rfl) _).setCell (p:=⟨w.heap.size+3,2,none⟩) (.inl rfl) _).setCell (p:=⟨w.heap.size+3,3,none⟩) (.inl rfl) _) ?_;clear hK K';try simp only [pQ,pN,pZ,pS])
  (refine on 7 ?_;intro o ho K' hK;simp at ho;subst ho;go_simp)
  (refine hK.out _ _ (fun _=>(((fV.setCell (p:=⟨w.heap.size+3,0,none⟩) (.inl rfl) _).setCell (p:=⟨w.heap.size+3,1,none⟩) (.inl rfl) _).setCell (p:=⟨w.heap.size+3,2,none⟩) (.inl rfl) _).setCell (p:=⟨w.heap.size+3,3,none⟩) (.inl rfl) _) ?_;clear hK K';try simp only [pQ,pN,pZ,pS])
  refine zU (by kernel_rfl) (NoPanic.normal ?_) _
  go_wp2_with fail
  obtain ⟨-,iz,iA,-⟩:=HF.out
  rw [<- iz]
  refine bodyPost_ret (v:=.tuple #[.agg #[str s,.int .i64 v,.slice b1 p1 d1,.slice b2 p2 d2],.bool (decide (0<=L))]) (by simp [results,Tryz.results41,go_sem,f_,fe,f7,mQ]) rfl ?_
  exact iA.drew
def wrOf (t:Ty) (o:Option Bd):Option Bs:=o.bind fun out=>(qx (zF t) (kJ out)).map fun _=>kJ out
def TxtPost (o:Option Bs) (w:World) (en:Ending) (w':World):Prop:=en=.returned (.tuple #[str (o.getD []),.bool o.isSome])/\Below w.heap.size w w'
set_option maxRecDepth 100000 in
theorem l4Written_any (F:Nat->Prop) (t:Ty) (o:Option Bd) (tv:Value) (s:Bs) (v:Int) (a1:Option Addr) (n1 c1:Nat) (a2:Option Addr) (n2 c2:Nat) (w:World) (fM:zV t<=15) (ht:Rep F w (kz t) tv)
 (hn:∀ x,o=some x->zX F w (kE x) [str s,.int .i64 v,.slice a1 n1 c1,.slice a2 n2 c2]/\zW x<=1000/\lvB x) :
 Calls Tryz.prog 18 #[.agg #[tv],.agg #[str s,.int .i64 v,.slice a1 n1 c1,.slice a2 n2 c2],.bool o.isSome] w (TxtPost (wrOf t o) w):=by
 obtain ⟨ta,tc,rfl⟩:=kK ht
 obtain ⟨W,hW⟩:=zzN ((w.alloc (.cells #[.slice ta t.args.length tc] 43)).alloc (.cells #[str s,.int .i64 v,.slice a1 n1 c1,.slice a2 n2 c2] 48))
 have fD:Below w.heap.size w W:=by rw [<- hW];exact ((e_ _ _).alloc (ei _) _).alloc (by rw [zK];omega) _
 have bT:W.heap[w.heap.size]? = some (.cells #[.slice ta t.args.length tc] 43 (0,0)):=by rw [<- hW];exact zY (zG _ _)
 have bN:W.heap[w.heap.size+1]? = some (.cells #[str s,.int .i64 v,.slice a1 n1 c1,.slice a2 n2 c2] 48 (0,0)):=by
  have:=zG (w.alloc (.cells #[.slice ta t.args.length tc] 43)) (.cells #[str s,.int .i64 v,.slice a1 n1 c1,.slice a2 n2 c2] 48)
  rw [zK,hW] at this;exact this
 obtain ⟨y0,y1,y2,y3⟩:=kP bN
 have HW:=ed (ef hW (ef fD (ef bT (ef bN (ef ht hn)))));clear hW fD bT bN ht hn
 cases o with
 | none =>
   simp only [Option.isSome_none]
   go_enter Tryz.func18,Tryz.ntmps18
   go_wp2_with fail
   go_ret2
   have h:=HW.out.2.1
   rw [<- HW.out.1] at h
   exact ⟨rfl,h⟩
 | some x =>
   simp only [Option.isSome_some]
   obtain ⟨EA,hsz,rC⟩:=HW.out.2.2.2.2.2 x rfl
   have hrW:=zX.below (F':=F) HW.out.2.1 (fun _ h=>h) EA
   have C0:=ed (l3Text_any (zW x) x (ei _) (by omega) rC F W _ _ _ _ hrW)
   have hlen:(kJ x).length<=12000:=by have:=jo x rC;omega
   have rJ:wrOf t (some x)=(qx (zF t) (kJ x)).map fun _=>kJ x:=rfl
   obtain ⟨Y,hY⟩:=zzM (kJ x)
   rw [<- hY] at C0 hlen rJ
   obtain ⟨X,hX⟩:=zzM (zF t)
   have hXl:Lim X.length:=by rw [hX];have:=jk 15 t fM;show _<=_;omega
   have hYl:Lim Y.length:=by show _<=_;omega
   rw [<- hX] at rJ
   have EV:=ed rJ
   have HX:=ed (ef hX hY);clear EA hsz rC hrW hlen rJ hX hY
   go_enter Tryz.func18,Tryz.ntmps18
   go_upto_region 1 with (fail)
   rw [HW.out.1]
   go_wp2_with fail
   (with_reducible refine C0.out.mono ?_)
   rintro en w2 ⟨rfl,fY⟩
   have a_:Below w.heap.size w w2:=zzT HW.out.2.1 fY
   have D7:w2.heap[w.heap.size]? = some (.cells #[.slice ta t.args.length tc] 43 (0,0)):=(fY.block _ (zZ HW.out.2.2.1)).trans HW.out.2.2.1
   have SX:Hid (∀ w',Below w2.heap.size w2 w'->w'.cell? ⟨w.heap.size,0,none⟩=some (.slice ta t.args.length tc)/\True):=by
    show ∀ w',_->_
    intro w' fN
    have h:=(fN.block _ (zZ D7)).trans D7
    exact ⟨by simp [World.cell?,h],trivial⟩
   have C1:Hid (∀ wz,Below w2.heap.size w2 wz->Calls Tryz.prog 46 #[.agg #[.slice ta t.args.length tc]] wz fun en w'=>en=.returned (str X)/\Below wz.heap.size wz w'):=by
    show ∀ wz,_->_
    intro wz hz
    rw [HX.out.1]
    exact vI 15 t fM (by omega) F wz _ (Rep.below (zzT a_ hz) (fun _ h=>h) HW.out.2.2.2.2.1)
   have C2:=ed (fun wz=>eK X Y hXl hYl wz)
   have H2:=ed a_
   clear fY a_ D7 y0 y1 y2 y3 hXl hYl
   have t2:=(SX.out w2 (e_ _ _)).1
   go_wp2_with fail
   (with_reducible refine (C1.out w2 (e_ _ _)).mono ?_)
   rintro en w3 ⟨rfl,fE⟩
   have mp:=ed fE;clear fE
   go_wp2_with fail
   (with_reducible refine (C2.out w3).mono ?_)
   rintro en w4 ⟨sa,sc,s',v',lN,iF,lM,AS,lg,AP,rfl,fx,-,-⟩
   have HB:=ed (H2.out.trans ((zzT mp.out fx).mono H2.out.size));clear fx C0 C1 C2 SX t2
   have FIN:∀ (o o':Obj),Below w.heap.size w ((w4.alloc o).alloc o'):=fun o o'=>(HB.out.alloc HB.out.size _).alloc (by rw [zK];exact Nat.le_succ_of_le HB.out.size) _
   have KR:=ed FIN;clear FIN
   cases hq:qx X Y with
   | none =>
     have h:=EV.out
     rw [hq] at h
     simp only [Option.isSome_none]
     have HR:=ed h;clear h hq
     go_wp2_with fail
     go_ret2
     rw [HR.out]
     exact ⟨rfl,KR.out _ _⟩
   | some b =>
     have h:=EV.out
     rw [hq] at h
     simp only [Option.isSome_some]
     have HR:=ed h;clear h hq
     go_wp2_with fail
     go_ret2
     rw [HR.out]
     exact ⟨rfl,KR.out _ _⟩
end Go.Proofs.YtjggkhmojjaomaaGreatDoor

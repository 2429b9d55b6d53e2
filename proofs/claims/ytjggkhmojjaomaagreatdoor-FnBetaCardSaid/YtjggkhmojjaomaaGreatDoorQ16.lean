/- Walks of functions that the statement reaches, and plain words. No conditions. -/
import Derived.Test.YtjggkhmojjaomaaGreatDoorQ15
set_option linter.unusedVariables false
set_option linter.unusedSimpArgs false
set_option maxHeartbeats 8000000
namespace Go.Proofs.YtjggkhmojjaomaaGreatDoor
open Go.RowKit
structure KeepPre (F:Nat->Prop) (ww d k l n vv o:Nat) (H:List Ty) (t:Ty) (ss:List Bd) (y no:Bd) (env:List Mn) (st:List WFr) (v0:Int) (a1 a2:Option Addr) (c1 c2:Nat) (ev sv:Value) (w:World):Prop where
 wri:Wri w ww ((k:Nat)+1) (20000-(l:Nat))
 hF:∀ i,F i->i≠ww
 ld:l<=d
 d20:d<=20000
 k200:k<=200
 hv:env[vv]? = some (.op o t)
 fit:jz H (.ask vv ss y no) env (st.map WFr.gf)
 hn:H.length=n
 el:env.length+16*(d+1)<=1000000
 nl:n+16*(d+1)<=1000000
 stl:st.length+d<=40000
 ok:yH (1000000-16*(d+1)) env
 okg:okGs (1000000-16*(d+1)) (st.map WFr.gf)
 wf:wfB (.ask vv ss y no)/\xj env/\∀ f∈st.map WFr.gf,wfG f
 rb:zX F w (kR (.ask vv ss y no)) [str [],.int .i64 (vv:Nat),.slice a1 ss.length c1,.slice a2 2 c2]
 re:Rep F w (.sl 130 9 env.length (kr env)) ev
 rs:Rep F w (.sl 146 6 st.length (uu st)) sv
def fpos:Bool->Nat
 | false=>2
 | true=>3
def fk:Bool->Value->Value->Value
 | false,_,sv=>sv
 | true,ks,_=>ks
def fy:Bool->Value->Value
 | false,_=>.slice none 0 0
 | true,sv=>sv
structure NInv (F:Nat->Prop) (ww:Nat) (D:Int) (k l n o vv nk:Nat) (env:List Mn) (f:Nat->Nat->Bd->List Mn->Nat->List Gf->Option (Bd×Nat×Nat)) (k0 l0:Nat) (ts:List Ty) (bs:List Bd) (A Z:Prop) (fld:Bool) (ks:Value) (outs:List Bd)
 (a1 a2 ta:Option Addr) (c1 c2 nt tc:Nat) (i0:Int) (w:World) (Q j:Nat) (sv:Value) (us:List Value) (wr:World):Prop where
 but:But (· = ww) w wr
 zw:Q+1<=wr.heap.size
 box:wr.heap[w.heap.size]? = some (.cells #[str [],.int .i64 (vv:Nat),.slice a1 nk c1,.slice a2 2 c2] 48 (0,0))
 res:z9 (w.heap.size+1) 0 (.slice none 0 0) (.slice none 0 0) wr
 bnd:wr.heap[w.heap.size+2]? = some (.cells #[.int .i64 (o:Nat),str [],.int .i64 0,.slice none 0 0,.slice none 0 0,.slice ta nt tc,.slice none 0 0,.int .i64 0,.int .i64 i0] 130 (0,0))
 blk:z9 Q (o:Nat) (fk fld ks sv) (fy fld sv) wr
 own:Own wr 48 4 sv j us
 fr:∀ g,sv.ownBlock=some g->Q+1<=g
 mode:(∃ zs kj lj,A/\kE f env n k0 l0 (ts.take j) (bs.take j)=some (zs,kj,lj)/\zs.length=j/\Wri wr ww (kj:Nat) (20000-(lj:Nat))/\kj<=k/\lj<=l/\zX (fun i=>Fx F w 4 i/\sv.ownBlock≠some i) wr (zh zs) us /\
  Rep (fun i=>Fx F w 4 i/\sv.ownBlock≠some i) wr (.sl 48 4 outs.length (zh outs)) ks) \/
  (Z/\∃ s,Wri wr ww (-1) s/\0<=s/\s<=D+(j:Int))
theorem NInv.next {F:Nat->Prop} {ww:Nat} {D:Int} {k l n o vv nk:Nat} {env:List Mn} {f:Nat->Nat->Bd->List Mn->Nat->List Gf->Option (Bd×Nat×Nat)} {k0 l0:Nat} {ts:List Ty} {bs:List Bd} {A Z:Prop} {fld:Bool} {ks:Value} {outs:List Bd}
 {a1 a2 ta:Option Addr} {c1 c2 nt tc:Nat} {i0:Int} {w:World} {Q j:Nat} {sv:Value} {us:List Value} {wr:World}
 (h:NInv F ww D k l n o vv nk env f k0 l0 ts bs A Z fld ks outs a1 a2 ta c1 c2 nt tc i0 w Q j sv us wr) (hQ:Q=w.heap.size+3) (hww:ww<w.heap.size) (hF:∀ i,F i->i≠ww)
 {w6 w7:World} {O:Obj} {oo:Option (Bd×Nat×Nat)} {cs:List Value} {a':Option Addr} {c':Nat}
 (fO:But (· = ww) wr.drew w6)
 (ap:oo=none->∃ st,Wri w6 ww (-1) st/\0<=st/\st<=D+((j+1:Nat):Int))
 (aO:∀ x,oo=some x->Wri w6 ww (x.2.1:Nat) (20000-(x.2.2:Nat))/\zX (fun i=>(F i/\i<w.heap.size)\/wr.drew.heap.size<=i) w6 (kR x.1) cs)
 (GC:oo=none->Z)
 (GB:∀ x,oo=some x->∃ zs,A/\kE f env n k0 l0 (ts.take (j+1)) (bs.take (j+1))=some (zs++[x.1],x.2.1,x.2.2)/\zs.length=j/\x.2.1<=k/\x.2.2<=l/\zX (fun i=>Fx F w 4 i/\sv.ownBlock≠some i) wr (zh zs) us /\
  Rep (fun i=>Fx F w 4 i/\sv.ownBlock≠some i) wr (.sl 48 4 outs.length (zh outs)) ks)
 (fm:Own w7 48 4 (.slice a' (j+1) c') (j+1) (us++cs)) (fS:But (fun b=>sv.ownBlock=some b) (w6.alloc O) w7)
 (fw:∀ g,(Value.slice a' (j+1) c').ownBlock=some g->sv.ownBlock=some g\/g=(w6.alloc O).heap.size) :
 NInv F ww D k l n o vv nk env f k0 l0 ts bs A Z fld ks outs a1 a2 ta c1 c2 nt tc i0 w Q (j+1) (.slice a' (j+1) c') (us++cs) (w7.setCell ⟨Q,fpos fld,none⟩ (.slice a' (j+1) c')):=by
 have z6:wr.heap.size<=w6.heap.size:=fO.size
 have z7:=fS.size
 rw [zK] at z7
 have zr:=h.zw
 have svlt:∀ g,sv.ownBlock=some g->g<wr.heap.size:=fun g hg=>h.own.lt hg
 obtain ⟨w8,EB⟩:=zzN (w7.setCell ⟨Q,fpos fld,none⟩ (.slice a' (j+1) c'))
 have nV:∀ i x,w6.heap[i]? = some x->sv.ownBlock≠some i->i≠Q->w8.heap[i]? = some x:=by
  intro i x hx h2 h3
  have hl:=zZ hx
  rw [<- EB,fB _ _ _ _ (by simpa using h3),fS.block i (by rw [zK];omega) h2,Below.heap_alloc _ _ _ hl];exact hx
 have keep:∀ i x,wr.heap[i]? = some x->i≠ww->sv.ownBlock≠some i->i≠Q->w8.heap[i]? = some x:=by
  intro i x hx h1 h2 h3
  exact nV i x (by rw [fO.block i (zZ hx) h1];exact hx) h2 h3
 have nsv:∀ i,i<Q+1->sv.ownBlock≠some i:=fun i hi e=>by have:=h.fr i e;omega
 have fr':∀ g,(Value.slice a' (j+1) c').ownBlock=some g->Q+1<=g:=fun g hg=>by
  rcases fw g hg with e | e
  ·exact h.fr g e
  ·rw [zK] at e;omega
 have fxw:∀ i,Fx F w 4 i->i≠ww/\i≠Q:=fun i hi=>by
  rcases hi with hi | hi
  ·exact ⟨hF i hi.1,by have:=hi.2;omega⟩
  ·exact ⟨by omega,by omega⟩
 have fq:But (· = ww) w w8:=by
  have h1:But (· = ww) w w6:=h.but.trans ⟨fO.os,fO.tape,fO.output,fO.size,fO.block⟩
  have h2:But (· = ww) w w7:=(h1.alloc O).trans' fS (fun i hi e=>absurd (h.fr i e) (by omega))
  rw [<- EB]
  exact h2.setCell (p:=⟨Q,fpos fld,none⟩) (.inr (show w.heap.size<=Q by omega)) _
 have f7:w8.heap.size=w7.heap.size:=by rw [<- EB];simp [World.setCell]
 have hbk:z9 Q (o:Nat) (fk fld ks (.slice a' (j+1) c')) (fy fld (.slice a' (j+1) c')) w8:=by
  have h1:z9 Q (o:Nat) (fk fld ks sv) (fy fld sv) w7:=by
   unfold z9
   rw [fS.block Q (by rw [zK];omega) (nsv Q (by omega)),Below.heap_alloc _ _ _ (by omega),fO.block Q (by show Q<wr.heap.size;omega) (by show Q≠ww;omega)];exact h.blk
  rw [<- EB]
  cases fld
  ·exact h1.put2
  ·exact h1.put3
 have fi:Own w8 48 4 (.slice a' (j+1) c') (j+1) (us++cs) :=
  fm.keep fun g o hg ho=>by rw [<- EB,fB _ _ _ _ (by have:=fr' g hg;simp;omega)];exact ho
 have Jj:(∃ zs kj lj,A/\kE f env n k0 l0 (ts.take (j+1)) (bs.take (j+1))=some (zs,kj,lj)/\zs.length=j+1/\Wri w8 ww (kj:Nat) (20000-(lj:Nat))/\kj<=k/\lj<=l/\zX (fun i=>Fx F w 4 i/\(Value.slice a' (j+1) c').ownBlock≠some i) w8 (zh zs) (us++cs) /\
  Rep (fun i=>Fx F w 4 i/\(Value.slice a' (j+1) c').ownBlock≠some i) w8 (.sl 48 4 outs.length (zh outs)) ks)\/(Z/\∃ s,Wri w8 ww (-1) s/\0<=s/\s<=D+((j+1:Nat):Int)):=by
  cases hoo:oo with
  | none =>
    obtain ⟨st,q1,q2,q3⟩:=ap hoo
    exact .inr ⟨GC hoo,st,nV ww _ q1 (nsv ww (by omega)) (by omega),q2,q3⟩
  | some x =>
    obtain ⟨q1,q2⟩:=aO x hoo
    obtain ⟨zs,hA,r1,r2,r3,r4,r5,r6⟩:=GB x hoo
    have kG:∀ (i:Nat) (y:Obj),(Fx F w 4 i/\sv.ownBlock≠some i)->wr.heap[i]? = some y->(Fx F w 4 i/\(Value.slice a' (j+1) c').ownBlock≠some i)/\w8.heap[i]? = some y:=fun i y hi hy =>
     ⟨⟨hi.1,fun e=>by
       rcases fw i e with e' | e'
       ·exact hi.2 e'
       ·rw [zK] at e';have:=zZ hy;omega⟩,keep i y hy (fxw i hi.1).1 hi.2 (fxw i hi.1).2⟩
    refine .inl ⟨zs++[x.1],x.2.1,x.2.2,hA,r1,by simp [r2],nV ww _ q1 (nsv ww (by omega)) (by omega),r3,r4,?_,(Rep.keep kG).1 _ _ r6⟩
    rw [qU]
    refine zX.append ((Rep.keep kG).2 _ _ r5) ?_
    have e1:zh [x.1]=kR x.1:=by simp [zh]
    rw [e1]
    refine (Rep.keep fun i y hi hy=>?_).2 _ _ q2
    have hl:=zZ hy
    rcases hi with hi | hi
    ·have h2:=hi.2
     exact ⟨⟨.inl hi,fun e=>by have:=fr' i e;omega⟩,nV i y hy (nsv i (by omega)) (by omega)⟩
    ·have h2:wr.heap.size<=i:=hi
     refine ⟨⟨.inr (by omega),fun e=>?_⟩,nV i y hy (fun e=>by have:=svlt i e;omega) (by omega)⟩
     rcases fw i e with e' | e'
     ·have:=svlt i e';omega
     ·rw [zK] at e';omega
 rw [EB]
 exact { but:=fq,zw:=by omega,box:=keep _ _ h.box (by omega) (nsv _ (by omega)) (by omega),res:=keep _ _ h.res (by omega) (nsv _ (by omega)) (by omega),bnd:=keep _ _ h.bnd (by omega) (nsv _ (by omega)) (by omega),blk:=hbk,own:=fi,fr:=fr',mode:=Jj }
theorem node_ne {w:World} {ww:Nat} {k s:Int} {kb off:Nat} {s':Bs} (hw:Wri w ww k s) (g:w.cell? ⟨kb,off,none⟩=some (str s')):kb≠ww:=by
 intro e
 subst e
 unfold Wri at hw
 simp only [World.cell?,hw] at g
 rcases Nat.lt_or_ge off 2 with h | h
 ·have h2:off=0\/off=1:=by omega
  rcases h2 with h2 | h2 <;> rw [h2] at g <;> simp [str] at g
 ·rw [Array.getElem?_eq_none (by simpa using h)] at g;simp at g
theorem keptN_of {d k l n o k1 l1 kj lj:Nat} {t:Ty} {ss:List Bd} {y no:Bd} {env:List Mn} {st:List Gf} {outs zs:List Bd} (h0:kE (evN d) env n k l t.args ss=some (outs,k1,l1))
 (h1:kE (fun k l b _ _ _=>evN d k l b env n st) env n k1 l1 [t,t] [y,no]=some (zs,kj,lj)):∃ z1 z2,zs=[z1,z2]/\xF d k l n o t ss y no env st=some (.ask o outs z1 z2,kj,lj):=by
 unfold xF
 rw [h0]
 simp only [kE,Option.bind_eq_bind,Option.bind_some] at h1 ⊢
 cases h2:evN d k1 l1 y env n st with
 | none=>rw [h2] at h1;simp at h1
 | some x =>
   rw [h2] at h1
   simp only [Option.bind_some] at h1 ⊢
   cases h3:evN d x.2.1 x.2.2 no env n st with
   | none=>rw [h3] at h1;simp at h1
   | some u =>
     rw [h3] at h1
     simp only [Option.bind_some,Option.some.injEq,Prod.mk.injEq] at h1 ⊢
     obtain ⟨rfl,rfl,rfl⟩:=h1
     exact ⟨x.1,u.1,rfl,rfl,rfl,rfl⟩
theorem keptN_none {d k l n o k1 l1:Nat} {t:Ty} {ss:List Bd} {y no:Bd} {env:List Mn} {st:List Gf} {outs:List Bd} (h0:kE (evN d) env n k l t.args ss=some (outs,k1,l1))
 (h1:kE (fun k l b _ _ _=>evN d k l b env n st) env n k1 l1 [t,t] [y,no]=none):xF d k l n o t ss y no env st=none:=by
 unfold xF
 rw [h0]
 simp only [kE,Option.bind_eq_bind,Option.bind_some] at h1 ⊢
 cases h2:evN d k1 l1 y env n st with
 | none=>rfl
 | some x =>
   rw [h2] at h1
   simp only [Option.bind_some] at h1 ⊢
   cases h3:evN d x.2.1 x.2.2 no env n st with
   | none=>rfl
   | some u=>rw [h3] at h1;simp at h1
set_option maxRecDepth 100000 in
theorem keepN_any (d:Nat) (ih:x9 d) (F:Nat->Prop) (ww k l n vv o:Nat) (H:List Ty) (t:Ty) (ss:List Bd) (y no:Bd) (env:List Mn) (st:List WFr) (v0:Int) (a1 a2:Option Addr) (c1 c2:Nat) (ev sv:Value) (w:World) (h:KeepPre F ww d k l n vv o H t ss y no env st v0 a1 a2 c1 c2 ev sv w) :
 Calls Tryz.prog 87 #[.pointer (some ⟨ww,0,none⟩),.agg #[str [],.int .i64 (vv:Nat),.slice a1 ss.length c1,.slice a2 2 c2],ev,sv,.int .i64 (n:Nat)] w
  (vS F ww (20001+20*(d+1)) (xF d k l n o t ss y no env (st.map WFr.gf)) w):=by
 have HP:=fX h
 have IH:=fX ih
 obtain ⟨eb,eo,ecap,ta,tc,i0,e,Gh,hew,m0,m1,m2,m3,m4,m5,m6,m7,m8,DO⟩:=bound_op h.re h.hv
 subst e
 have hww:=h.wri.cell.2.2.2
 have hebw:=h.hF _ Gh
 obtain ⟨W,hW⟩:=zzN ((w.alloc (.cells #[str [],.int .i64 (vv:Nat),.slice a1 ss.length c1,.slice a2 2 c2] 48)).alloc (.cells #[str [],.int .i64 0,.slice none 0 0,.slice none 0 0] 48))
 have fq:Below w.heap.size w W:=by rw [<- hW];exact ((fH _ _).alloc (fP _) _).alloc (by rw [zK];omega) _
 have r_:w.heap.size+2=W.heap.size:=by rw [<- hW];simp only [zK]
 have Cx:=h.wri.below fq
 obtain ⟨k0,k1,kf,klt⟩:=Cx.cell
 have kf0:=kf 0
 have k0':W.cell? ⟨ww,0,none⟩=some (.int .i64 ((k:Int)+1)):=k0
 obtain ⟨W2,mV⟩:=zzN (W.setCell ⟨ww,0,none⟩ (.int .i64 (k:Nat)))
 have tI:Wri W2 ww (k:Nat) (20000-(l:Nat)):=by unfold Wri at *;rw [<- mV,zy Cx];rfl
 have fN:But (· = ww) w W2:=by rw [<- mV];exact (But.ofBelow (m:=(· = ww)) fq).setCell (p:=⟨ww,0,none⟩) (.inl rfl) _
 have b0:W.heap[w.heap.size]? = some (.cells #[str [],.int .i64 (vv:Nat),.slice a1 ss.length c1,.slice a2 2 c2] 48 (0,0)):=by rw [<- hW];exact zY (zG _ _)
 have KM:W2.heap[w.heap.size]? = some (.cells #[str [],.int .i64 (vv:Nat),.slice a1 ss.length c1,.slice a2 2 c2] 48 (0,0)):=by
  rw [<- mV,fB _ _ _ _ (by show w.heap.size≠ww;omega)];exact b0
 obtain ⟨x0,x1,x2,x3⟩:=kH KM
 have kX:∀ {j:Nat} {x:Value},w.cell? ⟨eb,j,none⟩=some x->W2.cell? ⟨eb,j,none⟩=some x:=fun hc=>(fN.cell (fG w _ hc) hebw).trans hc
 have j0:=kX m0;have j1:=kX m1;have j2:=kX m2;have j3:=kX m3;have j4:=kX m4;have j5:=kX m5;have j6:=kX m6;have j7:=kX m7;have j8:=kX m8
 have EC:=(List.getElem?_eq_some_iff.1 h.hv).1
 have AF:(0:Int)<=(vv:Int):=by omega
 have tM:(vv:Int)<(env.length:Int):=by omega
 have Jw:=h.k200
 have nF:W2.heap.size=w.heap.size+2:=by rw [<- mV,r_];simp [World.setCell]
 have mS:z9 (w.heap.size+1) 0 (.slice none 0 0) (.slice none 0 0) W2:=by
  have:=zG (w.alloc (.cells #[str [],.int .i64 (vv:Nat),.slice a1 ss.length c1,.slice a2 2 c2] 48)) (.cells #[str [],.int .i64 0,.slice none 0 0,.slice none 0 0] 48)
  rw [zK,hW] at this
  unfold z9
  rw [<- mV,fB _ _ _ _ (by show w.heap.size+1≠ww;omega)];exact this
 have HZ:=fX (fW nF mS);clear nF mS
 have HW:=fX (fW hW (fW mV (fW fN (fW tI (fW KM DO)))))
 clear hW mV fq Cx tI fN b0 KM DO kX m0 m1 m2 m3 m4 m5 m6 m7 m8 k0 kf h ih r_
 go_enter Tryz.func87,Tryz.ntmps87
 go_upto_region 1 with (fail)
 rw [HW.out.1]
 go_upto_region 2 with (fail)
 rw [HW.out.2.1]
 go_wp2_with fail
 go_loopw [13] (fun i wr=>∃ (j:Nat) (sv:Value) (us:List Value),j<=ss.length/\i=.int .i64 j/\NInv F ww (20001+20*(d:Int)) k l n o vv ss.length env (evN d) k l t.args ss True (kE (evN d) env n k l t.args ss=none) false (.slice none 0 0) [] a1 a2 ta c1 c2 t.args.length tc i0 w (W2.heap.size+1) j sv us wr) (fun i _=>ss.length-(intOf i).toNat)
 case atStart =>
  obtain ⟨nF,mS⟩:=HZ.out
  obtain ⟨hW,mV,fN,tI,KM,DO⟩:=HW.out
  refine ⟨0,.slice none 0 0,[],Nat.zero_le _,rfl,?_⟩
  refine { but:=(fN.alloc _).alloc _,zw:=by simp only [zK];omega,box:=zY (zY KM),res:=zY (zY mS),bnd:=?_,blk:=?_,own:=World.ownsRow_nil _ _ _ _,fr:=fun g hg=>by simp [Value.ownBlock] at hg,mode:=.inl ⟨[],k,l,trivial,by simp [kE],rfl,zY (zY tI),fP _,fP _,by simp [zh,zC],zp.2 ⟨by simp [zh],none,0,rfl,fP _,fun _=>rfl,.inl rfl⟩⟩ }
  ·rw [<- nF];exact zY (zG _ _)
  ·have:=zG (W2.alloc (.cells #[.int .i64 (o:Nat),str [],.int .i64 0,.slice none 0 0,.slice none 0 0,.slice ta t.args.length tc,.slice none 0 0,.int .i64 0,.int .i64 i0] 130)) (.cells #[str [],.int .i64 (o:Nat),.slice none 0 0,.slice none 0 0] 48)
   rw [zK] at this
   exact this
 case round =>
  rename_i wr
  obtain ⟨j,sv,us,hj,rfl,fL⟩:=hrel
  obtain ⟨sa,sc,e⟩:=fL.own.slice
  subst e
  obtain ⟨y0,y1,y2,y3⟩:=kH fL.box
  obtain ⟨q0,q1,q2,q3,qlt,qf⟩:=fL.blk.cells
  have z5:wr.cell? ⟨W2.heap.size,5,none⟩=some (.slice ta t.args.length tc):=by
   rw [HZ.out.1];simp [World.cell?,fL.bnd]
  have HI:=fX fL;clear fL
  by_cases fT:j<ss.length
  ·have mT:(j:Int)<(ss.length:Int):=by omega
   have fh:Rep F w (.sl 48 4 ss.length (zh ss)) (.slice a1 ss.length c1):=by
    have mn:=HP.out.rb
    simp only [kR,zQ,zC] at mn
    obtain ⟨_,_,e0,_,_,_,rfl,_,_,_,rfl,h2,_⟩:=mn
    simp only [List.cons.injEq] at e0
    obtain ⟨_,_,e2,_⟩:=e0
    rw [e2];exact h2
   obtain ⟨ka',kc',e,lE⟩:=gQ.of fh
   simp only [Value.slice.injEq] at e
   obtain ⟨rfl,_,rfl⟩:=e
   obtain ⟨kb,ko,s',v',ly,ik,lu,A7,l_,A3,sd,e,sG,iQ,g0,g1,g2,g3,rR⟩:=lE j fT
   subst e
   have Bh:=HP.out.fit.keep HP.out.hv
   have hne:kb≠ww:=node_ne HP.out.wri g0
   have FK:=HW.out.2.2.2.2.2
   rw [qy] at FK
   obtain ⟨ta',tc',e,_,_,tY⟩:=zP FK
   simp only [Value.slice.injEq] at e
   obtain ⟨rfl,_,rfl⟩:=e
   have hjt:j<t.args.length:=by omega
   obtain ⟨tb,tO,tu,td,e,htF,htw,htd,g4,FI⟩:=tY j hjt
   subst e
   rw [vx,Option.map_eq_some_iff] at htd
   obtain ⟨tj,Dq,rfl⟩:=htd
   obtain ⟨ua,uc,rfl⟩:=kJ FI
   have p0:=(HI.out.but.cell (p:=⟨kb,ko+j*4,none⟩) sG hne).trans g0
   have p1:=(HI.out.but.cell (p:=⟨kb,ko+j*4+1,none⟩) sG hne).trans g1
   have p2:=(HI.out.but.cell (p:=⟨kb,ko+j*4+2,none⟩) sG hne).trans g2
   have p3:=(HI.out.but.cell (p:=⟨kb,ko+j*4+3,none⟩) sG hne).trans g3
   have p4:=(HI.out.but.cell (p:=⟨tb,tO+j,none⟩) htw (HP.out.hF _ htF)).trans g4
   have iy:=pg _ HP.out.ok vv _ HP.out.hv
   rw [okM] at iy
   have EE:=(zi iy.1).1 tj (List.mem_of_getElem? Dq)
   have Ar:But (· = ww) w wr.drew:=HI.out.but.drew
   have sK:∀ b,(F b/\b<w.heap.size)->¬ (b=ww)/\(F b/\b<w.heap.size):=fun b hb=>⟨HP.out.hF b hb.1,hb⟩
   have BP:zX (fun i=>F i/\i<w.heap.size) wr.drew (kR sd) [str s',.int .i64 v',.slice ly ik lu,.slice A7 l_ A3]:=(zX.low rR).but Ar sK
   have FJ:=(Rep.low FI).but Ar sK
   have AI:=(Rep.low HP.out.re).but Ar sK
   have iY:=HP.out.el;have iE:=HP.out.nl;have oE:=HP.out.ld;have Gi:=HP.out.d20;have i6:=HP.out.k200
   have me:=bx (f:=evN d) (env:=env) (n:=n) (k:=k) (l:=l) Dq iQ
   obtain ⟨oo,Kr,GC,GB⟩:∃ oo,Calls Tryz.prog 102 #[.pointer (some ⟨ww,0,none⟩),.agg #[str s',.int .i64 v',.slice ly ik lu,.slice A7 l_ A3],.agg #[.slice ua tj.args.length uc],.slice (some ⟨eb,eo,none⟩) env.length ecap,.int .i64 (n:Nat)] wr.drew (vS (fun i=>F i/\i<w.heap.size) ww (20001+20*(d:Int)+((j+1:Nat):Int)) oo wr.drew) /\
    (oo=none->kE (evN d) env n k l t.args ss=none) /\
    (∀ y,oo=some y->∃ outs,True/\kE (evN d) env n k l (t.args.take (j+1)) (ss.take (j+1))=some (outs++[y.1],y.2.1,y.2.2)/\outs.length=j/\y.2.1<=k/\y.2.2<=l/\zX (fun i=>Fx F w 4 i/\(Value.slice sa j sc).ownBlock≠some i) wr (zh outs) us /\
     Rep (fun i=>Fx F w 4 i/\(Value.slice sa j sc).ownBlock≠some i) wr (.sl 48 4 ([]:List Bd).length (zh [])) (.slice none 0 0)):=by
    rcases HI.out.mode with ⟨outs,kj,lj,_,rK,az,rM,Ga,F7,rL,mz⟩ | ⟨rK,s,rM,oX,rq⟩
    ·refine ⟨evN d kj lj sd (env++opens n tj.args) (n+tj.args.length) [],(open_live d IH.out _ ww kj lj n H tj sd env s' v' ly A7 ik lu l_ A3 _ _ wr.drew rM (fun i hi=>HP.out.hF i hi.1) (by omega) Gi (by omega) (Bh.2.2.1 j tj sd Dq iQ) HP.out.hn iY iE EE HP.out.ok FJ BP AI ⟨wfBs_at _ HP.out.wf.1.1 j sd iQ,HP.out.wf.2.1⟩).mono ?_,fun h=>?_,fun y h=>?_⟩
     ·rintro en w' ⟨q1,q2,q3,q4,q5,q6,q7,q8,q9,GX,Ey,GW⟩
      exact ⟨q1,q2,q3,q4,q5,q6,q7,q8,q9,GX,fun h=>by obtain ⟨st,u1,u2,u3⟩:=Ey h;exact ⟨st,u1,u2,by omega⟩,GW⟩
     ·refine wW (j+1) _ _ _ _ ?_
      rw [me,rK];simp only [Option.bind_some];rw [h];rfl
     ·have mO:=evN_left _ _ _ _ _ _ _ _ _ _ h
      exact ⟨outs,trivial,by rw [me,rK];simp only [Option.bind_some];rw [h];rfl,az,fD mO.1 Ga,fD mO.2 F7,rL,mz⟩
    ·have hj15:=(zi iy.1).2
     refine ⟨none,(open_dead _ ww n s tj env s' v' ly A7 ik lu l_ A3 _ _ wr.drew rM oX (by omega) (by omega) (by omega) EE FJ AI).mono ?_,fun _=>rK,fun y h=>by simp at h⟩
     rintro en w' ⟨q1,q2,q3,q4,q5,q6,q7,q8,q9,GX,Ey,GW⟩
     exact ⟨q1,q2,q3,q4,q5,q6,q7,q8,q9,GX,fun h=>by obtain ⟨st,u1,u2,u3⟩:=Ey h;exact ⟨st,u1,u2,by omega⟩,GW⟩
   have CC:=fX Kr
   have Dg:=fX (fW GC GB)
   have tP:j+1<=maxLen:=by unfold maxLen;have:=(zi iy.1).2;omega
   have nA:(j+1)*72<=140737488355328:=by have:=(zi iy.1).2;omega
   have h04:0<4:=by omega
   have FV:¬ (W2.heap.size+1=ww):=by rw [HZ.out.1];omega
   have NB:=fX (show ¬ (Value.slice sa j sc).ownBlock=some (W2.heap.size+1) from fun e=>by have:=HI.out.fr _ e;omega)
   have OWN:=fX (fun (w6:World) (h6:But (· = ww) wr.drew w6)=>(HI.out.own.keep (w':=w6) fun g o hg hh=>by
    have:=HI.out.fr g hg
    rw [h6.block g (zZ hh) (fun e=>by have e:g=ww:=e;rw [HZ.out.1] at this;omega)];exact hh))
   have nF:=HZ.out.1
   have IC:=HP.out.hF _ htF
   have SX:Hid (∀ w',But (fun i=>i=ww\/(Value.slice sa j sc).ownBlock=some i) wr w'->w'.cell? ⟨W2.heap.size+1,2,none⟩=some (.slice sa j sc)/\w'.cell? ⟨w.heap.size,2,none⟩=some (.slice (some ⟨kb,ko,none⟩) ss.length c1) /\
    w'.cell? ⟨kb,ko+j*4,none⟩=some (str s')/\w'.cell? ⟨kb,ko+j*4+1,none⟩=some (.int .i64 v')/\w'.cell? ⟨kb,ko+j*4+2,none⟩=some (.slice ly ik lu)/\w'.cell? ⟨kb,ko+j*4+3,none⟩=some (.slice A7 l_ A3) /\
    w'.cell? ⟨W2.heap.size,5,none⟩=some (.slice (some ⟨tb,tO,none⟩) t.args.length tc)/\w'.cell? ⟨tb,tO+j,none⟩=some (.slice ua tj.args.length uc)):=by
    show ∀ w',_->_
    intro w' fx
    have key:∀ {p:Addr} {u:Value},p.block<W2.heap.size+2->p.block≠ww->wr.cell? p=some u->w'.cell? p=some u:=fun hp hne hu =>
     (fx.cell (fG wr _ hu) (fun e=>e.elim hne (fun e=>by have:=HI.out.fr _ e;omega))).trans hu
    exact ⟨key (by show W2.heap.size+1<_;omega) FV q2,key (by show w.heap.size<_;omega) (by show w.heap.size≠ww;omega) y2,key (by show kb<_;omega) hne p0,key (by show kb<_;omega) hne p1,key (by show kb<_;omega) hne p2,key (by show kb<_;omega) hne p3,
     key (by show W2.heap.size<_;omega) (by show W2.heap.size≠ww;omega) z5,key (by show tb<_;omega) IC p4⟩
   have Dk:=qf 2
   clear Bh hne FK iy sK BP FJ AI me GC GB Kr fh lE tY g0 g1 g2 g3 g4 rR FI iQ Dq qf Ar nF IC y0 y1 y3 q0 q1 q3 p0 p1 p2 p3 p4 z5
   go_wp2_with fail
   refine wp_region_noPanic ?_
   refine zB (fun w'=>But (fun i=>i=ww\/(Value.slice sa j sc).ownBlock=some i) wr w') (fun i=>i == 20) (by kernel_rfl) ?_
   have fF:But (fun i=>i=ww\/(Value.slice sa j sc).ownBlock=some i) wr wr.drew:=(But.refl _ wr).drew
   refine tk [0,1,2,3,4,5,6,7,8,9,10,11,12,13,14,15] fF ?_
   (intro d hd;simp [tkD] at hd;subst hd;simp only [tks,pQ,pZ,pS])
   iterate 16 (refine ⟨?_,?_,?_⟩;rotate_left;· (intro oi ho;simp at ho;subst ho;refine Or.inl ⟨by rfl,fun w' fI=>?_⟩;obtain ⟨e0,e1,e2,e3,e4,e5,e6,e7⟩:=SX.out w' fI;go_simp;try with_reducible rfl))
   refine qi 16 (by kernel_rfl) ?_
   intro o16 ho K' hK
   (simp at ho;subst ho)
   go_simp
   go_at_call 102
   (with_reducible refine CC.out.mono ?_)
   rintro Aw w6 ⟨s6,v6,b1,m1,d1,b2,m2,d2,rfl,fO,ap,aO⟩
   have mU:Hid (But (fun i=>i=ww\/(Value.slice sa j sc).ownBlock=some i) wr w6):=fF.trans (fO.weak fun i _ h=>.inl h)
   have Ih:=but_cell fO FV q2
   have Fy:=fC qlt fO.size
   have By:=but_free fO FV qlt Dk
   have mK:=(OWN.out _ fO).alloc (.cells #[str s6,.int .i64 v6,.slice b1 m1 d1,.slice b2 m2 d2] 48)
   have H6:=fX (fW fO (fW ap aO));clear fO ap aO
   (refine hK.out _ _ (fun _=>mU.out) ?_;clear hK K';try simp only [pQ,pN,pZ,pS])
   refine qi 17 (by kernel_rfl) ?_
   intro o17 ho K' hK
   (simp at ho;subst ho)
   go_simp
   (refine hK.out _ _ (fun _=>mU.out.alloc _) ?_;clear hK K';try simp only [pQ,pN,pZ,pS])
   refine qi 18 (by kernel_rfl) ?_
   intro o18 ho K' hK
   (simp at ho;subst ho)
   refine zF (by rfl) _ _ _ (by rfl) 48 (.agg #[str [],.int .i64 0,.slice none 0 0,.slice none 0 0]) 4 72 Tryz.underlying46 Tryz.infoN rfl h04 (.slice sa j sc) j us (by rfl) mK _ 1 [str s6,.int .i64 v6,.slice b1 m1 d1,.slice b2 m2 d2] (by rfl) (zq.lit4 #[str s6,.int .i64 v6,.slice b1 m1 d1,.slice b2 m2 d2] rfl (by simp [str,Value.oneCell']) _ rfl) tP nA ?_
   intro a' c' w7 fm fS fw
   (refine hK.out _ _ (fun _=>(mU.out.alloc _).trans (fS.weak fun i _ h=>.inr h)) ?_;clear hK K';try simp only [pQ,pN,pZ,pS])
   have mw:=out_cell fS NB.out Ih
   have iU:=out_free fS NB.out Fy By
   refine qi 19 (by kernel_rfl) ?_
   intro o19 ho K' hK
   (simp at ho;subst ho)
   go_simp
   (refine hK.out _ _ (fun _=>(mU.out.alloc _).trans (fS.weak fun i _ h=>.inr h)) ?_;clear hK K';try simp only [pQ,pN,pZ,pS])
   refine qi 20 (by kernel_rfl) ?_
   intro o20 ho K' hK
   (simp at ho;subst ho)
   go_simp
   (refine hK.out _ _ (fun h=>by simp at h) ?_;clear hK K';try simp only [pQ,pN,pZ,pS])
   refine zU (by kernel_rfl) (NoPanic.normal ?_) _
   have hX:=HI.out.next (by rw [HZ.out.1]) hww HP.out.hF H6.out.1 H6.out.2.1 H6.out.2.2 Dg.out.1 Dg.out.2 fm fS fw
   have HN:=fX hX
   clear hX fm fS fw fF Ih By mK
   go_wp2_with fail
   go_roundw
   case rel=>exact ⟨j+1,_,_,by omega,by go_num,HN.out⟩
   case measure=>simp [intOf];omega
  ·obtain rfl:j=ss.length:=by omega
   obtain ⟨outs,k1,l1,hst⟩:∃ outs k1 l1,NInv F ww (20001+20*(d:Int)+(ss.length:Int)) k l n o vv ss.length env (fun k l b _ _ _=>evN d k l b env n (st.map WFr.gf)) k1 l1 [t,t] [y,no] (kE (evN d) env n k l t.args ss=some (outs,k1,l1)) (xF d k l n o t ss y no env (st.map WFr.gf)=none) true (.slice sa ss.length sc) outs a1 a2 ta c1 c2 t.args.length tc i0 w (W2.heap.size+1) 0 (.slice none 0 0) [] wr:=by
    have i2:=(HP.out.fit.keep HP.out.hv).1
    have hI:=HI.out
    rcases hI.mode with ⟨outs,kj,lj,_,rK,az,rM,Ga,F7,rL,_⟩ | ⟨rK,s,rM,oX,rq⟩
    ·rw [List.take_length,List.take_of_length_le (by omega)] at rK
     refine ⟨outs,kj,lj,{ but:=hI.but,zw:=hI.zw,box:=hI.box,res:=hI.res,bnd:=hI.bnd,blk:=hI.blk,own:=World.ownsRow_nil _ _ _ _,fr:=fun g hg=>by simp [Value.ownBlock] at hg,mode:=.inl ⟨[],kj,lj,rK,by simp [kE],rfl,rM,Ga,F7,by simp [zh,zC],?_⟩ }⟩
     rw [az]
     refine hI.own.rep (fun g hg=>⟨.inr (by have h1:=hI.fr g hg;have h2:=HZ.out.1;omega),by simp [Value.ownBlock]⟩) ?_
     exact (Rep.keep fun b o hf ho=>⟨⟨hf.1,by simp [Value.ownBlock]⟩,ho⟩).2 _ _ rL
    ·exact ⟨[],0,0,{ but:=hI.but,zw:=hI.zw,box:=hI.box,res:=hI.res,bnd:=hI.bnd,blk:=hI.blk,own:=World.ownsRow_nil _ _ _ _,fr:=fun g hg=>by simp [Value.ownBlock] at hg,mode:=.inr ⟨by unfold xF;rw [rK];rfl,s,rM,oX,by omega⟩ }⟩
   obtain ⟨ka,kc,hk⟩:∃ a c,Value.slice sa ss.length sc=.slice a ss.length c:=⟨_,_,rfl⟩
   rw [hk] at hst
   have A9:=fX hst;clear hst hk
   have IL:ss.length<=15:=by
    have iy:=pg _ HP.out.ok vv _ HP.out.hv
    rw [okM] at iy
    have h1:=(zi iy.1).2
    have h2:=(HP.out.fit.keep HP.out.hv).1
    omega
   clear HI y0 y1 y3 q0 q1 q2 q3 qf z5 fT hj
   go_wp2_with fail
   clear y2
   go_loopw [14] (fun i wr=>∃ (j:Nat) (sv:Value) (us:List Value),j<=2/\i=.int .i64 j/\NInv F ww (20001+20*(d:Int)+(ss.length:Int)) k l n o vv ss.length env (fun k l b _ _ _=>evN d k l b env n (st.map WFr.gf)) k1 l1 [t,t] [y,no] (kE (evN d) env n k l t.args ss=some (outs,k1,l1)) (xF d k l n o t ss y no env (st.map WFr.gf)=none) true (.slice ka ss.length kc) outs a1 a2 ta c1 c2 t.args.length tc i0 w (W2.heap.size+1) j sv us wr) (fun i _=>2-(intOf i).toNat)
   case atStart=>exact ⟨0,_,_,by omega,rfl,A9.out⟩
   case round =>
    rename_i wr
    obtain ⟨j,sv1,us,hj,rfl,fL⟩:=hrel
    obtain ⟨sa,sc,e⟩:=fL.own.slice
    subst e
    obtain ⟨y0,y1,y2,y3⟩:=kH fL.box
    obtain ⟨q0,q1,q2,q3,qlt,qf⟩:=fL.blk.cells
    have HI:=fX fL;clear fL
    by_cases fT:j<2
    ·have mT:(j:Int)<2:=by omega
     have Iu:Rep F w (.sl 48 4 [y,no].length (zh [y,no])) (.slice a2 2 c2):=by
      have mn:=HP.out.rb
      rw [yE] at mn
      simp only [zQ,zC] at mn
      obtain ⟨_,_,e0,_,_,_,rfl,_,_,_,rfl,_,_,_,rfl,h3,_⟩:=mn
      simp only [List.cons.injEq] at e0
      obtain ⟨_,_,_,e2,_⟩:=e0
      rw [e2];exact h3
     obtain ⟨ya,yc,e,Iv⟩:=gQ.of Iu
     simp only [Value.slice.injEq] at e
     obtain ⟨rfl,_,rfl⟩:=e
     obtain ⟨kb,ko,s',v',ly,ik,lu,A7,l_,A3,sd,e,sG,iQ,g0,g1,g2,g3,rR⟩:=Iv j fT
     subst e
     have Bh:=HP.out.fit.keep HP.out.hv
     have hne:kb≠ww:=node_ne HP.out.wri g0
     have p0:=(HI.out.but.cell (p:=⟨kb,ko+j*4,none⟩) sG hne).trans g0
     have p1:=(HI.out.but.cell (p:=⟨kb,ko+j*4+1,none⟩) sG hne).trans g1
     have p2:=(HI.out.but.cell (p:=⟨kb,ko+j*4+2,none⟩) sG hne).trans g2
     have p3:=(HI.out.but.cell (p:=⟨kb,ko+j*4+3,none⟩) sG hne).trans g3
     have Ar:But (· = ww) w wr.drew:=HI.out.but.drew
     have sK:∀ b,(F b/\b<w.heap.size)->¬ (b=ww)/\(F b/\b<w.heap.size):=fun b hb=>⟨HP.out.hF b hb.1,hb⟩
     have BP:zX (fun i=>F i/\i<w.heap.size) wr.drew (kR sd) [str s',.int .i64 v',.slice ly ik lu,.slice A7 l_ A3]:=(zX.low rR).but Ar sK
     have AI:=(Rep.low HP.out.re).but Ar sK
     have IU:=(Rep.low HP.out.rs).but Ar sK
     have iY:=HP.out.el;have iE:=HP.out.nl;have oE:=HP.out.ld;have Gi:=HP.out.d20;have i6:=HP.out.k200;have DQ:=HP.out.stl
     have hfj:jz H sd env (st.map WFr.gf):=by
      rcases (by omega:j=0\/j=1) with rfl | rfl
      ·simp at iQ;subst iQ;exact Bh.2.2.2.1
      ·simp at iQ;subst iQ;exact Bh.2.2.2.2
     have hwj:wfB sd:=by
      rcases (by omega:j=0\/j=1) with rfl | rfl
      ·simp at iQ;subst iQ;exact HP.out.wf.1.2.1
      ·simp at iQ;subst iQ;exact HP.out.wf.1.2.2
     have Dq:[t,t][j]? = some t:=by
      rcases (by omega:j=0\/j=1) with rfl | rfl <;> rfl
     have me:=bx (f:=fun k l b _ _ _=>evN d k l b env n (st.map WFr.gf)) (env:=env) (n:=n) (k:=k1) (l:=l1) Dq iQ
     obtain ⟨oo,Kr,GC,GB⟩:∃ oo,Calls Tryz.prog 67 #[.pointer (some ⟨ww,0,none⟩),.agg #[str s',.int .i64 v',.slice ly ik lu,.slice A7 l_ A3],.slice (some ⟨eb,eo,none⟩) env.length ecap,sv,.int .i64 (n:Nat)] wr.drew (vS (fun i=>F i/\i<w.heap.size) ww (20001+20*(d:Int)+(ss.length:Int)+((j+1:Nat):Int)) oo wr.drew) /\
      (oo=none->xF d k l n o t ss y no env (st.map WFr.gf)=none) /\
      (∀ x,oo=some x->∃ zs,kE (evN d) env n k l t.args ss=some (outs,k1,l1)/\kE (fun k l b _ _ _=>evN d k l b env n (st.map WFr.gf)) env n k1 l1 ([t,t].take (j+1)) ([y,no].take (j+1))=some (zs++[x.1],x.2.1,x.2.2)/\zs.length=j/\x.2.1<=k/\x.2.2<=l/\zX (fun i=>Fx F w 4 i/\(Value.slice sa j sc).ownBlock≠some i) wr (zh zs) us /\
       Rep (fun i=>Fx F w 4 i/\(Value.slice sa j sc).ownBlock≠some i) wr (.sl 48 4 outs.length (zh outs)) (.slice ka ss.length kc)):=by
      rcases HI.out.mode with ⟨zs,kj,lj,hA,rK,az,rM,Ga,F7,rL,mz⟩ | ⟨rK,s,rM,oX,rq⟩
      ·refine ⟨evN d kj lj sd env n (st.map WFr.gf),(IH.out _ ww kj lj n H sd env st s' v' ly A7 ik lu l_ A3 _ _ wr.drew { wri:=rM,hF:=fun i hi=>HP.out.hF i hi.1,ld:=by omega,d20:=Gi,k200:=by omega,fit:=hfj,hn:=HP.out.hn,el:=by omega,nl:=by omega,stl:=by omega,ok:=k_ (by omega) _ HP.out.ok,okg:=vF (by omega) _ HP.out.okg,wf:=⟨hwj,HP.out.wf.2⟩,rb:=BP,re:=AI,rs:=IU }).mono ?_,fun h=>?_,fun x h=>?_⟩
       ·rintro en w' ⟨q1,q2,q3,q4,q5,q6,q7,q8,q9,GX,Ey,GW⟩
        exact ⟨q1,q2,q3,q4,q5,q6,q7,q8,q9,GX,fun h=>by obtain ⟨st,u1,u2,u3⟩:=Ey h;exact ⟨st,u1,u2,by omega⟩,GW⟩
       ·have sh:kE (fun k l b _ _ _=>evN d k l b env n (st.map WFr.gf)) env n k1 l1 [t,t] [y,no]=none:=by
         refine wW (j+1) _ _ _ _ ?_
         rw [me,rK];simp only [Option.bind_some];rw [h];rfl
        exact keptN_none hA sh
       ·have mO:=evN_left _ _ _ _ _ _ _ _ _ _ h
        exact ⟨zs,hA,by rw [me,rK];simp only [Option.bind_some];rw [h];rfl,az,fD mO.1 Ga,fD mO.2 F7,rL,mz⟩
      ·refine ⟨none,(dx ww s _ s' v' ly A7 ik lu l_ A3 rfl _ _ n wr.drew rM oX (by omega)).mono ?_,fun _=>rK,fun y h=>by simp at h⟩
       rintro en w' ⟨rfl,q1,q2⟩
       exact ⟨_,_,_,_,_,_,_,_,rfl,q1,fun _=>⟨_,q2,by omega,by omega⟩,fun x h=>by simp at h⟩
     have CC:=fX Kr
     have Dg:=fX (fW GC GB)
     have tP:j+1<=maxLen:=by unfold maxLen;omega
     have nA:(j+1)*72<=140737488355328:=by omega
     have h04:0<4:=by omega
     have FV:¬ (W2.heap.size+1=ww):=by rw [HZ.out.1];omega
     have NB:=fX (show ¬ (Value.slice sa j sc).ownBlock=some (W2.heap.size+1) from fun e=>by have:=HI.out.fr _ e;omega)
     have OWN:=fX (fun (w6:World) (h6:But (· = ww) wr.drew w6)=>(HI.out.own.keep (w':=w6) fun g o hg hh=>by
      have:=HI.out.fr g hg
      rw [h6.block g (zZ hh) (fun e=>by have e:g=ww:=e;rw [HZ.out.1] at this;omega)];exact hh))
     have nF:=HZ.out.1
     have SX:Hid (∀ w',But (fun i=>i=ww\/(Value.slice sa j sc).ownBlock=some i) wr w'->w'.cell? ⟨W2.heap.size+1,3,none⟩=some (.slice sa j sc)/\w'.cell? ⟨w.heap.size,3,none⟩=some (.slice (some ⟨kb,ko,none⟩) 2 c2) /\
      w'.cell? ⟨kb,ko+j*4,none⟩=some (str s')/\w'.cell? ⟨kb,ko+j*4+1,none⟩=some (.int .i64 v')/\w'.cell? ⟨kb,ko+j*4+2,none⟩=some (.slice ly ik lu)/\w'.cell? ⟨kb,ko+j*4+3,none⟩=some (.slice A7 l_ A3)/\True/\True):=by
      show ∀ w',_->_
      intro w' fx
      have key:∀ {p:Addr} {u:Value},p.block<W2.heap.size+2->p.block≠ww->wr.cell? p=some u->w'.cell? p=some u:=fun hp hne hu =>
       (fx.cell (fG wr _ hu) (fun e=>e.elim hne (fun e=>by have:=HI.out.fr _ e;omega))).trans hu
      exact ⟨key (by show W2.heap.size+1<_;omega) FV q3,key (by show w.heap.size<_;omega) (by show w.heap.size≠ww;omega) y3,key (by show kb<_;omega) hne p0,key (by show kb<_;omega) hne p1,key (by show kb<_;omega) hne p2,key (by show kb<_;omega) hne p3,trivial,trivial⟩
     have q2:wr.cell? ⟨W2.heap.size+1,3,none⟩=some (.slice sa j sc):=q3
     have Dk:=qf 3
     clear Bh hne sK BP IU AI me GC GB Kr Iu Iv g0 g1 g2 g3 rR iQ Dq hfj hwj qf Ar nF y0 y1 y2 y3 q0 q1 q3 p0 p1 p2 p3
     go_wp2_with fail
     refine wp_region_noPanic ?_
     refine zB (fun w'=>But (fun i=>i=ww\/(Value.slice sa j sc).ownBlock=some i) wr w') (fun i=>i == 15) (by kernel_rfl) ?_
     have fF:But (fun i=>i=ww\/(Value.slice sa j sc).ownBlock=some i) wr wr.drew:=(But.refl _ wr).drew
     refine tk [0,1,2,3,4,5,6,7,8,9,10] fF ?_
     (intro d hd;simp [tkD] at hd;subst hd;simp only [tks,pQ,pZ,pS])
     iterate 11 (refine ⟨?_,?_,?_⟩;rotate_left;· (intro oi ho;simp at ho;subst ho;refine Or.inl ⟨by rfl,fun w' fI=>?_⟩;obtain ⟨e0,e1,e2,e3,e4,e5,e6,e7⟩:=SX.out w' fI;go_simp;try with_reducible rfl))
     refine qi 11 (by kernel_rfl) ?_
     intro o11 ho K' hK
     (simp at ho;subst ho)
     go_simp
     go_at_call 67
     (with_reducible refine CC.out.mono ?_)
     rintro Aw w6 ⟨s6,v6,b1,m1,d1,b2,m2,d2,rfl,fO,ap,aO⟩
     have mU:Hid (But (fun i=>i=ww\/(Value.slice sa j sc).ownBlock=some i) wr w6):=fF.trans (fO.weak fun i _ h=>.inl h)
     have Ih:=but_cell fO FV q2
     have Fy:=fC qlt fO.size
     have By:=but_free fO FV qlt Dk
     have mK:=(OWN.out _ fO).alloc (.cells #[str s6,.int .i64 v6,.slice b1 m1 d1,.slice b2 m2 d2] 48)
     have H6:=fX (fW fO (fW ap aO));clear fO ap aO
     (refine hK.out _ _ (fun _=>mU.out) ?_;clear hK K';try simp only [pQ,pN,pZ,pS])
     refine qi 12 (by kernel_rfl) ?_
     intro o12 ho K' hK
     (simp at ho;subst ho)
     go_simp
     (refine hK.out _ _ (fun _=>mU.out.alloc _) ?_;clear hK K';try simp only [pQ,pN,pZ,pS])
     refine qi 13 (by kernel_rfl) ?_
     intro o13 ho K' hK
     (simp at ho;subst ho)
     refine zF (by rfl) _ _ _ (by rfl) 48 (.agg #[str [],.int .i64 0,.slice none 0 0,.slice none 0 0]) 4 72 Tryz.underlying46 Tryz.infoN rfl h04 (.slice sa j sc) j us (by rfl) mK _ 1 [str s6,.int .i64 v6,.slice b1 m1 d1,.slice b2 m2 d2] (by rfl) (zq.lit4 #[str s6,.int .i64 v6,.slice b1 m1 d1,.slice b2 m2 d2] rfl (by simp [str,Value.oneCell']) _ rfl) tP nA ?_
     intro a' c' w7 fm fS fw
     (refine hK.out _ _ (fun _=>(mU.out.alloc _).trans (fS.weak fun i _ h=>.inr h)) ?_;clear hK K';try simp only [pQ,pN,pZ,pS])
     have mw:=out_cell fS NB.out Ih
     have iU:=out_free fS NB.out Fy By
     refine qi 14 (by kernel_rfl) ?_
     intro o14 ho K' hK
     (simp at ho;subst ho)
     go_simp
     (refine hK.out _ _ (fun _=>(mU.out.alloc _).trans (fS.weak fun i _ h=>.inr h)) ?_;clear hK K';try simp only [pQ,pN,pZ,pS])
     refine qi 15 (by kernel_rfl) ?_
     intro o15 ho K' hK
     (simp at ho;subst ho)
     go_simp
     (refine hK.out _ _ (fun h=>by simp at h) ?_;clear hK K';try simp only [pQ,pN,pZ,pS])
     refine zU (by kernel_rfl) (NoPanic.normal ?_) _
     have hX:=HI.out.next (by rw [HZ.out.1]) hww HP.out.hF H6.out.1 H6.out.2.1 H6.out.2.2 Dg.out.1 Dg.out.2 fm fS fw
     have HN:=fX hX
     clear hX fm fS fw fF Ih By mK
     go_wp2_with fail
     go_roundw
     case rel=>exact ⟨j+1,_,_,by omega,by go_num,HN.out⟩
     case measure=>simp [intOf];omega
    ·obtain rfl:j=2:=by omega
     obtain ⟨r0,r1,r2,r3,rlt,rf⟩:=HI.out.res.cells
     have nJ:=rf 0;have nf:=rf 1;have rO:=rf 2;have tJ:=rf 3
     have q2':wr.cell? ⟨W2.heap.size+1,2,none⟩=some (.slice ka ss.length kc):=q2
     have q3':wr.cell? ⟨W2.heap.size+1,3,none⟩=some (.slice sa 2 sc):=q3
     clear q2 q3 y0 y1 y2 y3 qf rf
     go_wp2_with fail
     have hnn:xF d k l n o t ss y no env (st.map WFr.gf)=none->∃ s,Wri wr ww (-1) s/\0<=s/\s<=20001+20*((d:Int)+1):=by
      intro h0
      rcases HI.out.mode with ⟨zs,kj,lj,hA,rK,az,rM,Ga,F7,rL,mz⟩ | ⟨rK,s,rM,oX,rq⟩
      ·obtain ⟨z1,z2,_,h2⟩:=keptN_of (o:=o) hA rK
       rw [h2] at h0;simp at h0
      ·exact ⟨s,rM,oX,by omega⟩
     have DJ:∀ x,xF d k l n o t ss y no env (st.map WFr.gf)=some x->Wri wr ww (x.2.1:Nat) (20000-(x.2.2:Nat))/\zX (fun i=>(F i/\i<w.heap.size)\/w.heap.size+2<=i) wr (kR x.1) [str [],.int .i64 (o:Nat),.slice ka ss.length kc,.slice sa 2 sc]:=by
      intro x hx
      rcases HI.out.mode with ⟨zs,kj,lj,hA,rK,az,rM,Ga,F7,rL,mz⟩ | ⟨rK,s,rM,oX,rq⟩
      ·obtain ⟨z1,z2,hz,h2⟩:=keptN_of (o:=o) hA rK
       rw [h2] at hx
       simp only [Option.some.injEq] at hx
       subst hx
       subst hz
       refine ⟨rM,?_⟩
       have hgg:∀ (i:Nat) (y:Obj),(Fx F w 4 i/\(Value.slice sa 2 sc).ownBlock≠some i)->wr.heap[i]? = some y->((F i/\i<w.heap.size)\/w.heap.size+2<=i)/\wr.heap[i]? = some y:=fun i y hi hy=>⟨by
        rcases hi.1 with h | h
        ·exact .inl h
        ·exact .inr (by omega),hy⟩
       have AH:=(Rep.keep hgg).1 _ _ mz
       have hlo:outs.length=ss.length:=by
        rw [zp] at AH
        obtain ⟨_,a,cap,e,_⟩:=AH
        simp only [Value.slice.injEq] at e
        exact e.2.1.symm
       rw [yE]
       refine zQ.2 ⟨_,_,rfl,zH.2 rfl,zQ.2 ⟨_,_,rfl,zH.2 rfl,zQ.2 ⟨_,_,rfl,AH,zQ.2 ⟨_,_,rfl,?_,zC.2 rfl⟩⟩⟩⟩
       exact HI.out.own.rep (fun g hg=>.inr (by have h1:=HI.out.fr g hg;have h2:=HZ.out.1;omega)) ((Rep.keep hgg).2 _ _ rL)
      ·rw [rK] at hx;simp at hx
     obtain ⟨W4,ri,mC,mY,mB,mE,ne⟩:=xO (F:=F) (D:=20001+20*((d:Int)+1)) (o:=xF d k l n o t ss y no env (st.map WFr.gf)) (s:=[]) (v:=(o:Nat)) (a1:=ka) (n1:=ss.length) (c1:=kc) (a2:=sa) (n2:=2) (c2:=sc) HI.out.but hww HI.out.res hnn DJ
     rw [<- ri]
     exact bodyPost_ret (v:=.agg #[str [],.int .i64 (o:Nat),.slice ka ss.length kc,.slice sa 2 sc]) (by simp [results,Tryz.results87,go_sem,mC,mY,mB,mE]) rfl ne
def u7 (B:Nat) (x0 x1 x2 x3:Value) (w:World):World:=(((w.setCell ⟨B,0,none⟩ x0).setCell ⟨B,1,none⟩ x1).setCell ⟨B,2,none⟩ x2).setCell ⟨B,3,none⟩ x3
theorem xY {B:Nat} {x0 x1 x2 x3:Value} {m:Nat->Prop} {a w:World} (h:But m a w) (hm:m B):But m a (u7 B x0 x1 x2 x3 w) :=
 (((h.setCell (p:=⟨B,0,none⟩) (.inl hm) _).setCell (p:=⟨B,1,none⟩) (.inl hm) _).setCell (p:=⟨B,2,none⟩) (.inl hm) _).setCell (p:=⟨B,3,none⟩) (.inl hm) _
theorem x8 {B:Nat} {u0 u1 u2 u3 x0 x1 x2 x3:Value} {e:TypeId} {w:World} (h:w.heap[B]? = some (.cells #[u0,u1,u2,u3] e (0,0))):(u7 B x0 x1 x2 x3 w).heap[B]? = some (.cells #[x0,x1,x2,x3] e (0,0)):=by
 unfold u7
 rw [zy (zy (zy (zy h)))];rfl
def leftW (ww:Nat) (wr:World):Nat:=match wr.heap[ww]? with
 | some (.cells c _ _)=>(20001-intOf (c.getD 1 (.int .i64 0))).toNat
 | _=>0
theorem xo {w:World} {ww:Nat} {k s:Int} (h:Wri w ww k s):leftW ww w=(20001-s).toNat:=by
 unfold Wri at h
 unfold leftW
 rw [h]
 simp [intOf]
structure WAt (F:Nat->Prop) (ww d k l n:Nat) (H:List Ty) (b:Bd) (env:List Mn) (st:List WFr) (s0:Bs) (v0:Int) (a1 a2:Option Addr) (n1 c1 n2 c2:Nat) (ev sv:Value) (w wr:World):Prop where
 pre:fZ (Fx F w 2) ww d k l n H b env st s0 v0 a1 a2 n1 c1 n2 c2 ev sv wr
 box:wr.heap[w.heap.size]? = some (.cells #[str s0,.int .i64 v0,.slice a1 n1 c1,.slice a2 n2 c2] 48 (0,0))
 res:z9 (w.heap.size+1) 0 (.slice none 0 0) (.slice none 0 0) wr
 but:But (· = ww) w wr
 zw:w.heap.size+2<=wr.heap.size
 hww:ww<w.heap.size
theorem Fx.low {F:Nat->Prop} {ww:Nat} {w:World} (hF:∀ i,F i->i≠ww) (hww:ww<w.heap.size) (i:Nat) (h:Fx F w 2 i):i≠ww/\i≠w.heap.size/\i≠w.heap.size+1:=by
 rcases h with h | h
 ·exact ⟨hF i h.1,by have:=h.2;omega,by have:=h.2;omega⟩
 ·exact ⟨by omega,by omega,by omega⟩
theorem Fx.low' {F:Nat->Prop} {ww:Nat} {w:World} (hF:∀ i,Fx F w 2 i->i≠ww) {i:Nat} (h:Fx F w 2 i) (_:0<=i):i≠ww/\i≠w.heap.size:=by
 refine ⟨hF i h,?_⟩
 rcases h with h | h
 ·have:=h.2;omega
 ·omega
theorem WAt.start {F:Nat->Prop} {ww d k l n:Nat} {H:List Ty} {b:Bd} {env:List Mn} {st:List WFr} {s0:Bs} {v0:Int} {a1 a2:Option Addr} {n1 c1 n2 c2:Nat} {ev sv:Value} {w:World}
 (h:fZ F ww d k l n H b env st s0 v0 a1 a2 n1 c1 n2 c2 ev sv w) :
 WAt F ww d k l n H b env st s0 v0 a1 a2 n1 c1 n2 c2 ev sv w ((w.alloc (.cells #[str s0,.int .i64 v0,.slice a1 n1 c1,.slice a2 n2 c2] 48)).alloc (.cells #[str [],.int .i64 0,.slice none 0 0,.slice none 0 0] 48)):=by
 have hww:=h.wri.cell.2.2.2
 have kk:∀ (i:Nat) (o:Obj),F i->w.heap[i]? = some o->Fx F w 2 i/\((w.alloc (.cells #[str s0,.int .i64 v0,.slice a1 n1 c1,.slice a2 n2 c2] 48)).alloc (.cells #[str [],.int .i64 0,.slice none 0 0,.slice none 0 0] 48)).heap[i]? = some o :=
  fun i o hf ho=>⟨.inl ⟨hf,zZ ho⟩,zY (zY ho)⟩
 have hn:=zG (w.alloc (.cells #[str s0,.int .i64 v0,.slice a1 n1 c1,.slice a2 n2 c2] 48)) (.cells #[str [],.int .i64 0,.slice none 0 0,.slice none 0 0] 48)
 rw [zK] at hn
 exact { pre:={ wri:=zY (zY h.wri),hF:=fun i hi=>by
                 rcases hi with hi | hi
                 ·exact h.hF i hi.1
                 ·omega
                ld:=h.ld,d20:=h.d20,k200:=h.k200,fit:=h.fit,hn:=h.hn,el:=h.el,nl:=h.nl,stl:=h.stl,ok:=h.ok,okg:=h.okg,wf:=h.wf,rb:=(Rep.keep kk).2 _ _ h.rb,re:=(Rep.keep kk).1 _ _ h.re,rs:=(Rep.keep kk).1 _ _ h.rs },
         box:=zY (zG _ _),res:=hn,but:=((But.refl _ _).alloc _).alloc _,zw:=by simp only [zK];omega,hww:=hww }
theorem WAt.move {F:Nat->Prop} {ww d k l n:Nat} {H:List Ty} {b:Bd} {env:List Mn} {st:List WFr} {s0:Bs} {v0:Int} {a1 a2:Option Addr} {n1 c1 n2 c2:Nat} {ev sv:Value} {w wr:World}
 (h:WAt F ww (d+1) k (l+1) n H b env st s0 v0 a1 a2 n1 c1 n2 c2 ev sv w wr) {w8:World} {b':Bd} {env':List Mn} {st':List WFr} {mC:Bs} {Fe:Int} {a1' ly:Option Addr} {n1' c1' ik lu:Nat} {ev' sv':Value}
 (mJ:But (fun i=>i=ww\/i=w.heap.size) wr w8) (EB:Wri w8 ww (k:Nat) (20000-(l:Nat)))
 (hbox:w8.heap[w.heap.size]? = some (.cells #[str mC,.int .i64 Fe,.slice a1' n1' c1',.slice ly ik lu] 48 (0,0)))
 (fit:jz H b' env' (st'.map WFr.gf)) (el:env'.length+16*d<=1000000) (stl:st'.length+d<=40000) (ok:yH (1000000-16*d) env') (okg:okGs (1000000-16*d) (st'.map WFr.gf)) (wf:wfB b'/\xj env'/\∀ f∈st'.map WFr.gf,wfG f)
 (rb:zX (Fx F w 2) w8 (kR b') [str mC,.int .i64 Fe,.slice a1' n1' c1',.slice ly ik lu]) (re:Rep (Fx F w 2) w8 (.sl 130 9 env'.length (kr env')) ev') (rs:Rep (Fx F w 2) w8 (.sl 146 6 st'.length (uu st')) sv') :
 WAt F ww d k l n H b' env' st' mC Fe a1' ly n1' c1' ik lu ev' sv' w w8:=by
 have hz:=mJ.size
 have oZ:=h.zw
 have hww:=h.hww
 have oE:=h.pre.ld;have hd:=h.pre.d20;have iE:=h.pre.nl
 exact { pre:={ wri:=EB,hF:=h.pre.hF,ld:=by omega,d20:=by omega,k200:=h.pre.k200,fit:=fit,hn:=h.pre.hn,el:=el,nl:=by omega,stl:=stl,ok:=ok,okg:=okg,wf:=wf,rb:=rb,re:=re,rs:=rs },
         box:=hbox,res:=h.res.but mJ (by omega),but:=h.but.trans' mJ (fun i hi e=>by rcases e with e | e;exact e;omega),zw:=by omega,hww:=hww }
theorem gW {F:Nat->Prop} {w:World}:∀ (st:List WFr) (us:List Value),zX F w (uu st) us->∀ u∈us,u.oneCell'=true
 | [],us,h,u,hu=>by rw [uu,zC] at h;subst h;simp at hu
 | f::st,us,h,u,hu=>by
   rw [uu] at h
   obtain ⟨h1,h2⟩:=h.split
   rw [<- List.take_append_drop (uu st).length us] at hu
   rcases List.mem_append.1 hu with hu | hu
   ·exact gW st _ h1 u hu
   ·rw [encF,yE] at h2
    simp only [List.cons_append,List.nil_append,zQ,zC,zH] at h2
    obtain ⟨_,_,e,rfl,_,_,rfl,rfl,x2,_,rfl,q2,x3,_,rfl,q3,x4,_,rfl,q4,_,_,rfl,rfl,rfl⟩:=h2
    obtain ⟨_,n_,nz,e1,_⟩:=zp.1 q2
    obtain ⟨_,rS,nO,e2,_⟩:=zp.1 q3
    obtain ⟨_,ea,ec,e3,_⟩:=zp.1 q4
    subst e1;subst e2;subst e3
    rw [e] at hu
    simp only [List.mem_cons,List.not_mem_nil,or_false] at hu
    rcases hu with rfl | rfl | rfl | rfl | rfl | rfl <;> rfl
theorem Tryz.infoFW:(Tryz.prog.info? 146).map (fun i=>(i.zero,i.size,i.bytes))=some (some (.agg #[str [],.int .i64 0,.slice none 0 0,.slice none 0 0,.slice none 0 0,.int .i64 0]),6,104):=by kernel_rfl
def WRel (F:Nat->Prop) (ww D k n:Nat) (H:List Ty) (R:Option (Bd×Nat×Nat)) (w:World) (ev sv:Value) (wr:World):Prop :=
 ∃ d l b env st s0 v0 a1 a2 n1 c1 n2 c2,d<=D/\R=evN d k l b env n (st.map WFr.gf)/\WAt F ww d k l n H b env st s0 v0 a1 a2 n1 c1 n2 c2 ev sv w wr
set_option maxRecDepth 100000 in
theorem write_step (D:Nat) (ih:∀ d,d<D->x9 d):x9 D:=by
 intro F ww k L n H b0 Kz st0 s00 v00 DH a20 n10 El n20 c20 ev0 sv0 w h
 suffices HS:∀ R,R=evN D k L b0 Kz n (st0.map WFr.gf)->Calls Tryz.prog 67 #[.pointer (some ⟨ww,0,none⟩),.agg #[str s00,.int .i64 v00,.slice DH n10 El,.slice a20 n20 c20],ev0,sv0,.int .i64 (n:Nat)] w (vS F ww (20001+20*D) R w) from HS _ rfl
 intro R hR
 have IH:=fX ih
 have hst:=WAt.start h
 have hD20:=h.d20
 have A9:=fX hst
 clear h hst ih
 obtain ⟨W,hW⟩:=zzN ((w.alloc (.cells #[str s00,.int .i64 v00,.slice DH n10 El,.slice a20 n20 c20] 48)).alloc (.cells #[str [],.int .i64 0,.slice none 0 0,.slice none 0 0] 48))
 have HW:=fX hW;clear hW
 have HR:=fX hR;clear hR
 go_enter Tryz.func67,Tryz.ntmps67
 go_upto_region 1 with (fail)
 rw [HW.out]
 go_wp2_with fail
 go_loopw [2,3] (fun e s wr=>WRel F ww D k n H R w e s wr) (fun _ _ wr=>leftW ww wr)
 case atStart=>exact ⟨D,L,b0,Kz,st0,s00,v00,DH,a20,n10,El,n20,c20,fP _,HR.out,by rw [<- HW.out];exact A9.out⟩
 case round =>
  obtain ⟨d,l,b,env,st,s0,v0,a1,a2,n1,c1,n2,c2,hdD,hRe,fM⟩:=hrel
  have hlm:=xo fM.pre.wri
  obtain ⟨s,hs⟩:∃ s:Int,s=20000-(l:Int):=⟨_,rfl⟩
  have hl20:l<=20000:=by have:=fM.pre.ld;have:=fM.pre.d20;omega
  have oX:0<=s:=by omega
  have rq:s<=20000:=by omega
  have Cx:Wri wr ww (k:Nat) s:=by rw [hs];exact fM.pre.wri
  obtain ⟨k0,k1,kf,klt⟩:=Cx.cell
  have Ip:=kf 1
  have Jw:=fM.pre.k200
  obtain ⟨W2,mV⟩:=zzN (wr.setCell ⟨ww,1,none⟩ (.int .i64 (s+1)))
  have tI:Wri W2 ww (k:Nat) (s+1):=by unfold Wri at *;rw [<- mV,zy Cx];rfl
  have fN:But (· = ww) wr W2:=by rw [<- mV];exact (But.refl (· = ww) wr).setCell (p:=⟨ww,1,none⟩) (.inl rfl) _
  have hww:=fM.hww
  have Gl:W2.heap[w.heap.size]? = some (.cells #[str s0,.int .i64 v0,.slice a1 n1 c1,.slice a2 n2 c2] 48 (0,0)):=by
   have hx:=fM.box
   rw [fN.block _ (zZ hx) (by omega)];exact hx
  have mS:z9 (w.heap.size+1) 0 (.slice none 0 0) (.slice none 0 0) W2:=fM.res.but fN (by omega)
  obtain ⟨m0,m1,mf,mlt⟩:=tI.cell
  have mf0:=mf 0
  have mg:=fX (fW hdD (fW hRe (fW hlm (fW hs fM))))
  have H2:=fX (fW mV (fW tI (fW fN (fW Gl mS))))
  obtain ⟨y0,y1,y2,y3⟩:=kH Gl
  clear hdD hRe hlm hs fM mV tI fN Gl mS Cx kf mf
  by_cases Eb:k=0\/l=0
  ·have HB:=fX Eb
   have E0:R=none:=by
    rw [mg.out.2.1]
    rcases Eb with h | h
    ·rw [h];exact evN_zk
    ·rw [h];exact evN_zl
   obtain ⟨W3,mI⟩:=zzN (W2.setCell ⟨ww,0,none⟩ (.int .i64 (-1)))
   have sn:Wri W3 ww (-1) (s+1):=by have:=H2.out.2.1;unfold Wri at *;rw [<- mI,zy this];rfl
   have fv:But (· = ww) W2 W3:=by rw [<- mI];exact (But.refl (· = ww) W2).setCell (p:=⟨ww,0,none⟩) (.inl rfl) _
   have mD:z9 (w.heap.size+1) 0 (.slice none 0 0) (.slice none 0 0) W3:=H2.out.2.2.2.2.but fv (by omega)
   obtain ⟨r0,r1,r2,r3,rlt,rf⟩:=mD.cells
   have nJ:=rf 0;have nf:=rf 1;have rO:=rf 2;have tJ:=rf 3
   have ne:=xO (F:=F) (ww:=ww) (D:=20001+20*(D:Int)) (o:=R) (s:=[117]) (v:=0) (a1:=none) (n1:=0) (c1:=0) (a2:=none) (n2:=0) (c2:=0) ((mg.out.2.2.2.2.but.trans H2.out.2.2.1).trans fv) hww mD (fun _=>⟨s+1,sn,by omega,by omega⟩) (fun x hx=>by rw [E0] at hx;simp at hx)
   have HQ:=fX (fW mI ne)
   clear mI sn fv mD rf E0 ne
   rcases Eb with hk | hl
   ·subst hk
    have m0':W2.cell? ⟨ww,0,none⟩=some (.int .i64 0):=m0
    have k0':wr.cell? ⟨ww,0,none⟩=some (.int .i64 0):=k0
    clear m0 k0
    go_upto_region 2 with (fail)
    rw [H2.out.1]
    go_upto_region 4 with (fail)
    rw [HQ.out.1]
    go_wp2_with fail
    obtain ⟨W4,ri,mC,mY,mB,mE,hp⟩:=HQ.out.2
    rw [show (Value.string ⟨#[117]⟩)=str [117] from rfl,<- ri]
    exact bodyPost_ret (v:=.agg #[str [117],.int .i64 0,.slice none 0 0,.slice none 0 0]) (by simp [results,Tryz.results67,go_sem,mC,mY,mB,mE]) rfl hp
   ·by_cases hk:k=0
    ·subst hk
     have m0':W2.cell? ⟨ww,0,none⟩=some (.int .i64 0):=m0
     have k0':wr.cell? ⟨ww,0,none⟩=some (.int .i64 0):=k0
     clear m0 k0
     go_upto_region 2 with (fail)
     rw [H2.out.1]
     go_upto_region 4 with (fail)
     rw [HQ.out.1]
     go_wp2_with fail
     obtain ⟨W4,ri,mC,mY,mB,mE,hp⟩:=HQ.out.2
     rw [show (Value.string ⟨#[117]⟩)=str [117] from rfl,<- ri]
     exact bodyPost_ret (v:=.agg #[str [117],.int .i64 0,.slice none 0 0,.slice none 0 0]) (by simp [results,Tryz.results67,go_sem,mC,mY,mB,mE]) rfl hp
    ·have Dx:¬ ((k:Int)<1):=by omega
     have iD:(20000:Int)<s+1:=by have:=mg.out.2.2.2.1;omega
     go_upto_region 2 with (fail)
     rw [H2.out.1]
     go_upto_region 4 with (fail)
     rw [HQ.out.1]
     go_wp2_with fail
     obtain ⟨W4,ri,mC,mY,mB,mE,hp⟩:=HQ.out.2
     rw [show (Value.string ⟨#[117]⟩)=str [117] from rfl,<- ri]
     exact bodyPost_ret (v:=.agg #[str [117],.int .i64 0,.slice none 0 0,.slice none 0 0]) (by simp [results,Tryz.results67,go_sem,mC,mY,mB,mE]) rfl hp
  ·obtain ⟨k,rfl⟩:∃ k',k=k'+1:=⟨k-1,by omega⟩
   obtain ⟨l,rfl⟩:∃ l',l=l'+1:=⟨l-1,by omega⟩
   obtain ⟨d,rfl⟩:∃ d',d=d'+1:=⟨d-1,by have:=mg.out.2.2.2.2.pre.ld;omega⟩
   have m0':W2.cell? ⟨ww,0,none⟩=some (.int .i64 ((k:Int)+1)):=by rw [m0];rfl
   have Dx:¬ ((k:Int)+1<1):=by omega
   have iD:¬ ((20000:Int)<s+1):=by have:=mg.out.2.2.2.1;omega
   have nU:s+1=20000-(l:Int):=by have:=mg.out.2.2.2.1;omega
   have E9:=fX nU
   have aL:=mg.out.2.2.2.2.pre.rb.but H2.out.2.2.1 (F':=Fx F w 2) (fun i hi=>⟨mg.out.2.2.2.2.pre.hF i hi,hi⟩)
   clear m0 nU Eb hl20
   have re2:=mg.out.2.2.2.2.pre.re.but H2.out.2.2.1 (F':=Fx F w 2) (fun i hi=>⟨mg.out.2.2.2.2.pre.hF i hi,hi⟩)
   have rs2:=mg.out.2.2.2.2.pre.rs.but H2.out.2.2.1 (F':=Fx F w 2) (fun i hi=>⟨mg.out.2.2.2.2.pre.hF i hi,hi⟩)
   have aT:=fX (fW aL (fW re2 rs2))
   obtain ⟨bv,bx2,bk2,bx3,bk3,ebx,-,-⟩:=vM aL
   simp only [List.cons.injEq,Value.int.injEq,Value.slice.injEq,and_true,true_and] at ebx
   obtain ⟨eat,rfl,⟨rfl,ek2,rfl⟩,rfl,ek3,rfl⟩:=ebx
   obtain ⟨sa,scap,esv⟩:∃ a c,u3=.slice a st.length c:=by have h:=rs2;rw [zp] at h;obtain ⟨_,a,c,e,_⟩:=h;exact ⟨a,c,e⟩
   clear aL re2 rs2
   cases b with
   | leaf c =>
     have Ka:j_ (.leaf c)=[c]:=rfl
     rw [eat,Ka] at y0
     have EAT:=fX eat
     subst esv
     by_cases C_:c=117
     ·subst C_
      have DE:R=some (.leaf 117,k,l):=by rw [mg.out.2.1];exact evN_u
      obtain ⟨W3,mI⟩:=zzN (W2.setCell ⟨ww,0,none⟩ (.int .i64 (k:Nat)))
      have sn:Wri W3 ww (k:Nat) (s+1):=by have:=H2.out.2.1;unfold Wri at *;rw [<- mI,zy this];rfl
      have fv:But (· = ww) W2 W3:=by rw [<- mI];exact (But.refl (· = ww) W2).setCell (p:=⟨ww,0,none⟩) (.inl rfl) _
      have mD:z9 (w.heap.size+1) 0 (.slice none 0 0) (.slice none 0 0) W3:=H2.out.2.2.2.2.but fv (by omega)
      obtain ⟨r0,r1,r2,r3,rlt,rf⟩:=mD.cells
      have nJ:=rf 0;have nf:=rf 1;have rO:=rf 2;have tJ:=rf 3
      have x0:W3.cell? ⟨w.heap.size,0,none⟩=some (.string ⟨#[117]⟩):=(fv.cell (p:=⟨w.heap.size,0,none⟩) (fG W2 _ y0) (by show w.heap.size≠ww;omega)).trans y0
      have y0':W2.cell? ⟨w.heap.size,0,none⟩=some (.string ⟨#[117]⟩):=y0
      have ne:=xO (F:=F) (ww:=ww) (D:=20001+20*(D:Int)) (o:=R) (s:=[117]) (v:=0) (a1:=none) (n1:=0) (c1:=0) (a2:=none) (n2:=0) (c2:=0) ((mg.out.2.2.2.2.but.trans H2.out.2.2.1).trans fv) hww mD (fun h=>by rw [DE] at h;simp at h)
       (fun x hx=>by rw [DE] at hx;simp only [Option.some.injEq] at hx;subst hx;exact ⟨by rw [<- E9.out];exact sn,cA _ _ _⟩)
      have HQ:=fX (fW mI ne)
      clear mI sn fv mD rf DE ne y0
      go_upto_region 2 with (fail)
      rw [H2.out.1]
      go_upto_region 7 with (fail)
      rw [HQ.out.1]
      go_wp2_with fail
      obtain ⟨W4,ri,mC,mY,mB,mE,hp⟩:=HQ.out.2
      rw [show (Value.string ⟨#[117]⟩)=str [117] from rfl,<- ri]
      exact bodyPost_ret (v:=.agg #[str [117],.int .i64 0,.slice none 0 0,.slice none 0 0]) (by simp [results,Tryz.results67,go_sem,mC,mY,mB,mE]) rfl hp
     ·obtain ⟨S,Hq⟩:∃ S:Bs,S=[c]:=⟨_,rfl⟩
      rw [<- Hq] at y0
      have e117:(S == [117])=false:=by rw [beq_eq_false_iff_ne,Hq];simpa using C_
      have ene:(S != [])=true:=by rw [bne_iff_ne,Hq];simp
      have ene2:(!S.isEmpty)=true:=by rw [Hq];rfl
      have HS1:=fX Hq;clear Hq
      cases st with
      | nil =>
        have DE:R=some (.leaf c,k,l):=by rw [mg.out.2.1];exact evN_end
        obtain ⟨W3,mI⟩:=zzN (W2.setCell ⟨ww,0,none⟩ (.int .i64 (k:Nat)))
        have sn:Wri W3 ww (k:Nat) (s+1):=by have:=H2.out.2.1;unfold Wri at *;rw [<- mI,zy this];rfl
        have fv:But (· = ww) W2 W3:=by rw [<- mI];exact (But.refl (· = ww) W2).setCell (p:=⟨ww,0,none⟩) (.inl rfl) _
        have mD:z9 (w.heap.size+1) 0 (.slice none 0 0) (.slice none 0 0) W3:=H2.out.2.2.2.2.but fv (by omega)
        obtain ⟨r0,r1,r2,r3,rlt,rf⟩:=mD.cells
        have nJ:=rf 0;have nf:=rf 1;have rO:=rf 2;have tJ:=rf 3
        have x0:W3.cell? ⟨w.heap.size,0,none⟩=some (str S):=(fv.cell (p:=⟨w.heap.size,0,none⟩) (fG W2 _ y0) (by show w.heap.size≠ww;omega)).trans y0
        have ne:=xO (F:=F) (ww:=ww) (D:=20001+20*(D:Int)) (o:=R) (s:=S) (v:=0) (a1:=none) (n1:=0) (c1:=0) (a2:=none) (n2:=0) (c2:=0) ((mg.out.2.2.2.2.but.trans H2.out.2.2.1).trans fv) hww mD (fun h=>by rw [DE] at h;simp at h)
         (fun x hx=>by rw [DE] at hx;simp only [Option.some.injEq] at hx;subst hx;exact ⟨by rw [<- E9.out];exact sn,by rw [HS1.out];exact cA _ _ _⟩)
        have HQ:=fX (fW mI ne)
        clear mI sn fv mD rf DE ne
        rw [List.length_nil]
        go_upto_region 2 with (fail)
        rw [H2.out.1]
        go_upto_region 7 with (fail)
        rw [HQ.out.1]
        go_wp2_with fail
        obtain ⟨W4,ri,mC,mY,mB,mE,hp⟩:=HQ.out.2
        rw [<- ri]
        exact bodyPost_ret (v:=.agg #[str S,.int .i64 0,.slice none 0 0,.slice none 0 0]) (by simp [results,Tryz.results67,go_sem,mC,mY,mB,mE]) rfl hp
      | cons f st =>
        obtain ⟨tb,tO,tcap,n_,nz,rS,nO,ea,ec,etop,hFt,ij,hcap,t0,t1,t2,t3,t4,t5,EL,BZ,rR⟩:=top_rep (st:=st) aT.out.2.2
        simp only [List.length_cons,Value.slice.injEq,true_and] at etop
        obtain ⟨rfl,rfl⟩:=etop
        have hk:∃ i:Nat,i<2/\(i=1↔c=102):=by
         by_cases h:c=102
         ·exact ⟨1,by omega,by simp [h]⟩
         ·exact ⟨0,by omega,by simp [h]⟩
        obtain ⟨i,Hh,AP⟩:=hk
        have D8:c=116\/c=102:=by
         have h:=mg.out.2.2.2.2.pre.wf.1
         rw [wfB] at h
         rcases h with h | h | h
         ·exact .inl h
         ·exact .inr h
         ·exact absurd h C_
        obtain ⟨pa,pc,ep,I7⟩:=gQ.of (bs:=[f.yes,f.no]) EL
        simp only [Value.slice.injEq] at ep
        obtain ⟨rfl,_,rfl⟩:=ep
        obtain ⟨pb,po,ns,nv,mM,nB,mF,G0,nn3,GZ,nx,e,hpb,Bf,p0,p1,p2,p3,Ah⟩:=I7 i Hh
        subst e
        obtain ⟨nv',na2',nc2',na3',nc3',en,_,_⟩:=vM Ah
        simp only [List.cons.injEq,Value.int.injEq,Value.slice.injEq,and_true,true_and] at en
        obtain ⟨ens,rfl,⟨rfl,rfl,rfl⟩,rfl,rfl,rfl⟩:=en
        rw [ens] at p0 Ah
        have Jf:(if c=116 then (WFr.gf f).yes else (WFr.gf f).no)=nx:=by
         rcases (by omega:i=0\/i=1) with rfl | rfl
         ·have:¬ c=102:=fun h=>by have:=AP.2 h;omega
          have h116:c=116:=D8.resolve_right this
          simp at Bf;rw [if_pos h116];exact Bf
         ·have h102:c=102:=AP.1 rfl
          have:¬ c=116:=by rw [h102];decide
          simp at Bf;rw [if_neg this];exact Bf
        have HF:=fX (fW Ah (fW BZ (fW rR (fW AP Jf))))
        have DQ:=mg.out.2.2.2.2.pre.stl
        rw [List.length_cons] at DQ ⊢
        clear Ah BZ rR Jf Bf EL I7 ens D8
        have DX:(((st.length:Int)+1) == 0)=false:=by rw [beq_eq_false_iff_ne];omega
        have Be:(st.length:Int)<=(scap:Int):=by omega
        rcases (by omega:i=0\/i=1) with rfl | rfl
        ·have AP:¬ c=102:=fun h=>by have:=HF.out.2.2.2.1.2 h;omega
         simp only [Nat.zero_mul,Nat.add_zero] at p0 p1 p2 p3
         have e102:(S == [102])=false:=by rw [beq_eq_false_iff_ne,HS1.out];have:=AP;simpa using this
         go_upto_region 2 with (fail)
         rw [H2.out.1]
         go_upto_region 13 with (fail)
         obtain ⟨W3,mI⟩:=zzN (W2.alloc (.cells #[str [],.int .i64 (f.v:Nat),.slice n_ f.ss.length nz,.slice (some ⟨pb,po,none⟩) 2 nO,.slice ea f.env.length ec,.int .i64 0] 146))
         rw [mI]
         have sE:W3.heap.size=W2.heap.size+1:=by rw [<- mI];exact zK _ _
         have fv:Below W2.heap.size W2 W3:=by rw [<- mI];exact (fH _ _).alloc (fP _) _
         have u3':W3.cell? ⟨W2.heap.size,3,none⟩=some (.slice (some ⟨pb,po,none⟩) 2 nO):=by rw [<- mI];simp
         have Ff:W3.cell? ⟨W2.heap.size,4,none⟩=some (.slice ea f.env.length ec):=by rw [<- mI];simp
         have r0:W3.cell? ⟨pb,po,none⟩=some (str (j_ nx)):=by rw [<- mI];exact zJ p0
         have r1:W3.cell? ⟨pb,po+1,none⟩=some (.int .i64 nv):=by rw [<- mI];exact zJ p1
         have r2:W3.cell? ⟨pb,po+2,none⟩=some (.slice mM (qA nx).length mF):=by rw [<- mI];exact zJ p2
         have r3:W3.cell? ⟨pb,po+3,none⟩=some (.slice G0 (jC nx).length GZ):=by rw [<- mI];exact zJ p3
         have iH:W3.heap[w.heap.size]? = some (.cells #[str s0,.int .i64 v0,.slice a1 n1 c1,.slice a2 n2 c2] 48 (0,0)):=by rw [<- mI];exact zY H2.out.2.2.2.1
         have Fe:W3.cell? ⟨w.heap.size,0,none⟩=some (str s0):=by simp [World.cell?,iH]
         have v1':W3.cell? ⟨w.heap.size,1,none⟩=some (.int .i64 v0):=by simp [World.cell?,iH]
         have v2':W3.cell? ⟨w.heap.size,2,none⟩=some (.slice a1 n1 c1):=by simp [World.cell?,iH]
         have v3':W3.cell? ⟨w.heap.size,3,none⟩=some (.slice a2 n2 c2):=by simp [World.cell?,iH]
         have f0:W3.frozen? ⟨w.heap.size,0,none⟩=false:=by simp [World.frozen?,iH]
         have f1:W3.frozen? ⟨w.heap.size,1,none⟩=false:=by simp [World.frozen?,iH]
         have f2:W3.frozen? ⟨w.heap.size,2,none⟩=false:=by simp [World.frozen?,iH]
         have f3:W3.frozen? ⟨w.heap.size,3,none⟩=false:=by simp [World.frozen?,iH]
         have H3:=fX (fW mI (fW sE (fW fv iH)));clear mI sE fv iH t0 t1 t2 t3 t4 t5 p0 p1 p2 p3 y0 y1 y2 y3
         go_upto_region 15 with (fail)
         obtain ⟨W4,ri⟩:=zzN (u7 w.heap.size (str (j_ nx)) (.int .i64 nv) (.slice mM (qA nx).length mF) (.slice G0 (jC nx).length GZ) W3)
         have im:=ri
         unfold u7 at im
         rw [im]
         have fM:=mg.out.2.2.2.2
         have oZ:=fM.zw
         have nF:=H2.out.2.2.1.size
         have fl:But (fun i=>i=w.heap.size) W3 W4:=by rw [<- ri];exact xY (But.refl _ _) rfl
         have u4'':W4.cell? ⟨W2.heap.size,4,none⟩=some (.slice ea f.env.length ec):=(fl.cell (p:=⟨W2.heap.size,4,none⟩) (fG W3 _ Ff) (by show W2.heap.size≠w.heap.size;omega)).trans Ff
         have lR:W4.heap[w.heap.size]? = some (.cells #[str (j_ nx),.int .i64 nv,.slice mM (qA nx).length mF,.slice G0 (jC nx).length GZ] 48 (0,0)):=by rw [<- ri];exact x8 H3.out.2.2.2
         have oz:But (fun i=>i=ww\/i=w.heap.size) W2 W4:=(But.ofBelow (m:=fun i=>i=ww\/i=w.heap.size) H3.out.2.2.1).trans (fl.weak fun i _ h=>.inr h)
         have oV:Wri W4 ww ((k+1:Nat):Int) (20000-(l:Nat)):=by
          have h:=H2.out.2.1
          unfold Wri at *
          rw [fl.block ww (by have:=H3.out.2.1;omega) (by show ww≠w.heap.size;omega),H3.out.2.2.1.block ww (by omega),h,E9.out]
         have kp:∀ (i:Nat) (o:Obj),Fx F w 2 i->W2.heap[i]? = some o->Fx F w 2 i/\W4.heap[i]? = some o:=fun i o hi ho=>by
          have hx:=Fx.low' fM.pre.hF hi (by omega)
          exact ⟨hi,by rw [oz.block i (zZ ho) (fun e=>e.elim hx.1 hx.2)];exact ho⟩
         have mW:=fM.move (b':=nx) (env':=f.env) (st':=st) ((H2.out.2.2.1.weak fun i _ h=>.inl h).trans oz) oV lR (by have:=fM.pre.fit.back c;rw [show (if c=116 then (WFr.gf f).yes else (WFr.gf f).no)=nx from HF.out.2.2.2.2] at this;exact this)
          (by have:=fM.pre.okg.1;have:=fM.pre.ld;have:=fM.pre.d20;show f.env.length+16*d<=1000000;have h9:f.env.length<=1000000-16*(d+1):=fM.pre.okg.1;omega) (by have:=fM.pre.stl;rw [List.length_cons] at this;omega) (k_ (by omega) _ fM.pre.okg.2.1) (vF (by omega) _ fM.pre.okg.2.2)
          (by
           have h1:=fM.pre.wf.2.2 (WFr.gf f) (by simp)
           refine ⟨?_,h1.2.2,fun g hg=>fM.pre.wf.2.2 g (by rw [List.map_cons];exact List.mem_cons_of_mem _ hg)⟩
           rw [<- show (if c=116 then (WFr.gf f).yes else (WFr.gf f).no)=nx from HF.out.2.2.2.2]
           split
           ·exact h1.1
           ·exact h1.2.1)
          ((Rep.keep kp).2 _ _ HF.out.1) ((Rep.keep kp).1 _ _ HF.out.2.1) ((Rep.keep kp).1 _ _ HF.out.2.2.1)
         have Av:R=evN d (k+1) l nx f.env n (st.map WFr.gf):=by
          rw [mg.out.2.1,List.map_cons,evN_back C_]
          rw [show (if c=116 then (WFr.gf f).yes else (WFr.gf f).no)=nx from HF.out.2.2.2.2];rfl
         have HN:=fX (fW mW (fW Av oV))
         clear mW Av oV kp oz lR fl im ri fM nF oZ u3' Ff r0 r1 r2 r3 Fe v1' v2' v3' f0 f1 f2 f3
         go_wp2_with fail
         go_roundw
         case rel=>exact ⟨d,l,nx,f.env,st,_,_,_,_,_,_,_,_,by have:=mg.out.1;omega,HN.out.2.1,HN.out.1⟩
         case measure =>
          rw [mg.out.2.2.1]
          refine Nat.lt_of_le_of_lt (Nat.le_of_eq (xo HN.out.2.2)) ?_
          omega
        ·have AP:c=102:=HF.out.2.2.2.1.1 rfl
         simp only [Nat.one_mul,Nat.add_assoc,Nat.reduceAdd] at p0 p1 p2 p3
         have e102:(S == [102])=true:=by rw [beq_iff_eq,HS1.out];have:=AP;simpa using this
         go_upto_region 2 with (fail)
         rw [H2.out.1]
         go_upto_region 13 with (fail)
         obtain ⟨W3,mI⟩:=zzN (W2.alloc (.cells #[str [],.int .i64 (f.v:Nat),.slice n_ f.ss.length nz,.slice (some ⟨pb,po,none⟩) 2 nO,.slice ea f.env.length ec,.int .i64 0] 146))
         rw [mI]
         have sE:W3.heap.size=W2.heap.size+1:=by rw [<- mI];exact zK _ _
         have fv:Below W2.heap.size W2 W3:=by rw [<- mI];exact (fH _ _).alloc (fP _) _
         have u3':W3.cell? ⟨W2.heap.size,3,none⟩=some (.slice (some ⟨pb,po,none⟩) 2 nO):=by rw [<- mI];simp
         have Ff:W3.cell? ⟨W2.heap.size,4,none⟩=some (.slice ea f.env.length ec):=by rw [<- mI];simp
         have r0:W3.cell? ⟨pb,po+4,none⟩=some (str (j_ nx)):=by rw [<- mI];exact zJ p0
         have r1:W3.cell? ⟨pb,po+5,none⟩=some (.int .i64 nv):=by rw [<- mI];exact zJ p1
         have r2:W3.cell? ⟨pb,po+6,none⟩=some (.slice mM (qA nx).length mF):=by rw [<- mI];exact zJ p2
         have r3:W3.cell? ⟨pb,po+7,none⟩=some (.slice G0 (jC nx).length GZ):=by rw [<- mI];exact zJ p3
         have iH:W3.heap[w.heap.size]? = some (.cells #[str s0,.int .i64 v0,.slice a1 n1 c1,.slice a2 n2 c2] 48 (0,0)):=by rw [<- mI];exact zY H2.out.2.2.2.1
         have Fe:W3.cell? ⟨w.heap.size,0,none⟩=some (str s0):=by simp [World.cell?,iH]
         have v1':W3.cell? ⟨w.heap.size,1,none⟩=some (.int .i64 v0):=by simp [World.cell?,iH]
         have v2':W3.cell? ⟨w.heap.size,2,none⟩=some (.slice a1 n1 c1):=by simp [World.cell?,iH]
         have v3':W3.cell? ⟨w.heap.size,3,none⟩=some (.slice a2 n2 c2):=by simp [World.cell?,iH]
         have f0:W3.frozen? ⟨w.heap.size,0,none⟩=false:=by simp [World.frozen?,iH]
         have f1:W3.frozen? ⟨w.heap.size,1,none⟩=false:=by simp [World.frozen?,iH]
         have f2:W3.frozen? ⟨w.heap.size,2,none⟩=false:=by simp [World.frozen?,iH]
         have f3:W3.frozen? ⟨w.heap.size,3,none⟩=false:=by simp [World.frozen?,iH]
         have H3:=fX (fW mI (fW sE (fW fv iH)));clear mI sE fv iH t0 t1 t2 t3 t4 t5 p0 p1 p2 p3 y0 y1 y2 y3
         go_upto_region 15 with (fail)
         obtain ⟨W4,ri⟩:=zzN (u7 w.heap.size (str (j_ nx)) (.int .i64 nv) (.slice mM (qA nx).length mF) (.slice G0 (jC nx).length GZ) W3)
         have im:=ri
         unfold u7 at im
         rw [im]
         have fM:=mg.out.2.2.2.2
         have oZ:=fM.zw
         have nF:=H2.out.2.2.1.size
         have fl:But (fun i=>i=w.heap.size) W3 W4:=by rw [<- ri];exact xY (But.refl _ _) rfl
         have u4'':W4.cell? ⟨W2.heap.size,4,none⟩=some (.slice ea f.env.length ec):=(fl.cell (p:=⟨W2.heap.size,4,none⟩) (fG W3 _ Ff) (by show W2.heap.size≠w.heap.size;omega)).trans Ff
         have lR:W4.heap[w.heap.size]? = some (.cells #[str (j_ nx),.int .i64 nv,.slice mM (qA nx).length mF,.slice G0 (jC nx).length GZ] 48 (0,0)):=by rw [<- ri];exact x8 H3.out.2.2.2
         have oz:But (fun i=>i=ww\/i=w.heap.size) W2 W4:=(But.ofBelow (m:=fun i=>i=ww\/i=w.heap.size) H3.out.2.2.1).trans (fl.weak fun i _ h=>.inr h)
         have oV:Wri W4 ww ((k+1:Nat):Int) (20000-(l:Nat)):=by
          have h:=H2.out.2.1
          unfold Wri at *
          rw [fl.block ww (by have:=H3.out.2.1;omega) (by show ww≠w.heap.size;omega),H3.out.2.2.1.block ww (by omega),h,E9.out]
         have kp:∀ (i:Nat) (o:Obj),Fx F w 2 i->W2.heap[i]? = some o->Fx F w 2 i/\W4.heap[i]? = some o:=fun i o hi ho=>by
          have hx:=Fx.low' fM.pre.hF hi (by omega)
          exact ⟨hi,by rw [oz.block i (zZ ho) (fun e=>e.elim hx.1 hx.2)];exact ho⟩
         have mW:=fM.move (b':=nx) (env':=f.env) (st':=st) ((H2.out.2.2.1.weak fun i _ h=>.inl h).trans oz) oV lR (by have:=fM.pre.fit.back c;rw [show (if c=116 then (WFr.gf f).yes else (WFr.gf f).no)=nx from HF.out.2.2.2.2] at this;exact this)
          (by have:=fM.pre.okg.1;have:=fM.pre.ld;have:=fM.pre.d20;show f.env.length+16*d<=1000000;have h9:f.env.length<=1000000-16*(d+1):=fM.pre.okg.1;omega) (by have:=fM.pre.stl;rw [List.length_cons] at this;omega) (k_ (by omega) _ fM.pre.okg.2.1) (vF (by omega) _ fM.pre.okg.2.2)
          (by
           have h1:=fM.pre.wf.2.2 (WFr.gf f) (by simp)
           refine ⟨?_,h1.2.2,fun g hg=>fM.pre.wf.2.2 g (by rw [List.map_cons];exact List.mem_cons_of_mem _ hg)⟩
           rw [<- show (if c=116 then (WFr.gf f).yes else (WFr.gf f).no)=nx from HF.out.2.2.2.2]
           split
           ·exact h1.1
           ·exact h1.2.1)
          ((Rep.keep kp).2 _ _ HF.out.1) ((Rep.keep kp).1 _ _ HF.out.2.1) ((Rep.keep kp).1 _ _ HF.out.2.2.1)
         have Av:R=evN d (k+1) l nx f.env n (st.map WFr.gf):=by
          rw [mg.out.2.1,List.map_cons,evN_back C_]
          rw [show (if c=116 then (WFr.gf f).yes else (WFr.gf f).no)=nx from HF.out.2.2.2.2];rfl
         have HN:=fX (fW mW (fW Av oV))
         clear mW Av oV kp oz lR fl im ri fM nF oZ u3' Ff r0 r1 r2 r3 Fe v1' v2' v3' f0 f1 f2 f3
         go_wp2_with fail
         go_roundw
         case rel=>exact ⟨d,l,nx,f.env,st,_,_,_,_,_,_,_,_,by have:=mg.out.1;omega,HN.out.2.1,HN.out.1⟩
         case measure =>
          rw [mg.out.2.2.1]
          refine Nat.lt_of_le_of_lt (Nat.le_of_eq (xo HN.out.2.2)) ?_
          omega
   | ask v ss y no =>
     subst esv
     have n7:=mg.out.2.2.2.2.pre.fit
     obtain ⟨m,t,hh,hm,F5,-,-,-,-⟩:=n7.ask
     have tS:=aT.out.1
     rw [yE] at tS
     simp only [zQ,zC] at tS
     obtain ⟨_,_,e0,AF,_,_,rfl,tM,_,_,rfl,fh,_,_,rfl,DK,rfl⟩:=tS
     simp only [List.cons.injEq,and_true] at e0
     obtain ⟨rfl,rfl,rfl,rfl⟩:=e0
     rw [zH] at AF tM
     rw [AF] at y0
     rw [tM] at y1
     simp only [Value.int.injEq,true_and] at tM
     subst tM
     obtain ⟨-,ka,kc,ek,-⟩:=zp.1 fh
     simp only [Value.slice.injEq] at ek
     obtain ⟨rfl,rfl,rfl⟩:=ek
     obtain ⟨-,ya,yc,ey,-⟩:=zp.1 DK
     simp only [Value.slice.injEq] at ey
     obtain ⟨rfl,rfl,rfl⟩:=ey
     have hs00:s0=[]:=by simpa [str] using AF
     subst hs00
     have HK:=fX (fW fh (fW DK (fW AF n7)))
     clear fh DK AF n7 eat ek2 ek3
     cases m with
     | op o t' =>
       have ett:t'=t:=by rw [xE] at F5;exact F5.1
       subst ett
       obtain ⟨eb,eo,ecap,ta,tc,i0,e,Gh,hew,q0,q1,q2,q3,q4,q5,q6,q7,q8,DO⟩:=bound_op aT.out.2.1 hm
       subst e
       have HM:=fX (fW hm (fW F5 DO));clear hm F5 DO
       obtain ⟨W3,mI⟩:=zzN (W2.alloc (.cells #[.int .i64 (o:Nat),str [],.int .i64 0,.slice none 0 0,.slice none 0 0,.slice ta t'.args.length tc,.slice none 0 0,.int .i64 0,.int .i64 i0] 130))
       have fv:Below W2.heap.size W2 W3:=by rw [<- mI];exact (fH _ _).alloc (fP _) _
       have sE:W3.heap.size=W2.heap.size+1:=by rw [<- mI];exact zK _ _
       have AW:=(fv.block _ (zZ H2.out.2.2.2.1)).trans H2.out.2.2.2.1
       obtain ⟨x0,x1,x2,x3⟩:=kH AW
       have z0:W3.cell? ⟨W2.heap.size,0,none⟩=some (.int .i64 (o:Nat)):=by rw [<- mI];simp
       have ho0:(0:Int)<=(o:Int):=by omega
       have mD:z9 (w.heap.size+1) 0 (.slice none 0 0) (.slice none 0 0) W3:=by
        have h:=H2.out.2.2.2.2
        unfold z9 at *
        rw [fv.block _ (zZ h)];exact h
       have EC:=(List.getElem?_eq_some_iff.1 HM.out.1).1
       have tM:(v:Int)<(env.length:Int):=by omega
       have fM:=mg.out.2.2.2.2
       have oE:=fM.pre.ld;have Gi:=fM.pre.d20;have DQ:=fM.pre.stl
       have k3:∀ (i:Nat) (ob:Obj),Fx F w 2 i->W2.heap[i]? = some ob->Fx F w 2 i/\W3.heap[i]? = some ob:=fun i ob hi hh=>⟨hi,by rw [fv.block i (zZ hh)];exact hh⟩
       have Ix:Wri W3 ww ((k:Nat)+1) (20000-(l:Nat)):=by
        have h:=H2.out.2.1
        unfold Wri at *
        rw [fv.block ww (zZ h),h,E9.out];rfl
       have C:=fX (keepN_any d (IH.out d (by have:=mg.out.1;omega)) (Fx F w 2) ww k l n v o H t' ss y no env st 0 a1 a2 c1 c2 (.slice (some ⟨eb,eo,none⟩) env.length ecap) (.slice sa st.length scap) W3
        { wri:=Ix,hF:=fM.pre.hF,ld:=by omega,d20:=by omega,k200:=by omega,hv:=HM.out.1,fit:=fM.pre.fit,hn:=fM.pre.hn,el:=fM.pre.el,nl:=fM.pre.nl,stl:=by omega,ok:=fM.pre.ok,okg:=fM.pre.okg,wf:=fM.pre.wf,
          rb:=(Rep.keep k3).2 _ _ aT.out.1,re:=(Rep.keep k3).1 _ _ aT.out.2.1,rs:=(Rep.keep k3).1 _ _ aT.out.2.2 })
       have DE:R=xF d k l n o t' ss y no env (st.map WFr.gf):=by rw [mg.out.2.1];exact evN_op HM.out.1
       have H3:=fX (fW mI (fW fv (fW sE (fW mD DE))))
       clear mI fv sE AW mD EC fM Ix DE k3 oE
       go_upto_region 2 with (fail)
       rw [H2.out.1]
       go_upto_region 17 with (fail)
       rw [H3.out.1]
       go_wp2_with fail
       (with_reducible refine C.out.mono ?_)
       rintro en w9 ⟨s9,v9,b1,p1,d1,b2,p2,d2,rfl,mj,oD,oQ⟩
       have aQ:=H3.out.2.2.2.1.but mj (show ¬ (w.heap.size+1=ww) by omega)
       obtain ⟨r0,r1,r2,r3,rlt,rf⟩:=aQ.cells
       have nJ:=rf 0;have nf:=rf 1;have rO:=rf 2;have tJ:=rf 3
       have ne:=xO (F:=F) (ww:=ww) (D:=20001+20*(D:Int)) (o:=R) (s:=s9) (v:=v9) (a1:=b1) (n1:=p1) (c1:=d1) (a2:=b2) (n2:=p2) (c2:=d2) (((mg.out.2.2.2.2.but.trans H2.out.2.2.1).trans (But.ofBelow H3.out.2.1)).trans mj) hww aQ
        (fun h=>by
         obtain ⟨st',u1,u2,u3⟩:=oD (by rw [<- H3.out.2.2.2.2];exact h)
         exact ⟨st',u1,u2,by have:=mg.out.1;omega⟩)
        (fun x hx=>by
         obtain ⟨u1,u2⟩:=oQ x (by rw [<- H3.out.2.2.2.2];exact hx)
         refine ⟨u1,(Rep.keep fun i ob hi hh=>⟨?_,hh⟩).2 _ _ u2⟩
         rcases hi with h | h
         ·exact h
         ·have h1:=H3.out.2.2.1
          have h2:=mg.out.2.2.2.2.zw
          have h3:=H2.out.2.2.1.size
          exact .inr (by omega))
       have HQ:=fX ne
       clear ne mj oD oQ aQ rf
       go_wp2_with fail
       obtain ⟨W4,ri,mC,mY,mB,mE,hp⟩:=HQ.out
       rw [<- ri]
       exact bodyPost_ret (v:=.agg #[str s9,.int .i64 v9,.slice b1 p1 d1,.slice b2 p2 d2]) (by simp [results,Tryz.results67,go_sem,mC,mY,mB,mE]) rfl hp
     | bd t' b' e' =>
       have ett:t'=t:=by rw [xE] at F5;exact F5.1
       subst ett
       obtain ⟨eb,eo,ecap,ta,tc,bs,bv,n_,Dc,nz,rS,Db,nO,ha,hcap,i0,e,Gh,hew,q0,q1,q2,q3,q4,q5,q6,q7,q8,DO,mn,BZ⟩:=bound_bd aT.out.2.1 hm
       subst e
       obtain ⟨IK,EW⟩:=HK.out.2.2.2.call hm
       obtain ⟨xs,il,mu⟩:=zq.ofRep aT.out.2.2 (gW st)
       have my:=pg _ mg.out.2.2.2.2.pre.ok v _ hm
       rw [okM] at my
       have tF:=wfMs_at _ mg.out.2.2.2.2.pre.wf.2.1 v _ hm
       rw [wfM] at tF
       have fu:=(zi my.1).2
       have IL:ss.length<=15:=by omega
       have iY:=mg.out.2.2.2.2.pre.el
       have mO:e'.length<=1000000:=by have:=my.2.1;omega
       have HM:=fX (fW hm (fW DO (fW mn (fW BZ (fW IK (fW EW (fW il (fW mu (fW my tF)))))))))
       clear hm F5 DO mn BZ IK EW il mu my tF fu
       obtain ⟨W3,mI⟩:=zzN (W2.alloc (.cells #[.int .i64 (-1),str bs,.int .i64 bv,.slice n_ Dc nz,.slice rS Db nO,.slice ta t'.args.length tc,.slice ha e'.length hcap,.int .i64 0,.int .i64 i0] 130))
       have fv:Below W2.heap.size W2 W3:=by rw [<- mI];exact (fH _ _).alloc (fP _) _
       have sE:W3.heap.size=W2.heap.size+1:=by rw [<- mI];exact zK _ _
       have AW:=(fv.block _ (zZ H2.out.2.2.2.1)).trans H2.out.2.2.2.1
       have J2:W3.heap[W2.heap.size]? = some (.cells #[.int .i64 (-1),str bs,.int .i64 bv,.slice n_ Dc nz,.slice rS Db nO,.slice ta t'.args.length tc,.slice ha e'.length hcap,.int .i64 0,.int .i64 i0] 130 (0,0)):=by rw [<- mI];exact zG _ _
       obtain ⟨x0,x1,x2,x3⟩:=kH AW
       have z0:W3.cell? ⟨W2.heap.size,0,none⟩=some (.int .i64 (-1)):=by rw [<- mI];simp
       have EC:=(List.getElem?_eq_some_iff.1 HM.out.1).1
       have tM:(v:Int)<(env.length:Int):=by omega
       have hwB:w.heap.size<W3.heap.size:=by have:=mg.out.2.2.2.2.zw;have:=H2.out.2.2.1.size;omega
       have DQ:st.length<=40000:=by have:=mg.out.2.2.2.2.pre.stl;omega
       have H3:=fX (fW mI (fW fv (fW sE (fW AW J2))))
       have SX:Hid (∀ w',Below W3.heap.size W3 w'->w'.cell? ⟨w.heap.size,0,none⟩=some (str [])/\w'.cell? ⟨w.heap.size,1,none⟩=some (.int .i64 (v:Nat))/\w'.cell? ⟨w.heap.size,2,none⟩=some (.slice a1 ss.length c1)/\w'.cell? ⟨w.heap.size,3,none⟩=some (.slice a2 2 c2)):=by
        show ∀ w',_->_
        intro w' fx
        exact ⟨(fx.cell (by show w.heap.size<_;omega)).trans x0,(fx.cell (by show w.heap.size<_;omega)).trans x1,(fx.cell (by show w.heap.size<_;omega)).trans x2,(fx.cell (by show w.heap.size<_;omega)).trans x3⟩
       have SRC:Hid (∀ w',Below W3.heap.size W3 w'->zq 6 (.slice sa st.length scap) st.length xs w'):=by
        show ∀ w',_->_
        intro w' fx
        exact (HM.out.2.2.2.2.2.2.2.1.belowAll fv (fP _)).belowAll fx (fP _)
       clear mI fv sE AW J2 EC x0 x1 x2 x3
       go_upto_region 2 with (fail)
       rw [H2.out.1]
       go_upto_region 17 with (fail)
       rw [H3.out.1]
       go_upto_region 19 with (fail)
       refine wp_region_noPanic ?_
       refine zB (fun w'=>Below W3.heap.size W3 w') (fun _=>false) (by kernel_rfl) ?_
       have fF:Below W3.heap.size W3 W3.drew:=Below.drew (fH _ _)
       refine tk [1,3,4,5] fF ?_
       (intro d hd;simp [tkD] at hd;subst hd;simp only [tks,pQ,pZ,pS])
       iterate 4 (refine ⟨?_,?_,?_⟩;rotate_left;· (intro oi ho;simp at ho;subst ho;refine Or.inl ⟨by rfl,fun w' fI=>?_⟩;obtain ⟨e0,e1,e2,e3⟩:=SX.out w' fI;go_simp;try with_reducible rfl))
       refine k8 0 6 (by kernel_rfl) ?_ ?_
       ·(intro o0 ho K' hK;simp at ho;subst ho)
        go_simp
        (refine hK.out _ _ (fun _=>(fF.alloc (fP _) (.cells #[] 146))) ?_;clear hK K';try simp only [pQ,pN,pZ,pS])
        refine k8 2 6 (by kernel_rfl) ?_ ?_
        ·(intro o2 ho K' hK;simp at ho;subst ho)
         refine zF (by rfl) _ _ _ (by rfl) 146 (.agg #[str [],.int .i64 0,.slice none 0 0,.slice none 0 0,.slice none 0 0,.int .i64 0]) 6 104 Tryz.underlying132 Tryz.infoFW rfl (by decide) (.slice (some ⟨W3.heap.size,0,none⟩) 0 0) 0 [] (by rfl) (Own.litAt #[] 0 _ rfl (by decide) rfl) _ st.length xs (by rfl) (SRC.out _ (fF.alloc (fP _) (.cells #[] 146))) (by unfold maxLen;omega) (by omega) ?_
         intro a5 c5 w5 sk fe sj
         simp only [Nat.zero_add,List.nil_append] at sk sj ⊢
         have nS:Below W3.heap.size W3 w5:=(fF.alloc (fP _) (.cells #[] 146)).trans (fe.toBelow ((fF.alloc (fP _) (.cells #[] 146))).size fun i hi e=>by simp [Value.ownBlock] at e;omega)
         have iT:Hid (∀ g,(Value.slice a5 st.length c5).ownBlock=some g->W3.heap.size<=g):=fun g hg=>by rcases sj g hg with h | h;simp [Value.ownBlock] at h;omega;have h:g=W3.heap.size+1:=h.trans (zK _ _);omega
         (refine hK.out _ _ (fun _=>nS) ?_;clear hK K';try simp only [pQ,pN,pZ,pS])
         (refine on 6 ?_;intro o ho K' hK;simp at ho;subst ho;go_simp)
         (refine hK.out _ _ (fun _=>nS.alloc nS.size _) ?_;clear hK K';try simp only [pQ,pN,pZ,pS])
         (refine on 7 ?_;intro o ho K' hK;simp at ho;subst ho)
         refine zF (by rfl) _ _ _ (by rfl) 146 (.agg #[str [],.int .i64 0,.slice none 0 0,.slice none 0 0,.slice none 0 0,.int .i64 0]) 6 104 Tryz.underlying132 Tryz.infoFW rfl (by decide) (.slice a5 st.length c5) st.length xs (by rfl) (sk.alloc _) _ 1 [str [],.int .i64 (v:Nat),.slice a1 ss.length c1,.slice a2 2 c2,.slice (some ⟨eb,eo,none⟩) env.length ecap,.int .i64 0] (by rfl) (zq.lit1 #[str [],.int .i64 (v:Nat),.slice a1 ss.length c1,.slice a2 2 c2,.slice (some ⟨eb,eo,none⟩) env.length ecap,.int .i64 0] rfl (by simp [str,Value.oneCell']) _ (by rfl)) (by unfold maxLen;omega) (by omega) ?_
         intro a7 c7 w7 fm fS fw
         have nI:Below W3.heap.size W3 w7:=(nS.alloc nS.size (.cells #[str [],.int .i64 (v:Nat),.slice a1 ss.length c1,.slice a2 2 c2,.slice (some ⟨eb,eo,none⟩) env.length ecap,.int .i64 0] 146)).trans (fS.toBelow ((nS.alloc nS.size (.cells #[str [],.int .i64 (v:Nat),.slice a1 ss.length c1,.slice a2 2 c2,.slice (some ⟨eb,eo,none⟩) env.length ecap,.int .i64 0] 146))).size fun i hi e=>by have:=iT.out i e;omega)
         have nM:∀ g,(Value.slice a7 (st.length+1) c7).ownBlock=some g->W3.heap.size<=g:=fun g hg=>by rcases fw g hg with h | h;exact iT.out g h;exact fD ((nS.alloc nS.size (.cells #[str [],.int .i64 (v:Nat),.slice a1 ss.length c1,.slice a2 2 c2,.slice (some ⟨eb,eo,none⟩) env.length ecap,.int .i64 0] 146))).size (Nat.le_of_eq h.symm)
         (refine hK.out _ _ (fun _=>nI) ?_;clear hK K';try simp only [pQ,pN,pZ,pS])
         (refine on 8 ?_;intro o ho K' hK;simp at ho;subst ho;go_simp)
         (refine hK.out _ _ (fun _=>nI) ?_;clear hK K';try simp only [pQ,pN,pZ,pS])
         refine zU (by kernel_rfl) (NoPanic.normal ?_) _
         clear fe sj sk fS fw nS
         have H7:=fX (fW fm (fW nI nM));clear fm nI nM fF
         have sE:=H3.out.2.2.1
         have G2:=H7.out.2.1.size
         have oZ:=mg.out.2.2.2.2.zw
         have nF:=H2.out.2.2.1.size
         have sS:=(H7.out.2.1.block W2.heap.size (by omega)).trans H3.out.2.2.2.2
         have aF:=(H7.out.2.1.block w.heap.size (by omega)).trans H3.out.2.2.2.1
         have g5:w7.cell? ⟨W2.heap.size,5,none⟩=some (.slice ta t'.args.length tc):=by simp [World.cell?,sS]
         have g6:w7.cell? ⟨W2.heap.size,6,none⟩=some (.slice ha e'.length hcap):=by simp [World.cell?,sS]
         have x2:w7.cell? ⟨w.heap.size,2,none⟩=some (.slice a1 ss.length c1):=by simp [World.cell?,aF]
         have k7:∀ (i:Nat) (ob:Obj),Fx F w 2 i->W2.heap[i]? = some ob->Fx F w 2 i/\w7.heap[i]? = some ob:=fun i ob hi hh=>by
          have hl:=zZ hh
          exact ⟨hi,by rw [H7.out.2.1.block i (by omega),H3.out.2.1.block i hl];exact hh⟩
         have Di:=(gh (Fx F w 2) e' env ss t' (.slice ha e'.length hcap) (.slice a1 ss.length c1) (.slice ta t'.args.length tc) (.slice (some ⟨eb,eo,none⟩) env.length ecap) w7 ((Rep.keep k7).1 _ _ HM.out.2.2.2.1) ((Rep.keep k7).1 _ _ HK.out.1) ((Rep.keep k7).1 _ _ HM.out.2.1) ((Rep.keep k7).1 _ _ aT.out.2.1) (by omega) HM.out.2.2.2.2.1 (by omega))
         rw [show ((0:Nat):Int)=0 from rfl] at Di
         have CH:=fX Di;clear Di
         have E6:=fX (fW sS (fW aF k7));clear sS aF k7 sE nF
         go_wp2_with fail
         (with_reducible refine CH.out.mono ?_)
         rintro en w8 ⟨a8,c8,rfl,mJ,sO⟩
         have sE:=H3.out.2.2.1
         have hz8:=mJ.size
         have rE:=(mJ.block W2.heap.size (by omega)).trans E6.out.1
         have mP:=(mJ.block w.heap.size (by omega)).trans E6.out.2.1
         have p1:w8.cell? ⟨W2.heap.size,1,none⟩=some (str bs):=by simp [World.cell?,rE]
         have p2:w8.cell? ⟨W2.heap.size,2,none⟩=some (.int .i64 bv):=by simp [World.cell?,rE]
         have p3:w8.cell? ⟨W2.heap.size,3,none⟩=some (.slice n_ Dc nz):=by simp [World.cell?,rE]
         have p4:w8.cell? ⟨W2.heap.size,4,none⟩=some (.slice rS Db nO):=by simp [World.cell?,rE]
         have d0:w8.cell? ⟨w.heap.size,0,none⟩=some (str []):=by simp [World.cell?,mP]
         have d1:w8.cell? ⟨w.heap.size,1,none⟩=some (.int .i64 (v:Nat)):=by simp [World.cell?,mP]
         have d2:w8.cell? ⟨w.heap.size,2,none⟩=some (.slice a1 ss.length c1):=by simp [World.cell?,mP]
         have d3:w8.cell? ⟨w.heap.size,3,none⟩=some (.slice a2 2 c2):=by simp [World.cell?,mP]
         have f0:w8.frozen? ⟨w.heap.size,0,none⟩=false:=by simp [World.frozen?,mP]
         have f1:w8.frozen? ⟨w.heap.size,1,none⟩=false:=by simp [World.frozen?,mP]
         have f2:w8.frozen? ⟨w.heap.size,2,none⟩=false:=by simp [World.frozen?,mP]
         have f3:w8.frozen? ⟨w.heap.size,3,none⟩=false:=by simp [World.frozen?,mP]
         have H8:=fX (fW mJ (fW sO mP));clear mJ sO rE mP g5 g6 x2 sE
         go_upto_region 22 with (fail)
         obtain ⟨W9,Au⟩:=zzN (u7 w.heap.size (str bs) (.int .i64 bv) (.slice n_ Dc nz) (.slice rS Db nO) w8)
         have im:=Au
         unfold u7 at im
         rw [im]
         have mW:WAt F ww d (k+1) l n H b' (e'++owns env t'.args ss) (⟨v,ss,y,no,env⟩::st) bs bv n_ rS Dc nz Db nO (.slice a8 (e'.length+(owns env t'.args ss).length) c8) (.slice a7 (st.length+1) c7) w W9:=by
          have fM:=mg.out.2.2.2.2
          have nF:=H2.out.2.2.1.size
          have sE:=H3.out.2.2.1
          have mj:But (fun i=>i=w.heap.size) w8 W9:=by rw [<- Au];exact xY (But.refl _ _) rfl
          have aS:But (fun i=>i=ww\/i=w.heap.size) W2 W9:=(((But.ofBelow (m:=fun i=>i=ww\/i=w.heap.size) H3.out.2.1).trans (But.ofBelow (H7.out.2.1))).trans (But.ofBelow H8.out.1)).trans (mj.weak fun i _ h=>.inr h)
          have hz9:=aS.size
          have az:(owns env t'.args ss).length=t'.args.length:=xe _ _ HM.out.2.2.2.2.1
          have my:=HM.out.2.2.2.2.2.2.2.2.1
          have tF:=HM.out.2.2.2.2.2.2.2.2.2
          have oE:=fM.pre.ld;have Gi:=fM.pre.d20;have EG:=fM.pre.stl
          have kp:∀ (i:Nat) (ob:Obj),Fx F w 2 i->W2.heap[i]? = some ob->Fx F w 2 i/\W9.heap[i]? = some ob:=fun i ob hi ho=>by
           have hx:=Fx.low' fM.pre.hF hi (by omega)
           exact ⟨hi,by rw [aS.block i (zZ ho) (fun e=>e.elim hx.1 hx.2)];exact ho⟩
          refine fM.move ((H2.out.2.2.1.weak fun i _ h=>.inl h).trans aS) ?_ (by rw [<- Au];exact x8 H8.out.2.2) HM.out.2.2.2.2.2.1 (by rw [List.length_append,az];have:=my.2.1;have:=HM.out.2.2.2.2.1;omega) (by rw [List.length_cons];omega)
           (jM _ _ (k_ (by omega) _ my.2.2) (xi (k_ (by omega) _ fM.pre.ok) (by omega) _ _ (zi my.1).1)) ⟨by show env.length<=_;omega,k_ (by omega) _ fM.pre.ok,vF (by omega) _ fM.pre.okg⟩
           ⟨tF.1,jF _ _ tF.2 (xq fM.pre.wf.2.1 _ _ fM.pre.wf.1.1),fun f hf=>?_⟩ ((Rep.keep kp).2 _ _ HM.out.2.2.1) ?_ ?_
          ·have h:=H2.out.2.1
           unfold Wri at *
           rw [mj.block ww (by omega) (by show ww≠w.heap.size;omega),H8.out.1.block ww (by omega),H7.out.2.1.block ww (by omega),H3.out.2.1.block ww (by omega),h,E9.out]
          ·rw [List.map_cons] at hf
           rcases List.mem_cons.1 hf with rfl | hf
           ·exact ⟨fM.pre.wf.1.2.1,fM.pre.wf.1.2.2,fM.pre.wf.2.1⟩
           ·exact fM.pre.wf.2.2 f hf
          ·rw [List.length_append]
           refine (Rep.keep fun i ob hi ho=>?_).1 _ _ H8.out.2.1
           have hx:Fx F w 2 i:=by
            rcases hi with h | h
            ·exact h
            ·exact .inr (by omega)
           exact ⟨hx,by rw [mj.block i (zZ ho) (Fx.low' fM.pre.hF hx (by omega)).2];exact ho⟩
          ·rw [List.length_cons]
           refine (H7.out.1.keep (w':=W9) fun g o hg ho=>?_).rep (fun g hg=>.inr (by have:=H7.out.2.2 g hg;omega)) ?_
           ·have h1:=H7.out.2.2 g hg
            have h2:=zZ ho
            rw [mj.block g (by omega) (by omega),H8.out.1.block g h2];exact ho
           ·rw [uu]
            refine zX.append ((Rep.keep kp).2 _ _ HM.out.2.2.2.2.2.2.1) ?_
            rw [encF]
            exact zX.append ((Rep.keep kp).2 _ _ aT.out.1) (zQ.2 ⟨_,_,rfl,(Rep.keep kp).1 _ _ aT.out.2.1,zQ.2 ⟨_,_,rfl,zH.2 rfl,zC.2 rfl⟩⟩)
         have Av:R=evN d (k+1) l b' (e'++owns env t'.args ss) n (List.map WFr.gf (⟨v,ss,y,no,env⟩::st)):=by
          rw [mg.out.2.1,evN_bd HM.out.1];rfl
         have HN:=fX (fW mW (fW Av mW.pre.wri))
         clear mW Av im Au p1 p2 p3 p4 d0 d1 d2 d3 f0 f1 f2 f3
         go_wp2_with fail
         go_roundw
         case rel=>exact ⟨d,l,b',_,_,_,_,_,_,_,_,_,_,by have:=mg.out.1;omega,HN.out.2.1,HN.out.1⟩
         case measure =>
          rw [mg.out.2.2.1]
          refine Nat.lt_of_le_of_lt (Nat.le_of_eq (xo HN.out.2.2)) ?_
          omega
        ·(intro o6 ho K' hK;simp at ho;subst ho)
         go_simp
         refine hK.out _ _ (fun _=>?_) ?_
         ·exact ((fF.alloc (fP _) (.cells #[] 146)).alloc (by rw [zK];exact Nat.le_succ _) (.cells #[str [],.int .i64 (v:Nat),.slice a1 ss.length c1,.slice a2 2 c2,.slice (some ⟨eb,eo,none⟩) env.length ecap,.int .i64 0] 146))
         clear hK K'
         (try simp only [pQ,pN,pZ,pS])
         (refine on 2 ?_;intro o ho K' hK;simp at ho;subst ho)
         refine zF (by rfl) _ _ _ (by rfl) 146 (.agg #[str [],.int .i64 0,.slice none 0 0,.slice none 0 0,.slice none 0 0,.int .i64 0]) 6 104 Tryz.underlying132 Tryz.infoFW rfl (by decide) (.slice (some ⟨W3.heap.size,0,none⟩) 0 0) 0 [] (by rfl) ((Own.litAt #[] 0 _ rfl (by decide) rfl).alloc _) _ st.length xs (by rfl) (SRC.out _ ((fF.alloc (fP _) (.cells #[] 146)).alloc (by rw [zK];exact Nat.le_succ _) (.cells #[str [],.int .i64 (v:Nat),.slice a1 ss.length c1,.slice a2 2 c2,.slice (some ⟨eb,eo,none⟩) env.length ecap,.int .i64 0] 146))) (by unfold maxLen;omega) (by omega) ?_
         intro a5 c5 w5 sk fe sj
         simp only [Nat.zero_add,List.nil_append] at sk sj ⊢
         have nS:Below W3.heap.size W3 w5:=((fF.alloc (fP _) (.cells #[] 146)).alloc (by rw [zK];exact Nat.le_succ _) (.cells #[str [],.int .i64 (v:Nat),.slice a1 ss.length c1,.slice a2 2 c2,.slice (some ⟨eb,eo,none⟩) env.length ecap,.int .i64 0] 146)).trans (fe.toBelow (((fF.alloc (fP _) (.cells #[] 146)).alloc (by rw [zK];exact Nat.le_succ _) (.cells #[str [],.int .i64 (v:Nat),.slice a1 ss.length c1,.slice a2 2 c2,.slice (some ⟨eb,eo,none⟩) env.length ecap,.int .i64 0] 146))).size fun i hi e=>by simp [Value.ownBlock] at e;omega)
         have iT:Hid (∀ g,(Value.slice a5 st.length c5).ownBlock=some g->W3.heap.size<=g):=fun g hg=>by rcases sj g hg with h | h;simp [Value.ownBlock] at h;omega;have h:g=W3.heap.size+1+1:=h.trans (xC W3 _ _);omega
         have Gx:zq 6 (.slice (some ⟨W3.heap.size+1,0,none⟩) 1 1) 1 #[str [],.int .i64 (v:Nat),.slice a1 ss.length c1,.slice a2 2 c2,.slice (some ⟨eb,eo,none⟩) env.length ecap,.int .i64 0].toList w5:=(zq.lit1 #[str [],.int .i64 (v:Nat),.slice a1 ss.length c1,.slice a2 2 c2,.slice (some ⟨eb,eo,none⟩) env.length ecap,.int .i64 0] rfl (by simp [str,Value.oneCell']) _ (by simp):zq 6 (.slice (some ⟨W3.heap.size+1,0,none⟩) 1 1) 1 #[str [],.int .i64 (v:Nat),.slice a1 ss.length c1,.slice a2 2 c2,.slice (some ⟨eb,eo,none⟩) env.length ecap,.int .i64 0].toList ((W3.drew.alloc (.cells #[] 146)).alloc (.cells #[str [],.int .i64 (v:Nat),.slice a1 ss.length c1,.slice a2 2 c2,.slice (some ⟨eb,eo,none⟩) env.length ecap,.int .i64 0] 146))).thru fe (fun e=>by simp [Value.ownBlock] at e)
         (refine hK.out _ _ (fun _=>nS) ?_;clear hK K';try simp only [pQ,pN,pZ,pS])
         (refine on 7 ?_;intro o ho K' hK;simp at ho;subst ho)
         refine zF (by rfl) _ _ _ (by rfl) 146 (.agg #[str [],.int .i64 0,.slice none 0 0,.slice none 0 0,.slice none 0 0,.int .i64 0]) 6 104 Tryz.underlying132 Tryz.infoFW rfl (by decide) (.slice a5 st.length c5) st.length xs (by rfl) (sk) _ 1 [str [],.int .i64 (v:Nat),.slice a1 ss.length c1,.slice a2 2 c2,.slice (some ⟨eb,eo,none⟩) env.length ecap,.int .i64 0] (by rfl) (Gx) (by unfold maxLen;omega) (by omega) ?_
         intro a7 c7 w7 fm fS fw
         have nI:Below W3.heap.size W3 w7:=nS.trans (fS.toBelow (nS).size fun i hi e=>by have:=iT.out i e;omega)
         have nM:∀ g,(Value.slice a7 (st.length+1) c7).ownBlock=some g->W3.heap.size<=g:=fun g hg=>by rcases fw g hg with h | h;exact iT.out g h;exact fD (nS).size (Nat.le_of_eq h.symm)
         (refine hK.out _ _ (fun _=>nI) ?_;clear hK K';try simp only [pQ,pN,pZ,pS])
         (refine on 8 ?_;intro o ho K' hK;simp at ho;subst ho;go_simp)
         (refine hK.out _ _ (fun _=>nI) ?_;clear hK K';try simp only [pQ,pN,pZ,pS])
         refine zU (by kernel_rfl) (NoPanic.normal ?_) _
         clear fe sj sk fS fw nS
         have H7:=fX (fW fm (fW nI nM));clear fm nI nM fF
         have sE:=H3.out.2.2.1
         have G2:=H7.out.2.1.size
         have oZ:=mg.out.2.2.2.2.zw
         have nF:=H2.out.2.2.1.size
         have sS:=(H7.out.2.1.block W2.heap.size (by omega)).trans H3.out.2.2.2.2
         have aF:=(H7.out.2.1.block w.heap.size (by omega)).trans H3.out.2.2.2.1
         have g5:w7.cell? ⟨W2.heap.size,5,none⟩=some (.slice ta t'.args.length tc):=by simp [World.cell?,sS]
         have g6:w7.cell? ⟨W2.heap.size,6,none⟩=some (.slice ha e'.length hcap):=by simp [World.cell?,sS]
         have x2:w7.cell? ⟨w.heap.size,2,none⟩=some (.slice a1 ss.length c1):=by simp [World.cell?,aF]
         have k7:∀ (i:Nat) (ob:Obj),Fx F w 2 i->W2.heap[i]? = some ob->Fx F w 2 i/\w7.heap[i]? = some ob:=fun i ob hi hh=>by
          have hl:=zZ hh
          exact ⟨hi,by rw [H7.out.2.1.block i (by omega),H3.out.2.1.block i hl];exact hh⟩
         have Di:=(gh (Fx F w 2) e' env ss t' (.slice ha e'.length hcap) (.slice a1 ss.length c1) (.slice ta t'.args.length tc) (.slice (some ⟨eb,eo,none⟩) env.length ecap) w7 ((Rep.keep k7).1 _ _ HM.out.2.2.2.1) ((Rep.keep k7).1 _ _ HK.out.1) ((Rep.keep k7).1 _ _ HM.out.2.1) ((Rep.keep k7).1 _ _ aT.out.2.1) (by omega) HM.out.2.2.2.2.1 (by omega))
         rw [show ((0:Nat):Int)=0 from rfl] at Di
         have CH:=fX Di;clear Di
         have E6:=fX (fW sS (fW aF k7));clear sS aF k7 sE nF
         go_wp2_with fail
         (with_reducible refine CH.out.mono ?_)
         rintro en w8 ⟨a8,c8,rfl,mJ,sO⟩
         have sE:=H3.out.2.2.1
         have hz8:=mJ.size
         have rE:=(mJ.block W2.heap.size (by omega)).trans E6.out.1
         have mP:=(mJ.block w.heap.size (by omega)).trans E6.out.2.1
         have p1:w8.cell? ⟨W2.heap.size,1,none⟩=some (str bs):=by simp [World.cell?,rE]
         have p2:w8.cell? ⟨W2.heap.size,2,none⟩=some (.int .i64 bv):=by simp [World.cell?,rE]
         have p3:w8.cell? ⟨W2.heap.size,3,none⟩=some (.slice n_ Dc nz):=by simp [World.cell?,rE]
         have p4:w8.cell? ⟨W2.heap.size,4,none⟩=some (.slice rS Db nO):=by simp [World.cell?,rE]
         have d0:w8.cell? ⟨w.heap.size,0,none⟩=some (str []):=by simp [World.cell?,mP]
         have d1:w8.cell? ⟨w.heap.size,1,none⟩=some (.int .i64 (v:Nat)):=by simp [World.cell?,mP]
         have d2:w8.cell? ⟨w.heap.size,2,none⟩=some (.slice a1 ss.length c1):=by simp [World.cell?,mP]
         have d3:w8.cell? ⟨w.heap.size,3,none⟩=some (.slice a2 2 c2):=by simp [World.cell?,mP]
         have f0:w8.frozen? ⟨w.heap.size,0,none⟩=false:=by simp [World.frozen?,mP]
         have f1:w8.frozen? ⟨w.heap.size,1,none⟩=false:=by simp [World.frozen?,mP]
         have f2:w8.frozen? ⟨w.heap.size,2,none⟩=false:=by simp [World.frozen?,mP]
         have f3:w8.frozen? ⟨w.heap.size,3,none⟩=false:=by simp [World.frozen?,mP]
         have H8:=fX (fW mJ (fW sO mP));clear mJ sO rE mP g5 g6 x2 sE
         go_upto_region 22 with (fail)
         obtain ⟨W9,Au⟩:=zzN (u7 w.heap.size (str bs) (.int .i64 bv) (.slice n_ Dc nz) (.slice rS Db nO) w8)
         have im:=Au
         unfold u7 at im
         rw [im]
         have mW:WAt F ww d (k+1) l n H b' (e'++owns env t'.args ss) (⟨v,ss,y,no,env⟩::st) bs bv n_ rS Dc nz Db nO (.slice a8 (e'.length+(owns env t'.args ss).length) c8) (.slice a7 (st.length+1) c7) w W9:=by
          have fM:=mg.out.2.2.2.2
          have nF:=H2.out.2.2.1.size
          have sE:=H3.out.2.2.1
          have mj:But (fun i=>i=w.heap.size) w8 W9:=by rw [<- Au];exact xY (But.refl _ _) rfl
          have aS:But (fun i=>i=ww\/i=w.heap.size) W2 W9:=(((But.ofBelow (m:=fun i=>i=ww\/i=w.heap.size) H3.out.2.1).trans (But.ofBelow (H7.out.2.1))).trans (But.ofBelow H8.out.1)).trans (mj.weak fun i _ h=>.inr h)
          have hz9:=aS.size
          have az:(owns env t'.args ss).length=t'.args.length:=xe _ _ HM.out.2.2.2.2.1
          have my:=HM.out.2.2.2.2.2.2.2.2.1
          have tF:=HM.out.2.2.2.2.2.2.2.2.2
          have oE:=fM.pre.ld;have Gi:=fM.pre.d20;have EG:=fM.pre.stl
          have kp:∀ (i:Nat) (ob:Obj),Fx F w 2 i->W2.heap[i]? = some ob->Fx F w 2 i/\W9.heap[i]? = some ob:=fun i ob hi ho=>by
           have hx:=Fx.low' fM.pre.hF hi (by omega)
           exact ⟨hi,by rw [aS.block i (zZ ho) (fun e=>e.elim hx.1 hx.2)];exact ho⟩
          refine fM.move ((H2.out.2.2.1.weak fun i _ h=>.inl h).trans aS) ?_ (by rw [<- Au];exact x8 H8.out.2.2) HM.out.2.2.2.2.2.1 (by rw [List.length_append,az];have:=my.2.1;have:=HM.out.2.2.2.2.1;omega) (by rw [List.length_cons];omega)
           (jM _ _ (k_ (by omega) _ my.2.2) (xi (k_ (by omega) _ fM.pre.ok) (by omega) _ _ (zi my.1).1)) ⟨by show env.length<=_;omega,k_ (by omega) _ fM.pre.ok,vF (by omega) _ fM.pre.okg⟩
           ⟨tF.1,jF _ _ tF.2 (xq fM.pre.wf.2.1 _ _ fM.pre.wf.1.1),fun f hf=>?_⟩ ((Rep.keep kp).2 _ _ HM.out.2.2.1) ?_ ?_
          ·have h:=H2.out.2.1
           unfold Wri at *
           rw [mj.block ww (by omega) (by show ww≠w.heap.size;omega),H8.out.1.block ww (by omega),H7.out.2.1.block ww (by omega),H3.out.2.1.block ww (by omega),h,E9.out]
          ·rw [List.map_cons] at hf
           rcases List.mem_cons.1 hf with rfl | hf
           ·exact ⟨fM.pre.wf.1.2.1,fM.pre.wf.1.2.2,fM.pre.wf.2.1⟩
           ·exact fM.pre.wf.2.2 f hf
          ·rw [List.length_append]
           refine (Rep.keep fun i ob hi ho=>?_).1 _ _ H8.out.2.1
           have hx:Fx F w 2 i:=by
            rcases hi with h | h
            ·exact h
            ·exact .inr (by omega)
           exact ⟨hx,by rw [mj.block i (zZ ho) (Fx.low' fM.pre.hF hx (by omega)).2];exact ho⟩
          ·rw [List.length_cons]
           refine (H7.out.1.keep (w':=W9) fun g o hg ho=>?_).rep (fun g hg=>.inr (by have:=H7.out.2.2 g hg;omega)) ?_
           ·have h1:=H7.out.2.2 g hg
            have h2:=zZ ho
            rw [mj.block g (by omega) (by omega),H8.out.1.block g h2];exact ho
           ·rw [uu]
            refine zX.append ((Rep.keep kp).2 _ _ HM.out.2.2.2.2.2.2.1) ?_
            rw [encF]
            exact zX.append ((Rep.keep kp).2 _ _ aT.out.1) (zQ.2 ⟨_,_,rfl,(Rep.keep kp).1 _ _ aT.out.2.1,zQ.2 ⟨_,_,rfl,zH.2 rfl,zC.2 rfl⟩⟩)
         have Av:R=evN d (k+1) l b' (e'++owns env t'.args ss) n (List.map WFr.gf (⟨v,ss,y,no,env⟩::st)):=by
          rw [mg.out.2.1,evN_bd HM.out.1];rfl
         have HN:=fX (fW mW (fW Av mW.pre.wri))
         clear mW Av im Au p1 p2 p3 p4 d0 d1 d2 d3 f0 f1 f2 f3
         go_wp2_with fail
         go_roundw
         case rel=>exact ⟨d,l,b',_,_,_,_,_,_,_,_,_,_,by have:=mg.out.1;omega,HN.out.2.1,HN.out.1⟩
         case measure =>
          rw [mg.out.2.2.1]
          refine Nat.lt_of_le_of_lt (Nat.le_of_eq (xo HN.out.2.2)) ?_
          omega
       ·(intro o6 ho K' hK;simp at ho;subst ho)
        go_simp
        (refine hK.out _ _ (fun _=>(fF.alloc (fP _) (.cells #[str [],.int .i64 (v:Nat),.slice a1 ss.length c1,.slice a2 2 c2,.slice (some ⟨eb,eo,none⟩) env.length ecap,.int .i64 0] 146))) ?_;clear hK K';try simp only [pQ,pN,pZ,pS])
        (refine on 0 ?_;intro o ho K' hK;simp at ho;subst ho;go_simp)
        refine hK.out _ _ (fun _=>?_) ?_
        ·exact ((fF.alloc (fP _) (.cells #[str [],.int .i64 (v:Nat),.slice a1 ss.length c1,.slice a2 2 c2,.slice (some ⟨eb,eo,none⟩) env.length ecap,.int .i64 0] 146)).alloc (by rw [zK];exact Nat.le_succ _) (.cells #[] 146))
        clear hK K'
        (try simp only [pQ,pN,pZ,pS])
        (refine on 2 ?_;intro o ho K' hK;simp at ho;subst ho)
        refine zF (by rfl) _ _ _ (by rfl) 146 (.agg #[str [],.int .i64 0,.slice none 0 0,.slice none 0 0,.slice none 0 0,.int .i64 0]) 6 104 Tryz.underlying132 Tryz.infoFW rfl (by decide) (.slice (some ⟨W3.heap.size+1,0,none⟩) 0 0) 0 [] (by rfl) (Own.litAt #[] 0 _ (by simp) (by decide) rfl) _ st.length xs (by rfl) (SRC.out _ ((fF.alloc (fP _) (.cells #[str [],.int .i64 (v:Nat),.slice a1 ss.length c1,.slice a2 2 c2,.slice (some ⟨eb,eo,none⟩) env.length ecap,.int .i64 0] 146)).alloc (by rw [zK];exact Nat.le_succ _) (.cells #[] 146))) (by unfold maxLen;omega) (by omega) ?_
        intro a5 c5 w5 sk fe sj
        simp only [Nat.zero_add,List.nil_append] at sk sj ⊢
        have nS:Below W3.heap.size W3 w5:=((fF.alloc (fP _) (.cells #[str [],.int .i64 (v:Nat),.slice a1 ss.length c1,.slice a2 2 c2,.slice (some ⟨eb,eo,none⟩) env.length ecap,.int .i64 0] 146)).alloc (by rw [zK];exact Nat.le_succ _) (.cells #[] 146)).trans (fe.toBelow (((fF.alloc (fP _) (.cells #[str [],.int .i64 (v:Nat),.slice a1 ss.length c1,.slice a2 2 c2,.slice (some ⟨eb,eo,none⟩) env.length ecap,.int .i64 0] 146)).alloc (by rw [zK];exact Nat.le_succ _) (.cells #[] 146))).size fun i hi e=>by simp [Value.ownBlock] at e;omega)
        have iT:Hid (∀ g,(Value.slice a5 st.length c5).ownBlock=some g->W3.heap.size<=g):=fun g hg=>by rcases sj g hg with h | h;simp [Value.ownBlock] at h;omega;have h:g=W3.heap.size+1+1:=h.trans (xC W3 _ _);omega
        have Gx:zq 6 (.slice (some ⟨W3.heap.size,0,none⟩) 1 1) 1 #[str [],.int .i64 (v:Nat),.slice a1 ss.length c1,.slice a2 2 c2,.slice (some ⟨eb,eo,none⟩) env.length ecap,.int .i64 0].toList w5:=((zq.lit1 #[str [],.int .i64 (v:Nat),.slice a1 ss.length c1,.slice a2 2 c2,.slice (some ⟨eb,eo,none⟩) env.length ecap,.int .i64 0] rfl (by simp [str,Value.oneCell']) _ (by simp):zq 6 (.slice (some ⟨W3.heap.size,0,none⟩) 1 1) 1 #[str [],.int .i64 (v:Nat),.slice a1 ss.length c1,.slice a2 2 c2,.slice (some ⟨eb,eo,none⟩) env.length ecap,.int .i64 0].toList (W3.drew.alloc (.cells #[str [],.int .i64 (v:Nat),.slice a1 ss.length c1,.slice a2 2 c2,.slice (some ⟨eb,eo,none⟩) env.length ecap,.int .i64 0] 146))).alloc (.cells #[] 146)).thru fe (fun e=>by simp [Value.ownBlock] at e)
        (refine hK.out _ _ (fun _=>nS) ?_;clear hK K';try simp only [pQ,pN,pZ,pS])
        (refine on 7 ?_;intro o ho K' hK;simp at ho;subst ho)
        refine zF (by rfl) _ _ _ (by rfl) 146 (.agg #[str [],.int .i64 0,.slice none 0 0,.slice none 0 0,.slice none 0 0,.int .i64 0]) 6 104 Tryz.underlying132 Tryz.infoFW rfl (by decide) (.slice a5 st.length c5) st.length xs (by rfl) (sk) _ 1 [str [],.int .i64 (v:Nat),.slice a1 ss.length c1,.slice a2 2 c2,.slice (some ⟨eb,eo,none⟩) env.length ecap,.int .i64 0] (by rfl) (Gx) (by unfold maxLen;omega) (by omega) ?_
        intro a7 c7 w7 fm fS fw
        have nI:Below W3.heap.size W3 w7:=nS.trans (fS.toBelow (nS).size fun i hi e=>by have:=iT.out i e;omega)
        have nM:∀ g,(Value.slice a7 (st.length+1) c7).ownBlock=some g->W3.heap.size<=g:=fun g hg=>by rcases fw g hg with h | h;exact iT.out g h;exact fD (nS).size (Nat.le_of_eq h.symm)
        (refine hK.out _ _ (fun _=>nI) ?_;clear hK K';try simp only [pQ,pN,pZ,pS])
        (refine on 8 ?_;intro o ho K' hK;simp at ho;subst ho;go_simp)
        (refine hK.out _ _ (fun _=>nI) ?_;clear hK K';try simp only [pQ,pN,pZ,pS])
        refine zU (by kernel_rfl) (NoPanic.normal ?_) _
        clear fe sj sk fS fw nS
        have H7:=fX (fW fm (fW nI nM));clear fm nI nM fF
        have sE:=H3.out.2.2.1
        have G2:=H7.out.2.1.size
        have oZ:=mg.out.2.2.2.2.zw
        have nF:=H2.out.2.2.1.size
        have sS:=(H7.out.2.1.block W2.heap.size (by omega)).trans H3.out.2.2.2.2
        have aF:=(H7.out.2.1.block w.heap.size (by omega)).trans H3.out.2.2.2.1
        have g5:w7.cell? ⟨W2.heap.size,5,none⟩=some (.slice ta t'.args.length tc):=by simp [World.cell?,sS]
        have g6:w7.cell? ⟨W2.heap.size,6,none⟩=some (.slice ha e'.length hcap):=by simp [World.cell?,sS]
        have x2:w7.cell? ⟨w.heap.size,2,none⟩=some (.slice a1 ss.length c1):=by simp [World.cell?,aF]
        have k7:∀ (i:Nat) (ob:Obj),Fx F w 2 i->W2.heap[i]? = some ob->Fx F w 2 i/\w7.heap[i]? = some ob:=fun i ob hi hh=>by
         have hl:=zZ hh
         exact ⟨hi,by rw [H7.out.2.1.block i (by omega),H3.out.2.1.block i hl];exact hh⟩
        have Di:=(gh (Fx F w 2) e' env ss t' (.slice ha e'.length hcap) (.slice a1 ss.length c1) (.slice ta t'.args.length tc) (.slice (some ⟨eb,eo,none⟩) env.length ecap) w7 ((Rep.keep k7).1 _ _ HM.out.2.2.2.1) ((Rep.keep k7).1 _ _ HK.out.1) ((Rep.keep k7).1 _ _ HM.out.2.1) ((Rep.keep k7).1 _ _ aT.out.2.1) (by omega) HM.out.2.2.2.2.1 (by omega))
        rw [show ((0:Nat):Int)=0 from rfl] at Di
        have CH:=fX Di;clear Di
        have E6:=fX (fW sS (fW aF k7));clear sS aF k7 sE nF
        go_wp2_with fail
        (with_reducible refine CH.out.mono ?_)
        rintro en w8 ⟨a8,c8,rfl,mJ,sO⟩
        have sE:=H3.out.2.2.1
        have hz8:=mJ.size
        have rE:=(mJ.block W2.heap.size (by omega)).trans E6.out.1
        have mP:=(mJ.block w.heap.size (by omega)).trans E6.out.2.1
        have p1:w8.cell? ⟨W2.heap.size,1,none⟩=some (str bs):=by simp [World.cell?,rE]
        have p2:w8.cell? ⟨W2.heap.size,2,none⟩=some (.int .i64 bv):=by simp [World.cell?,rE]
        have p3:w8.cell? ⟨W2.heap.size,3,none⟩=some (.slice n_ Dc nz):=by simp [World.cell?,rE]
        have p4:w8.cell? ⟨W2.heap.size,4,none⟩=some (.slice rS Db nO):=by simp [World.cell?,rE]
        have d0:w8.cell? ⟨w.heap.size,0,none⟩=some (str []):=by simp [World.cell?,mP]
        have d1:w8.cell? ⟨w.heap.size,1,none⟩=some (.int .i64 (v:Nat)):=by simp [World.cell?,mP]
        have d2:w8.cell? ⟨w.heap.size,2,none⟩=some (.slice a1 ss.length c1):=by simp [World.cell?,mP]
        have d3:w8.cell? ⟨w.heap.size,3,none⟩=some (.slice a2 2 c2):=by simp [World.cell?,mP]
        have f0:w8.frozen? ⟨w.heap.size,0,none⟩=false:=by simp [World.frozen?,mP]
        have f1:w8.frozen? ⟨w.heap.size,1,none⟩=false:=by simp [World.frozen?,mP]
        have f2:w8.frozen? ⟨w.heap.size,2,none⟩=false:=by simp [World.frozen?,mP]
        have f3:w8.frozen? ⟨w.heap.size,3,none⟩=false:=by simp [World.frozen?,mP]
        have H8:=fX (fW mJ (fW sO mP));clear mJ sO rE mP g5 g6 x2 sE
        go_upto_region 22 with (fail)
        obtain ⟨W9,Au⟩:=zzN (u7 w.heap.size (str bs) (.int .i64 bv) (.slice n_ Dc nz) (.slice rS Db nO) w8)
        have im:=Au
        unfold u7 at im
        rw [im]
        have mW:WAt F ww d (k+1) l n H b' (e'++owns env t'.args ss) (⟨v,ss,y,no,env⟩::st) bs bv n_ rS Dc nz Db nO (.slice a8 (e'.length+(owns env t'.args ss).length) c8) (.slice a7 (st.length+1) c7) w W9:=by
         have fM:=mg.out.2.2.2.2
         have nF:=H2.out.2.2.1.size
         have sE:=H3.out.2.2.1
         have mj:But (fun i=>i=w.heap.size) w8 W9:=by rw [<- Au];exact xY (But.refl _ _) rfl
         have aS:But (fun i=>i=ww\/i=w.heap.size) W2 W9:=(((But.ofBelow (m:=fun i=>i=ww\/i=w.heap.size) H3.out.2.1).trans (But.ofBelow (H7.out.2.1))).trans (But.ofBelow H8.out.1)).trans (mj.weak fun i _ h=>.inr h)
         have hz9:=aS.size
         have az:(owns env t'.args ss).length=t'.args.length:=xe _ _ HM.out.2.2.2.2.1
         have my:=HM.out.2.2.2.2.2.2.2.2.1
         have tF:=HM.out.2.2.2.2.2.2.2.2.2
         have oE:=fM.pre.ld;have Gi:=fM.pre.d20;have EG:=fM.pre.stl
         have kp:∀ (i:Nat) (ob:Obj),Fx F w 2 i->W2.heap[i]? = some ob->Fx F w 2 i/\W9.heap[i]? = some ob:=fun i ob hi ho=>by
          have hx:=Fx.low' fM.pre.hF hi (by omega)
          exact ⟨hi,by rw [aS.block i (zZ ho) (fun e=>e.elim hx.1 hx.2)];exact ho⟩
         refine fM.move ((H2.out.2.2.1.weak fun i _ h=>.inl h).trans aS) ?_ (by rw [<- Au];exact x8 H8.out.2.2) HM.out.2.2.2.2.2.1 (by rw [List.length_append,az];have:=my.2.1;have:=HM.out.2.2.2.2.1;omega) (by rw [List.length_cons];omega)
          (jM _ _ (k_ (by omega) _ my.2.2) (xi (k_ (by omega) _ fM.pre.ok) (by omega) _ _ (zi my.1).1)) ⟨by show env.length<=_;omega,k_ (by omega) _ fM.pre.ok,vF (by omega) _ fM.pre.okg⟩
          ⟨tF.1,jF _ _ tF.2 (xq fM.pre.wf.2.1 _ _ fM.pre.wf.1.1),fun f hf=>?_⟩ ((Rep.keep kp).2 _ _ HM.out.2.2.1) ?_ ?_
         ·have h:=H2.out.2.1
          unfold Wri at *
          rw [mj.block ww (by omega) (by show ww≠w.heap.size;omega),H8.out.1.block ww (by omega),H7.out.2.1.block ww (by omega),H3.out.2.1.block ww (by omega),h,E9.out]
         ·rw [List.map_cons] at hf
          rcases List.mem_cons.1 hf with rfl | hf
          ·exact ⟨fM.pre.wf.1.2.1,fM.pre.wf.1.2.2,fM.pre.wf.2.1⟩
          ·exact fM.pre.wf.2.2 f hf
         ·rw [List.length_append]
          refine (Rep.keep fun i ob hi ho=>?_).1 _ _ H8.out.2.1
          have hx:Fx F w 2 i:=by
           rcases hi with h | h
           ·exact h
           ·exact .inr (by omega)
          exact ⟨hx,by rw [mj.block i (zZ ho) (Fx.low' fM.pre.hF hx (by omega)).2];exact ho⟩
         ·rw [List.length_cons]
          refine (H7.out.1.keep (w':=W9) fun g o hg ho=>?_).rep (fun g hg=>.inr (by have:=H7.out.2.2 g hg;omega)) ?_
          ·have h1:=H7.out.2.2 g hg
           have h2:=zZ ho
           rw [mj.block g (by omega) (by omega),H8.out.1.block g h2];exact ho
          ·rw [uu]
           refine zX.append ((Rep.keep kp).2 _ _ HM.out.2.2.2.2.2.2.1) ?_
           rw [encF]
           exact zX.append ((Rep.keep kp).2 _ _ aT.out.1) (zQ.2 ⟨_,_,rfl,(Rep.keep kp).1 _ _ aT.out.2.1,zQ.2 ⟨_,_,rfl,zH.2 rfl,zC.2 rfl⟩⟩)
        have Av:R=evN d (k+1) l b' (e'++owns env t'.args ss) n (List.map WFr.gf (⟨v,ss,y,no,env⟩::st)):=by
         rw [mg.out.2.1,evN_bd HM.out.1];rfl
        have HN:=fX (fW mW (fW Av mW.pre.wri))
        clear mW Av im Au p1 p2 p3 p4 d0 d1 d2 d3 f0 f1 f2 f3
        go_wp2_with fail
        go_roundw
        case rel=>exact ⟨d,l,b',_,_,_,_,_,_,_,_,_,_,by have:=mg.out.1;omega,HN.out.2.1,HN.out.1⟩
        case measure =>
         rw [mg.out.2.2.1]
         refine Nat.lt_of_le_of_lt (Nat.le_of_eq (xo HN.out.2.2)) ?_
         omega
theorem write_any (d:Nat):x9 d:=by
 induction d using Nat.strongRecOn with
 | _ d ih=>exact write_step d ih
def qu (F:Nat->Prop) (o:Option Bd) (w:World) (en:Ending) (w':World):Prop :=
 ∃ s v a1 n1 c1 a2 n2 c2,en=.returned (.tuple #[.agg #[str s,.int .i64 v,.slice a1 n1 c1,.slice a2 n2 c2],.bool o.isSome])/\Below w.heap.size w w' /\
   ∀ x,o=some x->zX (fun i=>F i\/w.heap.size<=i) w' (kR x) [str s,.int .i64 v,.slice a1 n1 c1,.slice a2 n2 c2]
theorem qu.drew {F:Nat->Prop} {o:Option Bd} {w w':World} {en:Ending} (h:qu F o w en w'):qu F o w en w'.drew:=by
 obtain ⟨s,v,a1,n1,c1,a2,n2,c2,e,hb,hr⟩:=h
 exact ⟨s,v,a1,n1,c1,a2,n2,c2,e,Below.drew hb,fun x hx=>(hr x hx).drew⟩
structure SAppPre (F:Nat->Prop) (t a:Ty) (rest bs:List Ty) (m n:Bd) (tv bv:Value) (ms ns:Bs) (mv nv:Int) (Ab Aa mm mM:Option Addr) (oe o_ od o7 nE mh nB mF:Nat) (w:World):Prop where
 ts:t.args=a::rest
 t15:zV t<=15
 bl:bs.length<=100
 b15:∀ t∈bs,zV t<=15
 fit:jz (bs++rest) m (zS bs a n rest) []
 wm:wfB m
 wn:wfB n
 rt:Rep F w (kg t) tv
 rm:zX F w (kR m) [str ms,.int .i64 mv,.slice Ab oe o_,.slice Aa od o7]
 rn:zX F w (kR n) [str ns,.int .i64 nv,.slice mm nE mh,.slice mM nB mF]
 rb:Rep F w (.sl 43 1 bs.length (qH bs)) bv
 hF:∀ i,F i->i<w.heap.size
set_option maxRecDepth 100000 in
theorem l4Apply_any (F:Nat->Prop) (t a:Ty) (rest bs:List Ty) (m n:Bd) (tv bv:Value) (ms ns:Bs) (mv nv:Int) (Ab Aa mm mM:Option Addr) (oe o_ od o7 nE mh nB mF:Nat) (w:World) (h:SAppPre F t a rest bs m n tv bv ms ns mv nv Ab Aa mm mM oe o_ od o7 nE mh nB mF w) :
 Calls Tryz.prog 41 #[.agg #[tv],.agg #[str ms,.int .i64 mv,.slice Ab oe o_,.slice Aa od o7],.agg #[str ns,.int .i64 nv,.slice mm nE mh,.slice mM nB mF],bv] w
  (qu F (ud m (zS bs a n rest) (bs.length+rest.length)) w):=by
 have mG:=h.rt
 rw [qy] at mG
 obtain ⟨ta,tc,e,EF,_,tY⟩:=zP mG
 subst e
 rw [h.ts] at mG EF tY
 obtain ⟨kb,ko,u,d1,e,hkF,rZ,oS,Al,rQ⟩:=tY 0 (by simp)
 subst e
 simp only [qH,List.getElem?_cons_zero,Option.some.injEq] at oS
 subst oS
 obtain ⟨ua,uc,rfl⟩:=kJ rQ
 obtain ⟨ba,bc,ebv,_⟩:=zP h.rb
 subst ebv
 have hbl:=h.bl
 have hFw:=h.hF
 have hlen:t.args.length=rest.length+1:=by rw [h.ts];rfl
 rw [hlen]
 have fu:=zi h.t15
 have EN:rest.length<=15:=by have:=fu.2;omega
 have Jy:w.cell? ⟨kb,ko,none⟩=some (.slice ua a.args.length uc):=Al
 obtain ⟨W,hW⟩:=zzN (((((w.alloc (.cells #[.slice (some ⟨kb,ko,none⟩) (rest.length+1) tc] 43)).alloc (.cells #[str ms,.int .i64 mv,.slice Ab oe o_,.slice Aa od o7] 48)).alloc (.cells #[str ns,.int .i64 nv,.slice mm nE mh,.slice mM nB mF] 48)).alloc (.cells #[str [],.int .i64 0,.slice none 0 0,.slice none 0 0] 48)).alloc (.cells #[.int .i64 200,.int .i64 0] 126))
 have r_:W.heap.size=w.heap.size+5:=by rw [<- hW];simp only [zK]
 have fq:Below w.heap.size w W:=by rw [<- hW];exact (((((fH _ _).alloc (fP _) _).alloc (by simp only [zK];omega) _).alloc (by simp only [zK];omega) _).alloc (by simp only [zK];omega) _).alloc (by simp only [zK];omega) _
 have bT:W.heap[w.heap.size]? = some (.cells #[.slice (some ⟨kb,ko,none⟩) (rest.length+1) tc] 43 (0,0)):=by rw [<- hW];exact zY (zY (zY (zY (zG _ _))))
 have bM:W.heap[w.heap.size+1]? = some (.cells #[str ms,.int .i64 mv,.slice Ab oe o_,.slice Aa od o7] 48 (0,0)):=by
  rw [<- hW];refine zY (zY (zY ?_))
  have:=zG (w.alloc (.cells #[.slice (some ⟨kb,ko,none⟩) (rest.length+1) tc] 43)) (.cells #[str ms,.int .i64 mv,.slice Ab oe o_,.slice Aa od o7] 48)
  rwa [zK] at this
 have bN:W.heap[w.heap.size+2]? = some (.cells #[str ns,.int .i64 nv,.slice mm nE mh,.slice mM nB mF] 48 (0,0)):=by
  rw [<- hW];refine zY (zY ?_)
  have:=zG ((w.alloc (.cells #[.slice (some ⟨kb,ko,none⟩) (rest.length+1) tc] 43)).alloc (.cells #[str ms,.int .i64 mv,.slice Ab oe o_,.slice Aa od o7] 48)) (.cells #[str ns,.int .i64 nv,.slice mm nE mh,.slice mM nB mF] 48)
  simpa only [zK] using this
 have bR:z9 (w.heap.size+3) 0 (.slice none 0 0) (.slice none 0 0) W:=by
  unfold z9
  rw [<- hW];refine zY ?_
  have:=zG (((w.alloc (.cells #[.slice (some ⟨kb,ko,none⟩) (rest.length+1) tc] 43)).alloc (.cells #[str ms,.int .i64 mv,.slice Ab oe o_,.slice Aa od o7] 48)).alloc (.cells #[str ns,.int .i64 nv,.slice mm nE mh,.slice mM nB mF] 48)) (.cells #[str [],.int .i64 0,.slice none 0 0,.slice none 0 0] 48)
  simpa only [zK] using this
 have bW:Wri W (w.heap.size+4) 200 0:=by
  unfold Wri
  rw [<- hW]
  have:=zG ((((w.alloc (.cells #[.slice (some ⟨kb,ko,none⟩) (rest.length+1) tc] 43)).alloc (.cells #[str ms,.int .i64 mv,.slice Ab oe o_,.slice Aa od o7] 48)).alloc (.cells #[str ns,.int .i64 nv,.slice mm nE mh,.slice mM nB mF] 48)).alloc (.cells #[str [],.int .i64 0,.slice none 0 0,.slice none 0 0] 48)) (.cells #[.int .i64 200,.int .i64 0] 126)
  simpa only [zK] using this
 have C1:=pW F 0 bs _ W (Rep.below fq (fun _ h=>h) h.rb) (by omega) (by omega)
 rw [show ((0:Nat):Int)=0 from rfl] at C1
 have C1:=fX C1
 have HP:=fX h
 have HFw:=fX hFw;clear hFw
 have HT:=fX (fW mG (fW rQ (fW EF (fW fu hlen))))
 have HW:=fX (fW hW (fW r_ (fW fq (fW bT (fW bM (fW bN (fW bR bW)))))))
 clear h mG rQ EF fu hlen tY hW r_ fq bT bM bN bR bW Al
 go_enter Tryz.func41,Tryz.ntmps41
 go_upto_region 2 with (fail)
 rw [HW.out.1]
 go_wp2_with fail
 (with_reducible refine C1.out.mono ?_)
 rintro en w1 ⟨oa,oc,oxs,rfl,G_,nZ,fA,JR⟩
 have r_:=HW.out.2.1
 have iZ:=fA.size
 have b1:=fun {i:Nat} {o:Obj} (hi:i<W.heap.size) (h:W.heap[i]? = some o)=>(fA.block i hi).trans h
 have bT1:=b1 (by omega) HW.out.2.2.2.1
 have bN1:=b1 (by omega) HW.out.2.2.2.2.2.1
 obtain ⟨n0,n1,n2,n3⟩:=kH bN1
 have t0:w1.cell? ⟨w.heap.size,0,none⟩=some (.slice (some ⟨kb,ko,none⟩) (rest.length+1) tc):=by simp [World.cell?,bT1]
 have k1:w1.cell? ⟨kb,ko,none⟩=some (.slice ua a.args.length uc):=(fA.cell (by show kb<W.heap.size;omega)).trans ((HW.out.2.2.1.cell rZ).trans Jy)
 have SX:Hid (∀ w',Below w1.heap.size w1 w'->w'.cell? ⟨w.heap.size+2,0,none⟩=some (str ns)/\w'.cell? ⟨w.heap.size+2,1,none⟩=some (.int .i64 nv)/\w'.cell? ⟨w.heap.size+2,2,none⟩=some (.slice mm nE mh)/\w'.cell? ⟨w.heap.size+2,3,none⟩=some (.slice mM nB mF) /\
  w'.cell? ⟨w.heap.size,0,none⟩=some (.slice (some ⟨kb,ko,none⟩) (rest.length+1) tc)/\w'.cell? ⟨kb,ko,none⟩=some (.slice ua a.args.length uc)):=by
  show ∀ w',_->_
  intro w' fx
  exact ⟨(fx.cell (fG _ _ n0)).trans n0,(fx.cell (fG _ _ n1)).trans n1,(fx.cell (fG _ _ n2)).trans n2,(fx.cell (fG _ _ n3)).trans n3,(fx.cell (fG _ _ t0)).trans t0,(fx.cell (fG _ _ k1)).trans k1⟩
 have H1:=fX (fW G_ (fW nZ (fW fA JR)))
 clear G_ nZ fA JR b1 bT1 bN1 n0 n1 n2 n3 t0 k1 Jy C1
 go_wp2_with fail
 refine wp_region_noPanic ?_
 refine zB (fun w'=>Below w1.heap.size w1 w') (fun _=>false) (by kernel_rfl) ?_
 have fF:Below w1.heap.size w1 w1.drew:=Below.drew (fH _ _)
 refine tk [0,1,2,3,4,5,6] fF ?_
 (intro d hd;simp [tkD] at hd;subst hd;simp only [tks,pQ,pZ,pS])
 iterate 7 (refine ⟨?_,?_,?_⟩;rotate_left;· (intro oi ho;simp at ho;subst ho;refine Or.inl ⟨by rfl,fun w' fI=>?_⟩;obtain ⟨e0,e1,e2,e3,e4,e5⟩:=SX.out w' fI;go_simp;try with_reducible rfl))
 (refine on 7 ?_;intro o ho K' hK;simp at ho;subst ho;go_simp)
 (refine hK.out _ _ (fun _=>fF.alloc (fP _) _) ?_;clear hK K';try simp only [pQ,pN,pZ,pS])
 (refine on 8 ?_;intro o ho K' hK;simp at ho;subst ho;go_simp)
 (refine hK.out _ _ (fun _=>fF.alloc (fP _) _) ?_;clear hK K';try simp only [pQ,pN,pZ,pS])
 refine zU (by kernel_rfl) (NoPanic.normal ?_) _
 obtain ⟨W2,mV⟩:=zzN ((w1.alloc (.cells #[.int .i64 (-1),.string ⟨ns.toArray⟩,.int .i64 nv,.slice mm nE mh,.slice mM nB mF,.slice ua a.args.length uc,.slice oa bs.length oc,.int .i64 0,.int .i64 0] 130)).drew)
 rw [mV]
 have fN:Below w1.heap.size w1 W2:=by rw [<- mV];exact Below.drew ((fH _ _).alloc (fP _) _)
 have nF:W2.heap.size=w1.heap.size+1:=by rw [<- mV];exact zK _ _
 have C8:W2.heap[w1.heap.size]? = some (.cells #[.int .i64 (-1),str ns,.int .i64 nv,.slice mm nE mh,.slice mM nB mF,.slice ua a.args.length uc,.slice oa bs.length oc,.int .i64 0,.int .i64 0] 130 (0,0)):=by rw [<- mV];exact zG _ _
 have SY:Hid (∀ w',Below W2.heap.size W2 w'->w'.cell? ⟨w1.heap.size,0,none⟩=some (.int .i64 (-1))/\w'.cell? ⟨w1.heap.size,1,none⟩=some (str ns)/\w'.cell? ⟨w1.heap.size,2,none⟩=some (.int .i64 nv)/\w'.cell? ⟨w1.heap.size,3,none⟩=some (.slice mm nE mh)/\w'.cell? ⟨w1.heap.size,4,none⟩=some (.slice mM nB mF) /\
  w'.cell? ⟨w1.heap.size,5,none⟩=some (.slice ua a.args.length uc)/\w'.cell? ⟨w1.heap.size,6,none⟩=some (.slice oa bs.length oc)/\w'.cell? ⟨w1.heap.size,7,none⟩=some (.int .i64 0)/\w'.cell? ⟨w1.heap.size,8,none⟩=some (.int .i64 0)):=by
  show ∀ w',_->_
  intro w' fx
  have h:=(fx.block w1.heap.size (by omega)).trans C8
  simp [World.cell?,h]
 have EI:zq 9 (.slice oa bs.length oc) bs.length oxs w1:=H1.out.1.src (vD _ _ H1.out.2.1)
 have SRC:Hid (∀ w',Below W2.heap.size W2 w'->zq 9 (.slice oa bs.length oc) bs.length oxs w'):=by
  show ∀ w',_->_
  intro w' fx
  exact (EI.belowAll fN (fP _)).belowAll fx (fP _)
 have H2:=fX (fW fN (fW nF C8))
 clear mV fN C8 EI fF nF r_ iZ
 go_wp2_with fail
 refine jI (X:=Nat×Nat×Option Addr×Nat×Option Addr×Nat) (fun ac x=>(((((((ac.put (some 29) (.slice (some ⟨x.1,0,none⟩) 0 0)).put (some 30) (.slice oa bs.length oc)).put (some 31) (.slice x.2.2.1 (bs.length) x.2.2.2.1)).put (some 32) (.agg #[.int .i64 (-1),str ns,.int .i64 nv,.slice mm nE mh,.slice mM nB mF,.slice ua a.args.length uc,.slice oa bs.length oc,.int .i64 0,.int .i64 0])).put (some 33) (.slice (some ⟨x.2.1,0,none⟩) 1 1)).put (some 34) (.slice x.2.2.2.2.1 (bs.length+1) x.2.2.2.2.2)).put (some 14) (.slice x.2.2.2.2.1 (bs.length+1) x.2.2.2.2.2))) (fun x w7=>Own w7 130 9 (.slice x.2.2.2.2.1 (bs.length+1) x.2.2.2.2.2) (bs.length+1) (oxs++[.int .i64 (-1),str ns,.int .i64 nv,.slice mm nE mh,.slice mM nB mF,.slice ua a.args.length uc,.slice oa bs.length oc,.int .i64 0,.int .i64 0])/\Below W2.heap.size W2 w7/\∀ g,(Value.slice x.2.2.2.2.1 (bs.length+1) x.2.2.2.2.2).ownBlock=some g->W2.heap.size<=g) ?_ ?_
 ·refine wp_region_noPanic ?_
  refine zB (fun w'=>Below W2.heap.size W2 w') (fun _=>false) (by kernel_rfl) ?_
  have fF:Below W2.heap.size W2 W2.drew:=Below.drew (fH _ _)
  refine tk [1,3] fF ?_
  (intro d hd;simp [tkD] at hd;subst hd;simp only [tks,pQ,pZ,pS])
  iterate 2 (refine ⟨?_,?_,?_⟩;rotate_left;· (intro oi ho;simp at ho;subst ho;refine Or.inl ⟨by rfl,fun w' fI=>?_⟩;obtain ⟨e0,e1,e2,e3,e4,e5,e6,e7,e8⟩:=SY.out w' fI;go_simp;try with_reducible rfl))
  refine k8 0 4 (by kernel_rfl) ?_ ?_
  ·(intro o0 ho K' hK;simp at ho;subst ho)
   go_simp
   (refine hK.out _ _ (fun _=>(fF.alloc (fP _) (.cells #[] 130))) ?_;clear hK K';try simp only [pQ,pN,pZ,pS])
   refine k8 2 4 (by kernel_rfl) ?_ ?_
   ·(intro o2 ho K' hK;simp at ho;subst ho)
    refine zF (by rfl) _ _ _ (by rfl) 130 (.agg #[.int .i64 0,str [],.int .i64 0,.slice none 0 0,.slice none 0 0,.slice none 0 0,.slice none 0 0,.int .i64 0,.int .i64 0]) 9 144 Tryz.underlying127 Tryz.infoBo rfl (by decide) (.slice (some ⟨W2.heap.size,0,none⟩) 0 0) 0 [] (by rfl) (Own.litAt #[] 0 _ rfl (by decide) rfl) _ bs.length oxs (by rfl) (SRC.out _ (fF.alloc (fP _) (.cells #[] 130))) (by unfold maxLen;omega) (by omega) ?_
    intro a5 c5 w5 sk fe sj
    simp only [Nat.zero_add,List.nil_append] at sk sj ⊢
    have nS:Below W2.heap.size W2 w5:=(fF.alloc (fP _) (.cells #[] 130)).trans (fe.toBelow ((fF.alloc (fP _) (.cells #[] 130))).size fun i hi e=>by simp [Value.ownBlock] at e;omega)
    have iT:Hid (∀ g,(Value.slice a5 (bs.length) c5).ownBlock=some g->W2.heap.size<=g):=fun g hg=>by rcases sj g hg with h | h;simp [Value.ownBlock] at h;omega;have h:g=W2.heap.size+1:=h.trans (zK _ _);omega
    (refine hK.out _ _ (fun _=>nS) ?_;clear hK K';try simp only [pQ,pN,pZ,pS])
    (refine on 4 ?_;intro o ho K' hK;simp at ho;subst ho;go_simp)
    (refine hK.out _ _ (fun _=>nS.alloc nS.size _) ?_;clear hK K';try simp only [pQ,pN,pZ,pS])
    (refine on 5 ?_;intro o ho K' hK;simp at ho;subst ho)
    refine zF (by rfl) _ _ _ (by rfl) 130 (.agg #[.int .i64 0,str [],.int .i64 0,.slice none 0 0,.slice none 0 0,.slice none 0 0,.slice none 0 0,.int .i64 0,.int .i64 0]) 9 144 Tryz.underlying127 Tryz.infoBo rfl (by decide) (.slice a5 (bs.length) c5) (bs.length) oxs (by rfl) (sk.alloc _) _ 1 [.int .i64 (-1),str ns,.int .i64 nv,.slice mm nE mh,.slice mM nB mF,.slice ua a.args.length uc,.slice oa bs.length oc,.int .i64 0,.int .i64 0] (by rfl) (zq.lit1 #[.int .i64 (-1),str ns,.int .i64 nv,.slice mm nE mh,.slice mM nB mF,.slice ua a.args.length uc,.slice oa bs.length oc,.int .i64 0,.int .i64 0] rfl (by simp [str,Value.oneCell']) _ (by rfl)) (by unfold maxLen;omega) (by omega) ?_
    intro a7 c7 w7 fm fS fw
    have nI:Below W2.heap.size W2 w7:=(nS.alloc nS.size (.cells #[.int .i64 (-1),str ns,.int .i64 nv,.slice mm nE mh,.slice mM nB mF,.slice ua a.args.length uc,.slice oa bs.length oc,.int .i64 0,.int .i64 0] 130)).trans (fS.toBelow ((nS.alloc nS.size (.cells #[.int .i64 (-1),str ns,.int .i64 nv,.slice mm nE mh,.slice mM nB mF,.slice ua a.args.length uc,.slice oa bs.length oc,.int .i64 0,.int .i64 0] 130))).size fun i hi e=>by have:=iT.out i e;omega)
    have nM:∀ g,(Value.slice a7 (bs.length+1) c7).ownBlock=some g->W2.heap.size<=g:=fun g hg=>by rcases fw g hg with h | h;exact iT.out g h;exact fD ((nS.alloc nS.size (.cells #[.int .i64 (-1),str ns,.int .i64 nv,.slice mm nE mh,.slice mM nB mF,.slice ua a.args.length uc,.slice oa bs.length oc,.int .i64 0,.int .i64 0] 130))).size (Nat.le_of_eq h.symm)
    (refine hK.out _ _ (fun _=>nI) ?_;clear hK K';try simp only [pQ,pN,pZ,pS])
    (refine on 6 ?_;intro o ho K' hK;simp at ho;subst ho;go_simp)
    (refine hK.out _ _ (fun _=>nI) ?_;clear hK K';try simp only [pQ,pN,pZ,pS])
    refine zU (by kernel_rfl) (NoPanic.normal ?_) _
    clear fe sj sk fS fw nS fF iT
    exact ⟨rfl,⟨_,_,a5,c5,a7,c7⟩,by rfl,fm,nI,nM⟩
   ·(intro o4 ho K' hK;simp at ho;subst ho)
    go_simp
    refine hK.out _ _ (fun _=>?_) ?_
    ·exact ((fF.alloc (fP _) (.cells #[] 130)).alloc (by rw [zK];exact Nat.le_succ _) (.cells #[.int .i64 (-1),str ns,.int .i64 nv,.slice mm nE mh,.slice mM nB mF,.slice ua a.args.length uc,.slice oa bs.length oc,.int .i64 0,.int .i64 0] 130))
    clear hK K'
    (try simp only [pQ,pN,pZ,pS])
    (refine on 2 ?_;intro o ho K' hK;simp at ho;subst ho)
    refine zF (by rfl) _ _ _ (by rfl) 130 (.agg #[.int .i64 0,str [],.int .i64 0,.slice none 0 0,.slice none 0 0,.slice none 0 0,.slice none 0 0,.int .i64 0,.int .i64 0]) 9 144 Tryz.underlying127 Tryz.infoBo rfl (by decide) (.slice (some ⟨W2.heap.size,0,none⟩) 0 0) 0 [] (by rfl) ((Own.litAt #[] 0 _ rfl (by decide) rfl).alloc _) _ bs.length oxs (by rfl) (SRC.out _ ((fF.alloc (fP _) (.cells #[] 130)).alloc (by rw [zK];exact Nat.le_succ _) (.cells #[.int .i64 (-1),str ns,.int .i64 nv,.slice mm nE mh,.slice mM nB mF,.slice ua a.args.length uc,.slice oa bs.length oc,.int .i64 0,.int .i64 0] 130))) (by unfold maxLen;omega) (by omega) ?_
    intro a5 c5 w5 sk fe sj
    simp only [Nat.zero_add,List.nil_append] at sk sj ⊢
    have nS:Below W2.heap.size W2 w5:=((fF.alloc (fP _) (.cells #[] 130)).alloc (by rw [zK];exact Nat.le_succ _) (.cells #[.int .i64 (-1),str ns,.int .i64 nv,.slice mm nE mh,.slice mM nB mF,.slice ua a.args.length uc,.slice oa bs.length oc,.int .i64 0,.int .i64 0] 130)).trans (fe.toBelow (((fF.alloc (fP _) (.cells #[] 130)).alloc (by rw [zK];exact Nat.le_succ _) (.cells #[.int .i64 (-1),str ns,.int .i64 nv,.slice mm nE mh,.slice mM nB mF,.slice ua a.args.length uc,.slice oa bs.length oc,.int .i64 0,.int .i64 0] 130))).size fun i hi e=>by simp [Value.ownBlock] at e;omega)
    have iT:Hid (∀ g,(Value.slice a5 (bs.length) c5).ownBlock=some g->W2.heap.size<=g):=fun g hg=>by rcases sj g hg with h | h;simp [Value.ownBlock] at h;omega;have h:g=W2.heap.size+1+1:=h.trans (xC W2 _ _);omega
    have Gx:zq 9 (.slice (some ⟨W2.heap.size+1,0,none⟩) 1 1) 1 #[.int .i64 (-1),str ns,.int .i64 nv,.slice mm nE mh,.slice mM nB mF,.slice ua a.args.length uc,.slice oa bs.length oc,.int .i64 0,.int .i64 0].toList w5:=(zq.lit1 #[.int .i64 (-1),str ns,.int .i64 nv,.slice mm nE mh,.slice mM nB mF,.slice ua a.args.length uc,.slice oa bs.length oc,.int .i64 0,.int .i64 0] rfl (by simp [str,Value.oneCell']) _ (by simp):zq 9 (.slice (some ⟨W2.heap.size+1,0,none⟩) 1 1) 1 #[.int .i64 (-1),str ns,.int .i64 nv,.slice mm nE mh,.slice mM nB mF,.slice ua a.args.length uc,.slice oa bs.length oc,.int .i64 0,.int .i64 0].toList ((W2.drew.alloc (.cells #[] 130)).alloc (.cells #[.int .i64 (-1),str ns,.int .i64 nv,.slice mm nE mh,.slice mM nB mF,.slice ua a.args.length uc,.slice oa bs.length oc,.int .i64 0,.int .i64 0] 130))).thru fe (fun e=>by simp [Value.ownBlock] at e)
    (refine hK.out _ _ (fun _=>nS) ?_;clear hK K';try simp only [pQ,pN,pZ,pS])
    (refine on 5 ?_;intro o ho K' hK;simp at ho;subst ho)
    refine zF (by rfl) _ _ _ (by rfl) 130 (.agg #[.int .i64 0,str [],.int .i64 0,.slice none 0 0,.slice none 0 0,.slice none 0 0,.slice none 0 0,.int .i64 0,.int .i64 0]) 9 144 Tryz.underlying127 Tryz.infoBo rfl (by decide) (.slice a5 (bs.length) c5) (bs.length) oxs (by rfl) (sk) _ 1 [.int .i64 (-1),str ns,.int .i64 nv,.slice mm nE mh,.slice mM nB mF,.slice ua a.args.length uc,.slice oa bs.length oc,.int .i64 0,.int .i64 0] (by rfl) (Gx) (by unfold maxLen;omega) (by omega) ?_
    intro a7 c7 w7 fm fS fw
    have nI:Below W2.heap.size W2 w7:=nS.trans (fS.toBelow (nS).size fun i hi e=>by have:=iT.out i e;omega)
    have nM:∀ g,(Value.slice a7 (bs.length+1) c7).ownBlock=some g->W2.heap.size<=g:=fun g hg=>by rcases fw g hg with h | h;exact iT.out g h;exact fD (nS).size (Nat.le_of_eq h.symm)
    (refine hK.out _ _ (fun _=>nI) ?_;clear hK K';try simp only [pQ,pN,pZ,pS])
    (refine on 6 ?_;intro o ho K' hK;simp at ho;subst ho;go_simp)
    (refine hK.out _ _ (fun _=>nI) ?_;clear hK K';try simp only [pQ,pN,pZ,pS])
    refine zU (by kernel_rfl) (NoPanic.normal ?_) _
    clear fe sj sk fS fw nS fF iT
    exact ⟨rfl,⟨_,_,a5,c5,a7,c7⟩,by rfl,fm,nI,nM⟩
  ·(intro o4 ho K' hK;simp at ho;subst ho)
   go_simp
   (refine hK.out _ _ (fun _=>(fF.alloc (fP _) (.cells #[.int .i64 (-1),str ns,.int .i64 nv,.slice mm nE mh,.slice mM nB mF,.slice ua a.args.length uc,.slice oa bs.length oc,.int .i64 0,.int .i64 0] 130))) ?_;clear hK K';try simp only [pQ,pN,pZ,pS])
   (refine on 0 ?_;intro o ho K' hK;simp at ho;subst ho;go_simp)
   refine hK.out _ _ (fun _=>?_) ?_
   ·exact ((fF.alloc (fP _) (.cells #[.int .i64 (-1),str ns,.int .i64 nv,.slice mm nE mh,.slice mM nB mF,.slice ua a.args.length uc,.slice oa bs.length oc,.int .i64 0,.int .i64 0] 130)).alloc (by rw [zK];exact Nat.le_succ _) (.cells #[] 130))
   clear hK K'
   (try simp only [pQ,pN,pZ,pS])
   (refine on 2 ?_;intro o ho K' hK;simp at ho;subst ho)
   refine zF (by rfl) _ _ _ (by rfl) 130 (.agg #[.int .i64 0,str [],.int .i64 0,.slice none 0 0,.slice none 0 0,.slice none 0 0,.slice none 0 0,.int .i64 0,.int .i64 0]) 9 144 Tryz.underlying127 Tryz.infoBo rfl (by decide) (.slice (some ⟨W2.heap.size+1,0,none⟩) 0 0) 0 [] (by rfl) (Own.litAt #[] 0 _ (by simp) (by decide) rfl) _ bs.length oxs (by rfl) (SRC.out _ ((fF.alloc (fP _) (.cells #[.int .i64 (-1),str ns,.int .i64 nv,.slice mm nE mh,.slice mM nB mF,.slice ua a.args.length uc,.slice oa bs.length oc,.int .i64 0,.int .i64 0] 130)).alloc (by rw [zK];exact Nat.le_succ _) (.cells #[] 130))) (by unfold maxLen;omega) (by omega) ?_
   intro a5 c5 w5 sk fe sj
   simp only [Nat.zero_add,List.nil_append] at sk sj ⊢
   have nS:Below W2.heap.size W2 w5:=((fF.alloc (fP _) (.cells #[.int .i64 (-1),str ns,.int .i64 nv,.slice mm nE mh,.slice mM nB mF,.slice ua a.args.length uc,.slice oa bs.length oc,.int .i64 0,.int .i64 0] 130)).alloc (by rw [zK];exact Nat.le_succ _) (.cells #[] 130)).trans (fe.toBelow (((fF.alloc (fP _) (.cells #[.int .i64 (-1),str ns,.int .i64 nv,.slice mm nE mh,.slice mM nB mF,.slice ua a.args.length uc,.slice oa bs.length oc,.int .i64 0,.int .i64 0] 130)).alloc (by rw [zK];exact Nat.le_succ _) (.cells #[] 130))).size fun i hi e=>by simp [Value.ownBlock] at e;omega)
   have iT:Hid (∀ g,(Value.slice a5 (bs.length) c5).ownBlock=some g->W2.heap.size<=g):=fun g hg=>by rcases sj g hg with h | h;simp [Value.ownBlock] at h;omega;have h:g=W2.heap.size+1+1:=h.trans (xC W2 _ _);omega
   have Gx:zq 9 (.slice (some ⟨W2.heap.size,0,none⟩) 1 1) 1 #[.int .i64 (-1),str ns,.int .i64 nv,.slice mm nE mh,.slice mM nB mF,.slice ua a.args.length uc,.slice oa bs.length oc,.int .i64 0,.int .i64 0].toList w5:=((zq.lit1 #[.int .i64 (-1),str ns,.int .i64 nv,.slice mm nE mh,.slice mM nB mF,.slice ua a.args.length uc,.slice oa bs.length oc,.int .i64 0,.int .i64 0] rfl (by simp [str,Value.oneCell']) _ (by simp):zq 9 (.slice (some ⟨W2.heap.size,0,none⟩) 1 1) 1 #[.int .i64 (-1),str ns,.int .i64 nv,.slice mm nE mh,.slice mM nB mF,.slice ua a.args.length uc,.slice oa bs.length oc,.int .i64 0,.int .i64 0].toList (W2.drew.alloc (.cells #[.int .i64 (-1),str ns,.int .i64 nv,.slice mm nE mh,.slice mM nB mF,.slice ua a.args.length uc,.slice oa bs.length oc,.int .i64 0,.int .i64 0] 130))).alloc (.cells #[] 130)).thru fe (fun e=>by simp [Value.ownBlock] at e)
   (refine hK.out _ _ (fun _=>nS) ?_;clear hK K';try simp only [pQ,pN,pZ,pS])
   (refine on 5 ?_;intro o ho K' hK;simp at ho;subst ho)
   refine zF (by rfl) _ _ _ (by rfl) 130 (.agg #[.int .i64 0,str [],.int .i64 0,.slice none 0 0,.slice none 0 0,.slice none 0 0,.slice none 0 0,.int .i64 0,.int .i64 0]) 9 144 Tryz.underlying127 Tryz.infoBo rfl (by decide) (.slice a5 (bs.length) c5) (bs.length) oxs (by rfl) (sk) _ 1 [.int .i64 (-1),str ns,.int .i64 nv,.slice mm nE mh,.slice mM nB mF,.slice ua a.args.length uc,.slice oa bs.length oc,.int .i64 0,.int .i64 0] (by rfl) (Gx) (by unfold maxLen;omega) (by omega) ?_
   intro a7 c7 w7 fm fS fw
   have nI:Below W2.heap.size W2 w7:=nS.trans (fS.toBelow (nS).size fun i hi e=>by have:=iT.out i e;omega)
   have nM:∀ g,(Value.slice a7 (bs.length+1) c7).ownBlock=some g->W2.heap.size<=g:=fun g hg=>by rcases fw g hg with h | h;exact iT.out g h;exact fD (nS).size (Nat.le_of_eq h.symm)
   (refine hK.out _ _ (fun _=>nI) ?_;clear hK K';try simp only [pQ,pN,pZ,pS])
   (refine on 6 ?_;intro o ho K' hK;simp at ho;subst ho;go_simp)
   (refine hK.out _ _ (fun _=>nI) ?_;clear hK K';try simp only [pQ,pN,pZ,pS])
   refine zU (by kernel_rfl) (NoPanic.normal ?_) _
   clear fe sj sk fS fw nS fF iT
   exact ⟨rfl,⟨_,_,a5,c5,a7,c7⟩,by rfl,fm,nI,nM⟩
 rintro ⟨gE,gL,a5,c5,a7,c7⟩ w7 ⟨fm,nI,nM⟩
 simp only [pQ,pN,pZ,pS]
 have H7:=fX (fW fm (fW nI nM));clear fm nI nM
 have Gr:Below w1.heap.size w1 w7:=H2.out.1.trans (H7.out.2.1.mono (by have:=H2.out.2.1;omega))
 have Ec:Below W.heap.size W w7:=zzT H1.out.2.2.1 Gr
 have oL:Below w.heap.size w w7:=zzT HW.out.2.2.1 Ec
 have t7:w7.cell? ⟨w.heap.size,0,none⟩=some (.slice (some ⟨kb,ko,none⟩) (rest.length+1) tc):=by
  have h:=(Ec.block w.heap.size (by have:=HW.out.2.1;omega)).trans HW.out.2.2.2.1
  simp [World.cell?,h]
 have Ei:¬ tc=1->Rep F w7 (.sl 43 1 rest.length (qH rest)) (.slice (some ⟨kb,ko+1,none⟩) rest.length (tc-1)):=fun _=>Rep.below oL (fun _ h=>h) (wN (d:=kg a) HT.out.1)
 have hT1:tc=1->rest=[]/\Rep F w7 (.sl 43 1 rest.length (qH rest)) (.slice (some ⟨kb,ko,none⟩) rest.length 0):=fun h=>by
  obtain rfl:rest=[]:=by
   have h1:=HT.out.2.2.1
   rw [h] at h1
   simp at h1;exact h1
  exact ⟨rfl,zp.2 ⟨by simp [qH],_,_,rfl,Nat.zero_le _,fun h=>by simp at h,.inl rfl⟩⟩
 have H8:=fX (fW Gr (fW Ec oL));clear Gr Ec oL
 by_cases FL:tc=1
 ·have Kk:=(hT1 FL).2
  subst FL
  have htc0:(rest.length:Int)=0:=by have:=HT.out.2.2.1;simp at this;simp [this]
  clear hT1 Ei
  have C6:=fX (pW F bs.length rest _ w7 Kk (by omega) (by omega));clear Kk
  go_wp2_with fail
  (with_reducible refine C6.out.mono ?_)
  rintro en w8 ⟨a8,c8,Ic,rfl,EQ,sO,mJ,sJ⟩
  have B7:=H7.out.1.keep (w':=w8) fun g o hg hh=>by rw [mJ.block g (zZ hh)];exact hh
  have lW:=EQ.src (vD _ _ sO)
  have HA:=fX (fW B7 (fW lW (fW sO mJ)));clear B7 lW EQ sO mJ sJ
  go_wp2_with (at_builtin;refine zE rfl _ _ 127 rfl 130 (.agg #[.int .i64 0,str [],.int .i64 0,.slice none 0 0,.slice none 0 0,.slice none 0 0,.slice none 0 0,.int .i64 0,.int .i64 0]) 9 144 Tryz.underlying127 Tryz.infoBo rfl (by decide) (.slice a7 (bs.length+1) c7) (bs.length+1) _ rfl HA.out.1 _ rest.length Ic rfl HA.out.2.1 (by unfold maxLen;omega) (by omega) ?_)
  intro a9 c9 w9 I9 mj JF
  have oI:Below W2.heap.size W2 w9:=(zzT H7.out.2.1 HA.out.2.2.2).trans (mj.toBelow (by have:=H7.out.2.1.size;have:=HA.out.2.2.2.size;omega) fun i hi e=>by have:=H7.out.2.2 i e;omega)
  have Cg:∀ g,(Value.slice a9 (bs.length+1+rest.length) c9).ownBlock=some g->W2.heap.size<=g:=fun g hg=>by
   rcases JF g hg with h | h
   ·exact H7.out.2.2 g h
   ·have:=H7.out.2.1.size;have:=HA.out.2.2.2.size;omega
  have aN:Below W.heap.size W w9:=H1.out.2.2.1.trans ((H2.out.1.trans (oI.mono (by have:=H2.out.2.1;omega))).mono H1.out.2.2.1.size)
  have r_:=HW.out.2.1
  have Cc:∀ {i:Nat} {o:Obj},i<W.heap.size->W.heap[i]? = some o->w9.heap[i]? = some o:=fun hi h=>(aN.block _ hi).trans h
  have KI:=Cc (by omega) HW.out.2.2.2.1
  have KK:=Cc (by omega) HW.out.2.2.2.2.1
  have KJ:z9 (w.heap.size+3) 0 (.slice none 0 0) (.slice none 0 0) w9:=Cc (by omega) HW.out.2.2.2.2.2.2.1
  have KH:Wri w9 (w.heap.size+4) 200 0:=Cc (by omega) HW.out.2.2.2.2.2.2.2
  obtain ⟨m0,m1,m2,m3⟩:=kH KK
  have t9:w9.cell? ⟨w.heap.size,0,none⟩=some (.slice (some ⟨kb,ko,none⟩) (rest.length+1) 1):=by simp [World.cell?,KI]
  have t9':(w9.alloc (.cells #[] 146)).cell? ⟨w.heap.size,0,none⟩=some (.slice (some ⟨kb,ko,none⟩) (rest.length+1) 1):=zJ t9
  have oA:Below w.heap.size w (w9.alloc (.cells #[] 146)):=(zzT HW.out.2.2.1 aN).alloc (by have:=aN.size;omega) _
  have oW:zX (fun i=>(F i/\i<w.heap.size)\/w.heap.size+5<=i) w9 (kr (zS bs a n rest)) (oxs++([.int .i64 (-1),str ns,.int .i64 nv,.slice mm nE mh,.slice mM nB mF,.slice ua a.args.length uc,.slice oa bs.length oc,.int .i64 0,.int .i64 0]++Ic)):=by
   have kw:∀ (i:Nat) (o:Obj),F i->w.heap[i]? = some o->((F i/\i<w.heap.size)\/w.heap.size+5<=i)/\w9.heap[i]? = some o:=fun i o hi ho=>⟨.inl ⟨hi,zZ ho⟩,by rw [aN.block i (by have:=zZ ho;omega),HW.out.2.2.1.block i (zZ ho)];exact ho⟩
   have Kx:∀ (i:Nat),i<w1.heap.size->w9.heap[i]? = w1.heap[i]?:=fun i hi=>by rw [oI.block i (by have:=H2.out.2.1;omega),H2.out.1.block i hi]
   have kf:∀ (i:Nat),F i->(F i/\i<w.heap.size)\/w.heap.size+5<=i:=fun i hi=>by
    rcases Nat.lt_or_ge i w.heap.size with h | h
    ·exact .inl ⟨hi,h⟩
    ·exact .inr (by have:=HFw.out i hi;omega)
   have aU:zX (fun i=>(F i/\i<w.heap.size)\/w.heap.size+5<=i) w9 (kr (opens 0 bs)) oxs:=(Rep.keep fun i o hi ho=>⟨kf i hi,by rw [Kx i (zZ ho)];exact ho⟩).2 _ _ H1.out.2.1
   unfold zS
   rw [vX,kr,bf]
   refine zX.append aU ?_
   refine zX.append (vs:=[.int .i64 (-1),str ns,.int .i64 nv,.slice mm nE mh,.slice mM nB mF,.slice ua a.args.length uc,.slice oa bs.length oc,.int .i64 0,.int .i64 0]) ?_ ?_
   ·refine zX.append (vs:=[.int .i64 (-1)]) (zX.one (zH.2 rfl)) (zX.append (ds:=kR n) (vs:=[str ns,.int .i64 nv,.slice mm nE mh,.slice mM nB mF]) ((Rep.keep kw).2 _ _ HP.out.rn) ?_)
    refine zQ.2 ⟨_,_,rfl,(Rep.keep kw).1 _ _ HT.out.2.1,zQ.2 ⟨_,_,rfl,?_,zQ.2 ⟨_,_,rfl,zH.2 rfl,zQ.2 ⟨_,_,rfl,yQ.2 ⟨_,rfl⟩,zC.2 rfl⟩⟩⟩⟩
    rw [kT]
    refine (H1.out.1.keep (w':=w9) fun g o hg hh=>by rw [Kx g (zZ hh)];exact hh).rep (fun g hg=>.inr (by have:=H1.out.2.2.2 g hg;omega)) aU
   ·refine (Rep.keep fun i o hi ho=>⟨kf i hi,?_⟩).2 _ _ HA.out.2.2.1
    have hl:=zZ ho
    rw [mj.block i hl (fun e=>?_)];exact ho
    have:=H7.out.2.2 i e
    have h1:=HFw.out i hi
    have h2:=H2.out.1.size
    have h3:=H1.out.2.2.1.size
    omega
  have aG:(zS bs a n rest).length=bs.length+1+rest.length:=by unfold zS;simp [kT];omega
  have BW:Rep (fun i=>(F i/\i<w.heap.size)\/w.heap.size+5<=i) (w9.alloc (.cells #[] 146)) (.sl 130 9 (zS bs a n rest).length (kr (zS bs a n rest))) (.slice a9 (bs.length+1+rest.length) c9):=by
   rw [aG]
   refine (Rep.keep fun i o hi ho=>⟨hi,zY ho⟩).1 _ _ (I9.rep (fun g hg=>.inr ?_) oW)
   have:=Cg g hg
   have h2:=H2.out.1.size
   have h3:=H1.out.2.2.1.size
   omega
  have BQ:zX (fun i=>(F i/\i<w.heap.size)\/w.heap.size+5<=i) (w9.alloc (.cells #[] 146)) (kR m) [str ms,.int .i64 mv,.slice Ab oe o_,.slice Aa od o7] :=
   (Rep.keep fun i o hi ho=>⟨.inl ⟨hi,zZ ho⟩,by rw [oA.block i (zZ ho)];exact ho⟩).2 _ _ HP.out.rm
  have sY:=HT.out.2.2.2.1
  have aV:∀ x∈rest,zV x<=15:=fun x hx=>sY.1 x (by rw [HP.out.ts];simp [hx])
  have nH:zV a<=15:=sY.1 a (by rw [HP.out.ts];simp)
  have Iy:Wri (w9.alloc (.cells #[] 146)) (w.heap.size+4) ((200:Nat):Int) (20000-((20000:Nat):Int)):=zY KH
  have C7:=write_any 20000 (fun i=>(F i/\i<w.heap.size)\/w.heap.size+5<=i) (w.heap.size+4) 200 20000 (bs.length+rest.length) (bs++rest) m (zS bs a n rest) [] ms mv Ab Aa oe o_ od o7 (.slice a9 (bs.length+1+rest.length) c9) (.slice (some ⟨w9.heap.size,0,none⟩) 0 0) (w9.alloc (.cells #[] 146))
   { wri:=Iy,hF:=fun i hi=>(by
    rcases hi with h | h
    ·have:=h.2;omega
    ·omega),ld:=fP _,d20:=fP _,k200:=fP _,fit:=HP.out.fit,hn:=by simp,el:=by rw [aG];omega,nl:=by omega,stl:=by simp,
     ok:=jM _ _ (jP _ _ HP.out.b15 (by omega)) ⟨by rw [okM];exact ⟨nH,by rw [kT];omega,jP _ _ HP.out.b15 (by omega)⟩,jP _ _ aV (by omega)⟩,okg:=trivial,
     wf:=⟨HP.out.wm,jF _ _ (jW _ _) ⟨⟨HP.out.wn,jW _ _⟩,jW _ _⟩,by simp⟩,rb:=BQ,re:=BW,rs:=zp.2 ⟨by simp [uu],_,_,rfl,fP _,fun h=>by simp at h,.inl rfl⟩ }
  rw [show ((bs.length+rest.length:Nat):Int)=(bs.length:Int) from by omega,show w.heap.size+4=w.heap.size+1+1+1+1 from rfl] at C7
  have C7:=fX C7
  have Gq:=fX (show w8.heap.size<=w9.heap.size from mj.size)
  have H9:=fX (fW oA (fW KJ r_))
  clear Cc KI KK KJ KH oA oW aG BW BQ sY aV nH Iy oI Cg aN r_ I9 mj JF
  go_wp2_with fail
  (with_reducible refine C7.out.mono ?_)
  rintro en sP ⟨s,v,b1,p1,d1,b2,p2,d2,rfl,iG,Ca,oJ⟩
  obtain ⟨L,S,Gv,hL⟩:∃ L S:Int,Wri sP (w.heap.size+4) L S/\decide (0<=L)=(ud m (zS bs a n rest) (bs.length+rest.length)).isSome:=by
   unfold ud
   cases hq:evN 20000 200 20000 m (zS bs a n rest) (bs.length+rest.length) (List.map WFr.gf []) with
   | none =>
     obtain ⟨st,u1,_,_⟩:=Ca hq
     exact ⟨-1,st,u1,by rw [show (List.map WFr.gf []:List Gf)=[] from rfl] at hq;rw [hq];rfl⟩
   | some x =>
     obtain ⟨u1,_⟩:=oJ x hq
     exact ⟨_,_,u1,by rw [show (List.map WFr.gf []:List Gf)=[] from rfl] at hq;rw [hq];simp⟩
  have ia:z9 (w.heap.size+3) 0 (.slice none 0 0) (.slice none 0 0) sP:=z9.but (zY H9.out.2.1) iG (show ¬ (w.heap.size+3=w.heap.size+1+1+1+1) by omega)
  have sR:Below w.heap.size w sP:=H9.out.1.trans (iG.toBelow H9.out.1.size fun i hi e=>by have e:i=w.heap.size+1+1+1+1:=e;omega)
  obtain ⟨iB,ib⟩:=zzN (sP.alloc (.cells #[str s,.int .i64 v,.slice b1 p1 d1,.slice b2 p2 d2] 48))
  have sT:Below sP.heap.size sP iB:=by rw [<- ib];exact (fH _ _).alloc (fP _) _
  have lC:iB.heap[sP.heap.size]? = some (.cells #[str s,.int .i64 v,.slice b1 p1 d1,.slice b2 p2 d2] 48 (0,0)):=by rw [<- ib];exact zG _ _
  have oy:z9 (w.heap.size+3) 0 (.slice none 0 0) (.slice none 0 0) iB:=ia.below sT (zZ ia)
  have Cz:iB.cell? ⟨w.heap.size+4,0,none⟩=some (.int .i64 L):=(sT.cell (p:=⟨w.heap.size+4,0,none⟩) Gv.cell.2.2.2).trans Gv.cell.1
  obtain ⟨o0,o1,o2,o3⟩:=kH lC
  obtain ⟨r0,r1,r2,r3,rlt,rf⟩:=oy.cells
  have nJ:=rf 0;have nf:=rf 1;have rO:=rf 2;have tJ:=rf 3
  have Is:=sR.size
  have hne:sP.heap.size≠w.heap.size+3:=by have:=zZ ia;omega
  have SZ:Hid (∀ w',But (fun i=>i=w.heap.size+3) iB w'->w'.cell? ⟨sP.heap.size,0,none⟩=some (str s)/\w'.cell? ⟨sP.heap.size,1,none⟩=some (.int .i64 v)/\w'.cell? ⟨sP.heap.size,2,none⟩=some (.slice b1 p1 d1)/\w'.cell? ⟨sP.heap.size,3,none⟩=some (.slice b2 p2 d2)/\w'.cell? ⟨w.heap.size+4,0,none⟩=some (.int .i64 L)):=by
   show ∀ w',_->_
   intro w' fx
   have k:∀ {p:Addr} {u:Value},p.block≠w.heap.size+3->iB.cell? p=some u->w'.cell? p=some u:=fun hn hu=>(fx.cell (fG _ _ hu) hn).trans hu
   exact ⟨k hne o0,k hne o1,k hne o2,k hne o3,k (by show w.heap.size+4≠w.heap.size+3;omega) Cz⟩
  obtain ⟨W13,ir,mC,mY,mB,mE,sG,i6⟩:=oy.store (str s) (.int .i64 v) (.slice b1 p1 d1) (.slice b2 p2 d2)
  have ip:qu F (ud m (zS bs a n rest) (bs.length+rest.length)) w (.returned (.tuple #[.agg #[str s,.int .i64 v,.slice b1 p1 d1,.slice b2 p2 d2],.bool (decide (0<=L))])) W13:=by
   refine ⟨s,v,b1,p1,d1,b2,p2,d2,by rw [hL],sG _ _ (zzT sR sT) (by omega),fun x hx=>?_⟩
   unfold ud at hx
   rw [Option.map_eq_some_iff] at hx
   obtain ⟨y,hy,rfl⟩:=hx
   obtain ⟨_,u2⟩:=oJ y hy
   refine (Rep.keep fun i o hi ho=>?_).2 _ _ u2
   have hl:=zZ ho
   have h9:w.heap.size+5<=(w9.alloc (.cells #[] 146)).heap.size:=by
    have:=zZ (H9.out.2.1)
    have h5:=H9.out.2.2
    have:=HA.out.2.2.2.size;have:=H7.out.2.1.size;have:=H2.out.1.size;have:=H1.out.2.2.1.size;have:=Gq.out
    rw [zK];omega
   have hc:(F i\/w.heap.size<=i)/\i≠w.heap.size+3:=by
    rcases hi with (h | h) | h
    ·exact ⟨.inl h.1,by have:=h.2;omega⟩
    ·exact ⟨.inr (by omega),by omega⟩
    ·exact ⟨.inr (by omega),by omega⟩
   exact ⟨hc.1,i6 i _ hc.2 (by rw [sT.block i hl];exact ho)⟩
  have HF:=fX (fW ib (fW ir (fW ip sG)))
  clear ib sT lC oy Cz rf ir ip sG i6 hL Gv ia sR iG Ca oJ
  go_wp2_with fail
  rw [HF.out.1]
  refine wp_region_noPanic ?_
  refine zB (fun w'=>But (fun i=>i=w.heap.size+3) iB w') (fun _=>false) (by kernel_rfl) ?_
  have fF:But (fun i=>i=w.heap.size+3) iB iB.drew:=(But.refl _ iB).drew
  refine tk [0,1,2,3,4,5] fF ?_
  (intro d hd;simp [tkD] at hd;subst hd;simp only [tks,pQ,pZ,pS])
  iterate 6 (refine ⟨?_,?_,?_⟩;rotate_left;· (intro oi ho;simp at ho;subst ho;refine Or.inl ⟨by rfl,fun w' fI=>?_⟩;obtain ⟨e0,e1,e2,e3,e4⟩:=SZ.out w' fI;go_simp;try with_reducible rfl))
  (refine on 6 ?_;intro o ho K' hK;simp at ho;subst ho;go_simp)
  (refine hK.out _ _ (fun _=>(((fF.setCell (p:=⟨w.heap.size+3,0,none⟩) (.inl rfl) _).setCell (p:=⟨w.heap.size+3,1,none⟩) (.inl rfl) _).setCell (p:=⟨w.heap.size+3,2,none⟩) (.inl rfl) _).setCell (p:=⟨w.heap.size+3,3,none⟩) (.inl rfl) _) ?_;clear hK K';try simp only [pQ,pN,pZ,pS])
  (refine on 7 ?_;intro o ho K' hK;simp at ho;subst ho;go_simp)
  (refine hK.out _ _ (fun _=>(((fF.setCell (p:=⟨w.heap.size+3,0,none⟩) (.inl rfl) _).setCell (p:=⟨w.heap.size+3,1,none⟩) (.inl rfl) _).setCell (p:=⟨w.heap.size+3,2,none⟩) (.inl rfl) _).setCell (p:=⟨w.heap.size+3,3,none⟩) (.inl rfl) _) ?_;clear hK K';try simp only [pQ,pN,pZ,pS])
  refine zU (by kernel_rfl) (NoPanic.normal ?_) _
  go_wp2_with fail
  obtain ⟨-,ir,ip,-⟩:=HF.out
  rw [<- ir]
  refine bodyPost_ret (v:=.tuple #[.agg #[str s,.int .i64 v,.slice b1 p1 d1,.slice b2 p2 d2],.bool (decide (0<=L))]) (by simp [results,Tryz.results41,go_sem,mC,mY,mB,mE]) rfl ?_
  exact ip.drew
 ·have Kk:=Ei FL
  have htc2:rest.length+1<=tc:=by have:=HT.out.2.2.1;simpa using this
  clear hT1 Ei
  have C6:=fX (pW F bs.length rest _ w7 Kk (by omega) (by omega));clear Kk
  go_wp2_with fail
  (with_reducible refine C6.out.mono ?_)
  rintro en w8 ⟨a8,c8,Ic,rfl,EQ,sO,mJ,sJ⟩
  have B7:=H7.out.1.keep (w':=w8) fun g o hg hh=>by rw [mJ.block g (zZ hh)];exact hh
  have lW:=EQ.src (vD _ _ sO)
  have HA:=fX (fW B7 (fW lW (fW sO mJ)));clear B7 lW EQ sO mJ sJ
  go_wp2_with (at_builtin;refine zE rfl _ _ 127 rfl 130 (.agg #[.int .i64 0,str [],.int .i64 0,.slice none 0 0,.slice none 0 0,.slice none 0 0,.slice none 0 0,.int .i64 0,.int .i64 0]) 9 144 Tryz.underlying127 Tryz.infoBo rfl (by decide) (.slice a7 (bs.length+1) c7) (bs.length+1) _ rfl HA.out.1 _ rest.length Ic rfl HA.out.2.1 (by unfold maxLen;omega) (by omega) ?_)
  intro a9 c9 w9 I9 mj JF
  have oI:Below W2.heap.size W2 w9:=(zzT H7.out.2.1 HA.out.2.2.2).trans (mj.toBelow (by have:=H7.out.2.1.size;have:=HA.out.2.2.2.size;omega) fun i hi e=>by have:=H7.out.2.2 i e;omega)
  have Cg:∀ g,(Value.slice a9 (bs.length+1+rest.length) c9).ownBlock=some g->W2.heap.size<=g:=fun g hg=>by
   rcases JF g hg with h | h
   ·exact H7.out.2.2 g h
   ·have:=H7.out.2.1.size;have:=HA.out.2.2.2.size;omega
  have aN:Below W.heap.size W w9:=H1.out.2.2.1.trans ((H2.out.1.trans (oI.mono (by have:=H2.out.2.1;omega))).mono H1.out.2.2.1.size)
  have r_:=HW.out.2.1
  have Cc:∀ {i:Nat} {o:Obj},i<W.heap.size->W.heap[i]? = some o->w9.heap[i]? = some o:=fun hi h=>(aN.block _ hi).trans h
  have KI:=Cc (by omega) HW.out.2.2.2.1
  have KK:=Cc (by omega) HW.out.2.2.2.2.1
  have KJ:z9 (w.heap.size+3) 0 (.slice none 0 0) (.slice none 0 0) w9:=Cc (by omega) HW.out.2.2.2.2.2.2.1
  have KH:Wri w9 (w.heap.size+4) 200 0:=Cc (by omega) HW.out.2.2.2.2.2.2.2
  obtain ⟨m0,m1,m2,m3⟩:=kH KK
  have t9:w9.cell? ⟨w.heap.size,0,none⟩=some (.slice (some ⟨kb,ko,none⟩) (rest.length+1) tc):=by simp [World.cell?,KI]
  have t9':(w9.alloc (.cells #[] 146)).cell? ⟨w.heap.size,0,none⟩=some (.slice (some ⟨kb,ko,none⟩) (rest.length+1) tc):=zJ t9
  have oA:Below w.heap.size w (w9.alloc (.cells #[] 146)):=(zzT HW.out.2.2.1 aN).alloc (by have:=aN.size;omega) _
  have oW:zX (fun i=>(F i/\i<w.heap.size)\/w.heap.size+5<=i) w9 (kr (zS bs a n rest)) (oxs++([.int .i64 (-1),str ns,.int .i64 nv,.slice mm nE mh,.slice mM nB mF,.slice ua a.args.length uc,.slice oa bs.length oc,.int .i64 0,.int .i64 0]++Ic)):=by
   have kw:∀ (i:Nat) (o:Obj),F i->w.heap[i]? = some o->((F i/\i<w.heap.size)\/w.heap.size+5<=i)/\w9.heap[i]? = some o:=fun i o hi ho=>⟨.inl ⟨hi,zZ ho⟩,by rw [aN.block i (by have:=zZ ho;omega),HW.out.2.2.1.block i (zZ ho)];exact ho⟩
   have Kx:∀ (i:Nat),i<w1.heap.size->w9.heap[i]? = w1.heap[i]?:=fun i hi=>by rw [oI.block i (by have:=H2.out.2.1;omega),H2.out.1.block i hi]
   have kf:∀ (i:Nat),F i->(F i/\i<w.heap.size)\/w.heap.size+5<=i:=fun i hi=>by
    rcases Nat.lt_or_ge i w.heap.size with h | h
    ·exact .inl ⟨hi,h⟩
    ·exact .inr (by have:=HFw.out i hi;omega)
   have aU:zX (fun i=>(F i/\i<w.heap.size)\/w.heap.size+5<=i) w9 (kr (opens 0 bs)) oxs:=(Rep.keep fun i o hi ho=>⟨kf i hi,by rw [Kx i (zZ ho)];exact ho⟩).2 _ _ H1.out.2.1
   unfold zS
   rw [vX,kr,bf]
   refine zX.append aU ?_
   refine zX.append (vs:=[.int .i64 (-1),str ns,.int .i64 nv,.slice mm nE mh,.slice mM nB mF,.slice ua a.args.length uc,.slice oa bs.length oc,.int .i64 0,.int .i64 0]) ?_ ?_
   ·refine zX.append (vs:=[.int .i64 (-1)]) (zX.one (zH.2 rfl)) (zX.append (ds:=kR n) (vs:=[str ns,.int .i64 nv,.slice mm nE mh,.slice mM nB mF]) ((Rep.keep kw).2 _ _ HP.out.rn) ?_)
    refine zQ.2 ⟨_,_,rfl,(Rep.keep kw).1 _ _ HT.out.2.1,zQ.2 ⟨_,_,rfl,?_,zQ.2 ⟨_,_,rfl,zH.2 rfl,zQ.2 ⟨_,_,rfl,yQ.2 ⟨_,rfl⟩,zC.2 rfl⟩⟩⟩⟩
    rw [kT]
    refine (H1.out.1.keep (w':=w9) fun g o hg hh=>by rw [Kx g (zZ hh)];exact hh).rep (fun g hg=>.inr (by have:=H1.out.2.2.2 g hg;omega)) aU
   ·refine (Rep.keep fun i o hi ho=>⟨kf i hi,?_⟩).2 _ _ HA.out.2.2.1
    have hl:=zZ ho
    rw [mj.block i hl (fun e=>?_)];exact ho
    have:=H7.out.2.2 i e
    have h1:=HFw.out i hi
    have h2:=H2.out.1.size
    have h3:=H1.out.2.2.1.size
    omega
  have aG:(zS bs a n rest).length=bs.length+1+rest.length:=by unfold zS;simp [kT];omega
  have BW:Rep (fun i=>(F i/\i<w.heap.size)\/w.heap.size+5<=i) (w9.alloc (.cells #[] 146)) (.sl 130 9 (zS bs a n rest).length (kr (zS bs a n rest))) (.slice a9 (bs.length+1+rest.length) c9):=by
   rw [aG]
   refine (Rep.keep fun i o hi ho=>⟨hi,zY ho⟩).1 _ _ (I9.rep (fun g hg=>.inr ?_) oW)
   have:=Cg g hg
   have h2:=H2.out.1.size
   have h3:=H1.out.2.2.1.size
   omega
  have BQ:zX (fun i=>(F i/\i<w.heap.size)\/w.heap.size+5<=i) (w9.alloc (.cells #[] 146)) (kR m) [str ms,.int .i64 mv,.slice Ab oe o_,.slice Aa od o7] :=
   (Rep.keep fun i o hi ho=>⟨.inl ⟨hi,zZ ho⟩,by rw [oA.block i (zZ ho)];exact ho⟩).2 _ _ HP.out.rm
  have sY:=HT.out.2.2.2.1
  have aV:∀ x∈rest,zV x<=15:=fun x hx=>sY.1 x (by rw [HP.out.ts];simp [hx])
  have nH:zV a<=15:=sY.1 a (by rw [HP.out.ts];simp)
  have Iy:Wri (w9.alloc (.cells #[] 146)) (w.heap.size+4) ((200:Nat):Int) (20000-((20000:Nat):Int)):=zY KH
  have C7:=write_any 20000 (fun i=>(F i/\i<w.heap.size)\/w.heap.size+5<=i) (w.heap.size+4) 200 20000 (bs.length+rest.length) (bs++rest) m (zS bs a n rest) [] ms mv Ab Aa oe o_ od o7 (.slice a9 (bs.length+1+rest.length) c9) (.slice (some ⟨w9.heap.size,0,none⟩) 0 0) (w9.alloc (.cells #[] 146))
   { wri:=Iy,hF:=fun i hi=>(by
    rcases hi with h | h
    ·have:=h.2;omega
    ·omega),ld:=fP _,d20:=fP _,k200:=fP _,fit:=HP.out.fit,hn:=by simp,el:=by rw [aG];omega,nl:=by omega,stl:=by simp,
     ok:=jM _ _ (jP _ _ HP.out.b15 (by omega)) ⟨by rw [okM];exact ⟨nH,by rw [kT];omega,jP _ _ HP.out.b15 (by omega)⟩,jP _ _ aV (by omega)⟩,okg:=trivial,
     wf:=⟨HP.out.wm,jF _ _ (jW _ _) ⟨⟨HP.out.wn,jW _ _⟩,jW _ _⟩,by simp⟩,rb:=BQ,re:=BW,rs:=zp.2 ⟨by simp [uu],_,_,rfl,fP _,fun h=>by simp at h,.inl rfl⟩ }
  rw [show ((bs.length+rest.length:Nat):Int)=(bs.length:Int)+((rest.length:Int)+1)-1 from by omega,show w.heap.size+4=w.heap.size+1+1+1+1 from rfl] at C7
  have C7:=fX C7
  have Gq:=fX (show w8.heap.size<=w9.heap.size from mj.size)
  have H9:=fX (fW oA (fW KJ r_))
  clear Cc KI KK KJ KH oA oW aG BW BQ sY aV nH Iy oI Cg aN r_ I9 mj JF
  go_wp2_with fail
  (with_reducible refine C7.out.mono ?_)
  rintro en sP ⟨s,v,b1,p1,d1,b2,p2,d2,rfl,iG,Ca,oJ⟩
  obtain ⟨L,S,Gv,hL⟩:∃ L S:Int,Wri sP (w.heap.size+4) L S/\decide (0<=L)=(ud m (zS bs a n rest) (bs.length+rest.length)).isSome:=by
   unfold ud
   cases hq:evN 20000 200 20000 m (zS bs a n rest) (bs.length+rest.length) (List.map WFr.gf []) with
   | none =>
     obtain ⟨st,u1,_,_⟩:=Ca hq
     exact ⟨-1,st,u1,by rw [show (List.map WFr.gf []:List Gf)=[] from rfl] at hq;rw [hq];rfl⟩
   | some x =>
     obtain ⟨u1,_⟩:=oJ x hq
     exact ⟨_,_,u1,by rw [show (List.map WFr.gf []:List Gf)=[] from rfl] at hq;rw [hq];simp⟩
  have ia:z9 (w.heap.size+3) 0 (.slice none 0 0) (.slice none 0 0) sP:=z9.but (zY H9.out.2.1) iG (show ¬ (w.heap.size+3=w.heap.size+1+1+1+1) by omega)
  have sR:Below w.heap.size w sP:=H9.out.1.trans (iG.toBelow H9.out.1.size fun i hi e=>by have e:i=w.heap.size+1+1+1+1:=e;omega)
  obtain ⟨iB,ib⟩:=zzN (sP.alloc (.cells #[str s,.int .i64 v,.slice b1 p1 d1,.slice b2 p2 d2] 48))
  have sT:Below sP.heap.size sP iB:=by rw [<- ib];exact (fH _ _).alloc (fP _) _
  have lC:iB.heap[sP.heap.size]? = some (.cells #[str s,.int .i64 v,.slice b1 p1 d1,.slice b2 p2 d2] 48 (0,0)):=by rw [<- ib];exact zG _ _
  have oy:z9 (w.heap.size+3) 0 (.slice none 0 0) (.slice none 0 0) iB:=ia.below sT (zZ ia)
  have Cz:iB.cell? ⟨w.heap.size+4,0,none⟩=some (.int .i64 L):=(sT.cell (p:=⟨w.heap.size+4,0,none⟩) Gv.cell.2.2.2).trans Gv.cell.1
  obtain ⟨o0,o1,o2,o3⟩:=kH lC
  obtain ⟨r0,r1,r2,r3,rlt,rf⟩:=oy.cells
  have nJ:=rf 0;have nf:=rf 1;have rO:=rf 2;have tJ:=rf 3
  have Is:=sR.size
  have hne:sP.heap.size≠w.heap.size+3:=by have:=zZ ia;omega
  have SZ:Hid (∀ w',But (fun i=>i=w.heap.size+3) iB w'->w'.cell? ⟨sP.heap.size,0,none⟩=some (str s)/\w'.cell? ⟨sP.heap.size,1,none⟩=some (.int .i64 v)/\w'.cell? ⟨sP.heap.size,2,none⟩=some (.slice b1 p1 d1)/\w'.cell? ⟨sP.heap.size,3,none⟩=some (.slice b2 p2 d2)/\w'.cell? ⟨w.heap.size+4,0,none⟩=some (.int .i64 L)):=by
   show ∀ w',_->_
   intro w' fx
   have k:∀ {p:Addr} {u:Value},p.block≠w.heap.size+3->iB.cell? p=some u->w'.cell? p=some u:=fun hn hu=>(fx.cell (fG _ _ hu) hn).trans hu
   exact ⟨k hne o0,k hne o1,k hne o2,k hne o3,k (by show w.heap.size+4≠w.heap.size+3;omega) Cz⟩
  obtain ⟨W13,ir,mC,mY,mB,mE,sG,i6⟩:=oy.store (str s) (.int .i64 v) (.slice b1 p1 d1) (.slice b2 p2 d2)
  have ip:qu F (ud m (zS bs a n rest) (bs.length+rest.length)) w (.returned (.tuple #[.agg #[str s,.int .i64 v,.slice b1 p1 d1,.slice b2 p2 d2],.bool (decide (0<=L))])) W13:=by
   refine ⟨s,v,b1,p1,d1,b2,p2,d2,by rw [hL],sG _ _ (zzT sR sT) (by omega),fun x hx=>?_⟩
   unfold ud at hx
   rw [Option.map_eq_some_iff] at hx
   obtain ⟨y,hy,rfl⟩:=hx
   obtain ⟨_,u2⟩:=oJ y hy
   refine (Rep.keep fun i o hi ho=>?_).2 _ _ u2
   have hl:=zZ ho
   have h9:w.heap.size+5<=(w9.alloc (.cells #[] 146)).heap.size:=by
    have:=zZ (H9.out.2.1)
    have h5:=H9.out.2.2
    have:=HA.out.2.2.2.size;have:=H7.out.2.1.size;have:=H2.out.1.size;have:=H1.out.2.2.1.size;have:=Gq.out
    rw [zK];omega
   have hc:(F i\/w.heap.size<=i)/\i≠w.heap.size+3:=by
    rcases hi with (h | h) | h
    ·exact ⟨.inl h.1,by have:=h.2;omega⟩
    ·exact ⟨.inr (by omega),by omega⟩
    ·exact ⟨.inr (by omega),by omega⟩
   exact ⟨hc.1,i6 i _ hc.2 (by rw [sT.block i hl];exact ho)⟩
  have HF:=fX (fW ib (fW ir (fW ip sG)))
  clear ib sT lC oy Cz rf ir ip sG i6 hL Gv ia sR iG Ca oJ
  go_wp2_with fail
  rw [HF.out.1]
  refine wp_region_noPanic ?_
  refine zB (fun w'=>But (fun i=>i=w.heap.size+3) iB w') (fun _=>false) (by kernel_rfl) ?_
  have fF:But (fun i=>i=w.heap.size+3) iB iB.drew:=(But.refl _ iB).drew
  refine tk [0,1,2,3,4,5] fF ?_
  (intro d hd;simp [tkD] at hd;subst hd;simp only [tks,pQ,pZ,pS])
  iterate 6 (refine ⟨?_,?_,?_⟩;rotate_left;· (intro oi ho;simp at ho;subst ho;refine Or.inl ⟨by rfl,fun w' fI=>?_⟩;obtain ⟨e0,e1,e2,e3,e4⟩:=SZ.out w' fI;go_simp;try with_reducible rfl))
  (refine on 6 ?_;intro o ho K' hK;simp at ho;subst ho;go_simp)
  (refine hK.out _ _ (fun _=>(((fF.setCell (p:=⟨w.heap.size+3,0,none⟩) (.inl rfl) _).setCell (p:=⟨w.heap.size+3,1,none⟩) (.inl rfl) _).setCell (p:=⟨w.heap.size+3,2,none⟩) (.inl rfl) _).setCell (p:=⟨w.heap.size+3,3,none⟩) (.inl rfl) _) ?_;clear hK K';try simp only [pQ,pN,pZ,pS])
  (refine on 7 ?_;intro o ho K' hK;simp at ho;subst ho;go_simp)
  (refine hK.out _ _ (fun _=>(((fF.setCell (p:=⟨w.heap.size+3,0,none⟩) (.inl rfl) _).setCell (p:=⟨w.heap.size+3,1,none⟩) (.inl rfl) _).setCell (p:=⟨w.heap.size+3,2,none⟩) (.inl rfl) _).setCell (p:=⟨w.heap.size+3,3,none⟩) (.inl rfl) _) ?_;clear hK K';try simp only [pQ,pN,pZ,pS])
  refine zU (by kernel_rfl) (NoPanic.normal ?_) _
  go_wp2_with fail
  obtain ⟨-,ir,ip,-⟩:=HF.out
  rw [<- ir]
  refine bodyPost_ret (v:=.tuple #[.agg #[str s,.int .i64 v,.slice b1 p1 d1,.slice b2 p2 d2],.bool (decide (0<=L))]) (by simp [results,Tryz.results41,go_sem,mC,mY,mB,mE]) rfl ?_
  exact ip.drew
def wrOf (t:Ty) (o:Option Bd):Option Bs:=o.bind fun out=>(qw (zN t) (kM out)).map fun _=>kM out
def TxtPost (o:Option Bs) (w:World) (en:Ending) (w':World):Prop:=en=.returned (.tuple #[str (o.getD []),.bool o.isSome])/\Below w.heap.size w w'
set_option maxRecDepth 100000 in
theorem l4Written_any (F:Nat->Prop) (t:Ty) (o:Option Bd) (tv:Value) (s:Bs) (v:Int) (a1:Option Addr) (n1 c1:Nat) (a2:Option Addr) (n2 c2:Nat) (w:World) (fu:zV t<=15) (ht:Rep F w (kg t) tv)
 (hn:∀ x,o=some x->zX F w (kR x) [str s,.int .i64 v,.slice a1 n1 c1,.slice a2 n2 c2]/\zW x<=1000/\lvB x) :
 Calls Tryz.prog 18 #[.agg #[tv],.agg #[str s,.int .i64 v,.slice a1 n1 c1,.slice a2 n2 c2],.bool o.isSome] w (TxtPost (wrOf t o) w):=by
 obtain ⟨ta,tc,rfl⟩:=kJ ht
 obtain ⟨W,hW⟩:=zzN ((w.alloc (.cells #[.slice ta t.args.length tc] 43)).alloc (.cells #[str s,.int .i64 v,.slice a1 n1 c1,.slice a2 n2 c2] 48))
 have fq:Below w.heap.size w W:=by rw [<- hW];exact ((fH _ _).alloc (fP _) _).alloc (by rw [zK];omega) _
 have bT:W.heap[w.heap.size]? = some (.cells #[.slice ta t.args.length tc] 43 (0,0)):=by rw [<- hW];exact zY (zG _ _)
 have bN:W.heap[w.heap.size+1]? = some (.cells #[str s,.int .i64 v,.slice a1 n1 c1,.slice a2 n2 c2] 48 (0,0)):=by
  have:=zG (w.alloc (.cells #[.slice ta t.args.length tc] 43)) (.cells #[str s,.int .i64 v,.slice a1 n1 c1,.slice a2 n2 c2] 48)
  rw [zK,hW] at this;exact this
 obtain ⟨y0,y1,y2,y3⟩:=kH bN
 have HW:=fX (fW hW (fW fq (fW bT (fW bN (fW ht hn)))));clear hW fq bT bN ht hn
 cases o with
 | none =>
   simp only [Option.isSome_none]
   go_enter Tryz.func18,Tryz.ntmps18
   go_wp2_with fail
   go_ret2
   have h:=HW.out.2.1
   rw [<- HW.out.1] at h
   exact ⟨rfl,h⟩
 | some x =>
   simp only [Option.isSome_some]
   obtain ⟨IP,f7,ru⟩:=HW.out.2.2.2.2.2 x rfl
   have hrW:=zX.below (F':=F) HW.out.2.1 (fun _ h=>h) IP
   have C0:=fX (l3Text_any (zW x) x (fP _) (by omega) ru F W _ _ _ _ hrW)
   have hlen:(kM x).length<=12000:=by have:=vJ x ru;omega
   have rM:wrOf t (some x)=(qw (zN t) (kM x)).map fun _=>kM x:=rfl
   obtain ⟨Y,hY⟩:=zzM (kM x)
   rw [<- hY] at C0 hlen rM
   obtain ⟨X,hX⟩:=zzM (zN t)
   have hXl:Lim X.length:=by rw [hX];have:=jy 15 t fu;show _<=_;omega
   have hYl:Lim Y.length:=by show _<=_;omega
   rw [<- hX] at rM
   have E7:=fX rM
   have HX:=fX (fW hX hY);clear IP f7 ru hrW hlen rM hX hY
   go_enter Tryz.func18,Tryz.ntmps18
   go_upto_region 1 with (fail)
   rw [HW.out.1]
   go_wp2_with fail
   (with_reducible refine C0.out.mono ?_)
   rintro en w2 ⟨rfl,fN⟩
   have iX:Below w.heap.size w w2:=zzT HW.out.2.1 fN
   have Ei:w2.heap[w.heap.size]? = some (.cells #[.slice ta t.args.length tc] 43 (0,0)):=(fN.block _ (zZ HW.out.2.2.1)).trans HW.out.2.2.1
   have SX:Hid (∀ w',Below w2.heap.size w2 w'->w'.cell? ⟨w.heap.size,0,none⟩=some (.slice ta t.args.length tc)/\True):=by
    show ∀ w',_->_
    intro w' fx
    have h:=(fx.block _ (zZ Ei)).trans Ei
    exact ⟨by simp [World.cell?,h],trivial⟩
   have C1:Hid (∀ wz,Below w2.heap.size w2 wz->Calls Tryz.prog 46 #[.agg #[.slice ta t.args.length tc]] wz fun en w'=>en=.returned (str X)/\Below wz.heap.size wz w'):=by
    show ∀ wz,_->_
    intro wz hz
    rw [HX.out.1]
    exact uG 15 t fu (by omega) F wz _ (Rep.below (zzT iX hz) (fun _ h=>h) HW.out.2.2.2.2.1)
   have C2:=fX (fun wz=>eB X Y hXl hYl wz)
   have H2:=fX iX
   clear fN iX Ei y0 y1 y2 y3 hXl hYl
   have t2:=(SX.out w2 (fH _ _)).1
   go_wp2_with fail
   (with_reducible refine (C1.out w2 (fH _ _)).mono ?_)
   rintro en w3 ⟨rfl,fv⟩
   have nh:=fX fv;clear fv
   go_wp2_with fail
   (with_reducible refine (C2.out w3).mono ?_)
   rintro en w4 ⟨sa,sc,s',v',ly,ik,lu,A7,l_,A3,rfl,fl,-,-⟩
   have HB:=fX (H2.out.trans ((zzT nh.out fl).mono H2.out.size));clear fl C0 C1 C2 SX t2
   have FIN:∀ (o o':Obj),Below w.heap.size w ((w4.alloc o).alloc o'):=fun o o'=>(HB.out.alloc HB.out.size _).alloc (by rw [zK];exact Nat.le_succ_of_le HB.out.size) _
   have K6:=fX FIN;clear FIN
   cases hq:qw X Y with
   | none =>
     have h:=E7.out
     rw [hq] at h
     simp only [Option.isSome_none]
     have HR:=fX h;clear h hq
     go_wp2_with fail
     go_ret2
     rw [HR.out]
     exact ⟨rfl,K6.out _ _⟩
   | some b =>
     have h:=E7.out
     rw [hq] at h
     simp only [Option.isSome_some]
     have HR:=fX h;clear h hq
     go_wp2_with fail
     go_ret2
     rw [HR.out]
     exact ⟨rfl,K6.out _ _⟩
end Go.Proofs.YtjggkhmojjaomaaGreatDoor

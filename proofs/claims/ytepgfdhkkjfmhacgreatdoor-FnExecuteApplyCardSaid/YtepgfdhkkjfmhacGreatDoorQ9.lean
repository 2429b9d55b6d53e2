/- Walks of functions that the statement reaches, and plain words. No conditions. -/
import Derived.Test.YtepgfdhkkjfmhacGreatDoorQ8
set_option linter.unusedVariables false
set_option linter.unusedSimpArgs false
set_option maxHeartbeats 8000000
namespace Go.Proofs.YtepgfdhkkjfmhacGreatDoor
open Go.RowKit
structure KeepPre (F:Nat->Prop) (ww d k l n vv o:Nat) (H:List Ty) (t:Ty) (ss:List Bd) (y no:Bd) (env:List Mn) (st:List WFr) (v0:Int) (a1 a2:Option Addr) (c1 c2:Nat) (ev sv:Value) (w:World):Prop where
 wri:Wri w ww ((k:Nat)+1) (20000-(l:Nat))
 hF:∀ i,F i->i≠ww
 ld:l<=d
 d20:d<=20000
 k200:k<=200
 hv:env[vv]? = some (.op o t)
 fit:kn H (.ask vv ss y no) env (st.map WFr.gf)
 hn:H.length=n
 el:env.length+16*(d+1)<=1000000
 nl:n+16*(d+1)<=1000000
 stl:st.length+d<=40000
 ok:jo (1000000-16*(d+1)) env
 okg:okGs (1000000-16*(d+1)) (st.map WFr.gf)
 wf:wfB (.ask vv ss y no)/\vI env/\∀ f∈st.map WFr.gf,wfG f
 rb:zH F w (kE (.ask vv ss y no)) [str [],.int .i64 (vv:Nat),.slice a1 ss.length c1,.slice a2 2 c2]
 re:Rep F w (.sl 94 9 env.length (za env)) ev
 rs:Rep F w (.sl 131 6 st.length (jq st)) sv
def fpos:Bool->Nat
 | false=>2
 | true=>3
def fk:Bool->Value->Value->Value
 | false,_,sv=>sv
 | true,ks,_=>ks
def fy:Bool->Value->Value
 | false,_=>.slice none 0 0
 | true,sv=>sv
structure NInv (F:Nat->Prop) (ww:Nat) (D:Int) (k l n o vv nk:Nat) (env:List Mn) (f:Nat->Nat->Bd->List Mn->Nat->List Gf->Option (Bd×Nat×Nat)) (k0 l0:Nat) (ts:List Ty) (bs:List Bd) (A Z:Prop) (fld:Bool) (ks:Value) (kU:List Bd)
 (a1 a2 ta:Option Addr) (c1 c2 nt tc:Nat) (i0:Int) (w:World) (Q j:Nat) (sv:Value) (us:List Value) (wr:World):Prop where
 but:But (· = ww) w wr
 zw:Q+1<=wr.heap.size
 box:wr.heap[w.heap.size]? = some (.cells #[str [],.int .i64 (vv:Nat),.slice a1 nk c1,.slice a2 2 c2] 46 (0,0))
 res:zm (w.heap.size+1) 0 (.slice none 0 0) (.slice none 0 0) wr
 bnd:wr.heap[w.heap.size+2]? = some (.cells #[.int .i64 (o:Nat),str [],.int .i64 0,.slice none 0 0,.slice none 0 0,.slice ta nt tc,.slice none 0 0,.int .i64 0,.int .i64 i0] 94 (0,0))
 blk:zm Q (o:Nat) (fk fld ks sv) (fy fld sv) wr
 own:Own wr 46 4 sv j us
 fr:∀ g,sv.ownBlock=some g->Q+1<=g
 mode:(∃ zs kj lj,A/\zg f env n k0 l0 (ts.take j) (bs.take j)=some (zs,kj,lj)/\zs.length=j/\Wri wr ww (kj:Nat) (20000-(lj:Nat))/\kj<=k/\lj<=l/\zH (fun i=>Fx F w 4 i/\sv.ownBlock≠some i) wr (zn zs) us /\
  Rep (fun i=>Fx F w 4 i/\sv.ownBlock≠some i) wr (.sl 46 4 kU.length (zn kU)) ks) \/
  (Z/\∃ s,Wri wr ww (-1) s/\0<=s/\s<=D+(j:Int))
theorem NInv.next {F:Nat->Prop} {ww:Nat} {D:Int} {k l n o vv nk:Nat} {env:List Mn} {f:Nat->Nat->Bd->List Mn->Nat->List Gf->Option (Bd×Nat×Nat)} {k0 l0:Nat} {ts:List Ty} {bs:List Bd} {A Z:Prop} {fld:Bool} {ks:Value} {kU:List Bd}
 {a1 a2 ta:Option Addr} {c1 c2 nt tc:Nat} {i0:Int} {w:World} {Q j:Nat} {sv:Value} {us:List Value} {wr:World}
 (h:NInv F ww D k l n o vv nk env f k0 l0 ts bs A Z fld ks kU a1 a2 ta c1 c2 nt tc i0 w Q j sv us wr) (hQ:Q=w.heap.size+3) (hww:ww<w.heap.size) (hF:∀ i,F i->i≠ww)
 {w6 w7:World} {O:Obj} {oo:Option (Bd×Nat×Nat)} {cs:List Value} {a':Option Addr} {c':Nat}
 (bP:But (· = ww) wr.drew w6)
 (eS:oo=none->∃ st,Wri w6 ww (-1) st/\0<=st/\st<=D+((j+1:Nat):Int))
 (dx:∀ x,oo=some x->Wri w6 ww (x.2.1:Nat) (20000-(x.2.2:Nat))/\zH (fun i=>(F i/\i<w.heap.size)\/wr.drew.heap.size<=i) w6 (kE x.1) cs)
 (tG:oo=none->Z)
 (tP:∀ x,oo=some x->∃ zs,A/\zg f env n k0 l0 (ts.take (j+1)) (bs.take (j+1))=some (zs++[x.1],x.2.1,x.2.2)/\zs.length=j/\x.2.1<=k/\x.2.2<=l/\zH (fun i=>Fx F w 4 i/\sv.ownBlock≠some i) wr (zn zs) us /\
  Rep (fun i=>Fx F w 4 i/\sv.ownBlock≠some i) wr (.sl 46 4 kU.length (zn kU)) ks)
 (bI:Own w7 46 4 (.slice a' (j+1) c') (j+1) (us++cs)) (bV:But (fun b=>sv.ownBlock=some b) (w6.alloc O) w7)
 (bH:∀ g,(Value.slice a' (j+1) c').ownBlock=some g->sv.ownBlock=some g\/g=(w6.alloc O).heap.size) :
 NInv F ww D k l n o vv nk env f k0 l0 ts bs A Z fld ks kU a1 a2 ta c1 c2 nt tc i0 w Q (j+1) (.slice a' (j+1) c') (us++cs) (w7.setCell ⟨Q,fpos fld,none⟩ (.slice a' (j+1) c')):=by
 have z6:wr.heap.size<=w6.heap.size:=bP.size
 have z7:=bV.size
 rw [zK] at z7
 have zr:=h.zw
 have svlt:∀ g,sv.ownBlock=some g->g<wr.heap.size:=fun g hg=>h.own.lt hg
 obtain ⟨w8,aq⟩:=zzN (w7.setCell ⟨Q,fpos fld,none⟩ (.slice a' (j+1) c'))
 have cM:∀ i x,w6.heap[i]? = some x->sv.ownBlock≠some i->i≠Q->w8.heap[i]? = some x:=by
  intro i x hx h2 h3
  have hl:=zZ hx
  rw [<- aq,hH _ _ _ _ (by simpa using h3),bV.block i (by rw [zK];omega) h2,Below.heap_alloc _ _ _ hl];exact hx
 have keep:∀ i x,wr.heap[i]? = some x->i≠ww->sv.ownBlock≠some i->i≠Q->w8.heap[i]? = some x:=by
  intro i x hx h1 h2 h3
  exact cM i x (by rw [bP.block i (zZ hx) h1];exact hx) h2 h3
 have nsv:∀ i,i<Q+1->sv.ownBlock≠some i:=fun i hi e=>by have:=h.fr i e;omega
 have fr':∀ g,(Value.slice a' (j+1) c').ownBlock=some g->Q+1<=g:=fun g hg=>by
  rcases bH g hg with e | e
  ·exact h.fr g e
  ·rw [zK] at e;omega
 have fxw:∀ i,Fx F w 4 i->i≠ww/\i≠Q:=fun i hi=>by
  rcases hi with hi | hi
  ·exact ⟨hF i hi.1,by have:=hi.2;omega⟩
  ·exact ⟨by omega,by omega⟩
 have bE:But (· = ww) w w8:=by
  have h1:But (· = ww) w w6:=h.but.trans ⟨bP.os,bP.tape,bP.output,bP.size,bP.block⟩
  have h2:But (· = ww) w w7:=(h1.alloc O).trans' bV (fun i hi e=>absurd (h.fr i e) (by omega))
  rw [<- aq]
  exact h2.setCell (p:=⟨Q,fpos fld,none⟩) (.inr (show w.heap.size<=Q by omega)) _
 have hsz:w8.heap.size=w7.heap.size:=by rw [<- aq];simp [World.setCell]
 have hbk:zm Q (o:Nat) (fk fld ks (.slice a' (j+1) c')) (fy fld (.slice a' (j+1) c')) w8:=by
  have h1:zm Q (o:Nat) (fk fld ks sv) (fy fld sv) w7:=by
   unfold zm
   rw [bV.block Q (by rw [zK];omega) (nsv Q (by omega)),Below.heap_alloc _ _ _ (by omega),bP.block Q (by show Q<wr.heap.size;omega) (by show Q≠ww;omega)];exact h.blk
  rw [<- aq]
  cases fld
  ·exact h1.put2
  ·exact h1.put3
 have bA:Own w8 46 4 (.slice a' (j+1) c') (j+1) (us++cs) :=
  bI.keep fun g o hg ho=>by rw [<- aq,hH _ _ _ _ (by have:=fr' g hg;simp;omega)];exact ho
 have Bh:(∃ zs kj lj,A/\zg f env n k0 l0 (ts.take (j+1)) (bs.take (j+1))=some (zs,kj,lj)/\zs.length=j+1/\Wri w8 ww (kj:Nat) (20000-(lj:Nat))/\kj<=k/\lj<=l/\zH (fun i=>Fx F w 4 i/\(Value.slice a' (j+1) c').ownBlock≠some i) w8 (zn zs) (us++cs) /\
  Rep (fun i=>Fx F w 4 i/\(Value.slice a' (j+1) c').ownBlock≠some i) w8 (.sl 46 4 kU.length (zn kU)) ks)\/(Z/\∃ s,Wri w8 ww (-1) s/\0<=s/\s<=D+((j+1:Nat):Int)):=by
  cases hoo:oo with
  | none =>
    obtain ⟨st,q1,q2,q3⟩:=eS hoo
    exact .inr ⟨tG hoo,st,cM ww _ q1 (nsv ww (by omega)) (by omega),q2,q3⟩
  | some x =>
    obtain ⟨q1,q2⟩:=dx x hoo
    obtain ⟨zs,hA,r1,r2,r3,r4,r5,r6⟩:=tP x hoo
    have kG:∀ (i:Nat) (y:Obj),(Fx F w 4 i/\sv.ownBlock≠some i)->wr.heap[i]? = some y->(Fx F w 4 i/\(Value.slice a' (j+1) c').ownBlock≠some i)/\w8.heap[i]? = some y:=fun i y hi hy =>
     ⟨⟨hi.1,fun e=>by
       rcases bH i e with e' | e'
       ·exact hi.2 e'
       ·rw [zK] at e';have:=zZ hy;omega⟩,keep i y hy (fxw i hi.1).1 hi.2 (fxw i hi.1).2⟩
    refine .inl ⟨zs++[x.1],x.2.1,x.2.2,hA,r1,by simp [r2],cM ww _ q1 (nsv ww (by omega)) (by omega),r3,r4,?_,(Rep.keep kG).1 _ _ r6⟩
    rw [qw]
    refine zH.append ((Rep.keep kG).2 _ _ r5) ?_
    have e1:zn [x.1]=kE x.1:=by simp [zn]
    rw [e1]
    refine (Rep.keep fun i y hi hy=>?_).2 _ _ q2
    have hl:=zZ hy
    rcases hi with hi | hi
    ·have h2:=hi.2
     exact ⟨⟨.inl hi,fun e=>by have:=fr' i e;omega⟩,cM i y hy (nsv i (by omega)) (by omega)⟩
    ·have h2:wr.heap.size<=i:=hi
     refine ⟨⟨.inr (by omega),fun e=>?_⟩,cM i y hy (fun e=>by have:=svlt i e;omega) (by omega)⟩
     rcases bH i e with e' | e'
     ·have:=svlt i e';omega
     ·rw [zK] at e';omega
 rw [aq]
 exact { but:=bE,zw:=by omega,box:=keep _ _ h.box (by omega) (nsv _ (by omega)) (by omega),res:=keep _ _ h.res (by omega) (nsv _ (by omega)) (by omega),bnd:=keep _ _ h.bnd (by omega) (nsv _ (by omega)) (by omega),blk:=hbk,own:=bA,fr:=fr',mode:=Bh }
theorem node_ne {w:World} {ww:Nat} {k s:Int} {kb off:Nat} {s':Bs} (hw:Wri w ww k s) (g:w.cell? ⟨kb,off,none⟩=some (str s')):kb≠ww:=by
 intro e
 subst e
 unfold Wri at hw
 simp only [World.cell?,hw] at g
 rcases Nat.lt_or_ge off 2 with h | h
 ·have h2:off=0\/off=1:=by omega
  rcases h2 with h2 | h2 <;> rw [h2] at g <;> simp [str] at g
 ·rw [Array.getElem?_eq_none (by simpa using h)] at g;simp at g
theorem keptN_of {d k l n o k1 l1 kj lj:Nat} {t:Ty} {ss:List Bd} {y no:Bd} {env:List Mn} {st:List Gf} {kU zs:List Bd} (h0:zg (evN d) env n k l t.args ss=some (kU,k1,l1))
 (h1:zg (fun k l b _ _ _=>evN d k l b env n st) env n k1 l1 [t,t] [y,no]=some (zs,kj,lj)):∃ z1 z2,zs=[z1,z2]/\vp d k l n o t ss y no env st=some (.ask o kU z1 z2,kj,lj):=by
 unfold vp
 rw [h0]
 simp only [zg,Option.bind_eq_bind,Option.bind_some] at h1 ⊢
 cases h2:evN d k1 l1 y env n st with
 | none=>rw [h2] at h1;simp at h1
 | some x =>
   rw [h2] at h1
   simp only [Option.bind_some] at h1 ⊢
   cases h3:evN d x.2.1 x.2.2 no env n st with
   | none=>rw [h3] at h1;simp at h1
   | some u =>
     rw [h3] at h1
     simp only [Option.bind_some,Option.some.injEq,Prod.mk.injEq] at h1 ⊢
     obtain ⟨rfl,rfl,rfl⟩:=h1
     exact ⟨x.1,u.1,rfl,rfl,rfl,rfl⟩
theorem keptN_none {d k l n o k1 l1:Nat} {t:Ty} {ss:List Bd} {y no:Bd} {env:List Mn} {st:List Gf} {kU:List Bd} (h0:zg (evN d) env n k l t.args ss=some (kU,k1,l1))
 (h1:zg (fun k l b _ _ _=>evN d k l b env n st) env n k1 l1 [t,t] [y,no]=none):vp d k l n o t ss y no env st=none:=by
 unfold vp
 rw [h0]
 simp only [zg,Option.bind_eq_bind,Option.bind_some] at h1 ⊢
 cases h2:evN d k1 l1 y env n st with
 | none=>rfl
 | some x =>
   rw [h2] at h1
   simp only [Option.bind_some] at h1 ⊢
   cases h3:evN d x.2.1 x.2.2 no env n st with
   | none=>rfl
   | some u=>rw [h3] at h1;simp at h1
set_option maxRecDepth 100000 in
theorem keepN_any (d:Nat) (ih:uF d) (F:Nat->Prop) (ww k l n vv o:Nat) (H:List Ty) (t:Ty) (ss:List Bd) (y no:Bd) (env:List Mn) (st:List WFr) (v0:Int) (a1 a2:Option Addr) (c1 c2:Nat) (ev sv:Value) (w:World) (h:KeepPre F ww d k l n vv o H t ss y no env st v0 a1 a2 c1 c2 ev sv w) :
 Calls Tryz.prog 63 #[.pointer (some ⟨ww,0,none⟩),.agg #[str [],.int .i64 (vv:Nat),.slice a1 ss.length c1,.slice a2 2 c2],ev,sv,.int .i64 (n:Nat)] w
  (qe F ww (20001+20*(d+1)) (vp d k l n o t ss y no env (st.map WFr.gf)) w):=by
 have HP:=gl h
 have IH:=gl ih
 obtain ⟨eb,eo,ecap,ta,tc,i0,e,lA,hew,m0,m1,m2,m3,m4,m5,m6,m7,m8,tR⟩:=bound_op h.re h.hv
 subst e
 have hww:=h.wri.cell.2.2.2
 have hebw:=h.hF _ lA
 obtain ⟨W,hW⟩:=zzN ((w.alloc (.cells #[str [],.int .i64 (vv:Nat),.slice a1 ss.length c1,.slice a2 2 c2] 46)).alloc (.cells #[str [],.int .i64 0,.slice none 0 0,.slice none 0 0] 46))
 have bE:Below w.heap.size w W:=by rw [<- hW];exact ((hG _ _).alloc (g_ _) _).alloc (by rw [zK];omega) _
 have dL:w.heap.size+2=W.heap.size:=by rw [<- hW];simp only [zK]
 have sO:=h.wri.below bE
 obtain ⟨k0,k1,kf,klt⟩:=sO.cell
 have kf0:=kf 0
 have k0':W.cell? ⟨ww,0,none⟩=some (.int .i64 ((k:Int)+1)):=k0
 obtain ⟨W2,cC⟩:=zzN (W.setCell ⟨ww,0,none⟩ (.int .i64 (k:Nat)))
 have dr:Wri W2 ww (k:Nat) (20000-(l:Nat)):=by unfold Wri at *;rw [<- cC,zI sO];rfl
 have bZ:But (· = ww) w W2:=by rw [<- cC];exact (But.ofBelow (m:=(· = ww)) bE).setCell (p:=⟨ww,0,none⟩) (.inl rfl) _
 have b0:W.heap[w.heap.size]? = some (.cells #[str [],.int .i64 (vv:Nat),.slice a1 ss.length c1,.slice a2 2 c2] 46 (0,0)):=by rw [<- hW];exact zV (zR _ _)
 have Ct:W2.heap[w.heap.size]? = some (.cells #[str [],.int .i64 (vv:Nat),.slice a1 ss.length c1,.slice a2 2 c2] 46 (0,0)):=by
  rw [<- cC,hH _ _ _ _ (by show w.heap.size≠ww;omega)];exact b0
 obtain ⟨x0,x1,x2,x3⟩:=qO Ct
 have kX:∀ {j:Nat} {x:Value},w.cell? ⟨eb,j,none⟩=some x->W2.cell? ⟨eb,j,none⟩=some x:=fun hc=>(bZ.cell (hU w _ hc) hebw).trans hc
 have j0:=kX m0;have j1:=kX m1;have j2:=kX m2;have j3:=kX m3;have j4:=kX m4;have j5:=kX m5;have j6:=kX m6;have j7:=kX m7;have j8:=kX m8
 have nQ:=(List.getElem?_eq_some_iff.1 h.hv).1
 have er:(0:Int)<=(vv:Int):=by omega
 have co:(vv:Int)<(env.length:Int):=by omega
 have Bt:=h.k200
 have cG:W2.heap.size=w.heap.size+2:=by rw [<- cC,dL];simp [World.setCell]
 have eK:zm (w.heap.size+1) 0 (.slice none 0 0) (.slice none 0 0) W2:=by
  have:=zR (w.alloc (.cells #[str [],.int .i64 (vv:Nat),.slice a1 ss.length c1,.slice a2 2 c2] 46)) (.cells #[str [],.int .i64 0,.slice none 0 0,.slice none 0 0] 46)
  rw [zK,hW] at this
  unfold zm
  rw [<- cC,hH _ _ _ _ (by show w.heap.size+1≠ww;omega)];exact this
 have HZ:=gl (go cG eK);clear cG eK
 have HW:=gl (go hW (go cC (go bZ (go dr (go Ct tR)))))
 clear hW cC bE sO dr bZ b0 Ct tR kX m0 m1 m2 m3 m4 m5 m6 m7 m8 k0 kf h ih dL
 go_enter Tryz.func63,Tryz.ntmps63
 go_upto_region 1 with (fail)
 rw [HW.out.1]
 go_upto_region 2 with (fail)
 rw [HW.out.2.1]
 go_wp2_with fail
 go_loopw [13] (fun i wr=>∃ (j:Nat) (sv:Value) (us:List Value),j<=ss.length/\i=.int .i64 j/\NInv F ww (20001+20*(d:Int)) k l n o vv ss.length env (evN d) k l t.args ss True (zg (evN d) env n k l t.args ss=none) false (.slice none 0 0) [] a1 a2 ta c1 c2 t.args.length tc i0 w (W2.heap.size+1) j sv us wr) (fun i _=>ss.length-(intOf i).toNat)
 case atStart =>
  obtain ⟨cG,eK⟩:=HZ.out
  obtain ⟨hW,cC,bZ,dr,Ct,tR⟩:=HW.out
  refine ⟨0,.slice none 0 0,[],Nat.zero_le _,rfl,?_⟩
  refine { but:=(bZ.alloc _).alloc _,zw:=by simp only [zK];omega,box:=zV (zV Ct),res:=zV (zV eK),bnd:=?_,blk:=?_,own:=World.ownsRow_nil _ _ _ _,fr:=fun g hg=>by simp [Value.ownBlock] at hg,mode:=.inl ⟨[],k,l,trivial,by simp [zg],rfl,zV (zV dr),g_ _,g_ _,by simp [zn,zB],zp.2 ⟨by simp [zn],none,0,rfl,g_ _,fun _=>rfl,.inl rfl⟩⟩ }
  ·rw [<- cG];exact zV (zR _ _)
  ·have:=zR (W2.alloc (.cells #[.int .i64 (o:Nat),str [],.int .i64 0,.slice none 0 0,.slice none 0 0,.slice ta t.args.length tc,.slice none 0 0,.int .i64 0,.int .i64 i0] 94)) (.cells #[str [],.int .i64 (o:Nat),.slice none 0 0,.slice none 0 0] 46)
   rw [zK] at this
   exact this
 case round =>
  rename_i wr
  obtain ⟨j,sv,us,hj,rfl,bw⟩:=hrel
  obtain ⟨sa,sc,e⟩:=bw.own.slice
  subst e
  obtain ⟨y0,y1,y2,y3⟩:=qO bw.box
  obtain ⟨q0,q1,q2,q3,qlt,qf⟩:=bw.blk.cells
  have z5:wr.cell? ⟨W2.heap.size,5,none⟩=some (.slice ta t.args.length tc):=by
   rw [HZ.out.1];simp [World.cell?,bw.bnd]
  have HI:=gl bw;clear bw
  by_cases bY:j<ss.length
  ·have cz:(j:Int)<(ss.length:Int):=by omega
   have ei:Rep F w (.sl 46 4 ss.length (zn ss)) (.slice a1 ss.length c1):=by
    have dp:=HP.out.rb
    simp only [kE,zQ,zB] at dp
    obtain ⟨_,_,e0,_,_,_,rfl,_,_,_,rfl,h2,_⟩:=dp
    simp only [List.cons.injEq] at e0
    obtain ⟨_,_,e2,_⟩:=e0
    rw [e2];exact h2
   obtain ⟨ka',kc',e,eO⟩:=pF.of ei
   simp only [Value.slice.injEq] at e
   obtain ⟨rfl,_,rfl⟩:=e
   obtain ⟨kb,ko,s',v',mV,fV,mJ,nw,mE,nj,sd,e,cb,mA,g0,g1,g2,g3,d_⟩:=eO j bY
   subst e
   have ne:=HP.out.fit.keep HP.out.hv
   have hne:kb≠ww:=node_ne HP.out.wri g0
   have ie:=HW.out.2.2.2.2.2
   rw [k8] at ie
   obtain ⟨ta',tc',e,_,_,eN⟩:=zE ie
   simp only [Value.slice.injEq] at e
   obtain ⟨rfl,_,rfl⟩:=e
   have hjt:j<t.args.length:=by omega
   obtain ⟨tb,tO,tu,td,e,htF,htw,htd,g4,ib⟩:=eN j hjt
   subst e
   rw [qo,Option.map_eq_some_iff] at htd
   obtain ⟨tj,ii,rfl⟩:=htd
   obtain ⟨ua,uc,rfl⟩:=zu ib
   have p0:=(HI.out.but.cell (p:=⟨kb,ko+j*4,none⟩) cb hne).trans g0
   have p1:=(HI.out.but.cell (p:=⟨kb,ko+j*4+1,none⟩) cb hne).trans g1
   have p2:=(HI.out.but.cell (p:=⟨kb,ko+j*4+2,none⟩) cb hne).trans g2
   have p3:=(HI.out.but.cell (p:=⟨kb,ko+j*4+3,none⟩) cb hne).trans g3
   have p4:=(HI.out.but.cell (p:=⟨tb,tO+j,none⟩) htw (HP.out.hF _ htF)).trans g4
   have fG:=yj _ HP.out.ok vv _ HP.out.hv
   rw [okM] at fG
   have ap:=(zj fG.1).1 tj (List.mem_of_getElem? ii)
   have aV:But (· = ww) w wr.drew:=HI.out.but.drew
   have ct:∀ b,(F b/\b<w.heap.size)->¬ (b=ww)/\(F b/\b<w.heap.size):=fun b hb=>⟨HP.out.hF b hb.1,hb⟩
   have rG:zH (fun i=>F i/\i<w.heap.size) wr.drew (kE sd) [str s',.int .i64 v',.slice mV fV mJ,.slice nw mE nj]:=(zH.low d_).but aV ct
   have ia:=(Rep.low ib).but aV ct
   have nR:=(Rep.low HP.out.re).but aV ct
   have ez:=HP.out.el;have fb:=HP.out.nl;have mu:=HP.out.ld;have lI:=HP.out.d20;have tQ:=HP.out.k200
   have b7:=xz (f:=evN d) (env:=env) (n:=n) (k:=k) (l:=l) ii mA
   obtain ⟨oo,Cg,tG,tP⟩:∃ oo,Calls Tryz.prog 92 #[.pointer (some ⟨ww,0,none⟩),.agg #[str s',.int .i64 v',.slice mV fV mJ,.slice nw mE nj],.agg #[.slice ua tj.args.length uc],.slice (some ⟨eb,eo,none⟩) env.length ecap,.int .i64 (n:Nat)] wr.drew (qe (fun i=>F i/\i<w.heap.size) ww (20001+20*(d:Int)+((j+1:Nat):Int)) oo wr.drew) /\
    (oo=none->zg (evN d) env n k l t.args ss=none) /\
    (∀ y,oo=some y->∃ kU,True/\zg (evN d) env n k l (t.args.take (j+1)) (ss.take (j+1))=some (kU++[y.1],y.2.1,y.2.2)/\kU.length=j/\y.2.1<=k/\y.2.2<=l/\zH (fun i=>Fx F w 4 i/\(Value.slice sa j sc).ownBlock≠some i) wr (zn kU) us /\
     Rep (fun i=>Fx F w 4 i/\(Value.slice sa j sc).ownBlock≠some i) wr (.sl 46 4 ([]:List Bd).length (zn [])) (.slice none 0 0)):=by
    rcases HI.out.mode with ⟨kU,kj,lj,_,hev,eJ,dP,tm,lG,cd,c_⟩ | ⟨hev,s,dP,dG,cN⟩
    ·refine ⟨evN d kj lj sd (env++zq n tj.args) (n+tj.args.length) [],(open_live d IH.out _ ww kj lj n H tj sd env s' v' mV nw fV mJ mE nj _ _ wr.drew dP (fun i hi=>HP.out.hF i hi.1) (by omega) lI (by omega) (ne.2.2.1 j tj sd ii mA) HP.out.hn ez fb ap HP.out.ok ia rG nR ⟨wfBs_at _ HP.out.wf.1.1 j sd mA,HP.out.wf.2.1⟩).mono ?_,fun h=>?_,fun y h=>?_⟩
     ·rintro en w' ⟨q1,q2,q3,q4,q5,q6,q7,q8,q9,oW,oX,oY⟩
      exact ⟨q1,q2,q3,q4,q5,q6,q7,q8,q9,oW,fun h=>by obtain ⟨st,u1,u2,u3⟩:=oX h;exact ⟨st,u1,u2,by omega⟩,oY⟩
     ·refine up (j+1) _ _ _ _ ?_
      rw [b7,hev];simp only [Option.bind_some];rw [h];rfl
     ·have cI:=evN_left _ _ _ _ _ _ _ _ _ _ h
      exact ⟨kU,trivial,by rw [b7,hev];simp only [Option.bind_some];rw [h];rfl,eJ,h_ cI.1 tm,h_ cI.2 lG,cd,c_⟩
    ·have hj15:=(zj fG.1).2
     refine ⟨none,(open_dead _ ww n s tj env s' v' mV nw fV mJ mE nj _ _ wr.drew dP dG (by omega) (by omega) (by omega) ap ia nR).mono ?_,fun _=>hev,fun y h=>by simp at h⟩
     rintro en w' ⟨q1,q2,q3,q4,q5,q6,q7,q8,q9,oW,oX,oY⟩
     exact ⟨q1,q2,q3,q4,q5,q6,q7,q8,q9,oW,fun h=>by obtain ⟨st,u1,u2,u3⟩:=oX h;exact ⟨st,u1,u2,by omega⟩,oY⟩
   have CC:=gl Cg
   have fj:=gl (go tG tP)
   have oR:j+1<=maxLen:=by unfold maxLen;have:=(zj fG.1).2;omega
   have eT:(j+1)*72<=140737488355328:=by have:=(zj fG.1).2;omega
   have o9:0<4:=by omega
   have i_:¬ (W2.heap.size+1=ww):=by rw [HZ.out.1];omega
   have NB:=gl (show ¬ (Value.slice sa j sc).ownBlock=some (W2.heap.size+1) from fun e=>by have:=HI.out.fr _ e;omega)
   have OWN:=gl (fun (w6:World) (h6:But (· = ww) wr.drew w6)=>(HI.out.own.keep (w':=w6) fun g o hg hh=>by
    have:=HI.out.fr g hg
    rw [h6.block g (zZ hh) (fun e=>by have e:g=ww:=e;rw [HZ.out.1] at this;omega)];exact hh))
   have cG:=HZ.out.1
   have Au:=HP.out.hF _ htF
   have SX:Hid (∀ w',But (fun i=>i=ww\/(Value.slice sa j sc).ownBlock=some i) wr w'->w'.cell? ⟨W2.heap.size+1,2,none⟩=some (.slice sa j sc)/\w'.cell? ⟨w.heap.size,2,none⟩=some (.slice (some ⟨kb,ko,none⟩) ss.length c1) /\
    w'.cell? ⟨kb,ko+j*4,none⟩=some (str s')/\w'.cell? ⟨kb,ko+j*4+1,none⟩=some (.int .i64 v')/\w'.cell? ⟨kb,ko+j*4+2,none⟩=some (.slice mV fV mJ)/\w'.cell? ⟨kb,ko+j*4+3,none⟩=some (.slice nw mE nj) /\
    w'.cell? ⟨W2.heap.size,5,none⟩=some (.slice (some ⟨tb,tO,none⟩) t.args.length tc)/\w'.cell? ⟨tb,tO+j,none⟩=some (.slice ua tj.args.length uc)):=by
    show ∀ w',_->_
    intro w' bj
    have key:∀ {p:Addr} {u:Value},p.block<W2.heap.size+2->p.block≠ww->wr.cell? p=some u->w'.cell? p=some u:=fun hp hne hu =>
     (bj.cell (hU wr _ hu) (fun e=>e.elim hne (fun e=>by have:=HI.out.fr _ e;omega))).trans hu
    exact ⟨key (by show W2.heap.size+1<_;omega) i_ q2,key (by show w.heap.size<_;omega) (by show w.heap.size≠ww;omega) y2,key (by show kb<_;omega) hne p0,key (by show kb<_;omega) hne p1,key (by show kb<_;omega) hne p2,key (by show kb<_;omega) hne p3,
     key (by show W2.heap.size<_;omega) (by show W2.heap.size≠ww;omega) z5,key (by show tb<_;omega) Au p4⟩
   have nH:=qf 2
   clear ne hne ie fG ct rG ia nR b7 tG tP Cg ei eO eN g0 g1 g2 g3 g4 d_ ib mA ii qf aV cG Au y0 y1 y3 q0 q1 q3 p0 p1 p2 p3 p4 z5
   go_wp2_with fail
   refine wp_region_noPanic ?_
   refine kx (fun w'=>But (fun i=>i=ww\/(Value.slice sa j sc).ownBlock=some i) wr w') (fun i=>i == 20) (by kernel_rfl) ?_
   have bL:But (fun i=>i=ww\/(Value.slice sa j sc).ownBlock=some i) wr wr.drew:=(But.refl _ wr).drew
   refine tk [0,1,2,3,4,5,6,7,8,9,10,11,12,13,14,15] bL ?_
   (intro d hd;simp [tkD] at hd;subst hd;simp only [tks,pQ,pZ,pS])
   iterate 16 (refine ⟨?_,?_,?_⟩;rotate_left;· (intro oi ho;simp at ho;subst ho;refine Or.inl ⟨by rfl,fun w' cL=>?_⟩;obtain ⟨e0,e1,e2,e3,e4,e5,e6,e7⟩:=SX.out w' cL;go_simp;try with_reducible rfl))
   refine qV 16 (by kernel_rfl) ?_
   intro o16 ho K' hK
   (simp at ho;subst ho)
   go_simp
   go_at_call 92
   (with_reducible refine CC.out.mono ?_)
   rintro o_ w6 ⟨s6,v6,b1,m1,d1,b2,m2,d2,rfl,bP,eS,dx⟩
   have np:Hid (But (fun i=>i=ww\/(Value.slice sa j sc).ownBlock=some i) wr w6):=bL.trans (bP.weak fun i _ h=>.inl h)
   have iw:=jH bP i_ q2
   have tC:=hM qlt bP.size
   have mD:=uD bP i_ qlt nH
   have fq:=(OWN.out _ bP).alloc (.cells #[str s6,.int .i64 v6,.slice b1 m1 d1,.slice b2 m2 d2] 46)
   have H6:=gl (go bP (go eS dx));clear bP eS dx
   (refine hK.out _ _ (fun _=>np.out) ?_;clear hK K';try simp only [pQ,pN,pZ,pS])
   refine qV 17 (by kernel_rfl) ?_
   intro o17 ho K' hK
   (simp at ho;subst ho)
   go_simp
   (refine hK.out _ _ (fun _=>np.out.alloc _) ?_;clear hK K';try simp only [pQ,pN,pZ,pS])
   refine qV 18 (by kernel_rfl) ?_
   intro o18 ho K' hK
   (simp at ho;subst ho)
   refine zT (by rfl) _ _ _ (by rfl) 46 (.agg #[str [],.int .i64 0,.slice none 0 0,.slice none 0 0]) 4 72 Tryz.underlying44 Tryz.infoN rfl o9 (.slice sa j sc) j us (by rfl) fq _ 1 [str s6,.int .i64 v6,.slice b1 m1 d1,.slice b2 m2 d2] (by rfl) (zS.lit4 #[str s6,.int .i64 v6,.slice b1 m1 d1,.slice b2 m2 d2] rfl (by simp [str,Value.oneCell']) _ rfl) oR eT ?_
   intro a' c' w7 bI bV bH
   (refine hK.out _ _ (fun _=>(np.out.alloc _).trans (bV.weak fun i _ h=>.inr h)) ?_;clear hK K';try simp only [pQ,pN,pZ,pS])
   have hc7:=xM bV NB.out iw
   have cu:=xF bV NB.out tC mD
   refine qV 19 (by kernel_rfl) ?_
   intro o19 ho K' hK
   (simp at ho;subst ho)
   go_simp
   (refine hK.out _ _ (fun _=>(np.out.alloc _).trans (bV.weak fun i _ h=>.inr h)) ?_;clear hK K';try simp only [pQ,pN,pZ,pS])
   refine qV 20 (by kernel_rfl) ?_
   intro o20 ho K' hK
   (simp at ho;subst ho)
   go_simp
   (refine hK.out _ _ (fun h=>by simp at h) ?_;clear hK K';try simp only [pQ,pN,pZ,pS])
   refine kQ (by kernel_rfl) (NoPanic.normal ?_) _
   have hX:=HI.out.next (by rw [HZ.out.1]) hww HP.out.hF H6.out.1 H6.out.2.1 H6.out.2.2 fj.out.1 fj.out.2 bI bV bH
   have HN:=gl hX
   clear hX bI bV bH bL iw mD fq
   go_wp2_with fail
   go_roundw
   case rel=>exact ⟨j+1,_,_,by omega,by go_num,HN.out⟩
   case measure=>simp [intOf];omega
  ·obtain rfl:j=ss.length:=by omega
   obtain ⟨kU,k1,l1,fd⟩:∃ kU k1 l1,NInv F ww (20001+20*(d:Int)+(ss.length:Int)) k l n o vv ss.length env (fun k l b _ _ _=>evN d k l b env n (st.map WFr.gf)) k1 l1 [t,t] [y,no] (zg (evN d) env n k l t.args ss=some (kU,k1,l1)) (vp d k l n o t ss y no env (st.map WFr.gf)=none) true (.slice sa ss.length sc) kU a1 a2 ta c1 c2 t.args.length tc i0 w (W2.heap.size+1) 0 (.slice none 0 0) [] wr:=by
    have rV:=(HP.out.fit.keep HP.out.hv).1
    have hI:=HI.out
    rcases hI.mode with ⟨kU,kj,lj,_,hev,eJ,dP,tm,lG,cd,_⟩ | ⟨hev,s,dP,dG,cN⟩
    ·rw [List.take_length,List.take_of_length_le (by omega)] at hev
     refine ⟨kU,kj,lj,{ but:=hI.but,zw:=hI.zw,box:=hI.box,res:=hI.res,bnd:=hI.bnd,blk:=hI.blk,own:=World.ownsRow_nil _ _ _ _,fr:=fun g hg=>by simp [Value.ownBlock] at hg,mode:=.inl ⟨[],kj,lj,hev,by simp [zg],rfl,dP,tm,lG,by simp [zn,zB],?_⟩ }⟩
     rw [eJ]
     refine hI.own.rep (fun g hg=>⟨.inr (by have h1:=hI.fr g hg;have h2:=HZ.out.1;omega),by simp [Value.ownBlock]⟩) ?_
     exact (Rep.keep fun b o hf ho=>⟨⟨hf.1,by simp [Value.ownBlock]⟩,ho⟩).2 _ _ cd
    ·exact ⟨[],0,0,{ but:=hI.but,zw:=hI.zw,box:=hI.box,res:=hI.res,bnd:=hI.bnd,blk:=hI.blk,own:=World.ownsRow_nil _ _ _ _,fr:=fun g hg=>by simp [Value.ownBlock] at hg,mode:=.inr ⟨by unfold vp;rw [hev];rfl,s,dP,dG,by omega⟩ }⟩
   obtain ⟨ka,kc,hk⟩:∃ a c,Value.slice sa ss.length sc=.slice a ss.length c:=⟨_,_,rfl⟩
   rw [hk] at fd
   have HST:=gl fd;clear fd hk
   have Ay:ss.length<=15:=by
    have fG:=yj _ HP.out.ok vv _ HP.out.hv
    rw [okM] at fG
    have h1:=(zj fG.1).2
    have h2:=(HP.out.fit.keep HP.out.hv).1
    omega
   clear HI y0 y1 y3 q0 q1 q2 q3 qf z5 bY hj
   go_wp2_with fail
   clear y2
   go_loopw [14] (fun i wr=>∃ (j:Nat) (sv:Value) (us:List Value),j<=2/\i=.int .i64 j/\NInv F ww (20001+20*(d:Int)+(ss.length:Int)) k l n o vv ss.length env (fun k l b _ _ _=>evN d k l b env n (st.map WFr.gf)) k1 l1 [t,t] [y,no] (zg (evN d) env n k l t.args ss=some (kU,k1,l1)) (vp d k l n o t ss y no env (st.map WFr.gf)=none) true (.slice ka ss.length kc) kU a1 a2 ta c1 c2 t.args.length tc i0 w (W2.heap.size+1) j sv us wr) (fun i _=>2-(intOf i).toNat)
   case atStart=>exact ⟨0,_,_,by omega,rfl,HST.out⟩
   case round =>
    rename_i wr
    obtain ⟨j,sv1,us,hj,rfl,bw⟩:=hrel
    obtain ⟨sa,sc,e⟩:=bw.own.slice
    subst e
    obtain ⟨y0,y1,y2,y3⟩:=qO bw.box
    obtain ⟨q0,q1,q2,q3,qlt,qf⟩:=bw.blk.cells
    have HI:=gl bw;clear bw
    by_cases bY:j<2
    ·have cz:(j:Int)<2:=by omega
     have Al:Rep F w (.sl 46 4 [y,no].length (zn [y,no])) (.slice a2 2 c2):=by
      have dp:=HP.out.rb
      rw [j9] at dp
      simp only [zQ,zB] at dp
      obtain ⟨_,_,e0,_,_,_,rfl,_,_,_,rfl,_,_,_,rfl,h3,_⟩:=dp
      simp only [List.cons.injEq] at e0
      obtain ⟨_,_,_,e2,_⟩:=e0
      rw [e2];exact h3
     obtain ⟨ya,yc,e,Am⟩:=pF.of Al
     simp only [Value.slice.injEq] at e
     obtain ⟨rfl,_,rfl⟩:=e
     obtain ⟨kb,ko,s',v',mV,fV,mJ,nw,mE,nj,sd,e,cb,mA,g0,g1,g2,g3,d_⟩:=Am j bY
     subst e
     have ne:=HP.out.fit.keep HP.out.hv
     have hne:kb≠ww:=node_ne HP.out.wri g0
     have p0:=(HI.out.but.cell (p:=⟨kb,ko+j*4,none⟩) cb hne).trans g0
     have p1:=(HI.out.but.cell (p:=⟨kb,ko+j*4+1,none⟩) cb hne).trans g1
     have p2:=(HI.out.but.cell (p:=⟨kb,ko+j*4+2,none⟩) cb hne).trans g2
     have p3:=(HI.out.but.cell (p:=⟨kb,ko+j*4+3,none⟩) cb hne).trans g3
     have aV:But (· = ww) w wr.drew:=HI.out.but.drew
     have ct:∀ b,(F b/\b<w.heap.size)->¬ (b=ww)/\(F b/\b<w.heap.size):=fun b hb=>⟨HP.out.hF b hb.1,hb⟩
     have rG:zH (fun i=>F i/\i<w.heap.size) wr.drew (kE sd) [str s',.int .i64 v',.slice mV fV mJ,.slice nw mE nj]:=(zH.low d_).but aV ct
     have nR:=(Rep.low HP.out.re).but aV ct
     have AD:=(Rep.low HP.out.rs).but aV ct
     have ez:=HP.out.el;have fb:=HP.out.nl;have mu:=HP.out.ld;have lI:=HP.out.d20;have tQ:=HP.out.k200;have tA:=HP.out.stl
     have hfj:kn H sd env (st.map WFr.gf):=by
      rcases (by omega:j=0\/j=1) with rfl | rfl
      ·simp at mA;subst mA;exact ne.2.2.2.1
      ·simp at mA;subst mA;exact ne.2.2.2.2
     have hwj:wfB sd:=by
      rcases (by omega:j=0\/j=1) with rfl | rfl
      ·simp at mA;subst mA;exact HP.out.wf.1.2.1
      ·simp at mA;subst mA;exact HP.out.wf.1.2.2
     have ii:[t,t][j]? = some t:=by
      rcases (by omega:j=0\/j=1) with rfl | rfl <;> rfl
     have b7:=xz (f:=fun k l b _ _ _=>evN d k l b env n (st.map WFr.gf)) (env:=env) (n:=n) (k:=k1) (l:=l1) ii mA
     obtain ⟨oo,Cg,tG,tP⟩:∃ oo,Calls Tryz.prog 43 #[.pointer (some ⟨ww,0,none⟩),.agg #[str s',.int .i64 v',.slice mV fV mJ,.slice nw mE nj],.slice (some ⟨eb,eo,none⟩) env.length ecap,sv,.int .i64 (n:Nat)] wr.drew (qe (fun i=>F i/\i<w.heap.size) ww (20001+20*(d:Int)+(ss.length:Int)+((j+1:Nat):Int)) oo wr.drew) /\
      (oo=none->vp d k l n o t ss y no env (st.map WFr.gf)=none) /\
      (∀ x,oo=some x->∃ zs,zg (evN d) env n k l t.args ss=some (kU,k1,l1)/\zg (fun k l b _ _ _=>evN d k l b env n (st.map WFr.gf)) env n k1 l1 ([t,t].take (j+1)) ([y,no].take (j+1))=some (zs++[x.1],x.2.1,x.2.2)/\zs.length=j/\x.2.1<=k/\x.2.2<=l/\zH (fun i=>Fx F w 4 i/\(Value.slice sa j sc).ownBlock≠some i) wr (zn zs) us /\
       Rep (fun i=>Fx F w 4 i/\(Value.slice sa j sc).ownBlock≠some i) wr (.sl 46 4 kU.length (zn kU)) (.slice ka ss.length kc)):=by
      rcases HI.out.mode with ⟨zs,kj,lj,hA,hev,eJ,dP,tm,lG,cd,c_⟩ | ⟨hev,s,dP,dG,cN⟩
      ·refine ⟨evN d kj lj sd env n (st.map WFr.gf),(IH.out _ ww kj lj n H sd env st s' v' mV nw fV mJ mE nj _ _ wr.drew { wri:=dP,hF:=fun i hi=>HP.out.hF i hi.1,ld:=by omega,d20:=lI,k200:=by omega,fit:=hfj,hn:=HP.out.hn,el:=by omega,nl:=by omega,stl:=by omega,ok:=ze (by omega) _ HP.out.ok,okg:=qt (by omega) _ HP.out.okg,wf:=⟨hwj,HP.out.wf.2⟩,rb:=rG,re:=nR,rs:=AD }).mono ?_,fun h=>?_,fun x h=>?_⟩
       ·rintro en w' ⟨q1,q2,q3,q4,q5,q6,q7,q8,q9,oW,oX,oY⟩
        exact ⟨q1,q2,q3,q4,q5,q6,q7,q8,q9,oW,fun h=>by obtain ⟨st,u1,u2,u3⟩:=oX h;exact ⟨st,u1,u2,by omega⟩,oY⟩
       ·have de:zg (fun k l b _ _ _=>evN d k l b env n (st.map WFr.gf)) env n k1 l1 [t,t] [y,no]=none:=by
         refine up (j+1) _ _ _ _ ?_
         rw [b7,hev];simp only [Option.bind_some];rw [h];rfl
        exact keptN_none hA de
       ·have cI:=evN_left _ _ _ _ _ _ _ _ _ _ h
        exact ⟨zs,hA,by rw [b7,hev];simp only [Option.bind_some];rw [h];rfl,eJ,h_ cI.1 tm,h_ cI.2 lG,cd,c_⟩
      ·refine ⟨none,(pL ww s _ s' v' mV nw fV mJ mE nj rfl _ _ n wr.drew dP dG (by omega)).mono ?_,fun _=>hev,fun y h=>by simp at h⟩
       rintro en w' ⟨rfl,q1,q2⟩
       exact ⟨_,_,_,_,_,_,_,_,rfl,q1,fun _=>⟨_,q2,by omega,by omega⟩,fun x h=>by simp at h⟩
     have CC:=gl Cg
     have fj:=gl (go tG tP)
     have oR:j+1<=maxLen:=by unfold maxLen;omega
     have eT:(j+1)*72<=140737488355328:=by omega
     have o9:0<4:=by omega
     have i_:¬ (W2.heap.size+1=ww):=by rw [HZ.out.1];omega
     have NB:=gl (show ¬ (Value.slice sa j sc).ownBlock=some (W2.heap.size+1) from fun e=>by have:=HI.out.fr _ e;omega)
     have OWN:=gl (fun (w6:World) (h6:But (· = ww) wr.drew w6)=>(HI.out.own.keep (w':=w6) fun g o hg hh=>by
      have:=HI.out.fr g hg
      rw [h6.block g (zZ hh) (fun e=>by have e:g=ww:=e;rw [HZ.out.1] at this;omega)];exact hh))
     have cG:=HZ.out.1
     have SX:Hid (∀ w',But (fun i=>i=ww\/(Value.slice sa j sc).ownBlock=some i) wr w'->w'.cell? ⟨W2.heap.size+1,3,none⟩=some (.slice sa j sc)/\w'.cell? ⟨w.heap.size,3,none⟩=some (.slice (some ⟨kb,ko,none⟩) 2 c2) /\
      w'.cell? ⟨kb,ko+j*4,none⟩=some (str s')/\w'.cell? ⟨kb,ko+j*4+1,none⟩=some (.int .i64 v')/\w'.cell? ⟨kb,ko+j*4+2,none⟩=some (.slice mV fV mJ)/\w'.cell? ⟨kb,ko+j*4+3,none⟩=some (.slice nw mE nj)/\True/\True):=by
      show ∀ w',_->_
      intro w' bj
      have key:∀ {p:Addr} {u:Value},p.block<W2.heap.size+2->p.block≠ww->wr.cell? p=some u->w'.cell? p=some u:=fun hp hne hu =>
       (bj.cell (hU wr _ hu) (fun e=>e.elim hne (fun e=>by have:=HI.out.fr _ e;omega))).trans hu
      exact ⟨key (by show W2.heap.size+1<_;omega) i_ q3,key (by show w.heap.size<_;omega) (by show w.heap.size≠ww;omega) y3,key (by show kb<_;omega) hne p0,key (by show kb<_;omega) hne p1,key (by show kb<_;omega) hne p2,key (by show kb<_;omega) hne p3,trivial,trivial⟩
     have q2:wr.cell? ⟨W2.heap.size+1,3,none⟩=some (.slice sa j sc):=q3
     have nH:=qf 3
     clear ne hne ct rG AD nR b7 tG tP Cg Al Am g0 g1 g2 g3 d_ mA ii hfj hwj qf aV cG y0 y1 y2 y3 q0 q1 q3 p0 p1 p2 p3
     go_wp2_with fail
     refine wp_region_noPanic ?_
     refine kx (fun w'=>But (fun i=>i=ww\/(Value.slice sa j sc).ownBlock=some i) wr w') (fun i=>i == 15) (by kernel_rfl) ?_
     have bL:But (fun i=>i=ww\/(Value.slice sa j sc).ownBlock=some i) wr wr.drew:=(But.refl _ wr).drew
     refine tk [0,1,2,3,4,5,6,7,8,9,10] bL ?_
     (intro d hd;simp [tkD] at hd;subst hd;simp only [tks,pQ,pZ,pS])
     iterate 11 (refine ⟨?_,?_,?_⟩;rotate_left;· (intro oi ho;simp at ho;subst ho;refine Or.inl ⟨by rfl,fun w' cL=>?_⟩;obtain ⟨e0,e1,e2,e3,e4,e5,e6,e7⟩:=SX.out w' cL;go_simp;try with_reducible rfl))
     refine qV 11 (by kernel_rfl) ?_
     intro o11 ho K' hK
     (simp at ho;subst ho)
     go_simp
     go_at_call 43
     (with_reducible refine CC.out.mono ?_)
     rintro o_ w6 ⟨s6,v6,b1,m1,d1,b2,m2,d2,rfl,bP,eS,dx⟩
     have np:Hid (But (fun i=>i=ww\/(Value.slice sa j sc).ownBlock=some i) wr w6):=bL.trans (bP.weak fun i _ h=>.inl h)
     have iw:=jH bP i_ q2
     have tC:=hM qlt bP.size
     have mD:=uD bP i_ qlt nH
     have fq:=(OWN.out _ bP).alloc (.cells #[str s6,.int .i64 v6,.slice b1 m1 d1,.slice b2 m2 d2] 46)
     have H6:=gl (go bP (go eS dx));clear bP eS dx
     (refine hK.out _ _ (fun _=>np.out) ?_;clear hK K';try simp only [pQ,pN,pZ,pS])
     refine qV 12 (by kernel_rfl) ?_
     intro o12 ho K' hK
     (simp at ho;subst ho)
     go_simp
     (refine hK.out _ _ (fun _=>np.out.alloc _) ?_;clear hK K';try simp only [pQ,pN,pZ,pS])
     refine qV 13 (by kernel_rfl) ?_
     intro o13 ho K' hK
     (simp at ho;subst ho)
     refine zT (by rfl) _ _ _ (by rfl) 46 (.agg #[str [],.int .i64 0,.slice none 0 0,.slice none 0 0]) 4 72 Tryz.underlying44 Tryz.infoN rfl o9 (.slice sa j sc) j us (by rfl) fq _ 1 [str s6,.int .i64 v6,.slice b1 m1 d1,.slice b2 m2 d2] (by rfl) (zS.lit4 #[str s6,.int .i64 v6,.slice b1 m1 d1,.slice b2 m2 d2] rfl (by simp [str,Value.oneCell']) _ rfl) oR eT ?_
     intro a' c' w7 bI bV bH
     (refine hK.out _ _ (fun _=>(np.out.alloc _).trans (bV.weak fun i _ h=>.inr h)) ?_;clear hK K';try simp only [pQ,pN,pZ,pS])
     have hc7:=xM bV NB.out iw
     have cu:=xF bV NB.out tC mD
     refine qV 14 (by kernel_rfl) ?_
     intro o14 ho K' hK
     (simp at ho;subst ho)
     go_simp
     (refine hK.out _ _ (fun _=>(np.out.alloc _).trans (bV.weak fun i _ h=>.inr h)) ?_;clear hK K';try simp only [pQ,pN,pZ,pS])
     refine qV 15 (by kernel_rfl) ?_
     intro o15 ho K' hK
     (simp at ho;subst ho)
     go_simp
     (refine hK.out _ _ (fun h=>by simp at h) ?_;clear hK K';try simp only [pQ,pN,pZ,pS])
     refine kQ (by kernel_rfl) (NoPanic.normal ?_) _
     have hX:=HI.out.next (by rw [HZ.out.1]) hww HP.out.hF H6.out.1 H6.out.2.1 H6.out.2.2 fj.out.1 fj.out.2 bI bV bH
     have HN:=gl hX
     clear hX bI bV bH bL iw mD fq
     go_wp2_with fail
     go_roundw
     case rel=>exact ⟨j+1,_,_,by omega,by go_num,HN.out⟩
     case measure=>simp [intOf];omega
    ·obtain rfl:j=2:=by omega
     obtain ⟨r0,r1,r2,r3,rlt,rf⟩:=HI.out.res.cells
     have fv:=rf 0;have mC:=rf 1;have mB:=rf 2;have mH:=rf 3
     have q2':wr.cell? ⟨W2.heap.size+1,2,none⟩=some (.slice ka ss.length kc):=q2
     have q3':wr.cell? ⟨W2.heap.size+1,3,none⟩=some (.slice sa 2 sc):=q3
     clear q2 q3 y0 y1 y2 y3 qf rf
     go_wp2_with fail
     have hnn:vp d k l n o t ss y no env (st.map WFr.gf)=none->∃ s,Wri wr ww (-1) s/\0<=s/\s<=20001+20*((d:Int)+1):=by
      intro h0
      rcases HI.out.mode with ⟨zs,kj,lj,hA,hev,eJ,dP,tm,lG,cd,c_⟩ | ⟨hev,s,dP,dG,cN⟩
      ·obtain ⟨z1,z2,_,h2⟩:=keptN_of (o:=o) hA hev
       rw [h2] at h0;simp at h0
      ·exact ⟨s,dP,dG,by omega⟩
     have hyy:∀ x,vp d k l n o t ss y no env (st.map WFr.gf)=some x->Wri wr ww (x.2.1:Nat) (20000-(x.2.2:Nat))/\zH (fun i=>(F i/\i<w.heap.size)\/w.heap.size+2<=i) wr (kE x.1) [str [],.int .i64 (o:Nat),.slice ka ss.length kc,.slice sa 2 sc]:=by
      intro x hx
      rcases HI.out.mode with ⟨zs,kj,lj,hA,hev,eJ,dP,tm,lG,cd,c_⟩ | ⟨hev,s,dP,dG,cN⟩
      ·obtain ⟨z1,z2,hz,h2⟩:=keptN_of (o:=o) hA hev
       rw [h2] at hx
       simp only [Option.some.injEq] at hx
       subst hx
       subst hz
       refine ⟨dP,?_⟩
       have hgg:∀ (i:Nat) (y:Obj),(Fx F w 4 i/\(Value.slice sa 2 sc).ownBlock≠some i)->wr.heap[i]? = some y->((F i/\i<w.heap.size)\/w.heap.size+2<=i)/\wr.heap[i]? = some y:=fun i y hi hy=>⟨by
        rcases hi.1 with h | h
        ·exact .inl h
        ·exact .inr (by omega),hy⟩
       have mI:=(Rep.keep hgg).1 _ _ c_
       have hlo:kU.length=ss.length:=by
        rw [zp] at mI
        obtain ⟨_,a,cap,e,_⟩:=mI
        simp only [Value.slice.injEq] at e
        exact e.2.1.symm
       rw [j9]
       refine zQ.2 ⟨_,_,rfl,zF.2 rfl,zQ.2 ⟨_,_,rfl,zF.2 rfl,zQ.2 ⟨_,_,rfl,mI,zQ.2 ⟨_,_,rfl,?_,zB.2 rfl⟩⟩⟩⟩
       exact HI.out.own.rep (fun g hg=>.inr (by have h1:=HI.out.fr g hg;have h2:=HZ.out.1;omega)) ((Rep.keep hgg).2 _ _ cd)
      ·rw [hev] at hx;simp at hx
     obtain ⟨W4,cj,dC,dn,dl,di,cR⟩:=uZ (F:=F) (D:=20001+20*((d:Int)+1)) (o:=vp d k l n o t ss y no env (st.map WFr.gf)) (s:=[]) (v:=(o:Nat)) (a1:=ka) (n1:=ss.length) (c1:=kc) (a2:=sa) (n2:=2) (c2:=sc) HI.out.but hww HI.out.res hnn hyy
     rw [<- cj]
     exact bodyPost_ret (v:=.agg #[str [],.int .i64 (o:Nat),.slice ka ss.length kc,.slice sa 2 sc]) (by simp [results,Tryz.results63,go_sem,dC,dn,dl,di]) rfl cR
def jd (B:Nat) (x0 x1 x2 x3:Value) (w:World):World:=(((w.setCell ⟨B,0,none⟩ x0).setCell ⟨B,1,none⟩ x1).setCell ⟨B,2,none⟩ x2).setCell ⟨B,3,none⟩ x3
theorem vT {B:Nat} {x0 x1 x2 x3:Value} {m:Nat->Prop} {a w:World} (h:But m a w) (hm:m B):But m a (jd B x0 x1 x2 x3 w) :=
 (((h.setCell (p:=⟨B,0,none⟩) (.inl hm) _).setCell (p:=⟨B,1,none⟩) (.inl hm) _).setCell (p:=⟨B,2,none⟩) (.inl hm) _).setCell (p:=⟨B,3,none⟩) (.inl hm) _
theorem uE {B:Nat} {u0 u1 u2 u3 x0 x1 x2 x3:Value} {e:TypeId} {w:World} (h:w.heap[B]? = some (.cells #[u0,u1,u2,u3] e (0,0))):(jd B x0 x1 x2 x3 w).heap[B]? = some (.cells #[x0,x1,x2,x3] e (0,0)):=by
 unfold jd
 rw [zI (zI (zI (zI h)))];rfl
def leftW (ww:Nat) (wr:World):Nat:=match wr.heap[ww]? with
 | some (.cells c _ _)=>(20001-intOf (c.getD 1 (.int .i64 0))).toNat
 | _=>0
theorem uG {w:World} {ww:Nat} {k s:Int} (h:Wri w ww k s):leftW ww w=(20001-s).toNat:=by
 unfold Wri at h
 unfold leftW
 rw [h]
 simp [intOf]
structure WAt (F:Nat->Prop) (ww d k l n:Nat) (H:List Ty) (b:Bd) (env:List Mn) (st:List WFr) (s0:Bs) (v0:Int) (a1 a2:Option Addr) (n1 c1 n2 c2:Nat) (ev sv:Value) (w wr:World):Prop where
 pre:gr (Fx F w 2) ww d k l n H b env st s0 v0 a1 a2 n1 c1 n2 c2 ev sv wr
 box:wr.heap[w.heap.size]? = some (.cells #[str s0,.int .i64 v0,.slice a1 n1 c1,.slice a2 n2 c2] 46 (0,0))
 res:zm (w.heap.size+1) 0 (.slice none 0 0) (.slice none 0 0) wr
 but:But (· = ww) w wr
 zw:w.heap.size+2<=wr.heap.size
 hww:ww<w.heap.size
theorem Fx.low {F:Nat->Prop} {ww:Nat} {w:World} (hF:∀ i,F i->i≠ww) (hww:ww<w.heap.size) (i:Nat) (h:Fx F w 2 i):i≠ww/\i≠w.heap.size/\i≠w.heap.size+1:=by
 rcases h with h | h
 ·exact ⟨hF i h.1,by have:=h.2;omega,by have:=h.2;omega⟩
 ·exact ⟨by omega,by omega,by omega⟩
theorem Fx.low' {F:Nat->Prop} {ww:Nat} {w:World} (hF:∀ i,Fx F w 2 i->i≠ww) {i:Nat} (h:Fx F w 2 i) (_:0<=i):i≠ww/\i≠w.heap.size:=by
 refine ⟨hF i h,?_⟩
 rcases h with h | h
 ·have:=h.2;omega
 ·omega
theorem WAt.start {F:Nat->Prop} {ww d k l n:Nat} {H:List Ty} {b:Bd} {env:List Mn} {st:List WFr} {s0:Bs} {v0:Int} {a1 a2:Option Addr} {n1 c1 n2 c2:Nat} {ev sv:Value} {w:World}
 (h:gr F ww d k l n H b env st s0 v0 a1 a2 n1 c1 n2 c2 ev sv w) :
 WAt F ww d k l n H b env st s0 v0 a1 a2 n1 c1 n2 c2 ev sv w ((w.alloc (.cells #[str s0,.int .i64 v0,.slice a1 n1 c1,.slice a2 n2 c2] 46)).alloc (.cells #[str [],.int .i64 0,.slice none 0 0,.slice none 0 0] 46)):=by
 have hww:=h.wri.cell.2.2.2
 have kk:∀ (i:Nat) (o:Obj),F i->w.heap[i]? = some o->Fx F w 2 i/\((w.alloc (.cells #[str s0,.int .i64 v0,.slice a1 n1 c1,.slice a2 n2 c2] 46)).alloc (.cells #[str [],.int .i64 0,.slice none 0 0,.slice none 0 0] 46)).heap[i]? = some o :=
  fun i o hf ho=>⟨.inl ⟨hf,zZ ho⟩,zV (zV ho)⟩
 have hn:=zR (w.alloc (.cells #[str s0,.int .i64 v0,.slice a1 n1 c1,.slice a2 n2 c2] 46)) (.cells #[str [],.int .i64 0,.slice none 0 0,.slice none 0 0] 46)
 rw [zK] at hn
 exact { pre:={ wri:=zV (zV h.wri),hF:=fun i hi=>by
                 rcases hi with hi | hi
                 ·exact h.hF i hi.1
                 ·omega
                ld:=h.ld,d20:=h.d20,k200:=h.k200,fit:=h.fit,hn:=h.hn,el:=h.el,nl:=h.nl,stl:=h.stl,ok:=h.ok,okg:=h.okg,wf:=h.wf,rb:=(Rep.keep kk).2 _ _ h.rb,re:=(Rep.keep kk).1 _ _ h.re,rs:=(Rep.keep kk).1 _ _ h.rs },
         box:=zV (zR _ _),res:=hn,but:=((But.refl _ _).alloc _).alloc _,zw:=by simp only [zK];omega,hww:=hww }
theorem WAt.move {F:Nat->Prop} {ww d k l n:Nat} {H:List Ty} {b:Bd} {env:List Mn} {st:List WFr} {s0:Bs} {v0:Int} {a1 a2:Option Addr} {n1 c1 n2 c2:Nat} {ev sv:Value} {w wr:World}
 (h:WAt F ww (d+1) k (l+1) n H b env st s0 v0 a1 a2 n1 c1 n2 c2 ev sv w wr) {w8:World} {b':Bd} {env':List Mn} {st':List WFr} {dC:Bs} {iu:Int} {a1' mV:Option Addr} {n1' c1' fV mJ:Nat} {ev' sv':Value}
 (cF:But (fun i=>i=ww\/i=w.heap.size) wr w8) (aq:Wri w8 ww (k:Nat) (20000-(l:Nat)))
 (hbox:w8.heap[w.heap.size]? = some (.cells #[str dC,.int .i64 iu,.slice a1' n1' c1',.slice mV fV mJ] 46 (0,0)))
 (fit:kn H b' env' (st'.map WFr.gf)) (el:env'.length+16*d<=1000000) (stl:st'.length+d<=40000) (ok:jo (1000000-16*d) env') (okg:okGs (1000000-16*d) (st'.map WFr.gf)) (wf:wfB b'/\vI env'/\∀ f∈st'.map WFr.gf,wfG f)
 (rb:zH (Fx F w 2) w8 (kE b') [str dC,.int .i64 iu,.slice a1' n1' c1',.slice mV fV mJ]) (re:Rep (Fx F w 2) w8 (.sl 94 9 env'.length (za env')) ev') (rs:Rep (Fx F w 2) w8 (.sl 131 6 st'.length (jq st')) sv') :
 WAt F ww d k l n H b' env' st' dC iu a1' mV n1' c1' fV mJ ev' sv' w w8:=by
 have hz:=cF.size
 have tD:=h.zw
 have hww:=h.hww
 have mu:=h.pre.ld;have hd:=h.pre.d20;have fb:=h.pre.nl
 exact { pre:={ wri:=aq,hF:=h.pre.hF,ld:=by omega,d20:=by omega,k200:=h.pre.k200,fit:=fit,hn:=h.pre.hn,el:=el,nl:=by omega,stl:=stl,ok:=ok,okg:=okg,wf:=wf,rb:=rb,re:=re,rs:=rs },
         box:=hbox,res:=h.res.but cF (by omega),but:=h.but.trans' cF (fun i hi e=>by rcases e with e | e;exact e;omega),zw:=by omega,hww:=hww }
theorem yi {F:Nat->Prop} {w:World}:∀ (st:List WFr) (us:List Value),zH F w (jq st) us->∀ u∈us,u.oneCell'=true
 | [],us,h,u,hu=>by rw [jq,zB] at h;subst h;simp at hu
 | f::st,us,h,u,hu=>by
   rw [jq] at h
   obtain ⟨h1,h2⟩:=h.split
   rw [<- List.take_append_drop (jq st).length us] at hu
   rcases List.mem_append.1 hu with hu | hu
   ·exact yi st _ h1 u hu
   ·rw [encF,j9] at h2
    simp only [List.cons_append,List.nil_append,zQ,zB,zF] at h2
    obtain ⟨_,_,e,rfl,_,_,rfl,rfl,x2,_,rfl,q2,x3,_,rfl,q3,x4,_,rfl,q4,_,_,rfl,rfl,rfl⟩:=h2
    obtain ⟨_,fO,fI,e1,_⟩:=zp.1 q2
    obtain ⟨_,fg,eL,e2,_⟩:=zp.1 q3
    obtain ⟨_,ea,ec,e3,_⟩:=zp.1 q4
    subst e1;subst e2;subst e3
    rw [e] at hu
    simp only [List.mem_cons,List.not_mem_nil,or_false] at hu
    rcases hu with rfl | rfl | rfl | rfl | rfl | rfl <;> rfl
theorem Tryz.infoFW:(Tryz.prog.info? 131).map (fun i=>(i.zero,i.size,i.bytes))=some (some (.agg #[str [],.int .i64 0,.slice none 0 0,.slice none 0 0,.slice none 0 0,.int .i64 0]),6,104):=by kernel_rfl
def WRel (F:Nat->Prop) (ww D k n:Nat) (H:List Ty) (R:Option (Bd×Nat×Nat)) (w:World) (ev sv:Value) (wr:World):Prop :=
 ∃ d l b env st s0 v0 a1 a2 n1 c1 n2 c2,d<=D/\R=evN d k l b env n (st.map WFr.gf)/\WAt F ww d k l n H b env st s0 v0 a1 a2 n1 c1 n2 c2 ev sv w wr
set_option maxRecDepth 100000 in
theorem write_step (D:Nat) (ih:∀ d,d<D->uF d):uF D:=by
 intro F ww k L n H b0 Ck st0 s00 v00 aT a20 n10 aR n20 c20 ev0 sv0 w h
 suffices HS:∀ R,R=evN D k L b0 Ck n (st0.map WFr.gf)->Calls Tryz.prog 43 #[.pointer (some ⟨ww,0,none⟩),.agg #[str s00,.int .i64 v00,.slice aT n10 aR,.slice a20 n20 c20],ev0,sv0,.int .i64 (n:Nat)] w (qe F ww (20001+20*D) R w) from HS _ rfl
 intro R hR
 have IH:=gl ih
 have fd:=WAt.start h
 have hD20:=h.d20
 have HST:=gl fd
 clear h fd ih
 obtain ⟨W,hW⟩:=zzN ((w.alloc (.cells #[str s00,.int .i64 v00,.slice aT n10 aR,.slice a20 n20 c20] 46)).alloc (.cells #[str [],.int .i64 0,.slice none 0 0,.slice none 0 0] 46))
 have HW:=gl hW;clear hW
 have HR:=gl hR;clear hR
 go_enter Tryz.func43,Tryz.ntmps43
 go_upto_region 1 with (fail)
 rw [HW.out]
 go_wp2_with fail
 go_loopw [2,3] (fun e s wr=>WRel F ww D k n H R w e s wr) (fun _ _ wr=>leftW ww wr)
 case atStart=>exact ⟨D,L,b0,Ck,st0,s00,v00,aT,a20,n10,aR,n20,c20,g_ _,HR.out,by rw [<- HW.out];exact HST.out⟩
 case round =>
  obtain ⟨d,l,b,env,st,s0,v0,a1,a2,n1,c1,n2,c2,hdD,hRe,bJ⟩:=hrel
  have hlm:=uG bJ.pre.wri
  obtain ⟨s,hs⟩:∃ s:Int,s=20000-(l:Int):=⟨_,rfl⟩
  have hl20:l<=20000:=by have:=bJ.pre.ld;have:=bJ.pre.d20;omega
  have dG:0<=s:=by omega
  have cN:s<=20000:=by omega
  have sO:Wri wr ww (k:Nat) s:=by rw [hs];exact bJ.pre.wri
  obtain ⟨k0,k1,kf,klt⟩:=sO.cell
  have kf1:=kf 1
  have Bt:=bJ.pre.k200
  obtain ⟨W2,cC⟩:=zzN (wr.setCell ⟨ww,1,none⟩ (.int .i64 (s+1)))
  have dr:Wri W2 ww (k:Nat) (s+1):=by unfold Wri at *;rw [<- cC,zI sO];rfl
  have bZ:But (· = ww) wr W2:=by rw [<- cC];exact (But.refl (· = ww) wr).setCell (p:=⟨ww,1,none⟩) (.inl rfl) _
  have hww:=bJ.hww
  have lu:W2.heap[w.heap.size]? = some (.cells #[str s0,.int .i64 v0,.slice a1 n1 c1,.slice a2 n2 c2] 46 (0,0)):=by
   have hx:=bJ.box
   rw [bZ.block _ (zZ hx) (by omega)];exact hx
  have eK:zm (w.heap.size+1) 0 (.slice none 0 0) (.slice none 0 0) W2:=bJ.res.but bZ (by omega)
  obtain ⟨m0,m1,mf,mlt⟩:=dr.cell
  have mf0:=mf 0
  have bf:=gl (go hdD (go hRe (go hlm (go hs bJ))))
  have H2:=gl (go cC (go dr (go bZ (go lu eK))))
  obtain ⟨y0,y1,y2,y3⟩:=qO lu
  clear hdD hRe hlm hs bJ cC dr bZ lu eK sO kf mf
  by_cases aU:k=0\/l=0
  ·have HB:=gl aU
   have iT:R=none:=by
    rw [bf.out.2.1]
    rcases aU with h | h
    ·rw [h];exact evN_zk
    ·rw [h];exact evN_zl
   obtain ⟨W3,bh⟩:=zzN (W2.setCell ⟨ww,0,none⟩ (.int .i64 (-1)))
   have dS:Wri W3 ww (-1) (s+1):=by have:=H2.out.2.1;unfold Wri at *;rw [<- bh,zI this];rfl
   have bU:But (· = ww) W2 W3:=by rw [<- bh];exact (But.refl (· = ww) W2).setCell (p:=⟨ww,0,none⟩) (.inl rfl) _
   have bx:zm (w.heap.size+1) 0 (.slice none 0 0) (.slice none 0 0) W3:=H2.out.2.2.2.2.but bU (by omega)
   obtain ⟨r0,r1,r2,r3,rlt,rf⟩:=bx.cells
   have fv:=rf 0;have mC:=rf 1;have mB:=rf 2;have mH:=rf 3
   have cR:=uZ (F:=F) (ww:=ww) (D:=20001+20*(D:Int)) (o:=R) (s:=[117]) (v:=0) (a1:=none) (n1:=0) (c1:=0) (a2:=none) (n2:=0) (c2:=0) ((bf.out.2.2.2.2.but.trans H2.out.2.2.1).trans bU) hww bx (fun _=>⟨s+1,dS,by omega,by omega⟩) (fun x hx=>by rw [iT] at hx;simp at hx)
   have HQ:=gl (go bh cR)
   clear bh dS bU bx rf iT cR
   rcases aU with hk | hl
   ·subst hk
    have m0':W2.cell? ⟨ww,0,none⟩=some (.int .i64 0):=m0
    have k0':wr.cell? ⟨ww,0,none⟩=some (.int .i64 0):=k0
    clear m0 k0
    go_upto_region 2 with (fail)
    rw [H2.out.1]
    go_upto_region 4 with (fail)
    rw [HQ.out.1]
    go_wp2_with fail
    obtain ⟨W4,cj,dC,dn,dl,di,hp⟩:=HQ.out.2
    rw [show (Value.string ⟨#[117]⟩)=str [117] from rfl,<- cj]
    exact bodyPost_ret (v:=.agg #[str [117],.int .i64 0,.slice none 0 0,.slice none 0 0]) (by simp [results,Tryz.results43,go_sem,dC,dn,dl,di]) rfl hp
   ·by_cases hk:k=0
    ·subst hk
     have m0':W2.cell? ⟨ww,0,none⟩=some (.int .i64 0):=m0
     have k0':wr.cell? ⟨ww,0,none⟩=some (.int .i64 0):=k0
     clear m0 k0
     go_upto_region 2 with (fail)
     rw [H2.out.1]
     go_upto_region 4 with (fail)
     rw [HQ.out.1]
     go_wp2_with fail
     obtain ⟨W4,cj,dC,dn,dl,di,hp⟩:=HQ.out.2
     rw [show (Value.string ⟨#[117]⟩)=str [117] from rfl,<- cj]
     exact bodyPost_ret (v:=.agg #[str [117],.int .i64 0,.slice none 0 0,.slice none 0 0]) (by simp [results,Tryz.results43,go_sem,dC,dn,dl,di]) rfl hp
    ·have lE:¬ ((k:Int)<1):=by omega
     have dO:(20000:Int)<s+1:=by have:=bf.out.2.2.2.1;omega
     go_upto_region 2 with (fail)
     rw [H2.out.1]
     go_upto_region 4 with (fail)
     rw [HQ.out.1]
     go_wp2_with fail
     obtain ⟨W4,cj,dC,dn,dl,di,hp⟩:=HQ.out.2
     rw [show (Value.string ⟨#[117]⟩)=str [117] from rfl,<- cj]
     exact bodyPost_ret (v:=.agg #[str [117],.int .i64 0,.slice none 0 0,.slice none 0 0]) (by simp [results,Tryz.results43,go_sem,dC,dn,dl,di]) rfl hp
  ·obtain ⟨k,rfl⟩:∃ k',k=k'+1:=⟨k-1,by omega⟩
   obtain ⟨l,rfl⟩:∃ l',l=l'+1:=⟨l-1,by omega⟩
   obtain ⟨d,rfl⟩:∃ d',d=d'+1:=⟨d-1,by have:=bf.out.2.2.2.2.pre.ld;omega⟩
   have m0':W2.cell? ⟨ww,0,none⟩=some (.int .i64 ((k:Int)+1)):=by rw [m0];rfl
   have lE:¬ ((k:Int)+1<1):=by omega
   have dO:¬ ((20000:Int)<s+1):=by have:=bf.out.2.2.2.1;omega
   have nD:s+1=20000-(l:Int):=by have:=bf.out.2.2.2.1;omega
   have iq:=gl nD
   have dA:=bf.out.2.2.2.2.pre.rb.but H2.out.2.2.1 (F':=Fx F w 2) (fun i hi=>⟨bf.out.2.2.2.2.pre.hF i hi,hi⟩)
   clear m0 nD aU hl20
   have re2:=bf.out.2.2.2.2.pre.re.but H2.out.2.2.1 (F':=Fx F w 2) (fun i hi=>⟨bf.out.2.2.2.2.pre.hF i hi,hi⟩)
   have rs2:=bf.out.2.2.2.2.pre.rs.but H2.out.2.2.1 (F':=Fx F w 2) (fun i hi=>⟨bf.out.2.2.2.2.pre.hF i hi,hi⟩)
   have eE:=gl (go dA (go re2 rs2))
   obtain ⟨bv,bx2,bk2,bx3,bk3,ebx,-,-⟩:=jg dA
   simp only [List.cons.injEq,Value.int.injEq,Value.slice.injEq,and_true,true_and] at ebx
   obtain ⟨eat,rfl,⟨rfl,ek2,rfl⟩,rfl,ek3,rfl⟩:=ebx
   obtain ⟨sa,scap,esv⟩:∃ a c,u3=.slice a st.length c:=by have h:=rs2;rw [zp] at h;obtain ⟨_,a,c,e,_⟩:=h;exact ⟨a,c,e⟩
   clear dA re2 rs2
   cases b with
   | leaf c =>
     have B7:vo (.leaf c)=[c]:=rfl
     rw [eat,B7] at y0
     have EAT:=gl eat
     subst esv
     by_cases sw:c=117
     ·subst sw
      have fp:R=some (.leaf 117,k,l):=by rw [bf.out.2.1];exact evN_u
      obtain ⟨W3,bh⟩:=zzN (W2.setCell ⟨ww,0,none⟩ (.int .i64 (k:Nat)))
      have dS:Wri W3 ww (k:Nat) (s+1):=by have:=H2.out.2.1;unfold Wri at *;rw [<- bh,zI this];rfl
      have bU:But (· = ww) W2 W3:=by rw [<- bh];exact (But.refl (· = ww) W2).setCell (p:=⟨ww,0,none⟩) (.inl rfl) _
      have bx:zm (w.heap.size+1) 0 (.slice none 0 0) (.slice none 0 0) W3:=H2.out.2.2.2.2.but bU (by omega)
      obtain ⟨r0,r1,r2,r3,rlt,rf⟩:=bx.cells
      have fv:=rf 0;have mC:=rf 1;have mB:=rf 2;have mH:=rf 3
      have x0:W3.cell? ⟨w.heap.size,0,none⟩=some (.string ⟨#[117]⟩):=(bU.cell (p:=⟨w.heap.size,0,none⟩) (hU W2 _ y0) (by show w.heap.size≠ww;omega)).trans y0
      have y0':W2.cell? ⟨w.heap.size,0,none⟩=some (.string ⟨#[117]⟩):=y0
      have cR:=uZ (F:=F) (ww:=ww) (D:=20001+20*(D:Int)) (o:=R) (s:=[117]) (v:=0) (a1:=none) (n1:=0) (c1:=0) (a2:=none) (n2:=0) (c2:=0) ((bf.out.2.2.2.2.but.trans H2.out.2.2.1).trans bU) hww bx (fun h=>by rw [fp] at h;simp at h)
       (fun x hx=>by rw [fp] at hx;simp only [Option.some.injEq] at hx;subst hx;exact ⟨by rw [<- iq.out];exact dS,wY _ _ _⟩)
      have HQ:=gl (go bh cR)
      clear bh dS bU bx rf fp cR y0
      go_upto_region 2 with (fail)
      rw [H2.out.1]
      go_upto_region 7 with (fail)
      rw [HQ.out.1]
      go_wp2_with fail
      obtain ⟨W4,cj,dC,dn,dl,di,hp⟩:=HQ.out.2
      rw [show (Value.string ⟨#[117]⟩)=str [117] from rfl,<- cj]
      exact bodyPost_ret (v:=.agg #[str [117],.int .i64 0,.slice none 0 0,.slice none 0 0]) (by simp [results,Tryz.results43,go_sem,dC,dn,dl,di]) rfl hp
     ·obtain ⟨S,od⟩:∃ S:Bs,S=[c]:=⟨_,rfl⟩
      rw [<- od] at y0
      have e117:(S == [117])=false:=by rw [beq_eq_false_iff_ne,od];simpa using sw
      have ene:(S != [])=true:=by rw [bne_iff_ne,od];simp
      have ene2:(!S.isEmpty)=true:=by rw [od];rfl
      have HS1:=gl od;clear od
      cases st with
      | nil =>
        have fp:R=some (.leaf c,k,l):=by rw [bf.out.2.1];exact evN_end
        obtain ⟨W3,bh⟩:=zzN (W2.setCell ⟨ww,0,none⟩ (.int .i64 (k:Nat)))
        have dS:Wri W3 ww (k:Nat) (s+1):=by have:=H2.out.2.1;unfold Wri at *;rw [<- bh,zI this];rfl
        have bU:But (· = ww) W2 W3:=by rw [<- bh];exact (But.refl (· = ww) W2).setCell (p:=⟨ww,0,none⟩) (.inl rfl) _
        have bx:zm (w.heap.size+1) 0 (.slice none 0 0) (.slice none 0 0) W3:=H2.out.2.2.2.2.but bU (by omega)
        obtain ⟨r0,r1,r2,r3,rlt,rf⟩:=bx.cells
        have fv:=rf 0;have mC:=rf 1;have mB:=rf 2;have mH:=rf 3
        have x0:W3.cell? ⟨w.heap.size,0,none⟩=some (str S):=(bU.cell (p:=⟨w.heap.size,0,none⟩) (hU W2 _ y0) (by show w.heap.size≠ww;omega)).trans y0
        have cR:=uZ (F:=F) (ww:=ww) (D:=20001+20*(D:Int)) (o:=R) (s:=S) (v:=0) (a1:=none) (n1:=0) (c1:=0) (a2:=none) (n2:=0) (c2:=0) ((bf.out.2.2.2.2.but.trans H2.out.2.2.1).trans bU) hww bx (fun h=>by rw [fp] at h;simp at h)
         (fun x hx=>by rw [fp] at hx;simp only [Option.some.injEq] at hx;subst hx;exact ⟨by rw [<- iq.out];exact dS,by rw [HS1.out];exact wY _ _ _⟩)
        have HQ:=gl (go bh cR)
        clear bh dS bU bx rf fp cR
        rw [List.length_nil]
        go_upto_region 2 with (fail)
        rw [H2.out.1]
        go_upto_region 7 with (fail)
        rw [HQ.out.1]
        go_wp2_with fail
        obtain ⟨W4,cj,dC,dn,dl,di,hp⟩:=HQ.out.2
        rw [<- cj]
        exact bodyPost_ret (v:=.agg #[str S,.int .i64 0,.slice none 0 0,.slice none 0 0]) (by simp [results,Tryz.results43,go_sem,dC,dn,dl,di]) rfl hp
      | cons f st =>
        obtain ⟨tb,tO,tcap,fO,fI,fg,eL,ea,ec,etop,hFt,nC,hcap,t0,t1,t2,t3,t4,t5,s8,rN,d_⟩:=top_rep (st:=st) eE.out.2.2
        simp only [List.length_cons,Value.slice.injEq,true_and] at etop
        obtain ⟨rfl,rfl⟩:=etop
        have hk:∃ i:Nat,i<2/\(i=1↔c=102):=by
         by_cases h:c=102
         ·exact ⟨1,by omega,by simp [h]⟩
         ·exact ⟨0,by omega,by simp [h]⟩
        obtain ⟨i,hi2,sK⟩:=hk
        have tU:c=116\/c=102:=by
         have h:=bf.out.2.2.2.2.pre.wf.1
         rw [wfB] at h
         rcases h with h | h | h
         ·exact .inl h
         ·exact .inr h
         ·exact absurd h sw
        obtain ⟨pa,pc,ep,AN⟩:=pF.of (bs:=[f.yes,f.no]) s8
        simp only [Value.slice.injEq] at ep
        obtain ⟨rfl,_,rfl⟩:=ep
        obtain ⟨pb,po,ns,nv,cZ,cJ,b_,oB,nn3,oH,nx,e,hpb,nf,p0,p1,p2,p3,rB⟩:=AN i hi2
        subst e
        obtain ⟨nv',na2',nc2',na3',nc3',en,_,_⟩:=jg rB
        simp only [List.cons.injEq,Value.int.injEq,Value.slice.injEq,and_true,true_and] at en
        obtain ⟨ens,rfl,⟨rfl,rfl,rfl⟩,rfl,rfl,rfl⟩:=en
        rw [ens] at p0 rB
        have A8:(if c=116 then (WFr.gf f).yes else (WFr.gf f).no)=nx:=by
         rcases (by omega:i=0\/i=1) with rfl | rfl
         ·have:¬ c=102:=fun h=>by have:=sK.2 h;omega
          have h116:c=116:=tU.resolve_right this
          simp at nf;rw [if_pos h116];exact nf
         ·have h102:c=102:=sK.1 rfl
          have:¬ c=116:=by rw [h102];decide
          simp at nf;rw [if_neg this];exact nf
        have HF:=gl (go rB (go rN (go d_ (go sK A8))))
        have tA:=bf.out.2.2.2.2.pre.stl
        rw [List.length_cons] at tA ⊢
        clear rB rN d_ A8 nf s8 AN ens tU
        have rq:(((st.length:Int)+1) == 0)=false:=by rw [beq_eq_false_iff_ne];omega
        have rX:(st.length:Int)<=(scap:Int):=by omega
        rcases (by omega:i=0\/i=1) with rfl | rfl
        ·have sK:¬ c=102:=fun h=>by have:=HF.out.2.2.2.1.2 h;omega
         simp only [Nat.zero_mul,Nat.add_zero] at p0 p1 p2 p3
         have e102:(S == [102])=false:=by rw [beq_eq_false_iff_ne,HS1.out];have:=sK;simpa using this
         go_upto_region 2 with (fail)
         rw [H2.out.1]
         go_upto_region 13 with (fail)
         obtain ⟨W3,bh⟩:=zzN (W2.alloc (.cells #[str [],.int .i64 (f.v:Nat),.slice fO f.ss.length fI,.slice (some ⟨pb,po,none⟩) 2 eL,.slice ea f.env.length ec,.int .i64 0] 131))
         rw [bh]
         have cn:W3.heap.size=W2.heap.size+1:=by rw [<- bh];exact zK _ _
         have bU:Below W2.heap.size W2 W3:=by rw [<- bh];exact (hG _ _).alloc (g_ _) _
         have u3':W3.cell? ⟨W2.heap.size,3,none⟩=some (.slice (some ⟨pb,po,none⟩) 2 eL):=by rw [<- bh];simp
         have iy:W3.cell? ⟨W2.heap.size,4,none⟩=some (.slice ea f.env.length ec):=by rw [<- bh];simp
         have r0:W3.cell? ⟨pb,po,none⟩=some (str (vo nx)):=by rw [<- bh];exact zJ p0
         have r1:W3.cell? ⟨pb,po+1,none⟩=some (.int .i64 nv):=by rw [<- bh];exact zJ p1
         have r2:W3.cell? ⟨pb,po+2,none⟩=some (.slice cZ (jW nx).length b_):=by rw [<- bh];exact zJ p2
         have r3:W3.cell? ⟨pb,po+3,none⟩=some (.slice oB (vQ nx).length oH):=by rw [<- bh];exact zJ p3
         have eh:W3.heap[w.heap.size]? = some (.cells #[str s0,.int .i64 v0,.slice a1 n1 c1,.slice a2 n2 c2] 46 (0,0)):=by rw [<- bh];exact zV H2.out.2.2.2.1
         have iu:W3.cell? ⟨w.heap.size,0,none⟩=some (str s0):=by simp [World.cell?,eh]
         have v1':W3.cell? ⟨w.heap.size,1,none⟩=some (.int .i64 v0):=by simp [World.cell?,eh]
         have v2':W3.cell? ⟨w.heap.size,2,none⟩=some (.slice a1 n1 c1):=by simp [World.cell?,eh]
         have v3':W3.cell? ⟨w.heap.size,3,none⟩=some (.slice a2 n2 c2):=by simp [World.cell?,eh]
         have f0:W3.frozen? ⟨w.heap.size,0,none⟩=false:=by simp [World.frozen?,eh]
         have f1:W3.frozen? ⟨w.heap.size,1,none⟩=false:=by simp [World.frozen?,eh]
         have f2:W3.frozen? ⟨w.heap.size,2,none⟩=false:=by simp [World.frozen?,eh]
         have f3:W3.frozen? ⟨w.heap.size,3,none⟩=false:=by simp [World.frozen?,eh]
         have H3:=gl (go bh (go cn (go bU eh)));clear bh cn bU eh t0 t1 t2 t3 t4 t5 p0 p1 p2 p3 y0 y1 y2 y3
         go_upto_region 15 with (fail)
         obtain ⟨W4,cj⟩:=zzN (jd w.heap.size (str (vo nx)) (.int .i64 nv) (.slice cZ (jW nx).length b_) (.slice oB (vQ nx).length oH) W3)
         have fM:=cj
         unfold jd at fM
         rw [fM]
         have bJ:=bf.out.2.2.2.2
         have tD:=bJ.zw
         have cG:=H2.out.2.2.1.size
         have bS:But (fun i=>i=w.heap.size) W3 W4:=by rw [<- cj];exact vT (But.refl _ _) rfl
         have u4'':W4.cell? ⟨W2.heap.size,4,none⟩=some (.slice ea f.env.length ec):=(bS.cell (p:=⟨W2.heap.size,4,none⟩) (hU W3 _ iy) (by show W2.heap.size≠w.heap.size;omega)).trans iy
         have f9:W4.heap[w.heap.size]? = some (.cells #[str (vo nx),.int .i64 nv,.slice cZ (jW nx).length b_,.slice oB (vQ nx).length oH] 46 (0,0)):=by rw [<- cj];exact uE H3.out.2.2.2
         have mr:But (fun i=>i=ww\/i=w.heap.size) W2 W4:=(But.ofBelow (m:=fun i=>i=ww\/i=w.heap.size) H3.out.2.2.1).trans (bS.weak fun i _ h=>.inr h)
         have mN:Wri W4 ww ((k+1:Nat):Int) (20000-(l:Nat)):=by
          have h:=H2.out.2.1
          unfold Wri at *
          rw [bS.block ww (by have:=H3.out.2.1;omega) (by show ww≠w.heap.size;omega),H3.out.2.2.1.block ww (by omega),h,iq.out]
         have kp:∀ (i:Nat) (o:Obj),Fx F w 2 i->W2.heap[i]? = some o->Fx F w 2 i/\W4.heap[i]? = some o:=fun i o hi ho=>by
          have hx:=Fx.low' bJ.pre.hF hi (by omega)
          exact ⟨hi,by rw [mr.block i (zZ ho) (fun e=>e.elim hx.1 hx.2)];exact ho⟩
         have bg:=bJ.move (b':=nx) (env':=f.env) (st':=st) ((H2.out.2.2.1.weak fun i _ h=>.inl h).trans mr) mN f9 (by have:=bJ.pre.fit.back c;rw [show (if c=116 then (WFr.gf f).yes else (WFr.gf f).no)=nx from HF.out.2.2.2.2] at this;exact this)
          (by have:=bJ.pre.okg.1;have:=bJ.pre.ld;have:=bJ.pre.d20;show f.env.length+16*d<=1000000;have h9:f.env.length<=1000000-16*(d+1):=bJ.pre.okg.1;omega) (by have:=bJ.pre.stl;rw [List.length_cons] at this;omega) (ze (by omega) _ bJ.pre.okg.2.1) (qt (by omega) _ bJ.pre.okg.2.2)
          (by
           have h1:=bJ.pre.wf.2.2 (WFr.gf f) (by simp)
           refine ⟨?_,h1.2.2,fun g hg=>bJ.pre.wf.2.2 g (by rw [List.map_cons];exact List.mem_cons_of_mem _ hg)⟩
           rw [<- show (if c=116 then (WFr.gf f).yes else (WFr.gf f).no)=nx from HF.out.2.2.2.2]
           split
           ·exact h1.1
           ·exact h1.2.1)
          ((Rep.keep kp).2 _ _ HF.out.1) ((Rep.keep kp).1 _ _ HF.out.2.1) ((Rep.keep kp).1 _ _ HF.out.2.2.1)
         have nW:R=evN d (k+1) l nx f.env n (st.map WFr.gf):=by
          rw [bf.out.2.1,List.map_cons,evN_back sw]
          rw [show (if c=116 then (WFr.gf f).yes else (WFr.gf f).no)=nx from HF.out.2.2.2.2];rfl
         have HN:=gl (go bg (go nW mN))
         clear bg nW mN kp mr f9 bS fM cj bJ cG tD u3' iy r0 r1 r2 r3 iu v1' v2' v3' f0 f1 f2 f3
         go_wp2_with fail
         go_roundw
         case rel=>exact ⟨d,l,nx,f.env,st,_,_,_,_,_,_,_,_,by have:=bf.out.1;omega,HN.out.2.1,HN.out.1⟩
         case measure =>
          rw [bf.out.2.2.1]
          refine Nat.lt_of_le_of_lt (Nat.le_of_eq (uG HN.out.2.2)) ?_
          omega
        ·have sK:c=102:=HF.out.2.2.2.1.1 rfl
         simp only [Nat.one_mul,Nat.add_assoc,Nat.reduceAdd] at p0 p1 p2 p3
         have e102:(S == [102])=true:=by rw [beq_iff_eq,HS1.out];have:=sK;simpa using this
         go_upto_region 2 with (fail)
         rw [H2.out.1]
         go_upto_region 13 with (fail)
         obtain ⟨W3,bh⟩:=zzN (W2.alloc (.cells #[str [],.int .i64 (f.v:Nat),.slice fO f.ss.length fI,.slice (some ⟨pb,po,none⟩) 2 eL,.slice ea f.env.length ec,.int .i64 0] 131))
         rw [bh]
         have cn:W3.heap.size=W2.heap.size+1:=by rw [<- bh];exact zK _ _
         have bU:Below W2.heap.size W2 W3:=by rw [<- bh];exact (hG _ _).alloc (g_ _) _
         have u3':W3.cell? ⟨W2.heap.size,3,none⟩=some (.slice (some ⟨pb,po,none⟩) 2 eL):=by rw [<- bh];simp
         have iy:W3.cell? ⟨W2.heap.size,4,none⟩=some (.slice ea f.env.length ec):=by rw [<- bh];simp
         have r0:W3.cell? ⟨pb,po+4,none⟩=some (str (vo nx)):=by rw [<- bh];exact zJ p0
         have r1:W3.cell? ⟨pb,po+5,none⟩=some (.int .i64 nv):=by rw [<- bh];exact zJ p1
         have r2:W3.cell? ⟨pb,po+6,none⟩=some (.slice cZ (jW nx).length b_):=by rw [<- bh];exact zJ p2
         have r3:W3.cell? ⟨pb,po+7,none⟩=some (.slice oB (vQ nx).length oH):=by rw [<- bh];exact zJ p3
         have eh:W3.heap[w.heap.size]? = some (.cells #[str s0,.int .i64 v0,.slice a1 n1 c1,.slice a2 n2 c2] 46 (0,0)):=by rw [<- bh];exact zV H2.out.2.2.2.1
         have iu:W3.cell? ⟨w.heap.size,0,none⟩=some (str s0):=by simp [World.cell?,eh]
         have v1':W3.cell? ⟨w.heap.size,1,none⟩=some (.int .i64 v0):=by simp [World.cell?,eh]
         have v2':W3.cell? ⟨w.heap.size,2,none⟩=some (.slice a1 n1 c1):=by simp [World.cell?,eh]
         have v3':W3.cell? ⟨w.heap.size,3,none⟩=some (.slice a2 n2 c2):=by simp [World.cell?,eh]
         have f0:W3.frozen? ⟨w.heap.size,0,none⟩=false:=by simp [World.frozen?,eh]
         have f1:W3.frozen? ⟨w.heap.size,1,none⟩=false:=by simp [World.frozen?,eh]
         have f2:W3.frozen? ⟨w.heap.size,2,none⟩=false:=by simp [World.frozen?,eh]
         have f3:W3.frozen? ⟨w.heap.size,3,none⟩=false:=by simp [World.frozen?,eh]
         have H3:=gl (go bh (go cn (go bU eh)));clear bh cn bU eh t0 t1 t2 t3 t4 t5 p0 p1 p2 p3 y0 y1 y2 y3
         go_upto_region 15 with (fail)
         obtain ⟨W4,cj⟩:=zzN (jd w.heap.size (str (vo nx)) (.int .i64 nv) (.slice cZ (jW nx).length b_) (.slice oB (vQ nx).length oH) W3)
         have fM:=cj
         unfold jd at fM
         rw [fM]
         have bJ:=bf.out.2.2.2.2
         have tD:=bJ.zw
         have cG:=H2.out.2.2.1.size
         have bS:But (fun i=>i=w.heap.size) W3 W4:=by rw [<- cj];exact vT (But.refl _ _) rfl
         have u4'':W4.cell? ⟨W2.heap.size,4,none⟩=some (.slice ea f.env.length ec):=(bS.cell (p:=⟨W2.heap.size,4,none⟩) (hU W3 _ iy) (by show W2.heap.size≠w.heap.size;omega)).trans iy
         have f9:W4.heap[w.heap.size]? = some (.cells #[str (vo nx),.int .i64 nv,.slice cZ (jW nx).length b_,.slice oB (vQ nx).length oH] 46 (0,0)):=by rw [<- cj];exact uE H3.out.2.2.2
         have mr:But (fun i=>i=ww\/i=w.heap.size) W2 W4:=(But.ofBelow (m:=fun i=>i=ww\/i=w.heap.size) H3.out.2.2.1).trans (bS.weak fun i _ h=>.inr h)
         have mN:Wri W4 ww ((k+1:Nat):Int) (20000-(l:Nat)):=by
          have h:=H2.out.2.1
          unfold Wri at *
          rw [bS.block ww (by have:=H3.out.2.1;omega) (by show ww≠w.heap.size;omega),H3.out.2.2.1.block ww (by omega),h,iq.out]
         have kp:∀ (i:Nat) (o:Obj),Fx F w 2 i->W2.heap[i]? = some o->Fx F w 2 i/\W4.heap[i]? = some o:=fun i o hi ho=>by
          have hx:=Fx.low' bJ.pre.hF hi (by omega)
          exact ⟨hi,by rw [mr.block i (zZ ho) (fun e=>e.elim hx.1 hx.2)];exact ho⟩
         have bg:=bJ.move (b':=nx) (env':=f.env) (st':=st) ((H2.out.2.2.1.weak fun i _ h=>.inl h).trans mr) mN f9 (by have:=bJ.pre.fit.back c;rw [show (if c=116 then (WFr.gf f).yes else (WFr.gf f).no)=nx from HF.out.2.2.2.2] at this;exact this)
          (by have:=bJ.pre.okg.1;have:=bJ.pre.ld;have:=bJ.pre.d20;show f.env.length+16*d<=1000000;have h9:f.env.length<=1000000-16*(d+1):=bJ.pre.okg.1;omega) (by have:=bJ.pre.stl;rw [List.length_cons] at this;omega) (ze (by omega) _ bJ.pre.okg.2.1) (qt (by omega) _ bJ.pre.okg.2.2)
          (by
           have h1:=bJ.pre.wf.2.2 (WFr.gf f) (by simp)
           refine ⟨?_,h1.2.2,fun g hg=>bJ.pre.wf.2.2 g (by rw [List.map_cons];exact List.mem_cons_of_mem _ hg)⟩
           rw [<- show (if c=116 then (WFr.gf f).yes else (WFr.gf f).no)=nx from HF.out.2.2.2.2]
           split
           ·exact h1.1
           ·exact h1.2.1)
          ((Rep.keep kp).2 _ _ HF.out.1) ((Rep.keep kp).1 _ _ HF.out.2.1) ((Rep.keep kp).1 _ _ HF.out.2.2.1)
         have nW:R=evN d (k+1) l nx f.env n (st.map WFr.gf):=by
          rw [bf.out.2.1,List.map_cons,evN_back sw]
          rw [show (if c=116 then (WFr.gf f).yes else (WFr.gf f).no)=nx from HF.out.2.2.2.2];rfl
         have HN:=gl (go bg (go nW mN))
         clear bg nW mN kp mr f9 bS fM cj bJ cG tD u3' iy r0 r1 r2 r3 iu v1' v2' v3' f0 f1 f2 f3
         go_wp2_with fail
         go_roundw
         case rel=>exact ⟨d,l,nx,f.env,st,_,_,_,_,_,_,_,_,by have:=bf.out.1;omega,HN.out.2.1,HN.out.1⟩
         case measure =>
          rw [bf.out.2.2.1]
          refine Nat.lt_of_le_of_lt (Nat.le_of_eq (uG HN.out.2.2)) ?_
          omega
   | ask v ss y no =>
     subst esv
     have cS:=bf.out.2.2.2.2.pre.fit
     obtain ⟨m,t,hh,hm,lW,-,-,-,-⟩:=cS.ask
     have dB:=eE.out.1
     rw [j9] at dB
     simp only [zQ,zB] at dB
     obtain ⟨_,_,e0,er,_,_,rfl,co,_,_,rfl,ei,_,_,rfl,tF,rfl⟩:=dB
     simp only [List.cons.injEq,and_true] at e0
     obtain ⟨rfl,rfl,rfl,rfl⟩:=e0
     rw [zF] at er co
     rw [er] at y0
     rw [co] at y1
     simp only [Value.int.injEq,true_and] at co
     subst co
     obtain ⟨-,ka,kc,ek,-⟩:=zp.1 ei
     simp only [Value.slice.injEq] at ek
     obtain ⟨rfl,rfl,rfl⟩:=ek
     obtain ⟨-,ya,yc,ey,-⟩:=zp.1 tF
     simp only [Value.slice.injEq] at ey
     obtain ⟨rfl,rfl,rfl⟩:=ey
     have hs00:s0=[]:=by simpa [str] using er
     subst hs00
     have HK:=gl (go ei (go tF (go er cS)))
     clear ei tF er cS eat ek2 ek3
     cases m with
     | op o t' =>
       have ett:t'=t:=by rw [vw] at lW;exact lW.1
       subst ett
       obtain ⟨eb,eo,ecap,ta,tc,i0,e,lA,hew,q0,q1,q2,q3,q4,q5,q6,q7,q8,tR⟩:=bound_op eE.out.2.1 hm
       subst e
       have HM:=gl (go hm (go lW tR));clear hm lW tR
       obtain ⟨W3,bh⟩:=zzN (W2.alloc (.cells #[.int .i64 (o:Nat),str [],.int .i64 0,.slice none 0 0,.slice none 0 0,.slice ta t'.args.length tc,.slice none 0 0,.int .i64 0,.int .i64 i0] 94))
       have bU:Below W2.heap.size W2 W3:=by rw [<- bh];exact (hG _ _).alloc (g_ _) _
       have cn:W3.heap.size=W2.heap.size+1:=by rw [<- bh];exact zK _ _
       have nq:=(bU.block _ (zZ H2.out.2.2.2.1)).trans H2.out.2.2.2.1
       obtain ⟨x0,x1,x2,x3⟩:=qO nq
       have z0:W3.cell? ⟨W2.heap.size,0,none⟩=some (.int .i64 (o:Nat)):=by rw [<- bh];simp
       have ho0:(0:Int)<=(o:Int):=by omega
       have bx:zm (w.heap.size+1) 0 (.slice none 0 0) (.slice none 0 0) W3:=by
        have h:=H2.out.2.2.2.2
        unfold zm at *
        rw [bU.block _ (zZ h)];exact h
       have nQ:=(List.getElem?_eq_some_iff.1 HM.out.1).1
       have co:(v:Int)<(env.length:Int):=by omega
       have bJ:=bf.out.2.2.2.2
       have mu:=bJ.pre.ld;have lI:=bJ.pre.d20;have tA:=bJ.pre.stl
       have k3:∀ (i:Nat) (ob:Obj),Fx F w 2 i->W2.heap[i]? = some ob->Fx F w 2 i/\W3.heap[i]? = some ob:=fun i ob hi hh=>⟨hi,by rw [bU.block i (zZ hh)];exact hh⟩
       have Aq:Wri W3 ww ((k:Nat)+1) (20000-(l:Nat)):=by
        have h:=H2.out.2.1
        unfold Wri at *
        rw [bU.block ww (zZ h),h,iq.out];rfl
       have C:=gl (keepN_any d (IH.out d (by have:=bf.out.1;omega)) (Fx F w 2) ww k l n v o H t' ss y no env st 0 a1 a2 c1 c2 (.slice (some ⟨eb,eo,none⟩) env.length ecap) (.slice sa st.length scap) W3
        { wri:=Aq,hF:=bJ.pre.hF,ld:=by omega,d20:=by omega,k200:=by omega,hv:=HM.out.1,fit:=bJ.pre.fit,hn:=bJ.pre.hn,el:=bJ.pre.el,nl:=bJ.pre.nl,stl:=by omega,ok:=bJ.pre.ok,okg:=bJ.pre.okg,wf:=bJ.pre.wf,
          rb:=(Rep.keep k3).2 _ _ eE.out.1,re:=(Rep.keep k3).1 _ _ eE.out.2.1,rs:=(Rep.keep k3).1 _ _ eE.out.2.2 })
       have fp:R=vp d k l n o t' ss y no env (st.map WFr.gf):=by rw [bf.out.2.1];exact evN_op HM.out.1
       have H3:=gl (go bh (go bU (go cn (go bx fp))))
       clear bh bU cn nq bx nQ bJ Aq fp k3 mu
       go_upto_region 2 with (fail)
       rw [H2.out.1]
       go_upto_region 17 with (fail)
       rw [H3.out.1]
       go_wp2_with fail
       (with_reducible refine C.out.mono ?_)
       rintro en w9 ⟨s9,v9,b1,p1,d1,b2,p2,d2,rfl,cB,tp,tM⟩
       have eZ:=H3.out.2.2.2.1.but cB (show ¬ (w.heap.size+1=ww) by omega)
       obtain ⟨r0,r1,r2,r3,rlt,rf⟩:=eZ.cells
       have fv:=rf 0;have mC:=rf 1;have mB:=rf 2;have mH:=rf 3
       have cR:=uZ (F:=F) (ww:=ww) (D:=20001+20*(D:Int)) (o:=R) (s:=s9) (v:=v9) (a1:=b1) (n1:=p1) (c1:=d1) (a2:=b2) (n2:=p2) (c2:=d2) (((bf.out.2.2.2.2.but.trans H2.out.2.2.1).trans (But.ofBelow H3.out.2.1)).trans cB) hww eZ
        (fun h=>by
         obtain ⟨st',u1,u2,u3⟩:=tp (by rw [<- H3.out.2.2.2.2];exact h)
         exact ⟨st',u1,u2,by have:=bf.out.1;omega⟩)
        (fun x hx=>by
         obtain ⟨u1,u2⟩:=tM x (by rw [<- H3.out.2.2.2.2];exact hx)
         refine ⟨u1,(Rep.keep fun i ob hi hh=>⟨?_,hh⟩).2 _ _ u2⟩
         rcases hi with h | h
         ·exact h
         ·have h1:=H3.out.2.2.1
          have h2:=bf.out.2.2.2.2.zw
          have h3:=H2.out.2.2.1.size
          exact .inr (by omega))
       have HQ:=gl cR
       clear cR cB tp tM eZ rf
       go_wp2_with fail
       obtain ⟨W4,cj,dC,dn,dl,di,hp⟩:=HQ.out
       rw [<- cj]
       exact bodyPost_ret (v:=.agg #[str s9,.int .i64 v9,.slice b1 p1 d1,.slice b2 p2 d2]) (by simp [results,Tryz.results43,go_sem,dC,dn,dl,di]) rfl hp
     | bd t' b' e' =>
       have ett:t'=t:=by rw [vw] at lW;exact lW.1
       subst ett
       obtain ⟨eb,eo,ecap,ta,tc,bs,bv,fO,sh,fI,fg,sg,eL,ha,hcap,i0,e,lA,hew,q0,q1,q2,q3,q4,q5,q6,q7,q8,tR,dp,rN⟩:=bound_bd eE.out.2.1 hm
       subst e
       obtain ⟨Ax,iD⟩:=HK.out.2.2.2.call hm
       obtain ⟨xs,si,cX⟩:=zS.ofRep eE.out.2.2 (yi st)
       have bi:=yj _ bf.out.2.2.2.2.pre.ok v _ hm
       rw [okM] at bi
       have dw:=wfMs_at _ bf.out.2.2.2.2.pre.wf.2.1 v _ hm
       rw [wfM] at dw
       have cv:=(zj bi.1).2
       have Ay:ss.length<=15:=by omega
       have ez:=bf.out.2.2.2.2.pre.el
       have cI:e'.length<=1000000:=by have:=bi.2.1;omega
       have HM:=gl (go hm (go tR (go dp (go rN (go Ax (go iD (go si (go cX (go bi dw)))))))))
       clear hm lW tR dp rN Ax iD si cX bi dw cv
       obtain ⟨W3,bh⟩:=zzN (W2.alloc (.cells #[.int .i64 (-1),str bs,.int .i64 bv,.slice fO sh fI,.slice fg sg eL,.slice ta t'.args.length tc,.slice ha e'.length hcap,.int .i64 0,.int .i64 i0] 94))
       have bU:Below W2.heap.size W2 W3:=by rw [<- bh];exact (hG _ _).alloc (g_ _) _
       have cn:W3.heap.size=W2.heap.size+1:=by rw [<- bh];exact zK _ _
       have nq:=(bU.block _ (zZ H2.out.2.2.2.1)).trans H2.out.2.2.2.1
       have B2:W3.heap[W2.heap.size]? = some (.cells #[.int .i64 (-1),str bs,.int .i64 bv,.slice fO sh fI,.slice fg sg eL,.slice ta t'.args.length tc,.slice ha e'.length hcap,.int .i64 0,.int .i64 i0] 94 (0,0)):=by rw [<- bh];exact zR _ _
       obtain ⟨x0,x1,x2,x3⟩:=qO nq
       have z0:W3.cell? ⟨W2.heap.size,0,none⟩=some (.int .i64 (-1)):=by rw [<- bh];simp
       have nQ:=(List.getElem?_eq_some_iff.1 HM.out.1).1
       have co:(v:Int)<(env.length:Int):=by omega
       have hwB:w.heap.size<W3.heap.size:=by have:=bf.out.2.2.2.2.zw;have:=H2.out.2.2.1.size;omega
       have tA:st.length<=40000:=by have:=bf.out.2.2.2.2.pre.stl;omega
       have H3:=gl (go bh (go bU (go cn (go nq B2))))
       have SX:Hid (∀ w',Below W3.heap.size W3 w'->w'.cell? ⟨w.heap.size,0,none⟩=some (str [])/\w'.cell? ⟨w.heap.size,1,none⟩=some (.int .i64 (v:Nat))/\w'.cell? ⟨w.heap.size,2,none⟩=some (.slice a1 ss.length c1)/\w'.cell? ⟨w.heap.size,3,none⟩=some (.slice a2 2 c2)):=by
        show ∀ w',_->_
        intro w' bj
        exact ⟨(bj.cell (by show w.heap.size<_;omega)).trans x0,(bj.cell (by show w.heap.size<_;omega)).trans x1,(bj.cell (by show w.heap.size<_;omega)).trans x2,(bj.cell (by show w.heap.size<_;omega)).trans x3⟩
       have SRC:Hid (∀ w',Below W3.heap.size W3 w'->zS 6 (.slice sa st.length scap) st.length xs w'):=by
        show ∀ w',_->_
        intro w' bj
        exact (HM.out.2.2.2.2.2.2.2.1.belowAll bU (g_ _)).belowAll bj (g_ _)
       clear bh bU cn nq B2 nQ x0 x1 x2 x3
       go_upto_region 2 with (fail)
       rw [H2.out.1]
       go_upto_region 17 with (fail)
       rw [H3.out.1]
       go_upto_region 19 with (fail)
       refine wp_region_noPanic ?_
       refine kx (fun w'=>Below W3.heap.size W3 w') (fun _=>false) (by kernel_rfl) ?_
       have bL:Below W3.heap.size W3 W3.drew:=Below.drew (hG _ _)
       refine tk [1,3,4,5] bL ?_
       (intro d hd;simp [tkD] at hd;subst hd;simp only [tks,pQ,pZ,pS])
       iterate 4 (refine ⟨?_,?_,?_⟩;rotate_left;· (intro oi ho;simp at ho;subst ho;refine Or.inl ⟨by rfl,fun w' cL=>?_⟩;obtain ⟨e0,e1,e2,e3⟩:=SX.out w' cL;go_simp;try with_reducible rfl))
       refine uA 0 6 (by kernel_rfl) ?_ ?_
       ·(intro o0 ho K' hK;simp at ho;subst ho)
        go_simp
        (refine hK.out _ _ (fun _=>(bL.alloc (g_ _) (.cells #[] 131))) ?_;clear hK K';try simp only [pQ,pN,pZ,pS])
        refine uA 2 6 (by kernel_rfl) ?_ ?_
        ·(intro o2 ho K' hK;simp at ho;subst ho)
         refine zT (by rfl) _ _ _ (by rfl) 131 (.agg #[str [],.int .i64 0,.slice none 0 0,.slice none 0 0,.slice none 0 0,.int .i64 0]) 6 104 Tryz.underlying96 Tryz.infoFW rfl (by decide) (.slice (some ⟨W3.heap.size,0,none⟩) 0 0) 0 [] (by rfl) (Own.litAt #[] 0 _ rfl (by decide) rfl) _ st.length xs (by rfl) (SRC.out _ (bL.alloc (g_ _) (.cells #[] 131))) (by unfold maxLen;omega) (by omega) ?_
         intro a5 c5 w5 dj bC dy
         simp only [Nat.zero_add,List.nil_append] at dj dy ⊢
         have cP:Below W3.heap.size W3 w5:=(bL.alloc (g_ _) (.cells #[] 131)).trans (bC.toBelow ((bL.alloc (g_ _) (.cells #[] 131))).size fun i hi e=>by simp [Value.ownBlock] at e;omega)
         have fQ:Hid (∀ g,(Value.slice a5 st.length c5).ownBlock=some g->W3.heap.size<=g):=fun g hg=>by rcases dy g hg with h | h;simp [Value.ownBlock] at h;omega;have h:g=W3.heap.size+1:=h.trans (zK _ _);omega
         (refine hK.out _ _ (fun _=>cP) ?_;clear hK K';try simp only [pQ,pN,pZ,pS])
         (refine on 6 ?_;intro o ho K' hK;simp at ho;subst ho;go_simp)
         (refine hK.out _ _ (fun _=>cP.alloc cP.size _) ?_;clear hK K';try simp only [pQ,pN,pZ,pS])
         (refine on 7 ?_;intro o ho K' hK;simp at ho;subst ho)
         refine zT (by rfl) _ _ _ (by rfl) 131 (.agg #[str [],.int .i64 0,.slice none 0 0,.slice none 0 0,.slice none 0 0,.int .i64 0]) 6 104 Tryz.underlying96 Tryz.infoFW rfl (by decide) (.slice a5 st.length c5) st.length xs (by rfl) (dj.alloc _) _ 1 [str [],.int .i64 (v:Nat),.slice a1 ss.length c1,.slice a2 2 c2,.slice (some ⟨eb,eo,none⟩) env.length ecap,.int .i64 0] (by rfl) (zS.lit1 #[str [],.int .i64 (v:Nat),.slice a1 ss.length c1,.slice a2 2 c2,.slice (some ⟨eb,eo,none⟩) env.length ecap,.int .i64 0] rfl (by simp [str,Value.oneCell']) _ (by rfl)) (by unfold maxLen;omega) (by omega) ?_
         intro a7 c7 w7 bI bV bH
         have dX:Below W3.heap.size W3 w7:=(cP.alloc cP.size (.cells #[str [],.int .i64 (v:Nat),.slice a1 ss.length c1,.slice a2 2 c2,.slice (some ⟨eb,eo,none⟩) env.length ecap,.int .i64 0] 131)).trans (bV.toBelow ((cP.alloc cP.size (.cells #[str [],.int .i64 (v:Nat),.slice a1 ss.length c1,.slice a2 2 c2,.slice (some ⟨eb,eo,none⟩) env.length ecap,.int .i64 0] 131))).size fun i hi e=>by have:=fQ.out i e;omega)
         have b6:∀ g,(Value.slice a7 (st.length+1) c7).ownBlock=some g->W3.heap.size<=g:=fun g hg=>by rcases bH g hg with h | h;exact fQ.out g h;exact h_ ((cP.alloc cP.size (.cells #[str [],.int .i64 (v:Nat),.slice a1 ss.length c1,.slice a2 2 c2,.slice (some ⟨eb,eo,none⟩) env.length ecap,.int .i64 0] 131))).size (Nat.le_of_eq h.symm)
         (refine hK.out _ _ (fun _=>dX) ?_;clear hK K';try simp only [pQ,pN,pZ,pS])
         (refine on 8 ?_;intro o ho K' hK;simp at ho;subst ho;go_simp)
         (refine hK.out _ _ (fun _=>dX) ?_;clear hK K';try simp only [pQ,pN,pZ,pS])
         refine kQ (by kernel_rfl) (NoPanic.normal ?_) _
         clear bC dy dj bV bH cP
         have H7:=gl (go bI (go dX b6));clear bI dX b6 bL
         have cn:=H3.out.2.2.1
         have hz7:=H7.out.2.1.size
         have tD:=bf.out.2.2.2.2.zw
         have cG:=H2.out.2.2.1.size
         have dY:=(H7.out.2.1.block W2.heap.size (by omega)).trans H3.out.2.2.2.2
         have eP:=(H7.out.2.1.block w.heap.size (by omega)).trans H3.out.2.2.2.1
         have g5:w7.cell? ⟨W2.heap.size,5,none⟩=some (.slice ta t'.args.length tc):=by simp [World.cell?,dY]
         have g6:w7.cell? ⟨W2.heap.size,6,none⟩=some (.slice ha e'.length hcap):=by simp [World.cell?,dY]
         have x2:w7.cell? ⟨w.heap.size,2,none⟩=some (.slice a1 ss.length c1):=by simp [World.cell?,eP]
         have k7:∀ (i:Nat) (ob:Obj),Fx F w 2 i->W2.heap[i]? = some ob->Fx F w 2 i/\w7.heap[i]? = some ob:=fun i ob hi hh=>by
          have hl:=zZ hh
          exact ⟨hi,by rw [H7.out.2.1.block i (by omega),H3.out.2.1.block i hl];exact hh⟩
         have se:=(y_ (Fx F w 2) e' env ss t' (.slice ha e'.length hcap) (.slice a1 ss.length c1) (.slice ta t'.args.length tc) (.slice (some ⟨eb,eo,none⟩) env.length ecap) w7 ((Rep.keep k7).1 _ _ HM.out.2.2.2.1) ((Rep.keep k7).1 _ _ HK.out.1) ((Rep.keep k7).1 _ _ HM.out.2.1) ((Rep.keep k7).1 _ _ eE.out.2.1) (by omega) HM.out.2.2.2.2.1 (by omega))
         rw [show ((0:Nat):Int)=0 from rfl] at se
         have CH:=gl se;clear se
         have ik:=gl (go dY (go eP k7));clear dY eP k7 cn cG
         go_wp2_with fail
         (with_reducible refine CH.out.mono ?_)
         rintro en w8 ⟨a8,c8,rfl,cF,fX⟩
         have cn:=H3.out.2.2.1
         have hz8:=cF.size
         have ch:=(cF.block W2.heap.size (by omega)).trans ik.out.1
         have bz:=(cF.block w.heap.size (by omega)).trans ik.out.2.1
         have p1:w8.cell? ⟨W2.heap.size,1,none⟩=some (str bs):=by simp [World.cell?,ch]
         have p2:w8.cell? ⟨W2.heap.size,2,none⟩=some (.int .i64 bv):=by simp [World.cell?,ch]
         have p3:w8.cell? ⟨W2.heap.size,3,none⟩=some (.slice fO sh fI):=by simp [World.cell?,ch]
         have p4:w8.cell? ⟨W2.heap.size,4,none⟩=some (.slice fg sg eL):=by simp [World.cell?,ch]
         have d0:w8.cell? ⟨w.heap.size,0,none⟩=some (str []):=by simp [World.cell?,bz]
         have d1:w8.cell? ⟨w.heap.size,1,none⟩=some (.int .i64 (v:Nat)):=by simp [World.cell?,bz]
         have d2:w8.cell? ⟨w.heap.size,2,none⟩=some (.slice a1 ss.length c1):=by simp [World.cell?,bz]
         have d3:w8.cell? ⟨w.heap.size,3,none⟩=some (.slice a2 2 c2):=by simp [World.cell?,bz]
         have f0:w8.frozen? ⟨w.heap.size,0,none⟩=false:=by simp [World.frozen?,bz]
         have f1:w8.frozen? ⟨w.heap.size,1,none⟩=false:=by simp [World.frozen?,bz]
         have f2:w8.frozen? ⟨w.heap.size,2,none⟩=false:=by simp [World.frozen?,bz]
         have f3:w8.frozen? ⟨w.heap.size,3,none⟩=false:=by simp [World.frozen?,bz]
         have H8:=gl (go cF (go fX bz));clear cF fX ch bz g5 g6 x2 cn
         go_upto_region 22 with (fail)
         obtain ⟨W9,nX⟩:=zzN (jd w.heap.size (str bs) (.int .i64 bv) (.slice fO sh fI) (.slice fg sg eL) w8)
         have fM:=nX
         unfold jd at fM
         rw [fM]
         have bg:WAt F ww d (k+1) l n H b' (e'++kL env t'.args ss) (⟨v,ss,y,no,env⟩::st) bs bv fO fg sh fI sg eL (.slice a8 (e'.length+(kL env t'.args ss).length) c8) (.slice a7 (st.length+1) c7) w W9:=by
          have bJ:=bf.out.2.2.2.2
          have cG:=H2.out.2.2.1.size
          have cn:=H3.out.2.2.1
          have cB:But (fun i=>i=w.heap.size) w8 W9:=by rw [<- nX];exact vT (But.refl _ _) rfl
          have eC:But (fun i=>i=ww\/i=w.heap.size) W2 W9:=(((But.ofBelow (m:=fun i=>i=ww\/i=w.heap.size) H3.out.2.1).trans (But.ofBelow (H7.out.2.1))).trans (But.ofBelow H8.out.1)).trans (cB.weak fun i _ h=>.inr h)
          have hz9:=eC.size
          have eJ:(kL env t'.args ss).length=t'.args.length:=uW _ _ HM.out.2.2.2.2.1
          have bi:=HM.out.2.2.2.2.2.2.2.2.1
          have dw:=HM.out.2.2.2.2.2.2.2.2.2
          have mu:=bJ.pre.ld;have lI:=bJ.pre.d20;have ah:=bJ.pre.stl
          have kp:∀ (i:Nat) (ob:Obj),Fx F w 2 i->W2.heap[i]? = some ob->Fx F w 2 i/\W9.heap[i]? = some ob:=fun i ob hi ho=>by
           have hx:=Fx.low' bJ.pre.hF hi (by omega)
           exact ⟨hi,by rw [eC.block i (zZ ho) (fun e=>e.elim hx.1 hx.2)];exact ho⟩
          refine bJ.move ((H2.out.2.2.1.weak fun i _ h=>.inl h).trans eC) ?_ (by rw [<- nX];exact uE H8.out.2.2) HM.out.2.2.2.2.2.1 (by rw [List.length_append,eJ];have:=bi.2.1;have:=HM.out.2.2.2.2.1;omega) (by rw [List.length_cons];omega)
           (qJ _ _ (ze (by omega) _ bi.2.2) (uP (ze (by omega) _ bJ.pre.ok) (by omega) _ _ (zj bi.1).1)) ⟨by show env.length<=_;omega,ze (by omega) _ bJ.pre.ok,qt (by omega) _ bJ.pre.okg⟩
           ⟨dw.1,qH _ _ dw.2 (uK bJ.pre.wf.2.1 _ _ bJ.pre.wf.1.1),fun f hf=>?_⟩ ((Rep.keep kp).2 _ _ HM.out.2.2.1) ?_ ?_
          ·have h:=H2.out.2.1
           unfold Wri at *
           rw [cB.block ww (by omega) (by show ww≠w.heap.size;omega),H8.out.1.block ww (by omega),H7.out.2.1.block ww (by omega),H3.out.2.1.block ww (by omega),h,iq.out]
          ·rw [List.map_cons] at hf
           rcases List.mem_cons.1 hf with rfl | hf
           ·exact ⟨bJ.pre.wf.1.2.1,bJ.pre.wf.1.2.2,bJ.pre.wf.2.1⟩
           ·exact bJ.pre.wf.2.2 f hf
          ·rw [List.length_append]
           refine (Rep.keep fun i ob hi ho=>?_).1 _ _ H8.out.2.1
           have hx:Fx F w 2 i:=by
            rcases hi with h | h
            ·exact h
            ·exact .inr (by omega)
           exact ⟨hx,by rw [cB.block i (zZ ho) (Fx.low' bJ.pre.hF hx (by omega)).2];exact ho⟩
          ·rw [List.length_cons]
           refine (H7.out.1.keep (w':=W9) fun g o hg ho=>?_).rep (fun g hg=>.inr (by have:=H7.out.2.2 g hg;omega)) ?_
           ·have h1:=H7.out.2.2 g hg
            have h2:=zZ ho
            rw [cB.block g (by omega) (by omega),H8.out.1.block g h2];exact ho
           ·rw [jq]
            refine zH.append ((Rep.keep kp).2 _ _ HM.out.2.2.2.2.2.2.1) ?_
            rw [encF]
            exact zH.append ((Rep.keep kp).2 _ _ eE.out.1) (zQ.2 ⟨_,_,rfl,(Rep.keep kp).1 _ _ eE.out.2.1,zQ.2 ⟨_,_,rfl,zF.2 rfl,zB.2 rfl⟩⟩)
         have nW:R=evN d (k+1) l b' (e'++kL env t'.args ss) n (List.map WFr.gf (⟨v,ss,y,no,env⟩::st)):=by
          rw [bf.out.2.1,evN_bd HM.out.1];rfl
         have HN:=gl (go bg (go nW bg.pre.wri))
         clear bg nW fM nX p1 p2 p3 p4 d0 d1 d2 d3 f0 f1 f2 f3
         go_wp2_with fail
         go_roundw
         case rel=>exact ⟨d,l,b',_,_,_,_,_,_,_,_,_,_,by have:=bf.out.1;omega,HN.out.2.1,HN.out.1⟩
         case measure =>
          rw [bf.out.2.2.1]
          refine Nat.lt_of_le_of_lt (Nat.le_of_eq (uG HN.out.2.2)) ?_
          omega
        ·(intro o6 ho K' hK;simp at ho;subst ho)
         go_simp
         refine hK.out _ _ (fun _=>?_) ?_
         ·exact ((bL.alloc (g_ _) (.cells #[] 131)).alloc (by rw [zK];exact Nat.le_succ _) (.cells #[str [],.int .i64 (v:Nat),.slice a1 ss.length c1,.slice a2 2 c2,.slice (some ⟨eb,eo,none⟩) env.length ecap,.int .i64 0] 131))
         clear hK K'
         (try simp only [pQ,pN,pZ,pS])
         (refine on 2 ?_;intro o ho K' hK;simp at ho;subst ho)
         refine zT (by rfl) _ _ _ (by rfl) 131 (.agg #[str [],.int .i64 0,.slice none 0 0,.slice none 0 0,.slice none 0 0,.int .i64 0]) 6 104 Tryz.underlying96 Tryz.infoFW rfl (by decide) (.slice (some ⟨W3.heap.size,0,none⟩) 0 0) 0 [] (by rfl) ((Own.litAt #[] 0 _ rfl (by decide) rfl).alloc _) _ st.length xs (by rfl) (SRC.out _ ((bL.alloc (g_ _) (.cells #[] 131)).alloc (by rw [zK];exact Nat.le_succ _) (.cells #[str [],.int .i64 (v:Nat),.slice a1 ss.length c1,.slice a2 2 c2,.slice (some ⟨eb,eo,none⟩) env.length ecap,.int .i64 0] 131))) (by unfold maxLen;omega) (by omega) ?_
         intro a5 c5 w5 dj bC dy
         simp only [Nat.zero_add,List.nil_append] at dj dy ⊢
         have cP:Below W3.heap.size W3 w5:=((bL.alloc (g_ _) (.cells #[] 131)).alloc (by rw [zK];exact Nat.le_succ _) (.cells #[str [],.int .i64 (v:Nat),.slice a1 ss.length c1,.slice a2 2 c2,.slice (some ⟨eb,eo,none⟩) env.length ecap,.int .i64 0] 131)).trans (bC.toBelow (((bL.alloc (g_ _) (.cells #[] 131)).alloc (by rw [zK];exact Nat.le_succ _) (.cells #[str [],.int .i64 (v:Nat),.slice a1 ss.length c1,.slice a2 2 c2,.slice (some ⟨eb,eo,none⟩) env.length ecap,.int .i64 0] 131))).size fun i hi e=>by simp [Value.ownBlock] at e;omega)
         have fQ:Hid (∀ g,(Value.slice a5 st.length c5).ownBlock=some g->W3.heap.size<=g):=fun g hg=>by rcases dy g hg with h | h;simp [Value.ownBlock] at h;omega;have h:g=W3.heap.size+1+1:=h.trans (vx W3 _ _);omega
         have ll:zS 6 (.slice (some ⟨W3.heap.size+1,0,none⟩) 1 1) 1 #[str [],.int .i64 (v:Nat),.slice a1 ss.length c1,.slice a2 2 c2,.slice (some ⟨eb,eo,none⟩) env.length ecap,.int .i64 0].toList w5:=(zS.lit1 #[str [],.int .i64 (v:Nat),.slice a1 ss.length c1,.slice a2 2 c2,.slice (some ⟨eb,eo,none⟩) env.length ecap,.int .i64 0] rfl (by simp [str,Value.oneCell']) _ (by simp):zS 6 (.slice (some ⟨W3.heap.size+1,0,none⟩) 1 1) 1 #[str [],.int .i64 (v:Nat),.slice a1 ss.length c1,.slice a2 2 c2,.slice (some ⟨eb,eo,none⟩) env.length ecap,.int .i64 0].toList ((W3.drew.alloc (.cells #[] 131)).alloc (.cells #[str [],.int .i64 (v:Nat),.slice a1 ss.length c1,.slice a2 2 c2,.slice (some ⟨eb,eo,none⟩) env.length ecap,.int .i64 0] 131))).thru bC (fun e=>by simp [Value.ownBlock] at e)
         (refine hK.out _ _ (fun _=>cP) ?_;clear hK K';try simp only [pQ,pN,pZ,pS])
         (refine on 7 ?_;intro o ho K' hK;simp at ho;subst ho)
         refine zT (by rfl) _ _ _ (by rfl) 131 (.agg #[str [],.int .i64 0,.slice none 0 0,.slice none 0 0,.slice none 0 0,.int .i64 0]) 6 104 Tryz.underlying96 Tryz.infoFW rfl (by decide) (.slice a5 st.length c5) st.length xs (by rfl) (dj) _ 1 [str [],.int .i64 (v:Nat),.slice a1 ss.length c1,.slice a2 2 c2,.slice (some ⟨eb,eo,none⟩) env.length ecap,.int .i64 0] (by rfl) (ll) (by unfold maxLen;omega) (by omega) ?_
         intro a7 c7 w7 bI bV bH
         have dX:Below W3.heap.size W3 w7:=cP.trans (bV.toBelow (cP).size fun i hi e=>by have:=fQ.out i e;omega)
         have b6:∀ g,(Value.slice a7 (st.length+1) c7).ownBlock=some g->W3.heap.size<=g:=fun g hg=>by rcases bH g hg with h | h;exact fQ.out g h;exact h_ (cP).size (Nat.le_of_eq h.symm)
         (refine hK.out _ _ (fun _=>dX) ?_;clear hK K';try simp only [pQ,pN,pZ,pS])
         (refine on 8 ?_;intro o ho K' hK;simp at ho;subst ho;go_simp)
         (refine hK.out _ _ (fun _=>dX) ?_;clear hK K';try simp only [pQ,pN,pZ,pS])
         refine kQ (by kernel_rfl) (NoPanic.normal ?_) _
         clear bC dy dj bV bH cP
         have H7:=gl (go bI (go dX b6));clear bI dX b6 bL
         have cn:=H3.out.2.2.1
         have hz7:=H7.out.2.1.size
         have tD:=bf.out.2.2.2.2.zw
         have cG:=H2.out.2.2.1.size
         have dY:=(H7.out.2.1.block W2.heap.size (by omega)).trans H3.out.2.2.2.2
         have eP:=(H7.out.2.1.block w.heap.size (by omega)).trans H3.out.2.2.2.1
         have g5:w7.cell? ⟨W2.heap.size,5,none⟩=some (.slice ta t'.args.length tc):=by simp [World.cell?,dY]
         have g6:w7.cell? ⟨W2.heap.size,6,none⟩=some (.slice ha e'.length hcap):=by simp [World.cell?,dY]
         have x2:w7.cell? ⟨w.heap.size,2,none⟩=some (.slice a1 ss.length c1):=by simp [World.cell?,eP]
         have k7:∀ (i:Nat) (ob:Obj),Fx F w 2 i->W2.heap[i]? = some ob->Fx F w 2 i/\w7.heap[i]? = some ob:=fun i ob hi hh=>by
          have hl:=zZ hh
          exact ⟨hi,by rw [H7.out.2.1.block i (by omega),H3.out.2.1.block i hl];exact hh⟩
         have se:=(y_ (Fx F w 2) e' env ss t' (.slice ha e'.length hcap) (.slice a1 ss.length c1) (.slice ta t'.args.length tc) (.slice (some ⟨eb,eo,none⟩) env.length ecap) w7 ((Rep.keep k7).1 _ _ HM.out.2.2.2.1) ((Rep.keep k7).1 _ _ HK.out.1) ((Rep.keep k7).1 _ _ HM.out.2.1) ((Rep.keep k7).1 _ _ eE.out.2.1) (by omega) HM.out.2.2.2.2.1 (by omega))
         rw [show ((0:Nat):Int)=0 from rfl] at se
         have CH:=gl se;clear se
         have ik:=gl (go dY (go eP k7));clear dY eP k7 cn cG
         go_wp2_with fail
         (with_reducible refine CH.out.mono ?_)
         rintro en w8 ⟨a8,c8,rfl,cF,fX⟩
         have cn:=H3.out.2.2.1
         have hz8:=cF.size
         have ch:=(cF.block W2.heap.size (by omega)).trans ik.out.1
         have bz:=(cF.block w.heap.size (by omega)).trans ik.out.2.1
         have p1:w8.cell? ⟨W2.heap.size,1,none⟩=some (str bs):=by simp [World.cell?,ch]
         have p2:w8.cell? ⟨W2.heap.size,2,none⟩=some (.int .i64 bv):=by simp [World.cell?,ch]
         have p3:w8.cell? ⟨W2.heap.size,3,none⟩=some (.slice fO sh fI):=by simp [World.cell?,ch]
         have p4:w8.cell? ⟨W2.heap.size,4,none⟩=some (.slice fg sg eL):=by simp [World.cell?,ch]
         have d0:w8.cell? ⟨w.heap.size,0,none⟩=some (str []):=by simp [World.cell?,bz]
         have d1:w8.cell? ⟨w.heap.size,1,none⟩=some (.int .i64 (v:Nat)):=by simp [World.cell?,bz]
         have d2:w8.cell? ⟨w.heap.size,2,none⟩=some (.slice a1 ss.length c1):=by simp [World.cell?,bz]
         have d3:w8.cell? ⟨w.heap.size,3,none⟩=some (.slice a2 2 c2):=by simp [World.cell?,bz]
         have f0:w8.frozen? ⟨w.heap.size,0,none⟩=false:=by simp [World.frozen?,bz]
         have f1:w8.frozen? ⟨w.heap.size,1,none⟩=false:=by simp [World.frozen?,bz]
         have f2:w8.frozen? ⟨w.heap.size,2,none⟩=false:=by simp [World.frozen?,bz]
         have f3:w8.frozen? ⟨w.heap.size,3,none⟩=false:=by simp [World.frozen?,bz]
         have H8:=gl (go cF (go fX bz));clear cF fX ch bz g5 g6 x2 cn
         go_upto_region 22 with (fail)
         obtain ⟨W9,nX⟩:=zzN (jd w.heap.size (str bs) (.int .i64 bv) (.slice fO sh fI) (.slice fg sg eL) w8)
         have fM:=nX
         unfold jd at fM
         rw [fM]
         have bg:WAt F ww d (k+1) l n H b' (e'++kL env t'.args ss) (⟨v,ss,y,no,env⟩::st) bs bv fO fg sh fI sg eL (.slice a8 (e'.length+(kL env t'.args ss).length) c8) (.slice a7 (st.length+1) c7) w W9:=by
          have bJ:=bf.out.2.2.2.2
          have cG:=H2.out.2.2.1.size
          have cn:=H3.out.2.2.1
          have cB:But (fun i=>i=w.heap.size) w8 W9:=by rw [<- nX];exact vT (But.refl _ _) rfl
          have eC:But (fun i=>i=ww\/i=w.heap.size) W2 W9:=(((But.ofBelow (m:=fun i=>i=ww\/i=w.heap.size) H3.out.2.1).trans (But.ofBelow (H7.out.2.1))).trans (But.ofBelow H8.out.1)).trans (cB.weak fun i _ h=>.inr h)
          have hz9:=eC.size
          have eJ:(kL env t'.args ss).length=t'.args.length:=uW _ _ HM.out.2.2.2.2.1
          have bi:=HM.out.2.2.2.2.2.2.2.2.1
          have dw:=HM.out.2.2.2.2.2.2.2.2.2
          have mu:=bJ.pre.ld;have lI:=bJ.pre.d20;have ah:=bJ.pre.stl
          have kp:∀ (i:Nat) (ob:Obj),Fx F w 2 i->W2.heap[i]? = some ob->Fx F w 2 i/\W9.heap[i]? = some ob:=fun i ob hi ho=>by
           have hx:=Fx.low' bJ.pre.hF hi (by omega)
           exact ⟨hi,by rw [eC.block i (zZ ho) (fun e=>e.elim hx.1 hx.2)];exact ho⟩
          refine bJ.move ((H2.out.2.2.1.weak fun i _ h=>.inl h).trans eC) ?_ (by rw [<- nX];exact uE H8.out.2.2) HM.out.2.2.2.2.2.1 (by rw [List.length_append,eJ];have:=bi.2.1;have:=HM.out.2.2.2.2.1;omega) (by rw [List.length_cons];omega)
           (qJ _ _ (ze (by omega) _ bi.2.2) (uP (ze (by omega) _ bJ.pre.ok) (by omega) _ _ (zj bi.1).1)) ⟨by show env.length<=_;omega,ze (by omega) _ bJ.pre.ok,qt (by omega) _ bJ.pre.okg⟩
           ⟨dw.1,qH _ _ dw.2 (uK bJ.pre.wf.2.1 _ _ bJ.pre.wf.1.1),fun f hf=>?_⟩ ((Rep.keep kp).2 _ _ HM.out.2.2.1) ?_ ?_
          ·have h:=H2.out.2.1
           unfold Wri at *
           rw [cB.block ww (by omega) (by show ww≠w.heap.size;omega),H8.out.1.block ww (by omega),H7.out.2.1.block ww (by omega),H3.out.2.1.block ww (by omega),h,iq.out]
          ·rw [List.map_cons] at hf
           rcases List.mem_cons.1 hf with rfl | hf
           ·exact ⟨bJ.pre.wf.1.2.1,bJ.pre.wf.1.2.2,bJ.pre.wf.2.1⟩
           ·exact bJ.pre.wf.2.2 f hf
          ·rw [List.length_append]
           refine (Rep.keep fun i ob hi ho=>?_).1 _ _ H8.out.2.1
           have hx:Fx F w 2 i:=by
            rcases hi with h | h
            ·exact h
            ·exact .inr (by omega)
           exact ⟨hx,by rw [cB.block i (zZ ho) (Fx.low' bJ.pre.hF hx (by omega)).2];exact ho⟩
          ·rw [List.length_cons]
           refine (H7.out.1.keep (w':=W9) fun g o hg ho=>?_).rep (fun g hg=>.inr (by have:=H7.out.2.2 g hg;omega)) ?_
           ·have h1:=H7.out.2.2 g hg
            have h2:=zZ ho
            rw [cB.block g (by omega) (by omega),H8.out.1.block g h2];exact ho
           ·rw [jq]
            refine zH.append ((Rep.keep kp).2 _ _ HM.out.2.2.2.2.2.2.1) ?_
            rw [encF]
            exact zH.append ((Rep.keep kp).2 _ _ eE.out.1) (zQ.2 ⟨_,_,rfl,(Rep.keep kp).1 _ _ eE.out.2.1,zQ.2 ⟨_,_,rfl,zF.2 rfl,zB.2 rfl⟩⟩)
         have nW:R=evN d (k+1) l b' (e'++kL env t'.args ss) n (List.map WFr.gf (⟨v,ss,y,no,env⟩::st)):=by
          rw [bf.out.2.1,evN_bd HM.out.1];rfl
         have HN:=gl (go bg (go nW bg.pre.wri))
         clear bg nW fM nX p1 p2 p3 p4 d0 d1 d2 d3 f0 f1 f2 f3
         go_wp2_with fail
         go_roundw
         case rel=>exact ⟨d,l,b',_,_,_,_,_,_,_,_,_,_,by have:=bf.out.1;omega,HN.out.2.1,HN.out.1⟩
         case measure =>
          rw [bf.out.2.2.1]
          refine Nat.lt_of_le_of_lt (Nat.le_of_eq (uG HN.out.2.2)) ?_
          omega
       ·(intro o6 ho K' hK;simp at ho;subst ho)
        go_simp
        (refine hK.out _ _ (fun _=>(bL.alloc (g_ _) (.cells #[str [],.int .i64 (v:Nat),.slice a1 ss.length c1,.slice a2 2 c2,.slice (some ⟨eb,eo,none⟩) env.length ecap,.int .i64 0] 131))) ?_;clear hK K';try simp only [pQ,pN,pZ,pS])
        (refine on 0 ?_;intro o ho K' hK;simp at ho;subst ho;go_simp)
        refine hK.out _ _ (fun _=>?_) ?_
        ·exact ((bL.alloc (g_ _) (.cells #[str [],.int .i64 (v:Nat),.slice a1 ss.length c1,.slice a2 2 c2,.slice (some ⟨eb,eo,none⟩) env.length ecap,.int .i64 0] 131)).alloc (by rw [zK];exact Nat.le_succ _) (.cells #[] 131))
        clear hK K'
        (try simp only [pQ,pN,pZ,pS])
        (refine on 2 ?_;intro o ho K' hK;simp at ho;subst ho)
        refine zT (by rfl) _ _ _ (by rfl) 131 (.agg #[str [],.int .i64 0,.slice none 0 0,.slice none 0 0,.slice none 0 0,.int .i64 0]) 6 104 Tryz.underlying96 Tryz.infoFW rfl (by decide) (.slice (some ⟨W3.heap.size+1,0,none⟩) 0 0) 0 [] (by rfl) (Own.litAt #[] 0 _ (by simp) (by decide) rfl) _ st.length xs (by rfl) (SRC.out _ ((bL.alloc (g_ _) (.cells #[str [],.int .i64 (v:Nat),.slice a1 ss.length c1,.slice a2 2 c2,.slice (some ⟨eb,eo,none⟩) env.length ecap,.int .i64 0] 131)).alloc (by rw [zK];exact Nat.le_succ _) (.cells #[] 131))) (by unfold maxLen;omega) (by omega) ?_
        intro a5 c5 w5 dj bC dy
        simp only [Nat.zero_add,List.nil_append] at dj dy ⊢
        have cP:Below W3.heap.size W3 w5:=((bL.alloc (g_ _) (.cells #[str [],.int .i64 (v:Nat),.slice a1 ss.length c1,.slice a2 2 c2,.slice (some ⟨eb,eo,none⟩) env.length ecap,.int .i64 0] 131)).alloc (by rw [zK];exact Nat.le_succ _) (.cells #[] 131)).trans (bC.toBelow (((bL.alloc (g_ _) (.cells #[str [],.int .i64 (v:Nat),.slice a1 ss.length c1,.slice a2 2 c2,.slice (some ⟨eb,eo,none⟩) env.length ecap,.int .i64 0] 131)).alloc (by rw [zK];exact Nat.le_succ _) (.cells #[] 131))).size fun i hi e=>by simp [Value.ownBlock] at e;omega)
        have fQ:Hid (∀ g,(Value.slice a5 st.length c5).ownBlock=some g->W3.heap.size<=g):=fun g hg=>by rcases dy g hg with h | h;simp [Value.ownBlock] at h;omega;have h:g=W3.heap.size+1+1:=h.trans (vx W3 _ _);omega
        have ll:zS 6 (.slice (some ⟨W3.heap.size,0,none⟩) 1 1) 1 #[str [],.int .i64 (v:Nat),.slice a1 ss.length c1,.slice a2 2 c2,.slice (some ⟨eb,eo,none⟩) env.length ecap,.int .i64 0].toList w5:=((zS.lit1 #[str [],.int .i64 (v:Nat),.slice a1 ss.length c1,.slice a2 2 c2,.slice (some ⟨eb,eo,none⟩) env.length ecap,.int .i64 0] rfl (by simp [str,Value.oneCell']) _ (by simp):zS 6 (.slice (some ⟨W3.heap.size,0,none⟩) 1 1) 1 #[str [],.int .i64 (v:Nat),.slice a1 ss.length c1,.slice a2 2 c2,.slice (some ⟨eb,eo,none⟩) env.length ecap,.int .i64 0].toList (W3.drew.alloc (.cells #[str [],.int .i64 (v:Nat),.slice a1 ss.length c1,.slice a2 2 c2,.slice (some ⟨eb,eo,none⟩) env.length ecap,.int .i64 0] 131))).alloc (.cells #[] 131)).thru bC (fun e=>by simp [Value.ownBlock] at e)
        (refine hK.out _ _ (fun _=>cP) ?_;clear hK K';try simp only [pQ,pN,pZ,pS])
        (refine on 7 ?_;intro o ho K' hK;simp at ho;subst ho)
        refine zT (by rfl) _ _ _ (by rfl) 131 (.agg #[str [],.int .i64 0,.slice none 0 0,.slice none 0 0,.slice none 0 0,.int .i64 0]) 6 104 Tryz.underlying96 Tryz.infoFW rfl (by decide) (.slice a5 st.length c5) st.length xs (by rfl) (dj) _ 1 [str [],.int .i64 (v:Nat),.slice a1 ss.length c1,.slice a2 2 c2,.slice (some ⟨eb,eo,none⟩) env.length ecap,.int .i64 0] (by rfl) (ll) (by unfold maxLen;omega) (by omega) ?_
        intro a7 c7 w7 bI bV bH
        have dX:Below W3.heap.size W3 w7:=cP.trans (bV.toBelow (cP).size fun i hi e=>by have:=fQ.out i e;omega)
        have b6:∀ g,(Value.slice a7 (st.length+1) c7).ownBlock=some g->W3.heap.size<=g:=fun g hg=>by rcases bH g hg with h | h;exact fQ.out g h;exact h_ (cP).size (Nat.le_of_eq h.symm)
        (refine hK.out _ _ (fun _=>dX) ?_;clear hK K';try simp only [pQ,pN,pZ,pS])
        (refine on 8 ?_;intro o ho K' hK;simp at ho;subst ho;go_simp)
        (refine hK.out _ _ (fun _=>dX) ?_;clear hK K';try simp only [pQ,pN,pZ,pS])
        refine kQ (by kernel_rfl) (NoPanic.normal ?_) _
        clear bC dy dj bV bH cP
        have H7:=gl (go bI (go dX b6));clear bI dX b6 bL
        have cn:=H3.out.2.2.1
        have hz7:=H7.out.2.1.size
        have tD:=bf.out.2.2.2.2.zw
        have cG:=H2.out.2.2.1.size
        have dY:=(H7.out.2.1.block W2.heap.size (by omega)).trans H3.out.2.2.2.2
        have eP:=(H7.out.2.1.block w.heap.size (by omega)).trans H3.out.2.2.2.1
        have g5:w7.cell? ⟨W2.heap.size,5,none⟩=some (.slice ta t'.args.length tc):=by simp [World.cell?,dY]
        have g6:w7.cell? ⟨W2.heap.size,6,none⟩=some (.slice ha e'.length hcap):=by simp [World.cell?,dY]
        have x2:w7.cell? ⟨w.heap.size,2,none⟩=some (.slice a1 ss.length c1):=by simp [World.cell?,eP]
        have k7:∀ (i:Nat) (ob:Obj),Fx F w 2 i->W2.heap[i]? = some ob->Fx F w 2 i/\w7.heap[i]? = some ob:=fun i ob hi hh=>by
         have hl:=zZ hh
         exact ⟨hi,by rw [H7.out.2.1.block i (by omega),H3.out.2.1.block i hl];exact hh⟩
        have se:=(y_ (Fx F w 2) e' env ss t' (.slice ha e'.length hcap) (.slice a1 ss.length c1) (.slice ta t'.args.length tc) (.slice (some ⟨eb,eo,none⟩) env.length ecap) w7 ((Rep.keep k7).1 _ _ HM.out.2.2.2.1) ((Rep.keep k7).1 _ _ HK.out.1) ((Rep.keep k7).1 _ _ HM.out.2.1) ((Rep.keep k7).1 _ _ eE.out.2.1) (by omega) HM.out.2.2.2.2.1 (by omega))
        rw [show ((0:Nat):Int)=0 from rfl] at se
        have CH:=gl se;clear se
        have ik:=gl (go dY (go eP k7));clear dY eP k7 cn cG
        go_wp2_with fail
        (with_reducible refine CH.out.mono ?_)
        rintro en w8 ⟨a8,c8,rfl,cF,fX⟩
        have cn:=H3.out.2.2.1
        have hz8:=cF.size
        have ch:=(cF.block W2.heap.size (by omega)).trans ik.out.1
        have bz:=(cF.block w.heap.size (by omega)).trans ik.out.2.1
        have p1:w8.cell? ⟨W2.heap.size,1,none⟩=some (str bs):=by simp [World.cell?,ch]
        have p2:w8.cell? ⟨W2.heap.size,2,none⟩=some (.int .i64 bv):=by simp [World.cell?,ch]
        have p3:w8.cell? ⟨W2.heap.size,3,none⟩=some (.slice fO sh fI):=by simp [World.cell?,ch]
        have p4:w8.cell? ⟨W2.heap.size,4,none⟩=some (.slice fg sg eL):=by simp [World.cell?,ch]
        have d0:w8.cell? ⟨w.heap.size,0,none⟩=some (str []):=by simp [World.cell?,bz]
        have d1:w8.cell? ⟨w.heap.size,1,none⟩=some (.int .i64 (v:Nat)):=by simp [World.cell?,bz]
        have d2:w8.cell? ⟨w.heap.size,2,none⟩=some (.slice a1 ss.length c1):=by simp [World.cell?,bz]
        have d3:w8.cell? ⟨w.heap.size,3,none⟩=some (.slice a2 2 c2):=by simp [World.cell?,bz]
        have f0:w8.frozen? ⟨w.heap.size,0,none⟩=false:=by simp [World.frozen?,bz]
        have f1:w8.frozen? ⟨w.heap.size,1,none⟩=false:=by simp [World.frozen?,bz]
        have f2:w8.frozen? ⟨w.heap.size,2,none⟩=false:=by simp [World.frozen?,bz]
        have f3:w8.frozen? ⟨w.heap.size,3,none⟩=false:=by simp [World.frozen?,bz]
        have H8:=gl (go cF (go fX bz));clear cF fX ch bz g5 g6 x2 cn
        go_upto_region 22 with (fail)
        obtain ⟨W9,nX⟩:=zzN (jd w.heap.size (str bs) (.int .i64 bv) (.slice fO sh fI) (.slice fg sg eL) w8)
        have fM:=nX
        unfold jd at fM
        rw [fM]
        have bg:WAt F ww d (k+1) l n H b' (e'++kL env t'.args ss) (⟨v,ss,y,no,env⟩::st) bs bv fO fg sh fI sg eL (.slice a8 (e'.length+(kL env t'.args ss).length) c8) (.slice a7 (st.length+1) c7) w W9:=by
         have bJ:=bf.out.2.2.2.2
         have cG:=H2.out.2.2.1.size
         have cn:=H3.out.2.2.1
         have cB:But (fun i=>i=w.heap.size) w8 W9:=by rw [<- nX];exact vT (But.refl _ _) rfl
         have eC:But (fun i=>i=ww\/i=w.heap.size) W2 W9:=(((But.ofBelow (m:=fun i=>i=ww\/i=w.heap.size) H3.out.2.1).trans (But.ofBelow (H7.out.2.1))).trans (But.ofBelow H8.out.1)).trans (cB.weak fun i _ h=>.inr h)
         have hz9:=eC.size
         have eJ:(kL env t'.args ss).length=t'.args.length:=uW _ _ HM.out.2.2.2.2.1
         have bi:=HM.out.2.2.2.2.2.2.2.2.1
         have dw:=HM.out.2.2.2.2.2.2.2.2.2
         have mu:=bJ.pre.ld;have lI:=bJ.pre.d20;have ah:=bJ.pre.stl
         have kp:∀ (i:Nat) (ob:Obj),Fx F w 2 i->W2.heap[i]? = some ob->Fx F w 2 i/\W9.heap[i]? = some ob:=fun i ob hi ho=>by
          have hx:=Fx.low' bJ.pre.hF hi (by omega)
          exact ⟨hi,by rw [eC.block i (zZ ho) (fun e=>e.elim hx.1 hx.2)];exact ho⟩
         refine bJ.move ((H2.out.2.2.1.weak fun i _ h=>.inl h).trans eC) ?_ (by rw [<- nX];exact uE H8.out.2.2) HM.out.2.2.2.2.2.1 (by rw [List.length_append,eJ];have:=bi.2.1;have:=HM.out.2.2.2.2.1;omega) (by rw [List.length_cons];omega)
          (qJ _ _ (ze (by omega) _ bi.2.2) (uP (ze (by omega) _ bJ.pre.ok) (by omega) _ _ (zj bi.1).1)) ⟨by show env.length<=_;omega,ze (by omega) _ bJ.pre.ok,qt (by omega) _ bJ.pre.okg⟩
          ⟨dw.1,qH _ _ dw.2 (uK bJ.pre.wf.2.1 _ _ bJ.pre.wf.1.1),fun f hf=>?_⟩ ((Rep.keep kp).2 _ _ HM.out.2.2.1) ?_ ?_
         ·have h:=H2.out.2.1
          unfold Wri at *
          rw [cB.block ww (by omega) (by show ww≠w.heap.size;omega),H8.out.1.block ww (by omega),H7.out.2.1.block ww (by omega),H3.out.2.1.block ww (by omega),h,iq.out]
         ·rw [List.map_cons] at hf
          rcases List.mem_cons.1 hf with rfl | hf
          ·exact ⟨bJ.pre.wf.1.2.1,bJ.pre.wf.1.2.2,bJ.pre.wf.2.1⟩
          ·exact bJ.pre.wf.2.2 f hf
         ·rw [List.length_append]
          refine (Rep.keep fun i ob hi ho=>?_).1 _ _ H8.out.2.1
          have hx:Fx F w 2 i:=by
           rcases hi with h | h
           ·exact h
           ·exact .inr (by omega)
          exact ⟨hx,by rw [cB.block i (zZ ho) (Fx.low' bJ.pre.hF hx (by omega)).2];exact ho⟩
         ·rw [List.length_cons]
          refine (H7.out.1.keep (w':=W9) fun g o hg ho=>?_).rep (fun g hg=>.inr (by have:=H7.out.2.2 g hg;omega)) ?_
          ·have h1:=H7.out.2.2 g hg
           have h2:=zZ ho
           rw [cB.block g (by omega) (by omega),H8.out.1.block g h2];exact ho
          ·rw [jq]
           refine zH.append ((Rep.keep kp).2 _ _ HM.out.2.2.2.2.2.2.1) ?_
           rw [encF]
           exact zH.append ((Rep.keep kp).2 _ _ eE.out.1) (zQ.2 ⟨_,_,rfl,(Rep.keep kp).1 _ _ eE.out.2.1,zQ.2 ⟨_,_,rfl,zF.2 rfl,zB.2 rfl⟩⟩)
        have nW:R=evN d (k+1) l b' (e'++kL env t'.args ss) n (List.map WFr.gf (⟨v,ss,y,no,env⟩::st)):=by
         rw [bf.out.2.1,evN_bd HM.out.1];rfl
        have HN:=gl (go bg (go nW bg.pre.wri))
        clear bg nW fM nX p1 p2 p3 p4 d0 d1 d2 d3 f0 f1 f2 f3
        go_wp2_with fail
        go_roundw
        case rel=>exact ⟨d,l,b',_,_,_,_,_,_,_,_,_,_,by have:=bf.out.1;omega,HN.out.2.1,HN.out.1⟩
        case measure =>
         rw [bf.out.2.2.1]
         refine Nat.lt_of_le_of_lt (Nat.le_of_eq (uG HN.out.2.2)) ?_
         omega
theorem write_any (d:Nat):uF d:=by
 induction d using Nat.strongRecOn with
 | _ d ih=>exact write_step d ih
def uM (F:Nat->Prop) (o:Option Bd) (w:World) (en:Ending) (w':World):Prop :=
 ∃ s v a1 n1 c1 a2 n2 c2,en=.returned (.tuple #[.agg #[str s,.int .i64 v,.slice a1 n1 c1,.slice a2 n2 c2],.bool o.isSome])/\Below w.heap.size w w' /\
   ∀ x,o=some x->zH (fun i=>F i\/w.heap.size<=i) w' (kE x) [str s,.int .i64 v,.slice a1 n1 c1,.slice a2 n2 c2]
theorem uM.drew {F:Nat->Prop} {o:Option Bd} {w w':World} {en:Ending} (h:uM F o w en w'):uM F o w en w'.drew:=by
 obtain ⟨s,v,a1,n1,c1,a2,n2,c2,e,hb,hr⟩:=h
 exact ⟨s,v,a1,n1,c1,a2,n2,c2,e,Below.drew hb,fun x hx=>(hr x hx).drew⟩
structure SAppPre (F:Nat->Prop) (t a:Ty) (rest bs:List Ty) (m n:Bd) (tv bv:Value) (ms ns:Bs) (mv nv:Int) (m_ m9 cY cZ:Option Addr) (ml mo mi mn cV cU cJ b_:Nat) (w:World):Prop where
 ts:t.args=a::rest
 t15:zY t<=15
 bl:bs.length<=100
 b15:∀ t∈bs,zY t<=15
 fit:kn (bs++rest) m (zL bs a n rest) []
 wm:wfB m
 wn:wfB n
 rt:Rep F w (qg t) tv
 rm:zH F w (kE m) [str ms,.int .i64 mv,.slice m_ ml mo,.slice m9 mi mn]
 rn:zH F w (kE n) [str ns,.int .i64 nv,.slice cY cV cU,.slice cZ cJ b_]
 rb:Rep F w (.sl 43 1 bs.length (kd bs)) bv
 hF:∀ i,F i->i<w.heap.size
set_option maxRecDepth 100000 in
theorem l4Apply_any (F:Nat->Prop) (t a:Ty) (rest bs:List Ty) (m n:Bd) (tv bv:Value) (ms ns:Bs) (mv nv:Int) (m_ m9 cY cZ:Option Addr) (ml mo mi mn cV cU cJ b_:Nat) (w:World) (h:SAppPre F t a rest bs m n tv bv ms ns mv nv m_ m9 cY cZ ml mo mi mn cV cU cJ b_ w) :
 Calls Tryz.prog 18 #[.agg #[tv],.agg #[str ms,.int .i64 mv,.slice m_ ml mo,.slice m9 mi mn],.agg #[str ns,.int .i64 nv,.slice cY cV cU,.slice cZ cJ b_],bv] w
  (uM F (qC m (zL bs a n rest) (bs.length+rest.length)) w):=by
 have ee:=h.rt
 rw [k8] at ee
 obtain ⟨ta,tc,e,rK,_,eN⟩:=zE ee
 subst e
 rw [h.ts] at ee rK eN
 obtain ⟨kb,ko,u,d1,e,oL,lH,fx,ni,be⟩:=eN 0 (by simp)
 subst e
 simp only [kd,List.getElem?_cons_zero,Option.some.injEq] at fx
 subst fx
 obtain ⟨ua,uc,rfl⟩:=zu be
 obtain ⟨ba,bc,ebv,_⟩:=zE h.rb
 subst ebv
 have tX:=h.bl
 have hFw:=h.hF
 have hlen:t.args.length=rest.length+1:=by rw [h.ts];rfl
 rw [hlen]
 have cv:=zj h.t15
 have rD:rest.length<=15:=by have:=cv.2;omega
 have sJ:w.cell? ⟨kb,ko,none⟩=some (.slice ua a.args.length uc):=ni
 obtain ⟨W,hW⟩:=zzN (((((w.alloc (.cells #[.slice (some ⟨kb,ko,none⟩) (rest.length+1) tc] 43)).alloc (.cells #[str ms,.int .i64 mv,.slice m_ ml mo,.slice m9 mi mn] 46)).alloc (.cells #[str ns,.int .i64 nv,.slice cY cV cU,.slice cZ cJ b_] 46)).alloc (.cells #[str [],.int .i64 0,.slice none 0 0,.slice none 0 0] 46)).alloc (.cells #[.int .i64 200,.int .i64 0] 90))
 have dL:W.heap.size=w.heap.size+5:=by rw [<- hW];simp only [zK]
 have bE:Below w.heap.size w W:=by rw [<- hW];exact (((((hG _ _).alloc (g_ _) _).alloc (by simp only [zK];omega) _).alloc (by simp only [zK];omega) _).alloc (by simp only [zK];omega) _).alloc (by simp only [zK];omega) _
 have bT:W.heap[w.heap.size]? = some (.cells #[.slice (some ⟨kb,ko,none⟩) (rest.length+1) tc] 43 (0,0)):=by rw [<- hW];exact zV (zV (zV (zV (zR _ _))))
 have bM:W.heap[w.heap.size+1]? = some (.cells #[str ms,.int .i64 mv,.slice m_ ml mo,.slice m9 mi mn] 46 (0,0)):=by
  rw [<- hW];refine zV (zV (zV ?_))
  have:=zR (w.alloc (.cells #[.slice (some ⟨kb,ko,none⟩) (rest.length+1) tc] 43)) (.cells #[str ms,.int .i64 mv,.slice m_ ml mo,.slice m9 mi mn] 46)
  rwa [zK] at this
 have bN:W.heap[w.heap.size+2]? = some (.cells #[str ns,.int .i64 nv,.slice cY cV cU,.slice cZ cJ b_] 46 (0,0)):=by
  rw [<- hW];refine zV (zV ?_)
  have:=zR ((w.alloc (.cells #[.slice (some ⟨kb,ko,none⟩) (rest.length+1) tc] 43)).alloc (.cells #[str ms,.int .i64 mv,.slice m_ ml mo,.slice m9 mi mn] 46)) (.cells #[str ns,.int .i64 nv,.slice cY cV cU,.slice cZ cJ b_] 46)
  simpa only [zK] using this
 have bR:zm (w.heap.size+3) 0 (.slice none 0 0) (.slice none 0 0) W:=by
  unfold zm
  rw [<- hW];refine zV ?_
  have:=zR (((w.alloc (.cells #[.slice (some ⟨kb,ko,none⟩) (rest.length+1) tc] 43)).alloc (.cells #[str ms,.int .i64 mv,.slice m_ ml mo,.slice m9 mi mn] 46)).alloc (.cells #[str ns,.int .i64 nv,.slice cY cV cU,.slice cZ cJ b_] 46)) (.cells #[str [],.int .i64 0,.slice none 0 0,.slice none 0 0] 46)
  simpa only [zK] using this
 have bW:Wri W (w.heap.size+4) 200 0:=by
  unfold Wri
  rw [<- hW]
  have:=zR ((((w.alloc (.cells #[.slice (some ⟨kb,ko,none⟩) (rest.length+1) tc] 43)).alloc (.cells #[str ms,.int .i64 mv,.slice m_ ml mo,.slice m9 mi mn] 46)).alloc (.cells #[str ns,.int .i64 nv,.slice cY cV cU,.slice cZ cJ b_] 46)).alloc (.cells #[str [],.int .i64 0,.slice none 0 0,.slice none 0 0] 46)) (.cells #[.int .i64 200,.int .i64 0] 90)
  simpa only [zK] using this
 have C1:=yE F 0 bs _ W (Rep.below bE (fun _ h=>h) h.rb) (by omega) (by omega)
 rw [show ((0:Nat):Int)=0 from rfl] at C1
 have C1:=gl C1
 have HP:=gl h
 have HFw:=gl hFw;clear hFw
 have HT:=gl (go ee (go be (go rK (go cv hlen))))
 have HW:=gl (go hW (go dL (go bE (go bT (go bM (go bN (go bR bW)))))))
 clear h ee be rK cv hlen eN hW dL bE bT bM bN bR bW ni
 go_enter Tryz.func18,Tryz.ntmps18
 go_upto_region 2 with (fail)
 rw [HW.out.1]
 go_wp2_with fail
 (with_reducible refine C1.out.mono ?_)
 rintro en w1 ⟨oa,oc,oxs,rfl,oN,cK,bQ,BH⟩
 have dL:=HW.out.2.1
 have d6:=bQ.size
 have b1:=fun {i:Nat} {o:Obj} (hi:i<W.heap.size) (h:W.heap[i]? = some o)=>(bQ.block i hi).trans h
 have bT1:=b1 (by omega) HW.out.2.2.2.1
 have bN1:=b1 (by omega) HW.out.2.2.2.2.2.1
 obtain ⟨n0,n1,n2,n3⟩:=qO bN1
 have t0:w1.cell? ⟨w.heap.size,0,none⟩=some (.slice (some ⟨kb,ko,none⟩) (rest.length+1) tc):=by simp [World.cell?,bT1]
 have k1:w1.cell? ⟨kb,ko,none⟩=some (.slice ua a.args.length uc):=(bQ.cell (by show kb<W.heap.size;omega)).trans ((HW.out.2.2.1.cell lH).trans sJ)
 have SX:Hid (∀ w',Below w1.heap.size w1 w'->w'.cell? ⟨w.heap.size+2,0,none⟩=some (str ns)/\w'.cell? ⟨w.heap.size+2,1,none⟩=some (.int .i64 nv)/\w'.cell? ⟨w.heap.size+2,2,none⟩=some (.slice cY cV cU)/\w'.cell? ⟨w.heap.size+2,3,none⟩=some (.slice cZ cJ b_) /\
  w'.cell? ⟨w.heap.size,0,none⟩=some (.slice (some ⟨kb,ko,none⟩) (rest.length+1) tc)/\w'.cell? ⟨kb,ko,none⟩=some (.slice ua a.args.length uc)):=by
  show ∀ w',_->_
  intro w' bj
  exact ⟨(bj.cell (hU _ _ n0)).trans n0,(bj.cell (hU _ _ n1)).trans n1,(bj.cell (hU _ _ n2)).trans n2,(bj.cell (hU _ _ n3)).trans n3,(bj.cell (hU _ _ t0)).trans t0,(bj.cell (hU _ _ k1)).trans k1⟩
 have H1:=gl (go oN (go cK (go bQ BH)))
 clear oN cK bQ BH b1 bT1 bN1 n0 n1 n2 n3 t0 k1 sJ C1
 go_wp2_with fail
 refine wp_region_noPanic ?_
 refine kx (fun w'=>Below w1.heap.size w1 w') (fun _=>false) (by kernel_rfl) ?_
 have bL:Below w1.heap.size w1 w1.drew:=Below.drew (hG _ _)
 refine tk [0,1,2,3,4,5,6] bL ?_
 (intro d hd;simp [tkD] at hd;subst hd;simp only [tks,pQ,pZ,pS])
 iterate 7 (refine ⟨?_,?_,?_⟩;rotate_left;· (intro oi ho;simp at ho;subst ho;refine Or.inl ⟨by rfl,fun w' cL=>?_⟩;obtain ⟨e0,e1,e2,e3,e4,e5⟩:=SX.out w' cL;go_simp;try with_reducible rfl))
 (refine on 7 ?_;intro o ho K' hK;simp at ho;subst ho;go_simp)
 (refine hK.out _ _ (fun _=>bL.alloc (g_ _) _) ?_;clear hK K';try simp only [pQ,pN,pZ,pS])
 (refine on 8 ?_;intro o ho K' hK;simp at ho;subst ho;go_simp)
 (refine hK.out _ _ (fun _=>bL.alloc (g_ _) _) ?_;clear hK K';try simp only [pQ,pN,pZ,pS])
 refine kQ (by kernel_rfl) (NoPanic.normal ?_) _
 obtain ⟨W2,cC⟩:=zzN ((w1.alloc (.cells #[.int .i64 (-1),.string ⟨ns.toArray⟩,.int .i64 nv,.slice cY cV cU,.slice cZ cJ b_,.slice ua a.args.length uc,.slice oa bs.length oc,.int .i64 0,.int .i64 0] 94)).drew)
 rw [cC]
 have bZ:Below w1.heap.size w1 W2:=by rw [<- cC];exact Below.drew ((hG _ _).alloc (g_ _) _)
 have cG:W2.heap.size=w1.heap.size+1:=by rw [<- cC];exact zK _ _
 have o7:W2.heap[w1.heap.size]? = some (.cells #[.int .i64 (-1),str ns,.int .i64 nv,.slice cY cV cU,.slice cZ cJ b_,.slice ua a.args.length uc,.slice oa bs.length oc,.int .i64 0,.int .i64 0] 94 (0,0)):=by rw [<- cC];exact zR _ _
 have SY:Hid (∀ w',Below W2.heap.size W2 w'->w'.cell? ⟨w1.heap.size,0,none⟩=some (.int .i64 (-1))/\w'.cell? ⟨w1.heap.size,1,none⟩=some (str ns)/\w'.cell? ⟨w1.heap.size,2,none⟩=some (.int .i64 nv)/\w'.cell? ⟨w1.heap.size,3,none⟩=some (.slice cY cV cU)/\w'.cell? ⟨w1.heap.size,4,none⟩=some (.slice cZ cJ b_) /\
  w'.cell? ⟨w1.heap.size,5,none⟩=some (.slice ua a.args.length uc)/\w'.cell? ⟨w1.heap.size,6,none⟩=some (.slice oa bs.length oc)/\w'.cell? ⟨w1.heap.size,7,none⟩=some (.int .i64 0)/\w'.cell? ⟨w1.heap.size,8,none⟩=some (.int .i64 0)):=by
  show ∀ w',_->_
  intro w' bj
  have h:=(bj.block w1.heap.size (by omega)).trans o7
  simp [World.cell?,h]
 have af:zS 9 (.slice oa bs.length oc) bs.length oxs w1:=H1.out.1.src (qm _ _ H1.out.2.1)
 have SRC:Hid (∀ w',Below W2.heap.size W2 w'->zS 9 (.slice oa bs.length oc) bs.length oxs w'):=by
  show ∀ w',_->_
  intro w' bj
  exact (af.belowAll bZ (g_ _)).belowAll bj (g_ _)
 have H2:=gl (go bZ (go cG o7))
 clear cC bZ o7 af bL cG dL d6
 go_wp2_with fail
 refine cut_code (X:=Nat×Nat×Option Addr×Nat×Option Addr×Nat) (fun ac x=>(((((((ac.put (some 29) (.slice (some ⟨x.1,0,none⟩) 0 0)).put (some 30) (.slice oa bs.length oc)).put (some 31) (.slice x.2.2.1 (bs.length) x.2.2.2.1)).put (some 32) (.agg #[.int .i64 (-1),str ns,.int .i64 nv,.slice cY cV cU,.slice cZ cJ b_,.slice ua a.args.length uc,.slice oa bs.length oc,.int .i64 0,.int .i64 0])).put (some 33) (.slice (some ⟨x.2.1,0,none⟩) 1 1)).put (some 34) (.slice x.2.2.2.2.1 (bs.length+1) x.2.2.2.2.2)).put (some 14) (.slice x.2.2.2.2.1 (bs.length+1) x.2.2.2.2.2))) (fun x w7=>Own w7 94 9 (.slice x.2.2.2.2.1 (bs.length+1) x.2.2.2.2.2) (bs.length+1) (oxs++[.int .i64 (-1),str ns,.int .i64 nv,.slice cY cV cU,.slice cZ cJ b_,.slice ua a.args.length uc,.slice oa bs.length oc,.int .i64 0,.int .i64 0])/\Below W2.heap.size W2 w7/\∀ g,(Value.slice x.2.2.2.2.1 (bs.length+1) x.2.2.2.2.2).ownBlock=some g->W2.heap.size<=g) ?_ ?_
 ·refine wp_region_noPanic ?_
  refine kx (fun w'=>Below W2.heap.size W2 w') (fun _=>false) (by kernel_rfl) ?_
  have bL:Below W2.heap.size W2 W2.drew:=Below.drew (hG _ _)
  refine tk [1,3] bL ?_
  (intro d hd;simp [tkD] at hd;subst hd;simp only [tks,pQ,pZ,pS])
  iterate 2 (refine ⟨?_,?_,?_⟩;rotate_left;· (intro oi ho;simp at ho;subst ho;refine Or.inl ⟨by rfl,fun w' cL=>?_⟩;obtain ⟨e0,e1,e2,e3,e4,e5,e6,e7,e8⟩:=SY.out w' cL;go_simp;try with_reducible rfl))
  refine uA 0 4 (by kernel_rfl) ?_ ?_
  ·(intro o0 ho K' hK;simp at ho;subst ho)
   go_simp
   (refine hK.out _ _ (fun _=>(bL.alloc (g_ _) (.cells #[] 94))) ?_;clear hK K';try simp only [pQ,pN,pZ,pS])
   refine uA 2 4 (by kernel_rfl) ?_ ?_
   ·(intro o2 ho K' hK;simp at ho;subst ho)
    refine zT (by rfl) _ _ _ (by rfl) 94 (.agg #[.int .i64 0,str [],.int .i64 0,.slice none 0 0,.slice none 0 0,.slice none 0 0,.slice none 0 0,.int .i64 0,.int .i64 0]) 9 144 Tryz.underlying91 Tryz.infoBo rfl (by decide) (.slice (some ⟨W2.heap.size,0,none⟩) 0 0) 0 [] (by rfl) (Own.litAt #[] 0 _ rfl (by decide) rfl) _ bs.length oxs (by rfl) (SRC.out _ (bL.alloc (g_ _) (.cells #[] 94))) (by unfold maxLen;omega) (by omega) ?_
    intro a5 c5 w5 dj bC dy
    simp only [Nat.zero_add,List.nil_append] at dj dy ⊢
    have cP:Below W2.heap.size W2 w5:=(bL.alloc (g_ _) (.cells #[] 94)).trans (bC.toBelow ((bL.alloc (g_ _) (.cells #[] 94))).size fun i hi e=>by simp [Value.ownBlock] at e;omega)
    have fQ:Hid (∀ g,(Value.slice a5 (bs.length) c5).ownBlock=some g->W2.heap.size<=g):=fun g hg=>by rcases dy g hg with h | h;simp [Value.ownBlock] at h;omega;have h:g=W2.heap.size+1:=h.trans (zK _ _);omega
    (refine hK.out _ _ (fun _=>cP) ?_;clear hK K';try simp only [pQ,pN,pZ,pS])
    (refine on 4 ?_;intro o ho K' hK;simp at ho;subst ho;go_simp)
    (refine hK.out _ _ (fun _=>cP.alloc cP.size _) ?_;clear hK K';try simp only [pQ,pN,pZ,pS])
    (refine on 5 ?_;intro o ho K' hK;simp at ho;subst ho)
    refine zT (by rfl) _ _ _ (by rfl) 94 (.agg #[.int .i64 0,str [],.int .i64 0,.slice none 0 0,.slice none 0 0,.slice none 0 0,.slice none 0 0,.int .i64 0,.int .i64 0]) 9 144 Tryz.underlying91 Tryz.infoBo rfl (by decide) (.slice a5 (bs.length) c5) (bs.length) oxs (by rfl) (dj.alloc _) _ 1 [.int .i64 (-1),str ns,.int .i64 nv,.slice cY cV cU,.slice cZ cJ b_,.slice ua a.args.length uc,.slice oa bs.length oc,.int .i64 0,.int .i64 0] (by rfl) (zS.lit1 #[.int .i64 (-1),str ns,.int .i64 nv,.slice cY cV cU,.slice cZ cJ b_,.slice ua a.args.length uc,.slice oa bs.length oc,.int .i64 0,.int .i64 0] rfl (by simp [str,Value.oneCell']) _ (by rfl)) (by unfold maxLen;omega) (by omega) ?_
    intro a7 c7 w7 bI bV bH
    have dX:Below W2.heap.size W2 w7:=(cP.alloc cP.size (.cells #[.int .i64 (-1),str ns,.int .i64 nv,.slice cY cV cU,.slice cZ cJ b_,.slice ua a.args.length uc,.slice oa bs.length oc,.int .i64 0,.int .i64 0] 94)).trans (bV.toBelow ((cP.alloc cP.size (.cells #[.int .i64 (-1),str ns,.int .i64 nv,.slice cY cV cU,.slice cZ cJ b_,.slice ua a.args.length uc,.slice oa bs.length oc,.int .i64 0,.int .i64 0] 94))).size fun i hi e=>by have:=fQ.out i e;omega)
    have b6:∀ g,(Value.slice a7 (bs.length+1) c7).ownBlock=some g->W2.heap.size<=g:=fun g hg=>by rcases bH g hg with h | h;exact fQ.out g h;exact h_ ((cP.alloc cP.size (.cells #[.int .i64 (-1),str ns,.int .i64 nv,.slice cY cV cU,.slice cZ cJ b_,.slice ua a.args.length uc,.slice oa bs.length oc,.int .i64 0,.int .i64 0] 94))).size (Nat.le_of_eq h.symm)
    (refine hK.out _ _ (fun _=>dX) ?_;clear hK K';try simp only [pQ,pN,pZ,pS])
    (refine on 6 ?_;intro o ho K' hK;simp at ho;subst ho;go_simp)
    (refine hK.out _ _ (fun _=>dX) ?_;clear hK K';try simp only [pQ,pN,pZ,pS])
    refine kQ (by kernel_rfl) (NoPanic.normal ?_) _
    clear bC dy dj bV bH cP bL fQ
    exact ⟨rfl,⟨_,_,a5,c5,a7,c7⟩,by rfl,bI,dX,b6⟩
   ·(intro o4 ho K' hK;simp at ho;subst ho)
    go_simp
    refine hK.out _ _ (fun _=>?_) ?_
    ·exact ((bL.alloc (g_ _) (.cells #[] 94)).alloc (by rw [zK];exact Nat.le_succ _) (.cells #[.int .i64 (-1),str ns,.int .i64 nv,.slice cY cV cU,.slice cZ cJ b_,.slice ua a.args.length uc,.slice oa bs.length oc,.int .i64 0,.int .i64 0] 94))
    clear hK K'
    (try simp only [pQ,pN,pZ,pS])
    (refine on 2 ?_;intro o ho K' hK;simp at ho;subst ho)
    refine zT (by rfl) _ _ _ (by rfl) 94 (.agg #[.int .i64 0,str [],.int .i64 0,.slice none 0 0,.slice none 0 0,.slice none 0 0,.slice none 0 0,.int .i64 0,.int .i64 0]) 9 144 Tryz.underlying91 Tryz.infoBo rfl (by decide) (.slice (some ⟨W2.heap.size,0,none⟩) 0 0) 0 [] (by rfl) ((Own.litAt #[] 0 _ rfl (by decide) rfl).alloc _) _ bs.length oxs (by rfl) (SRC.out _ ((bL.alloc (g_ _) (.cells #[] 94)).alloc (by rw [zK];exact Nat.le_succ _) (.cells #[.int .i64 (-1),str ns,.int .i64 nv,.slice cY cV cU,.slice cZ cJ b_,.slice ua a.args.length uc,.slice oa bs.length oc,.int .i64 0,.int .i64 0] 94))) (by unfold maxLen;omega) (by omega) ?_
    intro a5 c5 w5 dj bC dy
    simp only [Nat.zero_add,List.nil_append] at dj dy ⊢
    have cP:Below W2.heap.size W2 w5:=((bL.alloc (g_ _) (.cells #[] 94)).alloc (by rw [zK];exact Nat.le_succ _) (.cells #[.int .i64 (-1),str ns,.int .i64 nv,.slice cY cV cU,.slice cZ cJ b_,.slice ua a.args.length uc,.slice oa bs.length oc,.int .i64 0,.int .i64 0] 94)).trans (bC.toBelow (((bL.alloc (g_ _) (.cells #[] 94)).alloc (by rw [zK];exact Nat.le_succ _) (.cells #[.int .i64 (-1),str ns,.int .i64 nv,.slice cY cV cU,.slice cZ cJ b_,.slice ua a.args.length uc,.slice oa bs.length oc,.int .i64 0,.int .i64 0] 94))).size fun i hi e=>by simp [Value.ownBlock] at e;omega)
    have fQ:Hid (∀ g,(Value.slice a5 (bs.length) c5).ownBlock=some g->W2.heap.size<=g):=fun g hg=>by rcases dy g hg with h | h;simp [Value.ownBlock] at h;omega;have h:g=W2.heap.size+1+1:=h.trans (vx W2 _ _);omega
    have ll:zS 9 (.slice (some ⟨W2.heap.size+1,0,none⟩) 1 1) 1 #[.int .i64 (-1),str ns,.int .i64 nv,.slice cY cV cU,.slice cZ cJ b_,.slice ua a.args.length uc,.slice oa bs.length oc,.int .i64 0,.int .i64 0].toList w5:=(zS.lit1 #[.int .i64 (-1),str ns,.int .i64 nv,.slice cY cV cU,.slice cZ cJ b_,.slice ua a.args.length uc,.slice oa bs.length oc,.int .i64 0,.int .i64 0] rfl (by simp [str,Value.oneCell']) _ (by simp):zS 9 (.slice (some ⟨W2.heap.size+1,0,none⟩) 1 1) 1 #[.int .i64 (-1),str ns,.int .i64 nv,.slice cY cV cU,.slice cZ cJ b_,.slice ua a.args.length uc,.slice oa bs.length oc,.int .i64 0,.int .i64 0].toList ((W2.drew.alloc (.cells #[] 94)).alloc (.cells #[.int .i64 (-1),str ns,.int .i64 nv,.slice cY cV cU,.slice cZ cJ b_,.slice ua a.args.length uc,.slice oa bs.length oc,.int .i64 0,.int .i64 0] 94))).thru bC (fun e=>by simp [Value.ownBlock] at e)
    (refine hK.out _ _ (fun _=>cP) ?_;clear hK K';try simp only [pQ,pN,pZ,pS])
    (refine on 5 ?_;intro o ho K' hK;simp at ho;subst ho)
    refine zT (by rfl) _ _ _ (by rfl) 94 (.agg #[.int .i64 0,str [],.int .i64 0,.slice none 0 0,.slice none 0 0,.slice none 0 0,.slice none 0 0,.int .i64 0,.int .i64 0]) 9 144 Tryz.underlying91 Tryz.infoBo rfl (by decide) (.slice a5 (bs.length) c5) (bs.length) oxs (by rfl) (dj) _ 1 [.int .i64 (-1),str ns,.int .i64 nv,.slice cY cV cU,.slice cZ cJ b_,.slice ua a.args.length uc,.slice oa bs.length oc,.int .i64 0,.int .i64 0] (by rfl) (ll) (by unfold maxLen;omega) (by omega) ?_
    intro a7 c7 w7 bI bV bH
    have dX:Below W2.heap.size W2 w7:=cP.trans (bV.toBelow (cP).size fun i hi e=>by have:=fQ.out i e;omega)
    have b6:∀ g,(Value.slice a7 (bs.length+1) c7).ownBlock=some g->W2.heap.size<=g:=fun g hg=>by rcases bH g hg with h | h;exact fQ.out g h;exact h_ (cP).size (Nat.le_of_eq h.symm)
    (refine hK.out _ _ (fun _=>dX) ?_;clear hK K';try simp only [pQ,pN,pZ,pS])
    (refine on 6 ?_;intro o ho K' hK;simp at ho;subst ho;go_simp)
    (refine hK.out _ _ (fun _=>dX) ?_;clear hK K';try simp only [pQ,pN,pZ,pS])
    refine kQ (by kernel_rfl) (NoPanic.normal ?_) _
    clear bC dy dj bV bH cP bL fQ
    exact ⟨rfl,⟨_,_,a5,c5,a7,c7⟩,by rfl,bI,dX,b6⟩
  ·(intro o4 ho K' hK;simp at ho;subst ho)
   go_simp
   (refine hK.out _ _ (fun _=>(bL.alloc (g_ _) (.cells #[.int .i64 (-1),str ns,.int .i64 nv,.slice cY cV cU,.slice cZ cJ b_,.slice ua a.args.length uc,.slice oa bs.length oc,.int .i64 0,.int .i64 0] 94))) ?_;clear hK K';try simp only [pQ,pN,pZ,pS])
   (refine on 0 ?_;intro o ho K' hK;simp at ho;subst ho;go_simp)
   refine hK.out _ _ (fun _=>?_) ?_
   ·exact ((bL.alloc (g_ _) (.cells #[.int .i64 (-1),str ns,.int .i64 nv,.slice cY cV cU,.slice cZ cJ b_,.slice ua a.args.length uc,.slice oa bs.length oc,.int .i64 0,.int .i64 0] 94)).alloc (by rw [zK];exact Nat.le_succ _) (.cells #[] 94))
   clear hK K'
   (try simp only [pQ,pN,pZ,pS])
   (refine on 2 ?_;intro o ho K' hK;simp at ho;subst ho)
   refine zT (by rfl) _ _ _ (by rfl) 94 (.agg #[.int .i64 0,str [],.int .i64 0,.slice none 0 0,.slice none 0 0,.slice none 0 0,.slice none 0 0,.int .i64 0,.int .i64 0]) 9 144 Tryz.underlying91 Tryz.infoBo rfl (by decide) (.slice (some ⟨W2.heap.size+1,0,none⟩) 0 0) 0 [] (by rfl) (Own.litAt #[] 0 _ (by simp) (by decide) rfl) _ bs.length oxs (by rfl) (SRC.out _ ((bL.alloc (g_ _) (.cells #[.int .i64 (-1),str ns,.int .i64 nv,.slice cY cV cU,.slice cZ cJ b_,.slice ua a.args.length uc,.slice oa bs.length oc,.int .i64 0,.int .i64 0] 94)).alloc (by rw [zK];exact Nat.le_succ _) (.cells #[] 94))) (by unfold maxLen;omega) (by omega) ?_
   intro a5 c5 w5 dj bC dy
   simp only [Nat.zero_add,List.nil_append] at dj dy ⊢
   have cP:Below W2.heap.size W2 w5:=((bL.alloc (g_ _) (.cells #[.int .i64 (-1),str ns,.int .i64 nv,.slice cY cV cU,.slice cZ cJ b_,.slice ua a.args.length uc,.slice oa bs.length oc,.int .i64 0,.int .i64 0] 94)).alloc (by rw [zK];exact Nat.le_succ _) (.cells #[] 94)).trans (bC.toBelow (((bL.alloc (g_ _) (.cells #[.int .i64 (-1),str ns,.int .i64 nv,.slice cY cV cU,.slice cZ cJ b_,.slice ua a.args.length uc,.slice oa bs.length oc,.int .i64 0,.int .i64 0] 94)).alloc (by rw [zK];exact Nat.le_succ _) (.cells #[] 94))).size fun i hi e=>by simp [Value.ownBlock] at e;omega)
   have fQ:Hid (∀ g,(Value.slice a5 (bs.length) c5).ownBlock=some g->W2.heap.size<=g):=fun g hg=>by rcases dy g hg with h | h;simp [Value.ownBlock] at h;omega;have h:g=W2.heap.size+1+1:=h.trans (vx W2 _ _);omega
   have ll:zS 9 (.slice (some ⟨W2.heap.size,0,none⟩) 1 1) 1 #[.int .i64 (-1),str ns,.int .i64 nv,.slice cY cV cU,.slice cZ cJ b_,.slice ua a.args.length uc,.slice oa bs.length oc,.int .i64 0,.int .i64 0].toList w5:=((zS.lit1 #[.int .i64 (-1),str ns,.int .i64 nv,.slice cY cV cU,.slice cZ cJ b_,.slice ua a.args.length uc,.slice oa bs.length oc,.int .i64 0,.int .i64 0] rfl (by simp [str,Value.oneCell']) _ (by simp):zS 9 (.slice (some ⟨W2.heap.size,0,none⟩) 1 1) 1 #[.int .i64 (-1),str ns,.int .i64 nv,.slice cY cV cU,.slice cZ cJ b_,.slice ua a.args.length uc,.slice oa bs.length oc,.int .i64 0,.int .i64 0].toList (W2.drew.alloc (.cells #[.int .i64 (-1),str ns,.int .i64 nv,.slice cY cV cU,.slice cZ cJ b_,.slice ua a.args.length uc,.slice oa bs.length oc,.int .i64 0,.int .i64 0] 94))).alloc (.cells #[] 94)).thru bC (fun e=>by simp [Value.ownBlock] at e)
   (refine hK.out _ _ (fun _=>cP) ?_;clear hK K';try simp only [pQ,pN,pZ,pS])
   (refine on 5 ?_;intro o ho K' hK;simp at ho;subst ho)
   refine zT (by rfl) _ _ _ (by rfl) 94 (.agg #[.int .i64 0,str [],.int .i64 0,.slice none 0 0,.slice none 0 0,.slice none 0 0,.slice none 0 0,.int .i64 0,.int .i64 0]) 9 144 Tryz.underlying91 Tryz.infoBo rfl (by decide) (.slice a5 (bs.length) c5) (bs.length) oxs (by rfl) (dj) _ 1 [.int .i64 (-1),str ns,.int .i64 nv,.slice cY cV cU,.slice cZ cJ b_,.slice ua a.args.length uc,.slice oa bs.length oc,.int .i64 0,.int .i64 0] (by rfl) (ll) (by unfold maxLen;omega) (by omega) ?_
   intro a7 c7 w7 bI bV bH
   have dX:Below W2.heap.size W2 w7:=cP.trans (bV.toBelow (cP).size fun i hi e=>by have:=fQ.out i e;omega)
   have b6:∀ g,(Value.slice a7 (bs.length+1) c7).ownBlock=some g->W2.heap.size<=g:=fun g hg=>by rcases bH g hg with h | h;exact fQ.out g h;exact h_ (cP).size (Nat.le_of_eq h.symm)
   (refine hK.out _ _ (fun _=>dX) ?_;clear hK K';try simp only [pQ,pN,pZ,pS])
   (refine on 6 ?_;intro o ho K' hK;simp at ho;subst ho;go_simp)
   (refine hK.out _ _ (fun _=>dX) ?_;clear hK K';try simp only [pQ,pN,pZ,pS])
   refine kQ (by kernel_rfl) (NoPanic.normal ?_) _
   clear bC dy dj bV bH cP bL fQ
   exact ⟨rfl,⟨_,_,a5,c5,a7,c7⟩,by rfl,bI,dX,b6⟩
 rintro ⟨gE,gL,a5,c5,a7,c7⟩ w7 ⟨bI,dX,b6⟩
 simp only [pQ,pN,pZ,pS]
 have H7:=gl (go bI (go dX b6));clear bI dX b6
 have lp:Below w1.heap.size w1 w7:=H2.out.1.trans (H7.out.2.1.mono (by have:=H2.out.2.1;omega))
 have aY:Below W.heap.size W w7:=zzT H1.out.2.2.1 lp
 have mg:Below w.heap.size w w7:=zzT HW.out.2.2.1 aY
 have t7:w7.cell? ⟨w.heap.size,0,none⟩=some (.slice (some ⟨kb,ko,none⟩) (rest.length+1) tc):=by
  have h:=(aY.block w.heap.size (by have:=HW.out.2.1;omega)).trans HW.out.2.2.2.1
  simp [World.cell?,h]
 have eg:¬ tc=1->Rep F w7 (.sl 43 1 rest.length (kd rest)) (.slice (some ⟨kb,ko+1,none⟩) rest.length (tc-1)):=fun _=>Rep.below mg (fun _ h=>h) (ur (d:=qg a) HT.out.1)
 have sq:tc=1->rest=[]/\Rep F w7 (.sl 43 1 rest.length (kd rest)) (.slice (some ⟨kb,ko,none⟩) rest.length 0):=fun h=>by
  obtain rfl:rest=[]:=by
   have h1:=HT.out.2.2.1
   rw [h] at h1
   simp at h1;exact h1
  exact ⟨rfl,zp.2 ⟨by simp [kd],_,_,rfl,Nat.zero_le _,fun h=>by simp at h,.inl rfl⟩⟩
 have H8:=gl (go lp (go aY mg));clear lp aY mg
 by_cases mS:tc=1
 ·have Cb:=(sq mS).2
  subst mS
  have htc0:(rest.length:Int)=0:=by have:=HT.out.2.2.1;simp at this;simp [this]
  clear sq eg
  have C6:=gl (yE F bs.length rest _ w7 Cb (by omega) (by omega));clear Cb
  go_wp2_with fail
  (with_reducible refine C6.out.mono ?_)
  rintro en w8 ⟨a8,c8,Ad,rfl,rA,fX,cF,lS⟩
  have rL:=H7.out.1.keep (w':=w8) fun g o hg hh=>by rw [cF.block g (zZ hh)];exact hh
  have ff:=rA.src (qm _ _ fX)
  have HA:=gl (go rL (go ff (go fX cF)));clear rL ff rA fX cF lS
  go_wp2_with (at_builtin;refine zP rfl _ _ 91 rfl 94 (.agg #[.int .i64 0,str [],.int .i64 0,.slice none 0 0,.slice none 0 0,.slice none 0 0,.slice none 0 0,.int .i64 0,.int .i64 0]) 9 144 Tryz.underlying91 Tryz.infoBo rfl (by decide) (.slice a7 (bs.length+1) c7) (bs.length+1) _ rfl HA.out.1 _ rest.length Ad rfl HA.out.2.1 (by unfold maxLen;omega) (by omega) ?_)
  intro a9 c9 w9 AW cB BB
  have mc:Below W2.heap.size W2 w9:=(zzT H7.out.2.1 HA.out.2.2.2).trans (cB.toBelow (by have:=H7.out.2.1.size;have:=HA.out.2.2.2.size;omega) fun i hi e=>by have:=H7.out.2.2 i e;omega)
  have sU:∀ g,(Value.slice a9 (bs.length+1+rest.length) c9).ownBlock=some g->W2.heap.size<=g:=fun g hg=>by
   rcases BB g hg with h | h
   ·exact H7.out.2.2 g h
   ·have:=H7.out.2.1.size;have:=HA.out.2.2.2.size;omega
  have eH:Below W.heap.size W w9:=H1.out.2.2.1.trans ((H2.out.1.trans (mc.mono (by have:=H2.out.2.1;omega))).mono H1.out.2.2.1.size)
  have dL:=HW.out.2.1
  have sQ:∀ {i:Nat} {o:Obj},i<W.heap.size->W.heap[i]? = some o->w9.heap[i]? = some o:=fun hi h=>(eH.block _ hi).trans h
  have Cq:=sQ (by omega) HW.out.2.2.2.1
  have Cs:=sQ (by omega) HW.out.2.2.2.2.1
  have Cr:zm (w.heap.size+3) 0 (.slice none 0 0) (.slice none 0 0) w9:=sQ (by omega) HW.out.2.2.2.2.2.2.1
  have Cp:Wri w9 (w.heap.size+4) 200 0:=sQ (by omega) HW.out.2.2.2.2.2.2.2
  obtain ⟨m0,m1,m2,m3⟩:=qO Cs
  have t9:w9.cell? ⟨w.heap.size,0,none⟩=some (.slice (some ⟨kb,ko,none⟩) (rest.length+1) 1):=by simp [World.cell?,Cq]
  have t9':(w9.alloc (.cells #[] 131)).cell? ⟨w.heap.size,0,none⟩=some (.slice (some ⟨kb,ko,none⟩) (rest.length+1) 1):=zJ t9
  have mp:Below w.heap.size w (w9.alloc (.cells #[] 131)):=(zzT HW.out.2.2.1 eH).alloc (by have:=eH.size;omega) _
  have tL:zH (fun i=>(F i/\i<w.heap.size)\/w.heap.size+5<=i) w9 (za (zL bs a n rest)) (oxs++([.int .i64 (-1),str ns,.int .i64 nv,.slice cY cV cU,.slice cZ cJ b_,.slice ua a.args.length uc,.slice oa bs.length oc,.int .i64 0,.int .i64 0]++Ad)):=by
   have kw:∀ (i:Nat) (o:Obj),F i->w.heap[i]? = some o->((F i/\i<w.heap.size)\/w.heap.size+5<=i)/\w9.heap[i]? = some o:=fun i o hi ho=>⟨.inl ⟨hi,zZ ho⟩,by rw [eH.block i (by have:=zZ ho;omega),HW.out.2.2.1.block i (zZ ho)];exact ho⟩
   have Ch:∀ (i:Nat),i<w1.heap.size->w9.heap[i]? = w1.heap[i]?:=fun i hi=>by rw [mc.block i (by have:=H2.out.2.1;omega),H2.out.1.block i hi]
   have kf:∀ (i:Nat),F i->(F i/\i<w.heap.size)\/w.heap.size+5<=i:=fun i hi=>by
    rcases Nat.lt_or_ge i w.heap.size with h | h
    ·exact .inl ⟨hi,h⟩
    ·exact .inr (by have:=HFw.out i hi;omega)
   have eQ:zH (fun i=>(F i/\i<w.heap.size)\/w.heap.size+5<=i) w9 (za (zq 0 bs)) oxs:=(Rep.keep fun i o hi ho=>⟨kf i hi,by rw [Ch i (zZ ho)];exact ho⟩).2 _ _ H1.out.2.1
   unfold zL
   rw [qx,za,xj]
   refine zH.append eQ ?_
   refine zH.append (vs:=[.int .i64 (-1),str ns,.int .i64 nv,.slice cY cV cU,.slice cZ cJ b_,.slice ua a.args.length uc,.slice oa bs.length oc,.int .i64 0,.int .i64 0]) ?_ ?_
   ·refine zH.append (vs:=[.int .i64 (-1)]) (zH.one (zF.2 rfl)) (zH.append (ds:=kE n) (vs:=[str ns,.int .i64 nv,.slice cY cV cU,.slice cZ cJ b_]) ((Rep.keep kw).2 _ _ HP.out.rn) ?_)
    refine zQ.2 ⟨_,_,rfl,(Rep.keep kw).1 _ _ HT.out.2.1,zQ.2 ⟨_,_,rfl,?_,zQ.2 ⟨_,_,rfl,zF.2 rfl,zQ.2 ⟨_,_,rfl,ja.2 ⟨_,rfl⟩,zB.2 rfl⟩⟩⟩⟩
    rw [kJ]
    refine (H1.out.1.keep (w':=w9) fun g o hg hh=>by rw [Ch g (zZ hh)];exact hh).rep (fun g hg=>.inr (by have:=H1.out.2.2.2 g hg;omega)) eQ
   ·refine (Rep.keep fun i o hi ho=>⟨kf i hi,?_⟩).2 _ _ HA.out.2.2.1
    have hl:=zZ ho
    rw [cB.block i hl (fun e=>?_)];exact ho
    have:=H7.out.2.2 i e
    have h1:=HFw.out i hi
    have h2:=H2.out.1.size
    have h3:=H1.out.2.2.1.size
    omega
  have eU:(zL bs a n rest).length=bs.length+1+rest.length:=by unfold zL;simp [kJ];omega
  have rF:Rep (fun i=>(F i/\i<w.heap.size)\/w.heap.size+5<=i) (w9.alloc (.cells #[] 131)) (.sl 94 9 (zL bs a n rest).length (za (zL bs a n rest))) (.slice a9 (bs.length+1+rest.length) c9):=by
   rw [eU]
   refine (Rep.keep fun i o hi ho=>⟨hi,zV ho⟩).1 _ _ (AW.rep (fun g hg=>.inr ?_) tL)
   have:=sU g hg
   have h2:=H2.out.1.size
   have h3:=H1.out.2.2.1.size
   omega
  have rC:zH (fun i=>(F i/\i<w.heap.size)\/w.heap.size+5<=i) (w9.alloc (.cells #[] 131)) (kE m) [str ms,.int .i64 mv,.slice m_ ml mo,.slice m9 mi mn] :=
   (Rep.keep fun i o hi ho=>⟨.inl ⟨hi,zZ ho⟩,by rw [mp.block i (zZ ho)];exact ho⟩).2 _ _ HP.out.rm
  have ci:=HT.out.2.2.2.1
  have mO:∀ x∈rest,zY x<=15:=fun x hx=>ci.1 x (by rw [HP.out.ts];simp [hx])
  have ma:zY a<=15:=ci.1 a (by rw [HP.out.ts];simp)
  have Ar:Wri (w9.alloc (.cells #[] 131)) (w.heap.size+4) ((200:Nat):Int) (20000-((20000:Nat):Int)):=zV Cp
  have C7:=write_any 20000 (fun i=>(F i/\i<w.heap.size)\/w.heap.size+5<=i) (w.heap.size+4) 200 20000 (bs.length+rest.length) (bs++rest) m (zL bs a n rest) [] ms mv m_ m9 ml mo mi mn (.slice a9 (bs.length+1+rest.length) c9) (.slice (some ⟨w9.heap.size,0,none⟩) 0 0) (w9.alloc (.cells #[] 131))
   { wri:=Ar,hF:=fun i hi=>(by
    rcases hi with h | h
    ·have:=h.2;omega
    ·omega),ld:=g_ _,d20:=g_ _,k200:=g_ _,fit:=HP.out.fit,hn:=by simp,el:=by rw [eU];omega,nl:=by omega,stl:=by simp,
     ok:=qJ _ _ (qZ _ _ HP.out.b15 (by omega)) ⟨by rw [okM];exact ⟨ma,by rw [kJ];omega,qZ _ _ HP.out.b15 (by omega)⟩,qZ _ _ mO (by omega)⟩,okg:=trivial,
     wf:=⟨HP.out.wm,qH _ _ (qE _ _) ⟨⟨HP.out.wn,qE _ _⟩,qE _ _⟩,by simp⟩,rb:=rC,re:=rF,rs:=zp.2 ⟨by simp [jq],_,_,rfl,g_ _,fun h=>by simp at h,.inl rfl⟩ }
  rw [show ((bs.length+rest.length:Nat):Int)=(bs.length:Int) from by omega,show w.heap.size+4=w.heap.size+1+1+1+1 from rfl] at C7
  have C7:=gl C7
  have lw:=gl (show w8.heap.size<=w9.heap.size from cB.size)
  have H9:=gl (go mp (go Cr dL))
  clear sQ Cq Cs Cr Cp mp tL eU rF rC ci mO ma Ar mc sU eH dL AW cB BB
  go_wp2_with fail
  (with_reducible refine C7.out.mono ?_)
  rintro en dT ⟨s,v,b1,p1,d1,b2,p2,d2,rfl,mt,ru,mF⟩
  obtain ⟨L,S,li,hL⟩:∃ L S:Int,Wri dT (w.heap.size+4) L S/\decide (0<=L)=(qC m (zL bs a n rest) (bs.length+rest.length)).isSome:=by
   unfold qC
   cases hq:evN 20000 200 20000 m (zL bs a n rest) (bs.length+rest.length) (List.map WFr.gf []) with
   | none =>
     obtain ⟨st,u1,_,_⟩:=ru hq
     exact ⟨-1,st,u1,by rw [show (List.map WFr.gf []:List Gf)=[] from rfl] at hq;rw [hq];rfl⟩
   | some x =>
     obtain ⟨u1,_⟩:=mF x hq
     exact ⟨_,_,u1,by rw [show (List.map WFr.gf []:List Gf)=[] from rfl] at hq;rw [hq];simp⟩
  have fT:zm (w.heap.size+3) 0 (.slice none 0 0) (.slice none 0 0) dT:=zm.but (zV H9.out.2.1) mt (show ¬ (w.heap.size+3=w.heap.size+1+1+1+1) by omega)
  have dV:Below w.heap.size w dT:=H9.out.1.trans (mt.toBelow H9.out.1.size fun i hi e=>by have e:i=w.heap.size+1+1+1+1:=e;omega)
  obtain ⟨em,fR⟩:=zzN (dT.alloc (.cells #[str s,.int .i64 v,.slice b1 p1 d1,.slice b2 p2 d2] 46))
  have cA:Below dT.heap.size dT em:=by rw [<- fR];exact (hG _ _).alloc (g_ _) _
  have rO:em.heap[dT.heap.size]? = some (.cells #[str s,.int .i64 v,.slice b1 p1 d1,.slice b2 p2 d2] 46 (0,0)):=by rw [<- fR];exact zR _ _
  have me:zm (w.heap.size+3) 0 (.slice none 0 0) (.slice none 0 0) em:=fT.below cA (zZ fT)
  have sj:em.cell? ⟨w.heap.size+4,0,none⟩=some (.int .i64 L):=(cA.cell (p:=⟨w.heap.size+4,0,none⟩) li.cell.2.2.2).trans li.cell.1
  obtain ⟨o0,o1,o2,o3⟩:=qO rO
  obtain ⟨r0,r1,r2,r3,rlt,rf⟩:=me.cells
  have fv:=rf 0;have mC:=rf 1;have mB:=rf 2;have mH:=rf 3
  have Ak:=dV.size
  have hne:dT.heap.size≠w.heap.size+3:=by have:=zZ fT;omega
  have SZ:Hid (∀ w',But (fun i=>i=w.heap.size+3) em w'->w'.cell? ⟨dT.heap.size,0,none⟩=some (str s)/\w'.cell? ⟨dT.heap.size,1,none⟩=some (.int .i64 v)/\w'.cell? ⟨dT.heap.size,2,none⟩=some (.slice b1 p1 d1)/\w'.cell? ⟨dT.heap.size,3,none⟩=some (.slice b2 p2 d2)/\w'.cell? ⟨w.heap.size+4,0,none⟩=some (.int .i64 L)):=by
   show ∀ w',_->_
   intro w' bj
   have k:∀ {p:Addr} {u:Value},p.block≠w.heap.size+3->em.cell? p=some u->w'.cell? p=some u:=fun hn hu=>(bj.cell (hU _ _ hu) hn).trans hu
   exact ⟨k hne o0,k hne o1,k hne o2,k hne o3,k (by show w.heap.size+4≠w.heap.size+3;omega) sj⟩
  obtain ⟨W13,fN,dC,dn,dl,di,cb,tQ⟩:=me.store (str s) (.int .i64 v) (.slice b1 p1 d1) (.slice b2 p2 d2)
  have fC:uM F (qC m (zL bs a n rest) (bs.length+rest.length)) w (.returned (.tuple #[.agg #[str s,.int .i64 v,.slice b1 p1 d1,.slice b2 p2 d2],.bool (decide (0<=L))])) W13:=by
   refine ⟨s,v,b1,p1,d1,b2,p2,d2,by rw [hL],cb _ _ (zzT dV cA) (by omega),fun x hx=>?_⟩
   unfold qC at hx
   rw [Option.map_eq_some_iff] at hx
   obtain ⟨y,hy,rfl⟩:=hx
   obtain ⟨_,u2⟩:=mF y hy
   refine (Rep.keep fun i o hi ho=>?_).2 _ _ u2
   have hl:=zZ ho
   have h9:w.heap.size+5<=(w9.alloc (.cells #[] 131)).heap.size:=by
    have:=zZ (H9.out.2.1)
    have h5:=H9.out.2.2
    have:=HA.out.2.2.2.size;have:=H7.out.2.1.size;have:=H2.out.1.size;have:=H1.out.2.2.1.size;have:=lw.out
    rw [zK];omega
   have hc:(F i\/w.heap.size<=i)/\i≠w.heap.size+3:=by
    rcases hi with (h | h) | h
    ·exact ⟨.inl h.1,by have:=h.2;omega⟩
    ·exact ⟨.inr (by omega),by omega⟩
    ·exact ⟨.inr (by omega),by omega⟩
   exact ⟨hc.1,tQ i _ hc.2 (by rw [cA.block i hl];exact ho)⟩
  have HF:=gl (go fR (go fN (go fC cb)))
  clear fR cA rO me sj rf fN fC cb tQ hL li fT dV mt ru mF
  go_wp2_with fail
  rw [HF.out.1]
  refine wp_region_noPanic ?_
  refine kx (fun w'=>But (fun i=>i=w.heap.size+3) em w') (fun _=>false) (by kernel_rfl) ?_
  have bL:But (fun i=>i=w.heap.size+3) em em.drew:=(But.refl _ em).drew
  refine tk [0,1,2,3,4,5] bL ?_
  (intro d hd;simp [tkD] at hd;subst hd;simp only [tks,pQ,pZ,pS])
  iterate 6 (refine ⟨?_,?_,?_⟩;rotate_left;· (intro oi ho;simp at ho;subst ho;refine Or.inl ⟨by rfl,fun w' cL=>?_⟩;obtain ⟨e0,e1,e2,e3,e4⟩:=SZ.out w' cL;go_simp;try with_reducible rfl))
  (refine on 6 ?_;intro o ho K' hK;simp at ho;subst ho;go_simp)
  (refine hK.out _ _ (fun _=>(((bL.setCell (p:=⟨w.heap.size+3,0,none⟩) (.inl rfl) _).setCell (p:=⟨w.heap.size+3,1,none⟩) (.inl rfl) _).setCell (p:=⟨w.heap.size+3,2,none⟩) (.inl rfl) _).setCell (p:=⟨w.heap.size+3,3,none⟩) (.inl rfl) _) ?_;clear hK K';try simp only [pQ,pN,pZ,pS])
  (refine on 7 ?_;intro o ho K' hK;simp at ho;subst ho;go_simp)
  (refine hK.out _ _ (fun _=>(((bL.setCell (p:=⟨w.heap.size+3,0,none⟩) (.inl rfl) _).setCell (p:=⟨w.heap.size+3,1,none⟩) (.inl rfl) _).setCell (p:=⟨w.heap.size+3,2,none⟩) (.inl rfl) _).setCell (p:=⟨w.heap.size+3,3,none⟩) (.inl rfl) _) ?_;clear hK K';try simp only [pQ,pN,pZ,pS])
  refine kQ (by kernel_rfl) (NoPanic.normal ?_) _
  go_wp2_with fail
  obtain ⟨-,fN,fC,-⟩:=HF.out
  rw [<- fN]
  refine bodyPost_ret (v:=.tuple #[.agg #[str s,.int .i64 v,.slice b1 p1 d1,.slice b2 p2 d2],.bool (decide (0<=L))]) (by simp [results,Tryz.results18,go_sem,dC,dn,dl,di]) rfl ?_
  exact fC.drew
 ·have Cb:=eg mS
  have htc2:rest.length+1<=tc:=by have:=HT.out.2.2.1;simpa using this
  clear sq eg
  have C6:=gl (yE F bs.length rest _ w7 Cb (by omega) (by omega));clear Cb
  go_wp2_with fail
  (with_reducible refine C6.out.mono ?_)
  rintro en w8 ⟨a8,c8,Ad,rfl,rA,fX,cF,lS⟩
  have rL:=H7.out.1.keep (w':=w8) fun g o hg hh=>by rw [cF.block g (zZ hh)];exact hh
  have ff:=rA.src (qm _ _ fX)
  have HA:=gl (go rL (go ff (go fX cF)));clear rL ff rA fX cF lS
  go_wp2_with (at_builtin;refine zP rfl _ _ 91 rfl 94 (.agg #[.int .i64 0,str [],.int .i64 0,.slice none 0 0,.slice none 0 0,.slice none 0 0,.slice none 0 0,.int .i64 0,.int .i64 0]) 9 144 Tryz.underlying91 Tryz.infoBo rfl (by decide) (.slice a7 (bs.length+1) c7) (bs.length+1) _ rfl HA.out.1 _ rest.length Ad rfl HA.out.2.1 (by unfold maxLen;omega) (by omega) ?_)
  intro a9 c9 w9 AW cB BB
  have mc:Below W2.heap.size W2 w9:=(zzT H7.out.2.1 HA.out.2.2.2).trans (cB.toBelow (by have:=H7.out.2.1.size;have:=HA.out.2.2.2.size;omega) fun i hi e=>by have:=H7.out.2.2 i e;omega)
  have sU:∀ g,(Value.slice a9 (bs.length+1+rest.length) c9).ownBlock=some g->W2.heap.size<=g:=fun g hg=>by
   rcases BB g hg with h | h
   ·exact H7.out.2.2 g h
   ·have:=H7.out.2.1.size;have:=HA.out.2.2.2.size;omega
  have eH:Below W.heap.size W w9:=H1.out.2.2.1.trans ((H2.out.1.trans (mc.mono (by have:=H2.out.2.1;omega))).mono H1.out.2.2.1.size)
  have dL:=HW.out.2.1
  have sQ:∀ {i:Nat} {o:Obj},i<W.heap.size->W.heap[i]? = some o->w9.heap[i]? = some o:=fun hi h=>(eH.block _ hi).trans h
  have Cq:=sQ (by omega) HW.out.2.2.2.1
  have Cs:=sQ (by omega) HW.out.2.2.2.2.1
  have Cr:zm (w.heap.size+3) 0 (.slice none 0 0) (.slice none 0 0) w9:=sQ (by omega) HW.out.2.2.2.2.2.2.1
  have Cp:Wri w9 (w.heap.size+4) 200 0:=sQ (by omega) HW.out.2.2.2.2.2.2.2
  obtain ⟨m0,m1,m2,m3⟩:=qO Cs
  have t9:w9.cell? ⟨w.heap.size,0,none⟩=some (.slice (some ⟨kb,ko,none⟩) (rest.length+1) tc):=by simp [World.cell?,Cq]
  have t9':(w9.alloc (.cells #[] 131)).cell? ⟨w.heap.size,0,none⟩=some (.slice (some ⟨kb,ko,none⟩) (rest.length+1) tc):=zJ t9
  have mp:Below w.heap.size w (w9.alloc (.cells #[] 131)):=(zzT HW.out.2.2.1 eH).alloc (by have:=eH.size;omega) _
  have tL:zH (fun i=>(F i/\i<w.heap.size)\/w.heap.size+5<=i) w9 (za (zL bs a n rest)) (oxs++([.int .i64 (-1),str ns,.int .i64 nv,.slice cY cV cU,.slice cZ cJ b_,.slice ua a.args.length uc,.slice oa bs.length oc,.int .i64 0,.int .i64 0]++Ad)):=by
   have kw:∀ (i:Nat) (o:Obj),F i->w.heap[i]? = some o->((F i/\i<w.heap.size)\/w.heap.size+5<=i)/\w9.heap[i]? = some o:=fun i o hi ho=>⟨.inl ⟨hi,zZ ho⟩,by rw [eH.block i (by have:=zZ ho;omega),HW.out.2.2.1.block i (zZ ho)];exact ho⟩
   have Ch:∀ (i:Nat),i<w1.heap.size->w9.heap[i]? = w1.heap[i]?:=fun i hi=>by rw [mc.block i (by have:=H2.out.2.1;omega),H2.out.1.block i hi]
   have kf:∀ (i:Nat),F i->(F i/\i<w.heap.size)\/w.heap.size+5<=i:=fun i hi=>by
    rcases Nat.lt_or_ge i w.heap.size with h | h
    ·exact .inl ⟨hi,h⟩
    ·exact .inr (by have:=HFw.out i hi;omega)
   have eQ:zH (fun i=>(F i/\i<w.heap.size)\/w.heap.size+5<=i) w9 (za (zq 0 bs)) oxs:=(Rep.keep fun i o hi ho=>⟨kf i hi,by rw [Ch i (zZ ho)];exact ho⟩).2 _ _ H1.out.2.1
   unfold zL
   rw [qx,za,xj]
   refine zH.append eQ ?_
   refine zH.append (vs:=[.int .i64 (-1),str ns,.int .i64 nv,.slice cY cV cU,.slice cZ cJ b_,.slice ua a.args.length uc,.slice oa bs.length oc,.int .i64 0,.int .i64 0]) ?_ ?_
   ·refine zH.append (vs:=[.int .i64 (-1)]) (zH.one (zF.2 rfl)) (zH.append (ds:=kE n) (vs:=[str ns,.int .i64 nv,.slice cY cV cU,.slice cZ cJ b_]) ((Rep.keep kw).2 _ _ HP.out.rn) ?_)
    refine zQ.2 ⟨_,_,rfl,(Rep.keep kw).1 _ _ HT.out.2.1,zQ.2 ⟨_,_,rfl,?_,zQ.2 ⟨_,_,rfl,zF.2 rfl,zQ.2 ⟨_,_,rfl,ja.2 ⟨_,rfl⟩,zB.2 rfl⟩⟩⟩⟩
    rw [kJ]
    refine (H1.out.1.keep (w':=w9) fun g o hg hh=>by rw [Ch g (zZ hh)];exact hh).rep (fun g hg=>.inr (by have:=H1.out.2.2.2 g hg;omega)) eQ
   ·refine (Rep.keep fun i o hi ho=>⟨kf i hi,?_⟩).2 _ _ HA.out.2.2.1
    have hl:=zZ ho
    rw [cB.block i hl (fun e=>?_)];exact ho
    have:=H7.out.2.2 i e
    have h1:=HFw.out i hi
    have h2:=H2.out.1.size
    have h3:=H1.out.2.2.1.size
    omega
  have eU:(zL bs a n rest).length=bs.length+1+rest.length:=by unfold zL;simp [kJ];omega
  have rF:Rep (fun i=>(F i/\i<w.heap.size)\/w.heap.size+5<=i) (w9.alloc (.cells #[] 131)) (.sl 94 9 (zL bs a n rest).length (za (zL bs a n rest))) (.slice a9 (bs.length+1+rest.length) c9):=by
   rw [eU]
   refine (Rep.keep fun i o hi ho=>⟨hi,zV ho⟩).1 _ _ (AW.rep (fun g hg=>.inr ?_) tL)
   have:=sU g hg
   have h2:=H2.out.1.size
   have h3:=H1.out.2.2.1.size
   omega
  have rC:zH (fun i=>(F i/\i<w.heap.size)\/w.heap.size+5<=i) (w9.alloc (.cells #[] 131)) (kE m) [str ms,.int .i64 mv,.slice m_ ml mo,.slice m9 mi mn] :=
   (Rep.keep fun i o hi ho=>⟨.inl ⟨hi,zZ ho⟩,by rw [mp.block i (zZ ho)];exact ho⟩).2 _ _ HP.out.rm
  have ci:=HT.out.2.2.2.1
  have mO:∀ x∈rest,zY x<=15:=fun x hx=>ci.1 x (by rw [HP.out.ts];simp [hx])
  have ma:zY a<=15:=ci.1 a (by rw [HP.out.ts];simp)
  have Ar:Wri (w9.alloc (.cells #[] 131)) (w.heap.size+4) ((200:Nat):Int) (20000-((20000:Nat):Int)):=zV Cp
  have C7:=write_any 20000 (fun i=>(F i/\i<w.heap.size)\/w.heap.size+5<=i) (w.heap.size+4) 200 20000 (bs.length+rest.length) (bs++rest) m (zL bs a n rest) [] ms mv m_ m9 ml mo mi mn (.slice a9 (bs.length+1+rest.length) c9) (.slice (some ⟨w9.heap.size,0,none⟩) 0 0) (w9.alloc (.cells #[] 131))
   { wri:=Ar,hF:=fun i hi=>(by
    rcases hi with h | h
    ·have:=h.2;omega
    ·omega),ld:=g_ _,d20:=g_ _,k200:=g_ _,fit:=HP.out.fit,hn:=by simp,el:=by rw [eU];omega,nl:=by omega,stl:=by simp,
     ok:=qJ _ _ (qZ _ _ HP.out.b15 (by omega)) ⟨by rw [okM];exact ⟨ma,by rw [kJ];omega,qZ _ _ HP.out.b15 (by omega)⟩,qZ _ _ mO (by omega)⟩,okg:=trivial,
     wf:=⟨HP.out.wm,qH _ _ (qE _ _) ⟨⟨HP.out.wn,qE _ _⟩,qE _ _⟩,by simp⟩,rb:=rC,re:=rF,rs:=zp.2 ⟨by simp [jq],_,_,rfl,g_ _,fun h=>by simp at h,.inl rfl⟩ }
  rw [show ((bs.length+rest.length:Nat):Int)=(bs.length:Int)+((rest.length:Int)+1)-1 from by omega,show w.heap.size+4=w.heap.size+1+1+1+1 from rfl] at C7
  have C7:=gl C7
  have lw:=gl (show w8.heap.size<=w9.heap.size from cB.size)
  have H9:=gl (go mp (go Cr dL))
  clear sQ Cq Cs Cr Cp mp tL eU rF rC ci mO ma Ar mc sU eH dL AW cB BB
  go_wp2_with fail
  (with_reducible refine C7.out.mono ?_)
  rintro en dT ⟨s,v,b1,p1,d1,b2,p2,d2,rfl,mt,ru,mF⟩
  obtain ⟨L,S,li,hL⟩:∃ L S:Int,Wri dT (w.heap.size+4) L S/\decide (0<=L)=(qC m (zL bs a n rest) (bs.length+rest.length)).isSome:=by
   unfold qC
   cases hq:evN 20000 200 20000 m (zL bs a n rest) (bs.length+rest.length) (List.map WFr.gf []) with
   | none =>
     obtain ⟨st,u1,_,_⟩:=ru hq
     exact ⟨-1,st,u1,by rw [show (List.map WFr.gf []:List Gf)=[] from rfl] at hq;rw [hq];rfl⟩
   | some x =>
     obtain ⟨u1,_⟩:=mF x hq
     exact ⟨_,_,u1,by rw [show (List.map WFr.gf []:List Gf)=[] from rfl] at hq;rw [hq];simp⟩
  have fT:zm (w.heap.size+3) 0 (.slice none 0 0) (.slice none 0 0) dT:=zm.but (zV H9.out.2.1) mt (show ¬ (w.heap.size+3=w.heap.size+1+1+1+1) by omega)
  have dV:Below w.heap.size w dT:=H9.out.1.trans (mt.toBelow H9.out.1.size fun i hi e=>by have e:i=w.heap.size+1+1+1+1:=e;omega)
  obtain ⟨em,fR⟩:=zzN (dT.alloc (.cells #[str s,.int .i64 v,.slice b1 p1 d1,.slice b2 p2 d2] 46))
  have cA:Below dT.heap.size dT em:=by rw [<- fR];exact (hG _ _).alloc (g_ _) _
  have rO:em.heap[dT.heap.size]? = some (.cells #[str s,.int .i64 v,.slice b1 p1 d1,.slice b2 p2 d2] 46 (0,0)):=by rw [<- fR];exact zR _ _
  have me:zm (w.heap.size+3) 0 (.slice none 0 0) (.slice none 0 0) em:=fT.below cA (zZ fT)
  have sj:em.cell? ⟨w.heap.size+4,0,none⟩=some (.int .i64 L):=(cA.cell (p:=⟨w.heap.size+4,0,none⟩) li.cell.2.2.2).trans li.cell.1
  obtain ⟨o0,o1,o2,o3⟩:=qO rO
  obtain ⟨r0,r1,r2,r3,rlt,rf⟩:=me.cells
  have fv:=rf 0;have mC:=rf 1;have mB:=rf 2;have mH:=rf 3
  have Ak:=dV.size
  have hne:dT.heap.size≠w.heap.size+3:=by have:=zZ fT;omega
  have SZ:Hid (∀ w',But (fun i=>i=w.heap.size+3) em w'->w'.cell? ⟨dT.heap.size,0,none⟩=some (str s)/\w'.cell? ⟨dT.heap.size,1,none⟩=some (.int .i64 v)/\w'.cell? ⟨dT.heap.size,2,none⟩=some (.slice b1 p1 d1)/\w'.cell? ⟨dT.heap.size,3,none⟩=some (.slice b2 p2 d2)/\w'.cell? ⟨w.heap.size+4,0,none⟩=some (.int .i64 L)):=by
   show ∀ w',_->_
   intro w' bj
   have k:∀ {p:Addr} {u:Value},p.block≠w.heap.size+3->em.cell? p=some u->w'.cell? p=some u:=fun hn hu=>(bj.cell (hU _ _ hu) hn).trans hu
   exact ⟨k hne o0,k hne o1,k hne o2,k hne o3,k (by show w.heap.size+4≠w.heap.size+3;omega) sj⟩
  obtain ⟨W13,fN,dC,dn,dl,di,cb,tQ⟩:=me.store (str s) (.int .i64 v) (.slice b1 p1 d1) (.slice b2 p2 d2)
  have fC:uM F (qC m (zL bs a n rest) (bs.length+rest.length)) w (.returned (.tuple #[.agg #[str s,.int .i64 v,.slice b1 p1 d1,.slice b2 p2 d2],.bool (decide (0<=L))])) W13:=by
   refine ⟨s,v,b1,p1,d1,b2,p2,d2,by rw [hL],cb _ _ (zzT dV cA) (by omega),fun x hx=>?_⟩
   unfold qC at hx
   rw [Option.map_eq_some_iff] at hx
   obtain ⟨y,hy,rfl⟩:=hx
   obtain ⟨_,u2⟩:=mF y hy
   refine (Rep.keep fun i o hi ho=>?_).2 _ _ u2
   have hl:=zZ ho
   have h9:w.heap.size+5<=(w9.alloc (.cells #[] 131)).heap.size:=by
    have:=zZ (H9.out.2.1)
    have h5:=H9.out.2.2
    have:=HA.out.2.2.2.size;have:=H7.out.2.1.size;have:=H2.out.1.size;have:=H1.out.2.2.1.size;have:=lw.out
    rw [zK];omega
   have hc:(F i\/w.heap.size<=i)/\i≠w.heap.size+3:=by
    rcases hi with (h | h) | h
    ·exact ⟨.inl h.1,by have:=h.2;omega⟩
    ·exact ⟨.inr (by omega),by omega⟩
    ·exact ⟨.inr (by omega),by omega⟩
   exact ⟨hc.1,tQ i _ hc.2 (by rw [cA.block i hl];exact ho)⟩
  have HF:=gl (go fR (go fN (go fC cb)))
  clear fR cA rO me sj rf fN fC cb tQ hL li fT dV mt ru mF
  go_wp2_with fail
  rw [HF.out.1]
  refine wp_region_noPanic ?_
  refine kx (fun w'=>But (fun i=>i=w.heap.size+3) em w') (fun _=>false) (by kernel_rfl) ?_
  have bL:But (fun i=>i=w.heap.size+3) em em.drew:=(But.refl _ em).drew
  refine tk [0,1,2,3,4,5] bL ?_
  (intro d hd;simp [tkD] at hd;subst hd;simp only [tks,pQ,pZ,pS])
  iterate 6 (refine ⟨?_,?_,?_⟩;rotate_left;· (intro oi ho;simp at ho;subst ho;refine Or.inl ⟨by rfl,fun w' cL=>?_⟩;obtain ⟨e0,e1,e2,e3,e4⟩:=SZ.out w' cL;go_simp;try with_reducible rfl))
  (refine on 6 ?_;intro o ho K' hK;simp at ho;subst ho;go_simp)
  (refine hK.out _ _ (fun _=>(((bL.setCell (p:=⟨w.heap.size+3,0,none⟩) (.inl rfl) _).setCell (p:=⟨w.heap.size+3,1,none⟩) (.inl rfl) _).setCell (p:=⟨w.heap.size+3,2,none⟩) (.inl rfl) _).setCell (p:=⟨w.heap.size+3,3,none⟩) (.inl rfl) _) ?_;clear hK K';try simp only [pQ,pN,pZ,pS])
  (refine on 7 ?_;intro o ho K' hK;simp at ho;subst ho;go_simp)
  (refine hK.out _ _ (fun _=>(((bL.setCell (p:=⟨w.heap.size+3,0,none⟩) (.inl rfl) _).setCell (p:=⟨w.heap.size+3,1,none⟩) (.inl rfl) _).setCell (p:=⟨w.heap.size+3,2,none⟩) (.inl rfl) _).setCell (p:=⟨w.heap.size+3,3,none⟩) (.inl rfl) _) ?_;clear hK K';try simp only [pQ,pN,pZ,pS])
  refine kQ (by kernel_rfl) (NoPanic.normal ?_) _
  go_wp2_with fail
  obtain ⟨-,fN,fC,-⟩:=HF.out
  rw [<- fN]
  refine bodyPost_ret (v:=.tuple #[.agg #[str s,.int .i64 v,.slice b1 p1 d1,.slice b2 p2 d2],.bool (decide (0<=L))]) (by simp [results,Tryz.results18,go_sem,dC,dn,dl,di]) rfl ?_
  exact fC.drew
end Go.Proofs.YtepgfdhkkjfmhacGreatDoor

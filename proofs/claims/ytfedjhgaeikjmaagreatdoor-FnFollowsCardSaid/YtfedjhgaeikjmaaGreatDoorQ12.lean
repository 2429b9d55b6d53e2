/- Walks of functions that the statement reaches, and plain words. No conditions. -/
import Derived.Deep.RegionLaw
import Derived.Test.YtfedjhgaeikjmaaGreatDoorQ11
set_option linter.unusedVariables false
set_option linter.unusedSimpArgs false
set_option maxHeartbeats 16000000
namespace Go.Proofs.YtfedjhgaeikjmaaGreatDoor
open Go.RowKit
theorem kD.storeB {ob:Nat} {v:Int} {ks ys:Value} {w:World} (h:kD ob v ks ys w) (u0 u1 u2 u3:Value) :
 ∃ W,W=((((w.setCell ⟨ob,0,none⟩ u0).setCell ⟨ob,1,none⟩ u1).setCell ⟨ob,2,none⟩ u2).setCell ⟨ob,3,none⟩ u3) /\
   W.cell? ⟨ob,0,none⟩=some u0/\W.cell? ⟨ob,1,none⟩=some u1/\W.cell? ⟨ob,2,none⟩=some u2/\W.cell? ⟨ob,3,none⟩=some u3 /\
   (∀ (m:Nat->Prop) w0,But m w0 w->w0.heap.size<=ob->But m w0 W)/\(∀ i x,i≠ob->w.heap[i]? = some x->W.heap[i]? = some x)/\(∀ rd P,rd<ob->kq w rd P->kq W rd P):=by
 obtain ⟨W,hW,s0,s1,s2,s3,_,hk⟩:=h.store u0 u1 u2 u3
 have hB:∀ (m:Nat->Prop) w0,But m w0 w->(m ob\/w0.heap.size<=ob)->But m w0 W:=by
  intro m w0 hb ho
  rw [hW]
  exact ((((hb.setCell (p:=⟨ob,0,none⟩) ho _).setCell (p:=⟨ob,1,none⟩) ho _).setCell (p:=⟨ob,2,none⟩) ho _).setCell (p:=⟨ob,3,none⟩) ho _)
 refine ⟨W,hW,s0,s1,s2,s3,fun m w0 hb ho=>hB m w0 hb (.inr ho),hk,fun rd P bA hr=>?_⟩
 exact hr.but (hB (· = ob) w (But.refl _ _) (.inl rfl)) (fun i hi e=>by omega)
structure pU (w:World) (rd ob Z:Nat) (v:Int) (wr:World) (pk py:List Bd) (kv yv:List Value) (ks:Value) (nk:Nat) (ys:Value) (ny:Nat):Prop where
 hnk:nk=pk.length
 hny:ny=py.length
 ksl:∃ a c,ks=.slice a nk c
 ysl:∃ a c,ys=.slice a ny c
 but:But (· = rd) w wr
 res:kD w.heap.size 0 (.slice none 0 0) (.slice none 0 0) wr
 out:kD ob v ks ys wr
 ownK:Own wr 64 4 ks nk kv
 ownY:Own wr 64 4 ys ny yv
 blkK:∀ g,ks.ownBlock=some g->Z<=g/\ys.ownBlock≠some g
 blkY:∀ g,ys.ownBlock=some g->Z<=g
 repK:zq (fun b=>Z<=b/\ks.ownBlock≠some b/\ys.ownBlock≠some b) wr (kF pk) kv
 repY:zq (fun b=>Z<=b/\ks.ownBlock≠some b/\ys.ownBlock≠some b) wr (kF py) yv
 z:Z<=wr.heap.size
theorem pU.kid {w:World} {rd ob Z:Nat} {v:Int} {wr:World} {pk py:List Bd} {kv yv:List Value} {ks ys:Value} {nk ny:Nat}
 (h:pU w rd ob Z v wr pk py kv yv ks nk ys ny) (eH:rd<w.heap.size) (lH:ob<Z) (hwo:w.heap.size<ob) {W w7:World} {b:Bd} {cs:List Value} {a':Option Addr} {c':Nat}
 (b9:But (· = rd) wr W) (hcs:zq (wr.heap.size<=·) W (ke b) cs) (b5:Own w7 64 4 (.slice a' (nk+1) c') (nk+1) (kv++cs)) (bh:But (fun i=>ks.ownBlock=some i) W w7)
 (cU:∀ g,(Value.slice a' (nk+1) c').ownBlock=some g->ks.ownBlock=some g\/g=W.heap.size) :
 pU w rd ob Z v (w7.setCell ⟨ob,2,none⟩ (.slice a' (nk+1) c')) (pk++[b]) py (kv++cs) yv (.slice a' (nk+1) c') (nk+1) ys ny:=by
 have z6:=b9.size
 have z7:=bh.size
 have zr:=h.z
 have zb:=h.but.size
 have keep:∀ i x,wr.heap[i]? = some x->ks.ownBlock≠some i->i≠ob->i≠rd->(w7.setCell ⟨ob,2,none⟩ (.slice a' (nk+1) c')).heap[i]? = some x:=by
  intro i x hx h1 h2 h3
  have:=zZ hx
  rw [bG _ _ _ _ (by simpa using h2),bh.block i (by omega) h1,b9.block i this h3];exact hx
 have fK:∀ i x,W.heap[i]? = some x->ks.ownBlock≠some i->i≠ob->(w7.setCell ⟨ob,2,none⟩ (.slice a' (nk+1) c')).heap[i]? = some x:=by
  intro i x hx h1 h2
  have:=zZ hx
  rw [bG _ _ _ _ (by simpa using h2),bh.block i (by omega) h1];exact hx
 have ltK:∀ g,ks.ownBlock=some g->g<wr.heap.size:=fun g hg=>h.ownK.lt hg
 have ltY:∀ g,ys.ownBlock=some g->g<wr.heap.size:=fun g hg=>h.ownY.lt hg
 have nK:∀ i,i<Z->ks.ownBlock≠some i:=fun i hi e=>by have:=(h.blkK i e).1;omega
 have newg:∀ g,(Value.slice a' (nk+1) c').ownBlock=some g->Z<=g:=fun g hg=>by
  rcases cU g hg with e | e
  ·exact (h.blkK g e).1
  ·omega
 refine ⟨by simp [h.hnk],h.hny,⟨_,_,rfl⟩,h.ysl,?_,?_,?_,?_,?_,?_,h.blkY,?_,?_,by simp [World.setCell];omega⟩
 ·refine But.setCell ?_ (.inr (show w.heap.size<=ob by omega)) _
  exact (h.but.trans b9).trans' bh (fun i hi e=>absurd e (nK i (by omega)))
 ·exact keep _ _ h.res (nK _ (by omega)) (by omega) (by omega)
 ·have h1:kD ob v ks ys w7:=by
   unfold kD;rw [bh.block ob (by omega) (nK _ lH),b9.block ob (by omega) (show ¬ ob=rd by omega)];exact h.out
  exact h1.put2
 ·exact b5.keep fun g o hg ho=>by rw [bG _ _ _ _ (by have:=newg g hg;simp;omega)];exact ho
 ·exact h.ownY.keep fun g o hg ho=>keep g o ho (fun e=>(h.blkK g e).2 hg) (by have:=h.blkY g hg;omega) (by have:=h.blkY g hg;omega)
 ·intro g hg
  refine ⟨newg g hg,fun e=>?_⟩
  rcases cU g hg with e' | e'
  ·exact (h.blkK g e').2 e
  ·have:=ltY g e;omega
 ·rw [jV]
  have h1:=h.repK
  refine zq.append ((Rep.keep fun i x hi hx=>⟨⟨hi.1,fun e=>(cU i e).elim (fun e'=>hi.2.1 e') (fun e'=>by have:=zZ hx;omega),hi.2.2⟩,keep i x hx hi.2.1 (by have:=hi.1;omega) (by have:=hi.1;omega)⟩).2 _ _ h1) ?_
  ·have e1:kF [b]=ke b:=by simp [kF]
   rw [e1]
   refine (Rep.keep fun i x hi hx=>?_).2 _ _ hcs
   have h2:=zZ hx
   have h3:wr.heap.size<=i:=hi
   refine ⟨⟨by omega,fun e=>?_,fun e=>by have:=ltY i e;omega⟩,fK i x hx (fun e=>by have:=ltK i e;omega) (by omega)⟩
   rcases cU i e with e' | e'
   ·have:=ltK i e';omega
   ·omega
 ·exact (Rep.keep fun i x hi hx=>⟨⟨hi.1,fun e=>(cU i e).elim (fun e'=>hi.2.1 e') (fun e'=>by have:=zZ hx;omega),hi.2.2⟩,keep i x hx hi.2.1 (by have:=hi.1;omega) (by have:=hi.1;omega)⟩).2 _ _ h.repY
theorem pU.yes {w:World} {rd ob Z:Nat} {v:Int} {wr:World} {pk py:List Bd} {kv yv:List Value} {ks ys:Value} {nk ny:Nat}
 (h:pU w rd ob Z v wr pk py kv yv ks nk ys ny) (eH:rd<w.heap.size) (lH:ob<Z) (hwo:w.heap.size<ob) {W w7:World} {b:Bd} {cs:List Value} {a':Option Addr} {c':Nat}
 (b9:But (· = rd) wr W) (hcs:zq (wr.heap.size<=·) W (ke b) cs) (b5:Own w7 64 4 (.slice a' (ny+1) c') (ny+1) (yv++cs)) (bh:But (fun i=>ys.ownBlock=some i) W w7)
 (cU:∀ g,(Value.slice a' (ny+1) c').ownBlock=some g->ys.ownBlock=some g\/g=W.heap.size) :
 pU w rd ob Z v (w7.setCell ⟨ob,3,none⟩ (.slice a' (ny+1) c')) pk (py++[b]) kv (yv++cs) ks nk (.slice a' (ny+1) c') (ny+1):=by
 have z6:=b9.size
 have z7:=bh.size
 have zr:=h.z
 have zb:=h.but.size
 have keep:∀ i x,wr.heap[i]? = some x->ys.ownBlock≠some i->i≠ob->i≠rd->(w7.setCell ⟨ob,3,none⟩ (.slice a' (ny+1) c')).heap[i]? = some x:=by
  intro i x hx h1 h2 h3
  have:=zZ hx
  rw [bG _ _ _ _ (by simpa using h2),bh.block i (by omega) h1,b9.block i this h3];exact hx
 have fK:∀ i x,W.heap[i]? = some x->ys.ownBlock≠some i->i≠ob->(w7.setCell ⟨ob,3,none⟩ (.slice a' (ny+1) c')).heap[i]? = some x:=by
  intro i x hx h1 h2
  have:=zZ hx
  rw [bG _ _ _ _ (by simpa using h2),bh.block i (by omega) h1];exact hx
 have ltK:∀ g,ks.ownBlock=some g->g<wr.heap.size:=fun g hg=>h.ownK.lt hg
 have ltY:∀ g,ys.ownBlock=some g->g<wr.heap.size:=fun g hg=>h.ownY.lt hg
 have nY:∀ i,i<Z->ys.ownBlock≠some i:=fun i hi e=>by have:=h.blkY i e;omega
 have newg:∀ g,(Value.slice a' (ny+1) c').ownBlock=some g->Z<=g:=fun g hg=>by
  rcases cU g hg with e | e
  ·exact h.blkY g e
  ·omega
 refine ⟨h.hnk,by simp [h.hny],h.ksl,⟨_,_,rfl⟩,?_,?_,?_,?_,?_,?_,newg,?_,?_,by simp [World.setCell];omega⟩
 ·refine But.setCell ?_ (.inr (show w.heap.size<=ob by omega)) _
  exact (h.but.trans b9).trans' bh (fun i hi e=>absurd e (nY i (by omega)))
 ·exact keep _ _ h.res (nY _ (by omega)) (by omega) (by omega)
 ·have h1:kD ob v ks ys w7:=by
   unfold kD;rw [bh.block ob (by omega) (nY _ lH),b9.block ob (by omega) (show ¬ ob=rd by omega)];exact h.out
  exact h1.put3
 ·exact h.ownK.keep fun g o hg ho=>keep g o ho (h.blkK g hg).2 (by have:=(h.blkK g hg).1;omega) (by have:=(h.blkK g hg).1;omega)
 ·exact b5.keep fun g o hg ho=>by rw [bG _ _ _ _ (by have:=newg g hg;simp;omega)];exact ho
 ·intro g hg
  refine ⟨(h.blkK g hg).1,fun e=>?_⟩
  rcases cU g e with e' | e'
  ·exact (h.blkK g hg).2 e'
  ·have:=ltK g hg;omega
 ·exact (Rep.keep fun i x hi hx=>⟨⟨hi.1,hi.2.1,fun e=>(cU i e).elim (fun e'=>hi.2.2 e') (fun e'=>by have:=zZ hx;omega)⟩,keep i x hx hi.2.2 (by have:=hi.1;omega) (by have:=hi.1;omega)⟩).2 _ _ h.repK
 ·rw [jV]
  refine zq.append ((Rep.keep fun i x hi hx=>⟨⟨hi.1,hi.2.1,fun e=>(cU i e).elim (fun e'=>hi.2.2 e') (fun e'=>by have:=zZ hx;omega)⟩,keep i x hx hi.2.2 (by have:=hi.1;omega) (by have:=hi.1;omega)⟩).2 _ _ h.repY) ?_
  ·have e1:kF [b]=ke b:=by simp [kF]
   rw [e1]
   refine (Rep.keep fun i x hi hx=>?_).2 _ _ hcs
   have h2:=zZ hx
   have h3:wr.heap.size<=i:=hi
   refine ⟨⟨by omega,fun e=>by have:=ltK i e;omega,fun e=>?_⟩,fK i x hx (fun e=>by have:=ltY i e;omega) (by omega)⟩
   rcases cU i e with e' | e'
   ·have:=ltY i e';omega
   ·omega
def cst:Nat->Nat
 | 0=>1
 | d+1=>5+17*cst d
def bnd:Nat->Nat
 | 0=>1
 | d+1=>1+17*bnd d
theorem cst_pos (d:Nat):2<=cst d\/d=0/\cst d=1:=by cases d <;> simp [cst];omega
theorem bnd_pos (d:Nat):1<=bnd d:=by cases d <;> simp [bnd]
theorem g7 {s:Bs} (h:s∈kf):∃ c,s=[c]:=by
 simp only [kf,List.mem_cons,List.not_mem_nil,or_false] at h
 rcases h with rfl | rfl | rfl | rfl | rfl <;> exact ⟨_,rfl⟩
def BodyD (rd Q d:Nat) (hand:List Ty) (w:World) (en:Ending) (w':World):Prop :=
 ∃ (b:Bd) (s:Bs) (v:Int) (a2:Option Addr) (n2 c2:Nat) (a3:Option Addr) (n3 c3:Nat),en=.returned (.agg #[str s,.int .i64 v,.slice a2 n2 c2,.slice a3 n3 c3])/\But (· = rd) w w'/\kq w' rd Q /\
   kB hand b/\lvB b/\zp b<=bnd d/\zq (w.heap.size<=·) w' (ke b) [str s,.int .i64 v,.slice a2 n2 c2,.slice a3 n3 c3]
def DrawB (rd d:Nat):Prop:=∀ (z:Int) (hand:List Ty) (F:Nat->Prop) (hv:Value) (w:World) (P:Nat),z<=d->-1000<=z->P+cst d<=1099511627776->kq w rd P->k8 d hand->(∀ k,F k->k≠rd) ->
 Rep F w (.sl 61 1 hand.length (qc hand)) hv ->
 Calls Tryz.prog 58 #[.pointer (some ⟨rd,0,none⟩),hv,.int .i64 z] w (BodyD rd (P+cst d) d hand w)
theorem uq.newAt {w:World} {rd:Nat} (eH:rd<w.heap.size) (xs:List Bs) (n:Nat) (hn:n=xs.length) (e:TypeId) (g:Nat) (hg:g=w.heap.size):uq (w.alloc (.cells (xs.map str).toArray e)) rd (.slice (some ⟨g,0,none⟩) n n) xs:=by
 subst hg;exact uq.new eH xs n hn e
theorem gq {F:Nat->Prop} {w:World} (c:UInt8):zq F w (ke (.leaf c)) [str [c],.int .i64 0,.slice none 0 0,.slice none 0 0]:=by
 rw [ke]
 have h0:Rep F w (.sl 64 4 0 []) (.slice none 0 0):=qk.2 ⟨rfl,none,0,rfl,bX _,fun _=>rfl,.inl rfl⟩
 exact zP.2 ⟨_,_,rfl,zo.2 rfl,zP.2 ⟨_,_,rfl,zo.2 rfl,zP.2 ⟨_,_,rfl,h0,zP.2 ⟨_,_,rfl,h0,zd.2 rfl⟩⟩⟩⟩
def KidsD (w:World) (rd ob Z v P d:Nat) (hand:List Ty) (t:Ty) (k:Nat) (wr:World):Prop :=
 ∃ (pk:List Bd) (kv:List Value) (ks:Value) (nk:Nat),pU w rd ob Z v wr pk [] kv [] ks nk (.slice none 0 0) 0/\pk.length=k/\kg (kG hand (t.args.take k)) pk/\v_ pk/\zL pk<=k*bnd d/\kq wr rd (P+k*cst d)
def YesD (w:World) (rd ob Z v P d:Nat) (hand:List Ty) (pk:List Bd) (kv:List Value) (ks:Value) (nk:Nat) (k:Nat) (wr:World):Prop :=
 ∃ (py:List Bd) (yv:List Value) (ys:Value) (ny:Nat),pU w rd ob Z v wr pk py kv yv ks nk ys ny/\py.length=k/\(∀ b∈py,kB hand b)/\v_ py/\zL py<=k*bnd d/\kq wr rd (P+k*(1+cst d))
theorem yZ:∀ (xs ys:List Bd),v_ xs->v_ ys->v_ (xs++ys)
 | [],ys,_,h=>by simpa using h
 | x::xs,ys,h1,h2=>by
   rw [v_] at h1
   simp only [List.cons_append]
   rw [v_]
   exact ⟨h1.1,yZ xs ys h1.2 h2⟩
theorem lvBs_one {b:Bd} (h:lvB b):v_ [b]:=by rw [v_];exact ⟨h,by rw [v_];trivial⟩
theorem rep_len {F:Nat->Prop} {w:World} {e:TypeId} {a:Option Addr} {c:Nat} {xs ys:List Ty} (h:Rep F w (.sl e 1 (xs++ys).length (qc (xs++ys))) (.slice a (xs++ys).length c)) :
 Rep F w (.sl e 1 (xs++ys).length (qc (xs++ys))) (.slice a (xs.length+ys.length) c):=by
 have e:xs.length+ys.length=(xs++ys).length:=by simp
 rw [e];exact h
theorem but_drew {m:Nat->Prop} {w w':World} (h:Below w.drew.heap.size w.drew w'):But m w w':=⟨h.os,h.tape,h.output,h.size,fun i hi _=>h.block i hi⟩
theorem but_drew2 {m:Nat->Prop} {w w':World} (h:But m w.drew w'):But m w w':=⟨h.os,h.tape,h.output,h.size,h.block⟩
theorem ug (x:Int) (h1 : -2000<=x) (h2:x<=1000000):IntKind.i64.wrap x=x:=by
 simp [IntKind.wrap,IntKind.bits,IntKind.signed];omega
theorem wrap_sub (z:Int) (p:Nat) (h1:0<z) (h2:z<=1000) (h3:p<2):IntKind.i64.wrap (z-1-(p:Int))=z-1-p:=ug _ (by omega) (by omega)
theorem sub_le {z:Int} {p d:Nat} (h2:z<=((d+1:Nat):Int)):z-1-(p:Int)<=d:=by omega
theorem sub_lo {z:Int} {p:Nat} (h1:0<z) (h3:p<2) : -1000<=z-1-(p:Int):=by omega
theorem reps_past {B B':Nat} {w:World} {o:Obj} {ds:List DV} {vs:List Value} (hB:B'<=B) (h:zq (B<=·) w ds vs):zq (B'<=·) (w.alloc o) ds vs :=
 (Rep.keep fun _ _ hi hx=>⟨bC hB hi,zD hx⟩).2 _ _ h
set_option maxRecDepth 100000 in
theorem xO (rd d:Nat) (hd:d<=100) (ih:∀ d',d=d'+1->DrawB rd d'):DrawB rd d:=by
 intro z hand F hv w P hz hzl hP hr hh hF f_
 have IH:=bU ih;clear ih
 have bA:=hr.lt
 have CST:=bU (cst_pos d)
 have BND:=bU (bnd_pos d)
 have Bn:kq (w.alloc (.cells #[str [],.int .i64 0,.slice none 0 0,.slice none 0 0] 64)) rd P:=hr.alloc _
 have nZ:kD w.heap.size 0 (.slice none 0 0) (.slice none 0 0) (w.alloc (.cells #[str [],.int .i64 0,.slice none 0 0,.slice none 0 0] 64)):=zS _ _
 have Bq:But (· = rd) w (w.alloc (.cells #[str [],.int .i64 0,.slice none 0 0,.slice none 0 0] 64)):=(But.refl _ _).alloc _
 obtain ⟨a0,k0,e,_,_,hat⟩:=zO f_
 subst e
 have Bx:=bU hat;have EL:=bU f_;have HF:=bU hF;have HH:=bU hh
 have bI:hand.length<=10000:=by have:=hh.2;omega
 clear hat f_ hF hh hr
 by_cases fq:z<=0
 ·go_enter Tryz.func58,Tryz.ntmps58
  have H0:=bU (bY Bn (bY nZ Bq))
  have tZ:=H0.out.1.lt
  clear Bn nZ Bq
  go_wp2_with fail
  obtain ⟨lX,mw,mn⟩:=H0.out
  refine (wC rd (P) (.slice (some ⟨w.heap.size+1,0,none⟩) 5 5) kf _ (lX.alloc (.cells (kf.map str).toArray 9)) (uq.newAt tZ kf 5 rfl _ (w.heap.size+1) (by simp)) (by decide) (by decide) (by omega)).mono ?_
  rintro en w2 ⟨s,hs,rfl,bN,dJ⟩
  obtain ⟨c,rfl⟩:=g7 hs
  clear hs
  have dE:kD w.heap.size 0 (.slice none 0 0) (.slice none 0 0) w2:=kD.but (by unfold kD;exact zD mw) bN (show ¬ w.heap.size=rd by omega)
  have d8:=(mn.alloc (.cells (kf.map str).toArray 9)).trans bN
  obtain ⟨r0,r1,r2,r3,rl,rf⟩:=dE.cells
  have aO:=rf 0;have AV:=rf 1;have AU:=rf 2;have AS:=rf 3;clear rf
  have HQ:=bU (bY dE (bY d8 dJ));clear dE d8 dJ bN mw mn lX
  go_wp2_with fail
  obtain ⟨dE,d8,dJ⟩:=HQ.out
  obtain ⟨W,hW,s0,s1,s2,s3,bM,dM,oN⟩:=dE.storeB (str [c]) (.int .i64 0) (.slice none 0 0) (.slice none 0 0)
  rw [<- hW]
  refine bodyPost_ret (v:=.agg #[str [c],.int .i64 0,.slice none 0 0,.slice none 0 0]) (by simp [results,Tryz.results58,go_sem,s0,s1,s2,s3]) rfl ?_
  exact ⟨.leaf c,[c],0,none,0,0,none,0,0,rfl,bM _ _ d8 (bX _),(oN _ _ bA dJ).mono (by have:=CST.out;omega),by simp [kB],by simp [lvB],by simp only [zp];exact BND.out,gq c⟩
 have hP2:P+2<=1099511627776:=by have:=CST.out;omega
 by_cases ou:hand.length=0
 ·have Cy:((hand.length:Int) == 0)=true:=by rw [beq_iff_eq];omega
  go_enter Tryz.func58,Tryz.ntmps58
  have H0:=bU (bY Bn (bY nZ Bq))
  have tZ:=H0.out.1.lt
  clear Bn nZ Bq
  go_wp2_with fail
  obtain ⟨lX,mw,mn⟩:=H0.out
  refine (wC rd (P) (.slice (some ⟨w.heap.size+1,0,none⟩) 5 5) kf _ (lX.alloc (.cells (kf.map str).toArray 9)) (uq.newAt tZ kf 5 rfl _ (w.heap.size+1) (by simp)) (by decide) (by decide) (by omega)).mono ?_
  rintro en w2 ⟨s,hs,rfl,bN,dJ⟩
  obtain ⟨c,rfl⟩:=g7 hs
  clear hs
  have dE:kD w.heap.size 0 (.slice none 0 0) (.slice none 0 0) w2:=kD.but (by unfold kD;exact zD mw) bN (show ¬ w.heap.size=rd by omega)
  have d8:=(mn.alloc (.cells (kf.map str).toArray 9)).trans bN
  obtain ⟨r0,r1,r2,r3,rl,rf⟩:=dE.cells
  have aO:=rf 0;have AV:=rf 1;have AU:=rf 2;have AS:=rf 3;clear rf
  have HQ:=bU (bY dE (bY d8 dJ));clear dE d8 dJ bN mw mn lX
  go_wp2_with fail
  obtain ⟨dE,d8,dJ⟩:=HQ.out
  obtain ⟨W,hW,s0,s1,s2,s3,bM,dM,oN⟩:=dE.storeB (str [c]) (.int .i64 0) (.slice none 0 0) (.slice none 0 0)
  rw [<- hW]
  refine bodyPost_ret (v:=.agg #[str [c],.int .i64 0,.slice none 0 0,.slice none 0 0]) (by simp [results,Tryz.results58,go_sem,s0,s1,s2,s3]) rfl ?_
  exact ⟨.leaf c,[c],0,none,0,0,none,0,0,rfl,bM _ _ d8 (bX _),(oN _ _ bA dJ).mono (by have:=CST.out;omega),by simp [kB],by simp [lvB],by simp only [zp];exact BND.out,gq c⟩
 have Cy:((hand.length:Int) == 0)=false:=by rw [beq_eq_false_iff_ne];omega
 go_enter Tryz.func58,Tryz.ntmps58
 go_wp2_with fail
 refine (qA rd P 5 _ Bn (by omega) (by omega) (by omega)).mono ?_
 rintro en w1 ⟨p1,rfl,nI,bE,dV⟩
 have hN1:=nZ.but bE (show ¬ w.heap.size=rd by omega)
 have nM:=Bq.trans bE
 by_cases oT:p1=0
 ·subst oT
  have H0:=bU (bY dV (bY hN1 nM))
  have tZ:=H0.out.1.lt
  clear dV hN1 nM
  go_wp2_with fail
  obtain ⟨lX,mw,mn⟩:=H0.out
  refine (wC rd (P+1) (.slice (some ⟨w1.heap.size,0,none⟩) 5 5) kf _ (lX.alloc (.cells (kf.map str).toArray 9)) (uq.newAt tZ kf 5 rfl _ (w1.heap.size) (by simp)) (by decide) (by decide) (by omega)).mono ?_
  rintro en w2 ⟨s,hs,rfl,bN,dJ⟩
  obtain ⟨c,rfl⟩:=g7 hs
  clear hs
  have dE:kD w.heap.size 0 (.slice none 0 0) (.slice none 0 0) w2:=kD.but (by unfold kD;exact zD mw) bN (show ¬ w.heap.size=rd by omega)
  have d8:=(mn.alloc (.cells (kf.map str).toArray 9)).trans bN
  obtain ⟨r0,r1,r2,r3,rl,rf⟩:=dE.cells
  have aO:=rf 0;have AV:=rf 1;have AU:=rf 2;have AS:=rf 3;clear rf
  have HQ:=bU (bY dE (bY d8 dJ));clear dE d8 dJ bN mw mn lX
  go_wp2_with fail
  obtain ⟨dE,d8,dJ⟩:=HQ.out
  obtain ⟨W,hW,s0,s1,s2,s3,bM,dM,oN⟩:=dE.storeB (str [c]) (.int .i64 0) (.slice none 0 0) (.slice none 0 0)
  rw [<- hW]
  refine bodyPost_ret (v:=.agg #[str [c],.int .i64 0,.slice none 0 0,.slice none 0 0]) (by simp [results,Tryz.results58,go_sem,s0,s1,s2,s3]) rfl ?_
  exact ⟨.leaf c,[c],0,none,0,0,none,0,0,rfl,bM _ _ d8 (bX _),(oN _ _ bA dJ).mono (by have:=CST.out;omega),by simp [kB],by simp [lvB],by simp only [zp];exact BND.out,gq c⟩
 have hp0':((p1:Int) == 0)=false:=by rw [beq_eq_false_iff_ne];omega
 obtain ⟨d',hd'⟩:∃ d',d=d'+1:=⟨d-1,by omega⟩
 have hih:=IH.out d' hd'
 subst hd'
 have IHD:=bU hih;clear hih
 have hcs:cst (d'+1)=5+17*cst d':=rfl
 have hbs:bnd (d'+1)=1+17*bnd d':=rfl
 go_wp2_with fail
 refine (qA rd (P+1) hand.length w1 dV (by omega) (by omega) (by omega)).mono ?_
 rintro en w2 ⟨v,rfl,hv,bN,dJ⟩
 have lw:=hN1.but bN (show ¬ w.heap.size=rd by omega)
 have hB2:=nM.trans bN
 obtain ⟨bl,ol,u,dv,ea,hFl,fT,iA,DB,mI⟩:=Bx.out v hv
 rw [vS,Option.map_eq_some_iff] at iA
 obtain ⟨t,ht,rfl⟩:=iA
 obtain ⟨sa,sk,rfl⟩:=zu mI
 have nL:=mI
 rw [qb] at nL
 obtain ⟨_,_,est,_,_,b8⟩:=zO nL
 simp only [Value.slice.injEq] at est
 obtain ⟨rfl,_,rfl⟩:=est
 subst ea
 have A4:t.args.length<=15:=by
  have h1:=HH.out.1 t (List.mem_of_getElem? ht)
  have h2:=qC t
  have:=qt t.args;omega
 have HT:=bU ht;have aZ:=bU b8
 have hblr:=HF.out bl hFl
 have z1:=bE.size
 rw [zQ] at z1
 have z2:=bN.size
 have Cn:w.heap.size<w2.heap.size:=by omega
 have hrdo:rd<w2.heap.size:=by omega
 have de:KidsD w rd w2.heap.size (w2.heap.size+1) v (P+2) d' hand t 0 (w2.alloc (.cells #[str [],.int .i64 v,.slice none 0 0,.slice none 0 0] 64)):=by
  refine ⟨[],[],.slice none 0 0,0,⟨rfl,rfl,⟨_,_,rfl⟩,⟨_,_,rfl⟩,hB2.alloc _,by unfold kD;exact zD lw,zS _ _,World.ownsRow_nil _ _ _ _,World.ownsRow_nil _ _ _ _,fun g h=>by simp [Value.ownBlock] at h,fun g h=>by simp [Value.ownBlock] at h,zd.2 rfl,zd.2 rfl,by simp⟩,rfl,by simp [kg,kG],by simp [v_],by simp [zL],?_⟩
  have:=dJ.alloc (.cells #[str [],.int .i64 v,.slice none 0 0,.slice none 0 0] 64)
  simpa using this
 have mp:w2.heap.size≠rd:=by omega
 have ZZ1:=bU (ug (z-1) (by omega) (by omega))
 have zz2:z-1<=d':=by omega
 have zz3 : -1000<=z-1:=by omega
 have zz4:z<=1000:=by omega
 have zz0:0<z:=by omega
 have h04:0<4:=by omega
 have fb:(v:Int)<(hand.length:Int):=by omega
 clear ht b8 nL lw hB2 bN bE hN1 nM nZ Bq dV dJ z1 z2 Bn
 go_wp2_with fail
 go_loopw [9] (fun i wr=>∃ k:Nat,k<=t.args.length/\i=.int .i64 k/\KidsD w rd w2.heap.size (w2.heap.size+1) v (P+2) d' hand t k wr) (fun i _=>t.args.length-(intOf i).toNat)
 case atStart=>exact ⟨0,Nat.zero_le _,rfl,de⟩
 case round =>
  clear de
  obtain ⟨k,hk,rfl,pk,kv,ks,nk,hN,dZ,hfk,lE,oD,sf⟩:=hrel
  have ch:=hN.but
  obtain ⟨ka,kc,eks⟩:=hN.ksl
  subst eks
  have e0:=jn ch hblr DB
  have HN:=bU hN;have HFK:=bU hfk;have HLK:=bU lE;have HPK:=bU dZ
  obtain ⟨q0,q1,q2,q3,ql,qf⟩:=hN.out.cells
  have az:=qf 2;clear qf
  have hnk:nk<=15:=by have:=hN.hnk;omega
  have mQ:nk+1<=maxLen:=by unfold maxLen;omega
  have mF:(nk+1)*72<=140737488355328:=by omega
  have hk15:k*cst d'<=15*cst d':=Nat.mul_le_mul_right _ (by omega)
  have hQ:(P+2+k*cst d')+cst d'<=1099511627776:=by omega
  clear hfk lE hN dZ
  by_cases Db:k<t.args.length
  ·obtain ⟨ba,oa,uk,dk,esa,hFa,DX,lL,iL,oF⟩:=aZ.out k Db
   subst esa
   rw [vS,Option.map_eq_some_iff] at lL
   obtain ⟨tk,fl,rfl⟩:=lL
   obtain ⟨ua,uc,rfl⟩:=zu oF
   have hbar:=HF.out ba hFa
   have e1:=jn ch hbar iL
   have sh:Rep F wr.drew (qZ tk) (.slice ua tk.args.length uc):=(Rep.but ch (fun b hb=>⟨HF.out b hb,hb⟩) oF).drew
   have fu:=(Rep.but ch (fun b hb=>⟨HF.out b hb,hb⟩) EL.out).drew
   have lA:k8 d' (hand++tk.args):=HH.out.next HT.out (List.mem_of_getElem? fl)
   have lE:Lim (hand.length+tk.args.length):=by have:=lA.2;simp at this;show _<=_;omega
   have HTK:=bU fl
   have hF5:∀ g,(F g\/wr.drew.heap.size<=g)->g≠rd:=fun g hg=>by
    rcases hg with h | h
    ·exact HF.out g h
    ·have h2:wr.heap.size<=g:=h
     omega
   have C1:=bU (gu F hand tk _ _ wr.drew fu sh lE)
   have Ca:=sf.drew
   have C2:=bU (fun a5 c5 w5 (h5:Below wr.drew.heap.size wr.drew w5) (fR:Rep (fun k=>F k\/wr.drew.heap.size<=k) w5 (.sl 61 1 (hand++tk.args).length (qc (hand++tk.args))) (.slice a5 (hand++tk.args).length c5)) =>
    IHD.out (z-1) (hand++tk.args) (fun k=>F k\/wr.drew.heap.size<=k) (.slice a5 (hand.length+tk.args.length) c5) w5 (P+2+k*cst d') zz2 zz3 hQ (Ca.below h5) lA hF5 (rep_len fR))
   have OWN:=bU (fun w5 w6 (h5:But (· = rd) wr w5) (h6:But (· = rd) w5 w6)=>own_thru HN.out.ownK (fun g hg=>by have:=(HN.out.blkK g hg).1;omega) h5 h6)
   have NB:=bU (show ¬ (Value.slice ka nk kc).ownBlock=some w2.heap.size from fun e=>by have:=(HN.out.blkK _ e).1;omega)
   have hlt9':(k:Int)<(t.args.length:Int):=by omega
   clear fl iL oF sh fu lA lE hF5 sf Ca
   have zz1:=ZZ1.out
   go_wp2_with fail
   go_region_law (first
    | (refine zE (by rfl) _ _ _ (by rfl) 64 (.agg #[str [],.int .i64 0,.slice none 0 0,.slice none 0 0]) 4 72 Tryz.underlying62 Tryz.infoN rfl h04 (.slice ka nk kc) nk kv (by rfl) (AM.out.alloc _) _ 1 [str s6,.int .i64 v6,.slice a2 n2 k2,.slice a3 n3 k3] (by rfl) (zR.lit4 #[str s6,.int .i64 v6,.slice a2 n2 k2,.slice a3 n3 k3] rfl (by simp [str,Value.oneCell']) _ rfl) mQ mF ?_;intro a' c' w7 dD bh cU;have hc7:=out_cell bh NB.out q26;have Af:=out_free bh NB.out BJ qf26)
    | (go_simp;go_at_call 58;refine (C2.out _ _ _ b_ fR).mono ?_;rintro en6 w6 ⟨b,s6,v6,a2,n2,k2,a3,n3,k3,rfl,b9,oR,Ag,lS,rz,mU⟩;have q26:=jn b9 mp q25;have BJ:=bH AW b9.size;have qf26:=xr b9 mp AW qf25;have AM:=bU (OWN.out _ _ dP b9))
    | (go_simp;go_at_call 97;refine C1.out.mono ?_;rintro en5 w5 ⟨a5,c5,rfl,b_,fR⟩;have dP:But (· = rd) wr w5:=but_drew b_;have q25:=jn dP mp q2;have AW:=bH ql dP.size;have qf25:=xr dP mp ql az))
   all_goals
    clear zz1
    have hA:=HN.out.kid bA (Nat.lt_succ_self _) Cn ((dP.trans b9).alloc _) (reps_past dP.size mU) dD bh cU
    have sm:kq (w7.setCell ⟨w2.heap.size,2,none⟩ (.slice a' (nk+1) c')) rd (P+2+(k+1)*cst d'):=by
     refine kq.mono (kq.but (m:=fun i=>i=w2.heap.size\/(Value.slice ka nk kc).ownBlock=some i) (oR.alloc (.cells #[str s6,.int .i64 v6,.slice a2 n2 k2,.slice a3 n3 k3] 64)) (But.setCell (bh.weak fun i _ h=>.inr h) (.inl (.inl rfl)) _) ?_) (by rw [Nat.succ_mul];omega)
     intro i hi h
     rcases h with h | h
     ·omega
     ·have:=(HN.out.blkK _ h).1;omega
    have Dp:kg (kG hand (t.args.take (k+1))) (pk++[b]):=by
     rw [gg HTK.out]
     exact uM _ _ _ _ HFK.out ⟨_,_,rfl,Ag,by rw [kg]⟩
    have iU:zL (pk++[b])<=(k+1)*bnd d':=by rw [kI,Nat.succ_mul];simp only [zL];omega
    have AO:Hid (KidsD w rd w2.heap.size (w2.heap.size+1) v (P+2) d' hand t (k+1) (w7.setCell ⟨w2.heap.size,2,none⟩ (.slice a' (nk+1) c'))) :=
     ⟨pk++[b],_,_,_,hA,by simp [HPK.out],Dp,yZ _ _ HLK.out (lvBs_one lS),iU,sm⟩
    clear hA sm Dp iU Ag lS rz mU dD bh cU oR fR
    go_wp2_with fail
    go_roundw
    case rel=>exact ⟨k+1,by omega,by go_num,AO.out⟩
    case measure=>simp [intOf];omega
  ·obtain rfl:k=t.args.length:=by omega
   have hnlt:¬ ((t.args.length:Int)<(t.args.length:Int)):=by omega
   have HFA:Hid (kg (kG hand t.args) pk):=by have:=HFK.out;rwa [List.take_length] at this
   have HSK:=bU oD
   have lU:YesD w rd w2.heap.size (w2.heap.size+1) v (P+2+t.args.length*cst d') d' hand pk kv (.slice ka nk kc) nk 0 wr :=
    ⟨[],[],.slice none 0 0,0,HN.out,rfl,by simp,by simp [v_],by simp [zL],by simpa using sf⟩
   have HHS:Hid (k8 d' hand):=by have:=HH.out.same;rw [List.append_nil] at this;exact this
   clear sf oD HFK Db ch
   go_wp2_with fail
   clear HN q0 q1 q2 q3 ql az e0 hnlt
   go_loopw [10] (fun i wr=>∃ k:Nat,k<=2/\i=.int .i64 k/\YesD w rd w2.heap.size (w2.heap.size+1) v (P+2+t.args.length*cst d') d' hand pk kv (.slice ka nk kc) nk k wr) (fun i _=>2-(intOf i).toNat)
   case atStart=>exact ⟨0,by omega,rfl,lU⟩
   case round =>
    clear lU
    obtain ⟨k,hk,rfl,py,yv,ys,ny,hN,hpy,Ac,Ba,hsy,rJ⟩:=hrel
    have ch:=hN.but
    obtain ⟨ya,yc,eys⟩:=hN.ysl
    subst eys
    have HN:=bU hN;have HFY:=bU Ac;have HLY:=bU Ba;have HPY:=bU hpy;have HSY:=bU hsy
    obtain ⟨q0,q1,q2,q3,ql,qf⟩:=hN.out.cells
    have il:=qf 3;clear qf
    have hny:ny<=2:=by have:=hN.hny;omega
    have mQ:ny+1<=maxLen:=by unfold maxLen;omega
    have mF:(ny+1)*72<=140737488355328:=by omega
    have hk2c:k*(1+cst d')<=2*(1+cst d'):=Nat.mul_le_mul_right _ (by omega)
    have hQ1:P+2+t.args.length*cst d'+k*(1+cst d')<=1099511627776:=by omega
    clear Ac Ba hpy hsy
    by_cases hlt10:k<2
    ·have hk1c:k*(1+cst d')<=1*(1+cst d'):=Nat.mul_le_mul_right _ (by omega)
     have hQ2:P+2+t.args.length*cst d'+k*(1+cst d')+1+cst d'<=1099511627776:=by omega
     have oE:=Rep.but ch (fun b hb=>⟨HF.out b hb,hb⟩) EL.out
     have C1:=bU (qA rd (P+2+t.args.length*cst d'+k*(1+cst d')) 2 wr.drew rJ.drew (by omega) (by omega) hQ1)
     have C2:=bU (fun w5 (h5:But (· = rd) wr w5) (p5:Nat) (mB:p5<2) (fR:kq w5 rd (P+2+t.args.length*cst d'+k*(1+cst d')+1)) =>
      IHD.out (z-1-(p5:Int)) hand F (.slice (some ⟨bl,ol,none⟩) hand.length k0) w5 (P+2+t.args.length*cst d'+k*(1+cst d')+1) (sub_le hz) (sub_lo zz0 mB) hQ2 fR HHS.out HF.out (Rep.but h5 (fun b hb=>⟨HF.out b hb,hb⟩) oE))
     have OWN:=bU (fun w5 w6 (h5:But (· = rd) wr w5) (h6:But (· = rd) w5 w6)=>own_thru HN.out.ownY (fun g hg=>by have:=HN.out.blkY g hg;omega) h5 h6)
     have NB:=bU (show ¬ (Value.slice ya ny yc).ownBlock=some w2.heap.size from fun e=>by have:=HN.out.blkY _ e;omega)
     have hlt10':(k:Int)<2:=by omega
     clear oE rJ hN ch q2
     have zz1:=ZZ1.out
     go_wp2_with fail
     go_region_law (first
      | (refine zE (by rfl) _ _ _ (by rfl) 64 (.agg #[str [],.int .i64 0,.slice none 0 0,.slice none 0 0]) 4 72 Tryz.underlying62 Tryz.infoN rfl h04 (.slice ya ny yc) ny yv (by rfl) (AM.out.alloc _) _ 1 [str s6,.int .i64 v6,.slice a2 n2 k2,.slice a3 n3 k3] (by rfl) (zR.lit4 #[str s6,.int .i64 v6,.slice a2 n2 k2,.slice a3 n3 k3] rfl (by simp [str,Value.oneCell']) _ rfl) mQ mF ?_;intro a' c' w7 dD bh cU;have hc7:=out_cell bh NB.out q36;have Af:=out_free bh NB.out BJ qf36)
      | (go_simp;go_at_call 58;refine (C2.out _ dP _ mB fR).mono ?_;rintro en6 w6 ⟨b,s6,v6,a2,n2,k2,a3,n3,k3,rfl,b9,oR,Ag,lS,rz,mU⟩;have q36:=jn b9 mp q35;have BJ:=bH AW b9.size;have qf36:=xr b9 mp AW qf35;have AM:=bU (OWN.out _ _ dP b9))
      | (go_simp;go_at_call 48;refine C1.out.mono ?_;rintro en5 w5 ⟨p5,rfl,mB,b_,fR⟩;have dP:But (· = rd) wr w5:=but_drew2 b_;have q35:=jn dP mp q3;have AW:=bH ql dP.size;have qf35:=xr dP mp ql il;have zz5:=wrap_sub z p5 zz0 zz4 mB))
     all_goals
      clear zz1 zz5
      have hA:=HN.out.yes bA (Nat.lt_succ_self _) Cn ((dP.trans b9).alloc _) (reps_past dP.size mU) dD bh cU
      have sm:kq (w7.setCell ⟨w2.heap.size,3,none⟩ (.slice a' (ny+1) c')) rd (P+2+t.args.length*cst d'+(k+1)*(1+cst d')):=by
       refine kq.mono (kq.but (m:=fun i=>i=w2.heap.size\/(Value.slice ya ny yc).ownBlock=some i) (oR.alloc (.cells #[str s6,.int .i64 v6,.slice a2 n2 k2,.slice a3 n3 k3] 64)) (But.setCell (bh.weak fun i _ h=>.inr h) (.inl (.inl rfl)) _) ?_) (by rw [Nat.succ_mul];omega)
       intro i hi h
       rcases h with h | h
       ·omega
       ·have:=HN.out.blkY _ h;omega
      have Dn:∀ x∈py++[b],kB hand x:=by
       intro x hx
       rcases List.mem_append.1 hx with h | h
       ·exact HFY.out x h
       ·simp at h;subst h;exact Ag
      have iU:zL (py++[b])<=(k+1)*bnd d':=by have:=HSY.out;rw [kI,Nat.succ_mul];simp only [zL];omega
      have AO:Hid (YesD w rd w2.heap.size (w2.heap.size+1) v (P+2+t.args.length*cst d') d' hand pk kv (.slice ka nk kc) nk (k+1) (w7.setCell ⟨w2.heap.size,3,none⟩ (.slice a' (ny+1) c'))) :=
       ⟨py++[b],_,_,_,hA,by simp [HPY.out],Dn,yZ _ _ HLY.out (lvBs_one lS),iU,sm⟩
      clear hA sm Dn iU Ag lS rz mU dD bh cU oR fR
      go_wp2_with fail
      go_roundw
      case rel=>exact ⟨k+1,by omega,by go_num,AO.out⟩
      case measure=>simp [intOf];omega
    ·obtain rfl:k=2:=by omega
     obtain ⟨r0,r1,r2,r3,rl,rf⟩:=hN.res.cells
     have aO:=rf 0;have AV:=rf 1;have AU:=rf 2;have AS:=rf 3;clear rf
     have HRY:=bU rJ
     clear rJ hN ch
     go_wp2_with fail
     have hN:=HN.out
     obtain ⟨W,hW,s0,s1,s2,s3,bM,dM,oN⟩:=hN.res.storeB (str []) (.int .i64 v) (.slice ka nk kc) (.slice ya ny yc)
     rw [<- hW]
     refine bodyPost_ret (v:=.agg #[str [],.int .i64 v,.slice ka nk kc,.slice ya ny yc]) (by simp [results,Tryz.results58,go_sem,s0,s1,s2,s3]) rfl ?_
     have hpy:=HPY.out
     obtain ⟨y1,y2,rfl⟩:∃ y1 y2,py=[y1,y2]:=by
      match py,hpy with
      | [a,b],_=>exact ⟨a,b,rfl⟩
     have Ba:=HLY.out
     rw [v_,v_] at Ba
     have hsy:=HSY.out
     have oD:=HSK.out
     simp only [zL] at hsy
     have hb15:t.args.length*bnd d'<=15*bnd d':=Nat.mul_le_mul_right _ (by omega)
     have ov:=hN.hnk
     have oz:ny=2:=hN.hny
     subst oz
     refine ⟨.ask v pk y1 y2,[],v,ka,nk,kc,ya,2,yc,rfl,bM _ _ hN.but (bX _),(oN _ _ bA HRY.out).mono (by omega),?_,?_,?_,?_⟩
     ·rw [kB];exact ⟨t,HT.out,HFA.out,HFY.out y1 (by simp),HFY.out y2 (by simp)⟩
     ·rw [lvB];exact ⟨by omega,HLK.out,Ba.1,Ba.2.1⟩
     ·simp only [zp];omega
     ·rw [gt]
      refine zP.2 ⟨_,_,rfl,zo.2 rfl,zP.2 ⟨_,_,rfl,zo.2 rfl,zP.2 ⟨_,_,rfl,?_,zP.2 ⟨_,_,rfl,?_,zd.2 rfl⟩⟩⟩⟩
      ·rw [<- ov]
       refine (hN.ownK.keep fun g o hg ho=>dM g o (by have:=(hN.blkK g hg).1;omega) ho).rep (fun g hg=>by have:=(hN.blkK g hg).1;omega) ?_
       exact (Rep.keep fun x o hx ho=>⟨by have:=hx.1;omega,dM x o (by have:=hx.1;omega) ho⟩).2 _ _ hN.repK
      ·refine (hN.ownY.keep fun g o hg ho=>dM g o (by have:=hN.blkY g hg;omega) ho).rep (fun g hg=>by have:=hN.blkY g hg;omega) ?_
       exact (Rep.keep fun x o hx ho=>⟨by have:=hx.1;omega,dM x o (by have:=hx.1;omega) ho⟩).2 _ _ hN.repY
theorem l91Body_any (rd d:Nat) (hd:d<=100):DrawB rd d:=by
 induction d with
 | zero=>exact xO rd 0 hd (fun d' h=>by omega)
 | succ d ih=>exact xO rd (d+1) hd (fun d' h=>by rw [<- Nat.succ.inj h];exact ih (by omega))
def Row8 (w:World) (a:Option Addr) (len cap:Nat) (zs:List Int):Prop :=
 (a=none/\len=0/\cap=0/\zs=[]) \/
 ∃ x,a=some x/\len<=cap/\cap<=maxLen/\zs.length=cap/\(∀ i,i<zs.length->w.cell? (x.add i)=some (.int .u8 (zs.getD i 0)))/\∀ n∈zs,(Lit.int .u8 n).wf=true
theorem Row8.le {w:World} {a:Option Addr} {len cap:Nat} {zs:List Int} (h:Row8 w a len cap zs):len<=cap:=by
 rcases h with ⟨_,rfl,rfl,_⟩ | ⟨x,_,h,_⟩
 ·exact bX _
 ·exact h
theorem Row8.bytes {w:World} {a:Option Addr} {len cap:Nat} {zs:List Int} (h:Row8 w a len cap zs) (n:Nat) (hn:n<=len) :
 n=0\/∃ b o,a=some ⟨b,o,none⟩/\b<w.heap.size/\∀ k,k<n->∃ x:Nat,x<256/\w.cell? ⟨b,o+k,none⟩=some (.int .u8 x):=by
 rcases Nat.eq_zero_or_pos n with h0 | h0
 ·exact .inl h0
 right
 rcases h with ⟨_,rfl,_,_⟩ | ⟨x,rfl,hl,_,hz,hc,hw⟩
 ·omega
 obtain ⟨b,o,sp⟩:=x
 have h1:=hc 0 (by omega)
 have nA:sp=none:=by
  cases sp with
  | none=>rfl
  | some q=>simp [World.cell?,Addr.add] at h1;split at h1 <;> simp_all
 subst nA
 have nd:∀ i,(⟨b,o,none⟩:Addr).add i=⟨b,o+i,none⟩:=fun i=>by
  unfold Addr.add;split <;> simp_all
 have h2:=bW w _ h1
 refine ⟨b,o,rfl,by rw [nd] at h2;exact h2,fun k hk=>?_⟩
 have hkz:k<zs.length:=by omega
 have h3:=hc k hkz
 rw [nd] at h3
 have hm:zs.getD k 0∈zs:=by
  rw [List.getD_eq_getElem?_getD,List.getElem?_eq_getElem hkz];exact List.getElem_mem hkz
 have hwf:=hw _ hm
 clear hm
 generalize zs.getD k 0=z at *
 have hb:0<=z/\z<256:=by
  simp [Lit.wf,IntKind.min,IntKind.max,IntKind.bits,IntKind.signed] at hwf
  omega
 refine ⟨z.toNat,by omega,?_⟩
 rw [h3,Int.toNat_of_nonneg hb.1]
theorem l6Open_any (a:Option Addr) (len cap:Nat) (zs:List Int) (w:World) (h:Row8 w a len cap zs) (hl:len<=1048576) :
 Calls Tryz.prog 28 #[.slice a len cap] w fun en w'=>en=.returned (.pointer (some ⟨w.heap.size,0,none⟩))/\Below w.heap.size w w'/\kq w' w.heap.size 0/\w.heap.size<w'.heap.size:=by
 have sG:=h.le
 have H:=bU h;clear h
 by_cases h2:2000<len
 ·have h2':(2000:Int)<(len:Int):=by omega
  have h3:(2000:Int)<=(cap:Int):=by omega
  obtain ⟨b,o,ea,hb,hk⟩:=(H.out.bytes 2000 (by omega)).resolve_left (by omega)
  subst ea
  have HK:=bU hk;clear hk
  go_enter Tryz.func28,Tryz.ntmps28
  go_wp2_with fail
  go_ret
  refine ⟨rfl,(bP _ _).alloc (bX _) _,?_,by simp⟩
  refine ⟨_,2000,_,0,zS _ _,bX _,bX _,.inr ⟨b,o,rfl,hb,fun k hk=>?_⟩⟩
  obtain ⟨x,hx,hc⟩:=HK.out k hk
  exact ⟨x,hx,zG hc⟩
 ·have h2':¬ (2000:Int)<(len:Int):=by omega
  go_enter Tryz.func28,Tryz.ntmps28
  go_wp2_with fail
  go_ret
  refine ⟨rfl,(bP _ _).alloc (bX _) _,?_,by simp⟩
  refine ⟨_,len,_,0,zS _ _,bX _,by omega,?_⟩
  rcases H.out.bytes len (bX _) with h0 | ⟨b,o,ea,hb,hk⟩
  ·exact .inl h0
  ·refine .inr ⟨b,o,ea,hb,fun k iF=>?_⟩
   obtain ⟨x,hx,hc⟩:=hk k iF
   exact ⟨x,hx,zG hc⟩
theorem xP {s:Bs} (h:s∈jK):(zV s).2=true/\s.length<=100:=by
 simp only [jK,List.mem_cons,List.not_mem_nil,or_false] at h
 rcases h with rfl | rfl | rfl | rfl | rfl | rfl | rfl | rfl <;> exact ⟨by decide,by decide⟩
theorem wrap_one (p:Nat) (h:p<3):IntKind.i64.wrap (1+(p:Int))=1+p:=ug _ (by omega) (by omega)
theorem sum_le (p:Nat) (h:p<3):(1:Int)+(p:Int)<=((3:Nat):Int):=by omega
theorem sum_lo (p:Nat):(-1000:Int)<=(1:Int)+(p:Int):=by omega
theorem cst3:cst 3=6448:=rfl
def StratD (rd Q:Nat) (s:Bs) (w:World) (en:Ending) (w':World):Prop :=
 ∃ b:Bd,en=.returned (str (qJ b))/\But (· = rd) w w'/\kq w' rd Q/\kB (zV s).1.args b/\lvB b/\zp b<=5220
set_option maxRecDepth 100000 in
theorem pH (rd P:Nat) (s:Bs) (hsl:s.length<=100) (hh:k8 3 (zV s).1.args) (w:World) (h:kq w rd P) (hP:P+6500<=1099511627776) :
 Calls Tryz.prog 55 #[.pointer (some ⟨rd,0,none⟩),str s] w (StratD rd (P+6449) s w):=by
 have bA:=h.lt
 have H:=bU h;have HH:=bU hh
 clear h hh
 go_enter Tryz.func55,Tryz.ntmps55
 go_wp2_with fail
 refine (uE s (show _<=_ by omega) w).mono ?_
 rintro en w1 ⟨tv,rfl,bE,mH⟩
 obtain ⟨ta,tc,etv⟩:=zu mH
 subst etv
 have dV:=H.out.below (bE.mono (bX _))
 rw [qb] at mH
 generalize hT:(zV s).1=t at *
 have z1:=bE.size
 have hcT:(w1.alloc (.cells #[.slice ta t.args.length tc] 61)).cell? ⟨w1.heap.size,0,none⟩=some (.slice ta t.args.length tc):=by simp
 have bm:w1.heap.size≠rd:=by omega
 have hF:∀ k,w.heap.size<=k->k≠rd:=fun k hk=>by omega
 have A6:Rep (w.heap.size<=·) (w1.alloc (.cells #[.slice ta t.args.length tc] 61)) (.sl 61 1 t.args.length (qc t.args)) (.slice ta t.args.length tc):=(Rep.keep fun b o h ho=>⟨h,zD ho⟩).1 _ _ mH
 have Cb:=dV.alloc (.cells #[.slice ta t.args.length tc] 61)
 have C1:=bU (qA rd P 3 _ Cb.drew (by omega) (by omega) (by omega))
 have C2:=bU (fun w5 (h5:But (· = rd) (w1.alloc (.cells #[.slice ta t.args.length tc] 61)) w5) (p5:Nat) (mB:p5<3) (fR:kq w5 rd (P+1)) =>
  l91Body_any rd 3 (by omega) (1+(p5:Int)) t.args (w.heap.size<=·) (.slice ta t.args.length tc) w5 (P+1) (sum_le p5 mB) (sum_lo p5) (by rw [cst3];omega) fR HH.out hF (Rep.but h5 (fun b hb=>⟨hF b hb,hb⟩) A6))
 have cO:=bU bE
 have HTT:=bU hT
 clear hT mH A6 Cb dV bE hF
 go_wp2_with fail
 go_region_held3 (fun w'=>w'.cell? ⟨w1.heap.size,0,none⟩=some (.slice ta t.args.length tc))
  (first
   | exact hcT
   | exact hcL
   | exact hcB
   | exact hcP
   | go_keep)
  (first
   | (go_at_call 57;refine (l3Text_any 5220 b rz (by omega) lS _ w6 _ _ _ _ mU).mono ?_;rintro en7 w7 ⟨rfl,bh⟩;have hcL:=(bh.cell (bW w6 ⟨w1.heap.size,0,none⟩ hcB)).trans hcB)
   | (go_at_call 58;refine (C2.out _ dP _ mB fR).mono ?_;rintro en6 w6 ⟨b,s6,v6,a2,n2,k2,a3,n3,k3,rfl,b9,oR,Ag,lS,rz,mU⟩;have hcB:=jn b9 bm hcP)
   | (go_at_call 48;refine C1.out.mono ?_;rintro en5 w5 ⟨p5,rfl,mB,b_,fR⟩;have dP:=but_drew2 b_;have hcP:=jn dP bm hcT;have zz:=wrap_one p5 mB))
 go_wp2_with fail
 go_ret
 have cz:But (· = rd) w (w1.alloc (.cells #[.slice ta t.args.length tc] 61)):=(But.ofBelow cO.out).alloc _
 refine ⟨b,rfl,((cz.trans dP).trans b9).trans (But.ofBelow bh),(oR.below bh).mono (by rw [cst3];omega),?_,lS,rz⟩
 rw [HTT.out];exact Ag
theorem hand3_of_ok {s:Bs} (b4:(zV s).2=true):k8 3 (zV s).1.args:=by
 have:=xw (ja b4)
 exact ⟨this.1,by have:=this.2;omega⟩
theorem pB (rd P:Nat) (s:Bs) (hs:s∈jK) (w:World) (h:kq w rd P) (hP:P+6500<=1099511627776) :
 Calls Tryz.prog 55 #[.pointer (some ⟨rd,0,none⟩),str s] w (StratD rd (P+6449) s w) :=
 pH rd P s (xP hs).2 (hand3_of_ok (xP hs).1) w h hP
def Given (rd Q:Nat) (w:World) (en:Ending) (w':World):Prop :=
 ∃ s text:Bs,en=.returned (.tuple #[str s,str text])/\s.length<=100/\text.length<=100000/\But (· = rd) w w'/\kq w' rd Q
theorem odd_len {s:Bs} (h:s∈jK++ui):s.length<=100:=by
 simp only [jK,ui,List.mem_append,List.mem_cons,List.not_mem_nil,or_false] at h
 rcases h with (rfl | rfl | rfl | rfl | rfl | rfl | rfl | rfl) | (rfl | rfl | rfl | rfl | rfl | rfl | rfl) <;> decide
theorem bad_len {s:Bs} (h:s∈yP):s.length<=100:=by
 simp only [yP,List.mem_cons,List.not_mem_nil,or_false] at h
 rcases h with rfl | rfl | rfl | rfl | rfl | rfl | rfl | rfl <;> decide
set_option maxRecDepth 100000 in
theorem l91Given_any (rd P:Nat) (w:World) (h:kq w rd P) (hP:P+7000<=1099511627776) :
 Calls Tryz.prog 37 #[.pointer (some ⟨rd,0,none⟩)] w (Given rd (P+6500) w):=by
 go_enter Tryz.func37,Tryz.ntmps37
 go_wp2_with fail
 refine (vp rd P w h (by omega)).mono ?_
 rintro en w1 ⟨s,hs,rfl,bE,dV⟩
 have HS:=bU hs;clear hs h
 go_wp2_with fail
 refine (qA rd (P+1) 16 w1 dV (by omega) (by omega) (by omega)).mono ?_
 rintro en w2 ⟨v,rfl,hv,bN,dJ⟩
 have b7:=bE.trans bN
 by_cases nS:v=0
 ·subst nS
  clear dV bE bN
  go_wp2_with fail
  refine (l91Odd_any rd (P+2) w2 dJ (by omega)).mono ?_
  rintro en w3 ⟨s3,fN,rfl,bp,hr3⟩
  have HS3:=bU fN;clear fN dJ
  have hlt3:=hr3.lt
  go_wp2_with fail
  refine (wC rd (P+2+2) (.slice (some ⟨w3.heap.size,0,none⟩) 8 8) yP _ (hr3.alloc (.cells (yP.map str).toArray 9)) (uq.newAt hlt3 yP 8 rfl _ (w3.heap.size) rfl) (by decide) (by decide) (by omega)).mono ?_
  rintro en w4 ⟨s4,f7,rfl,cV,rV⟩
  have HS4:=bU f7;clear f7
  go_wp2_with fail
  refine bodyPost_ret (v:=.tuple #[str s3,str s4]) (by simp [results,Tryz.results37,go_sem]) rfl ?_
  exact ⟨s3,s4,rfl,odd_len HS3.out,bC (bad_len HS4.out) (by omega),(b7.trans bp).trans (((But.refl _ w3).alloc _).trans cV),rV.mono (by omega)⟩
 ·have mT:((v:Int) == 0)=false:=by rw [beq_eq_false_iff_ne];omega
  clear dV bE bN
  go_wp2_with fail
  refine (pB rd (P+2) s HS.out w2 dJ (by omega)).mono ?_
  rintro en w3 ⟨b,rfl,bp,hr3,hf,dy,eG⟩
  have bI:=qu b dy
  clear hf
  go_wp2_with fail
  refine bodyPost_ret (v:=.tuple #[str s,str (qJ b)]) (by simp [results,Tryz.results37,go_sem]) rfl ?_
  exact ⟨s,qJ b,rfl,(xP HS.out).2,by omega,b7.trans bp,hr3.mono (by omega)⟩
theorem but_new {rd:Nat} {w w1 w2:World} (h1:Below w.heap.size w w1) (eH:w.heap.size<=rd) (h2:But (· = rd) w1 w2):Below w.heap.size w w2 :=
 h1.trans (h2.toBelow h1.size fun i hi e=>by omega)
theorem jE.cells {w:World} {v:Value} {us:List (Value×Value)} {xs:xo} (h:jE w v us xs) {i:Nat} {u:Value×Value} (hu:us[i]? = some u):∃ g c,v=.slice (some ⟨g,0,none⟩) us.length c/\w.cell? ⟨g,i*2,none⟩=some u.1/\w.cell? ⟨g,i*2+1,none⟩=some u.2:=by
 obtain ⟨h1,h2⟩:=plC_at us i u hu
 obtain ⟨g,c,e,k1⟩:=h.own.at h1
 obtain ⟨g',c',e',k2⟩:=h.own.at h2
 rw [e] at e'
 simp only [Value.slice.injEq,Option.some.injEq,Addr.mk.injEq,true_and] at e'
 obtain ⟨⟨rfl,_⟩,_⟩:=e'
 exact ⟨g,c,e,k1,k2⟩
theorem jE.slice {w:World} {v:Value} {us:List (Value×Value)} {xs:xo} (h:jE w v us xs):∃ a c,v=.slice a us.length c:=h.own.slice
def PlD (B rd Q:Nat) (w:World) (en:Ending) (w':World):Prop :=
 ∃ (l:Pl) (a1:Option Addr) (c1:Nat) (a2:Option Addr) (c2:Nat),en=.returned (.agg #[.slice a1 l.length c1,.slice a2 l.length c2])/\But (· = rd) w w'/\kq w' rd Q/\zC w' l (.slice a1 l.length c1) (.slice a2 l.length c2)/\l.length<=60/\(∀ x∈l,x.1.length<=100) /\
   ∀ g,(Value.slice a1 l.length c1).ownBlock=some g\/(Value.slice a2 l.length c2).ownBlock=some g->B<=g
theorem Own.srcO {w:World} {e:TypeId} {sz n:Nat} {v:Value} {xs:List Value} (h:Own w e sz v n xs) (hc:∀ u∈xs,u.oneCell'=true):zR sz v n xs w:=by
 refine ⟨h.1,hc,?_⟩
 rcases h.2 with ⟨e,h0⟩ | ⟨g,cap,cur,e,_,hg,_,_,_,ht⟩
 ·exact .inr ⟨e,h0⟩
 ·refine .inl ⟨_,cap,e,fun j u hj=>?_⟩
  rw [<- ht,List.getElem?_take] at hj
  split at hj
  ·unfold Addr.add
   split
   ·subst j;simp only [World.cell?,hg];simpa using hj
   ·simp only [World.cell?,hg];simpa using hj
  ·simp at hj
theorem pl_end {w V wz:World} {rd K Q Q':Nat} {l:Pl} {ap aq:Option Addr} {cp cq:Nat} (Ap:Below w.heap.size w V) (hK:w.heap.size<=K) (eH:rd<w.heap.size) (hB:But (fun b=>b=rd\/b=K) V wz)
 (hx:wz.heap[w.heap.size]? = some (.cells #[.slice none 0 0,.slice none 0 0] 33 (0,0))) (bw:zC wz l (.slice ap l.length cp) (.slice aq l.length cq)) (hr:kq wz rd Q') (hQ:Q'<=Q) (hl:l.length<=60) (iD:∀ x∈l,x.1.length<=100)
 (hg:∀ g,(Value.slice ap l.length cp).ownBlock=some g\/(Value.slice aq l.length cq).ownBlock=some g->w.heap.size<=g) :
 PlD w.heap.size rd Q w (.returned (.agg #[.slice ap l.length cp,.slice aq l.length cq])) ((wz.setCell ⟨w.heap.size,0,none⟩ (.slice ap l.length cp)).setCell ⟨w.heap.size,1,none⟩ (.slice aq l.length cq)):=by
 have bf:But (fun b=>b=w.heap.size) wz ((wz.setCell ⟨w.heap.size,0,none⟩ (.slice ap l.length cp)).setCell ⟨w.heap.size,1,none⟩ (.slice aq l.length cq)):=((But.refl (fun b=>b=w.heap.size) wz).setCell (p:=⟨w.heap.size,0,none⟩) (.inl rfl) _).setCell (p:=⟨w.heap.size,1,none⟩) (.inl rfl) _
 refine ⟨l,ap,cp,aq,cq,rfl,?_,(hr.but bf (fun i hi=>by omega)).mono hQ,bw.but bf (fun g cb=>bw.notBox hx (by decide) (by decide) g cb),hl,iD,hg⟩
 exact ((But.ofBelow Ap).trans' hB (fun i hi hm=>hm.resolve_right (by omega))).trans' bf (fun i hi hm=>by omega)
set_option maxRecDepth 100000 in
theorem xI (rd P:Nat) (s:Bs) (b4:(zV s).2=true) (hs:s.length<=100) (w:World) (h:kq w rd P) (hP:P+1000<=1099511627776) :
 Calls Tryz.prog 85 #[.pointer (some ⟨rd,0,none⟩),str s] w (PlD w.heap.size rd (P+10) w):=by
 have bL:=(jq b4).2
 have bA:=h.lt
 obtain ⟨W,hW,bM,hz,b0⟩:=kJ w (.cells #[.slice none 0 0,.slice none 0 0] 33)
 have C1:=bU (uE s (show _<=_ by omega) W)
 have HW:=bU (bY hW (bY bM (bY b0 (h.below bM))))
 have fd:=bU (bY bA hP)
 obtain ⟨t,hT⟩:=zzN ((zV s).1)
 rw [hT] at bL
 have HT:=bU hT
 clear hW bM hz b0 h b4 hT bA
 go_enter Tryz.func85,Tryz.ntmps85
 go_upto_region 1 with (fail)
 rw [HW.out.1]
 go_wp2_with fail
 (with_reducible refine C1.out.mono ?_)
 rintro en w1 ⟨tv,rfl,bE,mH⟩
 rw [HT.out] at mH
 obtain ⟨ta,tc,rfl⟩:=zu mH
 have B8:Rep (· < w1.heap.size) w1 (qZ t) (.slice ta t.args.length tc):=(Rep.keep fun b o _ ho=>⟨zZ ho,ho⟩).1 _ _ mH
 obtain ⟨W2,fI,tM,mG,x5⟩:=kJ w1 (.cells #[.slice ta t.args.length tc] 61)
 have b7:=zzT bE tM
 have t0:=kP x5
 have eo:Below W2.heap.size W2 (W2.alloc (.cells #[] 9)):=(bP _ _).alloc (bX _) _
 have A_:Rep (· < w1.heap.size) (W2.alloc (.cells #[] 9)) (qZ t) (.slice ta t.args.length tc):=(B8.below tM fun _ h=>h).below eo fun _ h=>h
 have CM:=bU (wo w1.heap.size 15 t [] (.slice ta t.args.length tc) [] (some ⟨W2.heap.size,0,none⟩) 0 0 (W2.alloc (.cells #[] 9)) bL (bX _) (by simp) (by omega) (by rw [zQ];have:=tM.size;omega) A_ (Own.lit #[] 0 (by unfold maxLen;omega) rfl) (fun g hg=>by simp [Value.ownBlock] at hg;have:=tM.size;omega))
 unfold MovQ at CM
 obtain ⟨nm,sW⟩:=zzN ((kU t []).length)
 rw [sW] at CM
 have HNM:=bU sW
 have Cx:nm<=24:=by rw [<- sW];exact xA bL []
 have HMV:=bU (fun j m (h:(kU t [])[j]? = some m)=>yr bL (List.mem_of_getElem? h))
 have H2:=bU (bY fI (bY (zzT HW.out.2.1 b7) (bY (HW.out.2.2.2.below b7) (bY eo ((b7.block _ (zZ HW.out.2.2.1)).trans HW.out.2.2.1)))))
 clear bE mH B8 fI tM mG x5 b7 eo A_ C1 sW bL
 go_upto_region 2 with (fail)
 rw [H2.out.1]
 go_wp2_with fail
 (with_reducible refine CM.out.mono ?_)
 rintro en w3 ⟨a3,n3,c3,rfl,aG,bp,oI,Dr⟩
 obtain rfl:n3=nm:=by omega
 have fH:Below W2.heap.size W2 w3:=H2.out.2.2.2.1.trans (bp.toBelow (by rw [zQ];omega) fun g hg e=>by simp [Value.ownBlock] at e;omega)
 have fx:Own w3 9 1 (.slice a3 n3 c3) n3 ((kU t []).map str):=by rw [List.nil_append] at oI;exact oI
 have CZ:∀ g,(Value.slice a3 n3 c3).ownBlock=some g->W2.heap.size<=g:=fun g hg=>by
  rcases Dr g hg with h | h
  ·simp [Value.ownBlock] at h;omega
  ·rw [zQ] at h;omega
 obtain ⟨V,hV⟩:=zzN (((w3.alloc (.cells #[str [113]] 9)).alloc (.cells #[.int .i64 (-1)] 3)).alloc (.cells #[.slice (some ⟨w3.heap.size,0,none⟩) 1 1,.slice (some ⟨w3.heap.size+1,0,none⟩) 1 1] 33))
 have z1:=(bP w3.heap.size w3).alloc (bX _) (.cells #[str [113]] 9)
 have z2:=z1.alloc z1.size (.cells #[.int .i64 (-1)] 3)
 have z3:=z2.alloc z2.size (.cells #[.slice (some ⟨w3.heap.size,0,none⟩) 1 1,.slice (some ⟨w3.heap.size+1,0,none⟩) 1 1] 33)
 have hpV:zC V [([113],-1)] (.slice (some ⟨w3.heap.size,0,none⟩) 1 1) (.slice (some ⟨w3.heap.size+1,0,none⟩) 1 1):=by
  rw [<- hV]
  exact ⟨((Own.litAt #[str [113]] 1 _ rfl (by unfold maxLen;omega) rfl).alloc _).alloc _,(Own.litAt #[.int .i64 (-1)] 1 _ (by rw [zQ]) (by unfold maxLen;omega) rfl).alloc _⟩
 have x8:V.heap[w3.heap.size+1+1]? = some (.cells #[.slice (some ⟨w3.heap.size,0,none⟩) 1 1,.slice (some ⟨w3.heap.size+1,0,none⟩) 1 1] 33 (0,0)):=by
  rw [<- hV]
  have:=zS ((w3.alloc (.cells #[str [113]] 9)).alloc (.cells #[.int .i64 (-1)] 3)) (.cells #[.slice (some ⟨w3.heap.size,0,none⟩) 1 1,.slice (some ⟨w3.heap.size+1,0,none⟩) 1 1] 33)
  rwa [zQ,zQ] at this
 have iO:Below w3.heap.size w3 V:=by rw [<- hV];exact z3
 have iz:=zzT fH iO
 have DL:=zzT H2.out.2.1 iz
 have CP:=bU (qA rd P 8 V (H2.out.2.2.1.below iz) (by omega) (by omega) (by have:=fd.out;omega))
 have HV:=bU (bY hV (bY DL (bY hpV (bY x8 (bY (fx.keep (w':=V) (fun g o _ ho=>by rw [iO.block g (zZ ho)];exact ho)) (bY CZ (bY iO (bY fH.size ((iz.block _ (zZ H2.out.2.2.2.2)).trans H2.out.2.2.2.2)))))))))
 have MLT:=bU (fun g (hg:(Value.slice a3 n3 c3).ownBlock=some g)=>fx.lt hg)
 have RDW:=bU (show rd<W2.heap.size from bH fd.out.1 H2.out.2.1.size)
 clear bp oI Dr fH fx CZ hV z1 z2 z3 hpV x8 iO iz DL CM t0 aG
 go_upto_region 4 with (fail)
 rw [HV.out.1]
 go_wp2_with fail
 refine CP.out.mono ?_
 rintro en w4 ⟨nn,rfl,hnn,cV,rV⟩
 have CJ:w3.heap.size+1+1≠rd:=by have h1:=fd.out.1;have h2:=HV.out.2.2.2.2.2.2.2.1;have h3:=H2.out.2.1.size;omega
 have l7:=bU (show rd<w3.heap.size/\w.heap.size<w3.heap.size from ⟨by have h1:=fd.out.1;have h2:=HV.out.2.2.2.2.2.2.2.1;have h3:=H2.out.2.1.size;omega,by have h2:=HV.out.2.2.2.2.2.2.2.1;have h3:=zZ H2.out.2.2.2.2;omega⟩)
 have eh:Hid (But (fun b=>b=rd\/b=w3.heap.size+1+1) V w4/\w4.heap[w3.heap.size+1+1]? = some (.cells #[.slice (some ⟨w3.heap.size,0,none⟩) 1 1,.slice (some ⟨w3.heap.size+1,0,none⟩) 1 1] 33 (0,0))/\zC w4 [([113],-1)] (.slice (some ⟨w3.heap.size,0,none⟩) 1 1) (.slice (some ⟨w3.heap.size+1,0,none⟩) 1 1)/\kq w4 rd (P+1+0)):=bU ⟨cV.weak (fun i _ h=>.inl h),(cV.block _ (zZ HV.out.2.2.2.1) CJ).trans HV.out.2.2.2.1,HV.out.2.2.1.but cV (fun g hg=>by
  have h1:=l7.out.1
  rcases hg with hg | hg <;> (simp [Value.ownBlock] at hg;omega)),rV⟩
 clear cV rV CJ
 go_wp2_with fail
 go_loopw [10] (fun x wr=>∃ (i:Nat) (l:Pl) (ap:Option Addr) (cp:Nat) (aq:Option Addr) (cq:Nat) (wz:World),wz=wr/\i<=nn/\x=.int .i64 i/\But (fun b=>b=rd\/b=w3.heap.size+1+1) V wz/\wz.heap[w3.heap.size+1+1]? = some (.cells #[.slice ap l.length cp,.slice aq l.length cq] 33 (0,0))/\zC wz l (.slice ap l.length cp) (.slice aq l.length cq)/\kq wz rd (P+1+i)/\1<=l.length/\l.length<=i+1/\(∀ x∈l,x.1.length<=100)/\∀ g,(Value.slice ap l.length cp).ownBlock=some g\/(Value.slice aq l.length cq).ownBlock=some g->w3.heap.size<=g/\g≠w3.heap.size+1+1) (fun x _=>nn-(intOf x).toNat)
 case atStart=>exact ⟨0,[([113],-1)],_,1,_,1,_,rfl,Nat.zero_le _,rfl,eh.out.1,eh.out.2.1,eh.out.2.2.1,eh.out.2.2.2,by simp,by simp,by simp,fun g hg=>by rcases hg with hg | hg <;> (simp [Value.ownBlock] at hg;omega)⟩
 case round =>
  obtain ⟨i,l,ap,cp,aq,cq,wr,rfl,hi,rfl,hB,hx8,bw,eH,aH,Di,iD,hgn⟩:=hrel
  have HR:=bU (bY hB (bY hx8 (bY bw (bY eH (bY iD hgn)))))
  have i7:wr.heap[w.heap.size]? = some (.cells #[.slice none 0 0,.slice none 0 0] 33 (0,0)):=(hB.block _ (zZ HV.out.2.2.2.2.2.2.2.2) (fun e=>by have h1:=l7.out;have h2:=fd.out.1;rcases e with e | e <;> omega)).trans HV.out.2.2.2.2.2.2.2.2
  have EJ:=bU i7
  clear hB hx8 bw eH iD hgn i7
  by_cases bA:i<nn
  ·have cT:(i:Int)<(nn:Int):=by omega
   obtain ⟨W0,ep,DY,fq,bx⟩:=kJ wr (.cells #[] 33)
   have nZ:=NxR.empty wr.heap.size wr (bX _)
   rw [ep] at nZ
   have HS:=bU (bY ep (bY DY nZ))
   have KEY:=bU (fun (z:World) (hz:Below wr.heap.size wr z)=>(show (z.cell? ⟨w3.heap.size+1+1,0,none⟩=some (.slice ap l.length cp)/\z.cell? ⟨w3.heap.size+1+1,1,none⟩=some (.slice aq l.length cq))/\zC z l (.slice ap l.length cp) (.slice aq l.length cq)/\Own z 9 1 (.slice a3 n3 c3) n3 ((kU t []).map str) from by
    obtain ⟨k0,k1,_,_⟩:=zJ ((hz.block _ (zZ HR.out.2.1)).trans HR.out.2.1)
    refine ⟨⟨k0,k1⟩,HR.out.2.2.1.below hz,?_⟩
    have h5:=HV.out.2.2.2.2.1
    have h6:=HR.out.1
    have h7:=HV.out.2.2.2.2.2.2.1.size
    have h8:=HV.out.2.2.2.2.2.1
    have h9:=l7.out.1
    have h10:=MLT.out
    exact (h5.keep (w':=wr) (fun g o hg ho=>by rw [h6.block g (zZ ho) (fun e=>by have h11:=h8 g hg;have h12:=h10 g hg;have h13:=RDW.out;omega)];exact ho)).keep (fun g o hg ho=>by rw [hz.block g (zZ ho)];exact ho)))
   have CW:=bU (fun (z:World) (hz:Below wr.heap.size wr z) (mv:Bs) (q:Int)=>xk l (.slice ap l.length cp) (.slice aq l.length cq) mv q z (Own.srcO (KEY.out z hz).2.1.1 (fun u hu=>by unfold k_ at hu;obtain ⟨x,_,rfl⟩:=List.mem_map.1 hu;simp [str,Value.oneCell'])) (Own.srcO (KEY.out z hz).2.1.2 (fun u hu=>by unfold qM at hu;obtain ⟨x,_,rfl⟩:=List.mem_map.1 hu;simp [Value.oneCell'])) (by omega))
   clear ep DY fq bx nZ
   go_wp2_with fail
   rw [HS.out.1]
   go_loopw [11,12] (fun o x wr'=>∃ (k n2 c2:Nat) (a2:Option Addr) (co:List (Value×Value)) (L2:List Pl) (wz:World),wz=wr'/\k<=l.length/\x=.int .i64 k/\o=.slice a2 n2 c2/\n2<=24*k/\Below wr.heap.size wr wz/\NxR wr.heap.size L2 a2 n2 c2 co wz/\∀ u∈L2,u.length=l.length+1/\∀ x∈u,x.1.length<=100) (fun _ x _=>l.length-(intOf x).toNat)
   case atStart=>exact ⟨0,0,0,_,[],[],_,rfl,Nat.zero_le _,rfl,rfl,by omega,HS.out.2.1,HS.out.2.2,fun u hu=>by simp at hu⟩
   case round =>
    obtain ⟨k,n2,c2,a2,co,L2,wk,rfl,hk,rfl,rfl,di,hBk,hNk,hLk⟩:=hrel
    have HK:=bU (bY hBk (bY hNk hLk))
    obtain ⟨⟨e0,e1⟩,Cf,_⟩:=KEY.out wk hBk
    have HPK:=bU Cf
    clear hBk hNk hLk Cf
    by_cases hklt:k<l.length
    ·have hkI:(k:Int)<(l.length:Int):=by omega
     obtain ⟨⟨mi,zi⟩,sU⟩:∃ x,l[k]? = some x:=⟨_,List.getElem?_eq_getElem hklt⟩
     have HVI:=bU sU
     clear sU e1
     go_wp2_with fail
     go_loopw [11,13] (fun o x wr'=>∃ (m n2 c2:Nat) (a2:Option Addr) (co:List (Value×Value)) (L2:List Pl) (wz:World),wz=wr'/\m<=n3/\x=.int .i64 m/\o=.slice a2 n2 c2/\n2<=24*k+m/\Below wr.heap.size wr wz/\NxR wr.heap.size L2 a2 n2 c2 co wz/\∀ u∈L2,u.length=l.length+1/\∀ x∈u,x.1.length<=100) (fun _ x _=>n3-(intOf x).toNat)
     case atStart=>exact ⟨0,n2,c2,a2,co,L2,_,rfl,Nat.zero_le _,rfl,rfl,by omega,HK.out.1,HK.out.2.1,HK.out.2.2⟩
     case round =>
      obtain ⟨m,n2,c2,a2,co,L2,wq,rfl,hm,rfl,rfl,di,tO,Bo,hLq⟩:=hrel
      have HQ:=bU (bY tO (bY Bo hLq))
      obtain ⟨⟨e0,e1⟩,oS,dl⟩:=KEY.out wq tO
      by_cases hmt:m<n3
      ·have hmtI:(m:Int)<(n3:Int):=by omega
       obtain ⟨mv,fg⟩:∃ mv,(kU t [])[m]? = some mv:=⟨_,List.getElem?_eq_getElem (by rw [HNM.out];exact hmt)⟩
       obtain ⟨mg,mk',emg,cH⟩:=dl.at (j:=m) (u:=str mv) (by rw [List.getElem?_map,fg];rfl)
       simp only [Value.slice.injEq,true_and] at emg
       obtain ⟨rfl,rfl⟩:=emg
       obtain ⟨pg,pk,epg,cw⟩:=oS.1.at (j:=k) (u:=str mi) (by unfold k_;rw [List.getElem?_map,HVI.out];rfl)
       simp only [Value.slice.injEq,true_and] at epg
       obtain ⟨rfl,rfl⟩:=epg
       obtain ⟨b4,lC⟩:=HMV.out m mv fg
       have HML:=bU (show mv.length<=100 by omega)
       obtain ⟨c,p,fY⟩:∃ c p,mv=c::p:=by
        cases mv with
        | nil=>simp [jH] at b4
        | cons c p=>exact ⟨c,p,rfl⟩
       have mZ:p.length<=16777216:=by rw [fY,List.length_cons] at lC;omega
       have CB:=bU (fun x=>j_ c p mZ x)
       have CE:=bU (fun x=>ve c p mZ x)
       rw [<- fY] at CB CE
       obtain ⟨pn,cR⟩:=zzN (plN mv)
       obtain ⟨e_,d6⟩:=zzN (qe mv)
       rw [cR] at CB
       rw [d6] at CE
       obtain ⟨wi,hwi⟩:=zzN (l.length % 2)
       have hwt:(l.length:Int).tmod 2=((wi:Nat):Int):=by rw [Int.tmod_eq_emod_of_nonneg (by omega)];omega
       have eC:=bU (fun (y:World) (hy:Below wq.heap.size wq y)=>(show y.cell? ⟨w3.heap.size+1+1,0,none⟩=some (.slice (some ⟨pg,0,none⟩) l.length cp)/\y.cell? ⟨w3.heap.size+1+1,1,none⟩=some (.slice aq l.length cq)/\y.cell? ⟨mg,m,none⟩=some (str mv)/\y.cell? ⟨pg,k,none⟩=some (str mi) from
        ⟨(hy.cell (bW _ _ e0)).trans e0,(hy.cell (bW _ _ e1)).trans e1,(hy.cell (bW _ _ cH)).trans cH,(hy.cell (bW _ _ cw)).trans cw⟩))
       clear tO Bo hLq oS dl fg b4 lC fY mZ cR d6 hwi cw cH e0 e1
       cases CX:((mv:Bs) == [113]) with
       | true =>
         have mh:((mv:Bs) != [113])=false:=by rw [bne,CX];rfl
         go_upto_region 15 with (fail)
         refine wp_region_noPanic ?_
         refine zX (fun w'=>Below wq.heap.size wq w') (fun _=>false) (by kernel_rfl) ?_
         have bS:(fun w'=>Below wq.heap.size wq w') wq.drew:=Below.drew (bP _ _)
         refine tk [0,1,2,3,4,5,6,7,8,9,10,11,12,13,14,15,16,17,18,19,20,21,22,23,24,25,26,27,28,29] bS ?_
         (intro d hd;simp [tkD] at hd;subst hd;simp only [tks,pQ,pZ,pS])
         iterate 30 (refine ⟨?_,?_,?_⟩;rotate_left;· (intro oi ho;simp at ho;subst ho;first | (refine Or.inr ⟨by rfl,?_⟩;with_reducible rfl) | (refine Or.inl ⟨by rfl,fun w' bR=>?_⟩;obtain ⟨e0,e1,e2,e3⟩:=eC.out w' bR;go_simp;try with_reducible rfl)))
         refine zU (by kernel_rfl) (NoPanic.normal ?_) _
         have fE:=bU (Below.drew (bP wq.heap.size wq))
         clear bS eC
         go_wp2_with fail
         go_roundw
         case rel=>exact ⟨m+1,n2,c2,a2,co,L2,_,rfl,by omega,by go_num,rfl,by omega,zzT HQ.out.1 fE.out,HQ.out.2.1.below fE.out,HQ.out.2.2⟩
         case measure=>simp [intOf];omega
       | false =>
         have mh:((mv:Bs) != [113])=true:=by rw [bne,CX];rfl
         cases rH:((pn:Int) == (wi:Int)) with
         | false =>
           go_upto_region 15 with (fail)
           refine wp_region_noPanic ?_
           refine zX (fun w'=>Below wq.heap.size wq w') (fun _=>false) (by kernel_rfl) ?_
           have bS:(fun w'=>Below wq.heap.size wq w') wq.drew:=Below.drew (bP _ _)
           refine tk [0,1,2,3,4,5,6,7,8,9,11,12,13,14] bS ?_
           (intro d hd;simp [tkD] at hd;subst hd;simp only [tks,pQ,pZ,pS])
           iterate 14 (refine ⟨?_,?_,?_⟩;rotate_left;· (intro oi ho;simp at ho;subst ho;refine Or.inl ⟨by rfl,fun w' bR=>?_⟩;obtain ⟨e0,e1,e2,e3⟩:=eC.out w' bR;go_simp;try with_reducible rfl))
           (refine on 10 ?_;intro o ho K' hK;simp at ho;subst ho;go_simp)
           go_at_call 122
           (with_reducible refine (CB.out _).mono ?_)
           rintro en x4 ⟨rfl,e⟩
           subst x4
           (refine hK.out _ _ (fun _=>bS) ?_;clear hK K';try simp only [pQ,pN,pZ,pS])
           have r9:=bS
           refine tk [15,16,17,18,19,20,21,22,23,24,25,26,27,28,29] r9 ?_
           (intro d hd;simp [tkD] at hd;subst hd;simp only [tks,pQ,pZ,pS])
           iterate 15 (refine ⟨?_,?_,?_⟩;rotate_left;· (intro oi ho;simp at ho;subst ho;first | (refine Or.inr ⟨by rfl,?_⟩;with_reducible rfl) | (refine Or.inl ⟨by rfl,fun w' bR=>?_⟩;go_simp;try with_reducible rfl)))
           refine zU (by kernel_rfl) (NoPanic.normal ?_) _
           have fE:=bU (Below.drew (bP wq.heap.size wq))
           clear bS eC
           go_wp2_with fail
           go_roundw
           case rel=>exact ⟨m+1,n2,c2,a2,co,L2,_,rfl,by omega,by go_num,rfl,by omega,zzT HQ.out.1 fE.out,HQ.out.2.1.below fE.out,HQ.out.2.2⟩
           case measure=>simp [intOf];omega
         | true =>
           go_upto_region 15 with (fail)
           refine wp_region_noPanic ?_
           refine zX (fun w'=>Below wq.heap.size wq w') (fun _=>false) (by kernel_rfl) ?_
           have bS:(fun w'=>Below wq.heap.size wq w') wq.drew:=Below.drew (bP _ _)
           refine tk [0,1,2,3,4,5,6,7,8,9,11,12,13,14] bS ?_
           (intro d hd;simp [tkD] at hd;subst hd;simp only [tks,pQ,pZ,pS])
           iterate 14 (refine ⟨?_,?_,?_⟩;rotate_left;· (intro oi ho;simp at ho;subst ho;refine Or.inl ⟨by rfl,fun w' bR=>?_⟩;obtain ⟨e0,e1,e2,e3⟩:=eC.out w' bR;go_simp;try with_reducible rfl))
           (refine on 10 ?_;intro o ho K' hK;simp at ho;subst ho;go_simp)
           go_at_call 122
           (with_reducible refine (CB.out _).mono ?_)
           rintro en x4 ⟨rfl,e⟩
           subst x4
           (refine hK.out _ _ (fun _=>bS) ?_;clear hK K';try simp only [pQ,pN,pZ,pS])
           have r9:=bS
           refine tk [15,16,17,18,19,20,21,23,24,25,26,27] r9 ?_
           (intro d hd;simp [tkD] at hd;subst hd;simp only [tks,pQ,pZ,pS])
           iterate 12 (refine ⟨?_,?_,?_⟩;rotate_left;· (intro oi ho;simp at ho;subst ho;refine Or.inl ⟨by rfl,fun w' bR=>?_⟩;obtain ⟨e0,e1,e2,e3⟩:=eC.out w' bR;go_simp;try with_reducible rfl))
           (refine on 22 ?_;intro o ho K' hK;simp at ho;subst ho;go_simp)
           go_at_call 123
           (with_reducible refine (CE.out _).mono ?_)
           rintro en n7 ⟨rfl,e⟩
           subst n7
           (refine hK.out _ _ (fun _=>bS) ?_;clear hK K';try simp only [pQ,pN,pZ,pS])
           have hS22:=bS
           refine tk [28,29] hS22 ?_
           (intro d hd;simp [tkD] at hd;subst hd;simp only [tks,pQ,pZ,pS])
           iterate 2 (refine ⟨?_,?_,?_⟩;rotate_left;· (intro oi ho;simp at ho;subst ho;refine Or.inl ⟨by rfl,fun w' bR=>?_⟩;go_simp;try with_reducible rfl))
           refine zU (by kernel_rfl) (NoPanic.normal ?_) _
           cases mV:((e_:Bs) == mi) with
           | false =>
             have fE:=bU (Below.drew (bP wq.heap.size wq))
             clear bS eC
             go_wp2_with fail
             go_roundw
             case rel=>exact ⟨m+1,n2,c2,a2,co,L2,_,rfl,by omega,by go_num,rfl,by omega,zzT HQ.out.1 fE.out,HQ.out.2.1.below fE.out,HQ.out.2.2⟩
             case measure=>simp [intOf];omega
           | true =>
             obtain ⟨y0,cM⟩:=zzN (wq.drew)
             rw [cM]
             have HY:Hid (Below wq.heap.size wq y0):=bU (by rw [<- cM];exact Below.drew (bP _ _))
             have fD:=bU (fun (z:World) (hz:Below y0.heap.size y0 z)=>eC.out z (zzT HY.out hz))
             have sJ:=bU (fun (z:World) (hz:Below y0.heap.size y0 z)=>CW.out z (HQ.out.1.trans ((zzT HY.out hz).mono HQ.out.1.size)) mv (k:Int))
             have lm:(l++[(mv,(k:Int))]).length=l.length+1:=by rw [List.length_append];rfl
             have HOWN:=bU (HQ.out.2.1.own)
             clear bS cM
             go_upto_region 16 with (fail)
             refine wp_region_noPanic ?_
             refine zX (fun w'=>Below y0.heap.size y0 w') (fun i=>decide (9<=i)) (by kernel_rfl) ?_
             have bS:(fun w'=>Below y0.heap.size y0 w') y0.drew:=Below.drew (bP _ _)
             refine zm 0 [9,10] (v:=?_) (by kernel_rfl) (by kernel_rfl) (by kernel_rfl) (by kernel_rfl) (fun _ _ _ _ h=>h) bS ?_ ?_
             rotate_left
             ·(intro oi ho;simp at ho;subst ho;refine Or.inl ⟨by rfl,fun w' bR=>?_⟩;go_simp;try with_reducible rfl)
             (intro d hd;simp at hd;subst hd;simp only [Act.put,List.setIfInBounds_toArray,List.set_cons_zero,List.set_cons_succ])
             refine zm 1 [7,8,9,10] (v:=?_) (by kernel_rfl) (by kernel_rfl) (by kernel_rfl) (by kernel_rfl) (fun _ _ _ _ h=>h) bS ?_ ?_
             rotate_left
             ·(intro oi ho;simp at ho;subst ho;refine Or.inl ⟨by rfl,fun w' bR=>?_⟩;obtain ⟨e0,e1,e2,e3⟩:=fD.out w' bR;go_simp;try with_reducible rfl)
             (intro d hd;simp at hd;subst hd;simp only [Act.put,List.setIfInBounds_toArray,List.set_cons_zero,List.set_cons_succ])
             refine zm 2 [4,5,7,8,9,10] (v:=?_) (by kernel_rfl) (by kernel_rfl) (by kernel_rfl) (by kernel_rfl) (fun _ _ _ _ h=>h) bS ?_ ?_
             rotate_left
             ·(intro oi ho;simp at ho;subst ho;refine Or.inl ⟨by rfl,fun w' bR=>?_⟩;go_simp;try with_reducible rfl)
             (intro d hd;simp at hd;subst hd;simp only [Act.put,List.setIfInBounds_toArray,List.set_cons_zero,List.set_cons_succ])
             refine zm 3 [4,5,7,8,9,10] (v:=?_) (by kernel_rfl) (by kernel_rfl) (by kernel_rfl) (by kernel_rfl) (fun _ _ _ _ h=>h) bS ?_ ?_
             rotate_left
             ·(intro oi ho;simp at ho;subst ho;refine Or.inl ⟨by rfl,fun w' bR=>?_⟩;go_simp;try with_reducible rfl)
             (intro d hd;simp at hd;subst hd;simp only [Act.put,List.setIfInBounds_toArray,List.set_cons_zero,List.set_cons_succ])
             refine zm 4 [5,7,8,9,10] (v:=?_) (by kernel_rfl) (by kernel_rfl) (by kernel_rfl) (by kernel_rfl) (fun _ _ _ _ h=>h) bS ?_ ?_
             rotate_left
             ·(intro oi ho;simp at ho;subst ho;refine Or.inl ⟨by rfl,fun w' bR=>?_⟩;go_simp;try with_reducible rfl)
             (intro d hd;simp at hd;subst hd;simp only [Act.put,List.setIfInBounds_toArray,List.set_cons_zero,List.set_cons_succ])
             refine zm 5 [7,8,9,10] (v:=?_) (by kernel_rfl) (by kernel_rfl) (by kernel_rfl) (by kernel_rfl) (fun _ _ _ _ h=>h) bS ?_ ?_
             rotate_left
             ·(intro oi ho;simp at ho;subst ho;refine Or.inl ⟨by rfl,fun w' bR=>?_⟩;obtain ⟨e0,e1,e2,e3⟩:=fD.out w' bR;go_simp;try with_reducible rfl)
             (intro d hd;simp at hd;subst hd;simp only [Act.put,List.setIfInBounds_toArray,List.set_cons_zero,List.set_cons_succ])
             refine zm 6 [7,8,9,10] (v:=?_) (by kernel_rfl) (by kernel_rfl) (by kernel_rfl) (by kernel_rfl) (fun _ _ _ _ h=>h) bS ?_ ?_
             rotate_left
             ·(intro oi ho;simp at ho;subst ho;refine Or.inl ⟨by rfl,fun w' bR=>?_⟩;go_simp;try with_reducible rfl)
             (intro d hd;simp at hd;subst hd;simp only [Act.put,List.setIfInBounds_toArray,List.set_cons_zero,List.set_cons_succ])
             (refine on 7 ?_;intro o ho K' hK;simp at ho;subst ho;go_simp)
             go_at_call 92
             (with_reducible refine (sJ.out _ bS).mono ?_)
             rintro en y1 ⟨mvn,ptn,rfl,cR,bE,eI⟩
             have nM:Below y0.heap.size y0 y1:=Below.trans bS (bE.mono (Below.size bS))
             obtain ⟨LU,lh⟩:=zzN (l.length+1)
             obtain ⟨a8,c8,e8⟩:=cR.1.slice
             obtain ⟨a9,c9,e9⟩:=cR.2.slice
             rw [lm,lh] at e8 e9
             subst e8;subst e9
             (refine hK.out _ _ (fun _=>nM) ?_;clear hK K';try simp only [pQ,pN,pZ,pS])
             have tA:=nM
             (refine on 8 ?_;intro o ho K' hK;simp at ho;subst ho;go_simp)
             (refine hK.out _ _ (fun _=>nM.alloc nM.size (.cells #[.slice a8 LU c8,.slice a9 LU c9] 33)) ?_;clear hK K';try simp only [pQ,pN,pZ,pS])
             have hS8:=nM.alloc nM.size (.cells #[.slice a8 LU c8,.slice a9 LU c9] 33)
             (refine on 9 ?_;intro o ho K' hK;simp at ho;subst ho)
             refine zE (by rfl) _ _ _ (by rfl) 33 (.agg #[.slice none 0 0,.slice none 0 0]) 2 48 Tryz.underlying26 Tryz.infoPlay rfl (by decide) (.slice a2 n2 c2) n2 (plC co) (by rfl) (((HQ.out.2.1.below (zzT HY.out nM)).own).alloc _) _ 1 [.slice a8 LU c8,.slice a9 LU c9] (by rfl) (zR.litk #[.slice a8 LU c8,.slice a9 LU c9] rfl (by simp [Value.oneCell']) _ (by rfl)) (by unfold maxLen;omega) (by omega) ?_
             intro a7 c7 w7 dD bh cU
             (refine hK.out _ _ (fun h=>by simp at h) ?_;clear hK K';try simp only [pQ,pN,pZ,pS])
             (refine on 10 ?_;intro o ho K' hK;simp at ho;subst ho;go_simp)
             (refine hK.out _ _ (fun h=>by simp at h) ?_;clear hK K';try simp only [pQ,pN,pZ,pS])
             refine zU (by kernel_rfl) (NoPanic.normal ?_) _
             have cW:=zzT HY.out hS8
             have fO:=HQ.out.2.1.add cW HQ.out.1.size (cR.below ((bP _ _).alloc (bX _) _)) (fun g hg=>bC HY.out.size (eI g hg)) dD bh cU
             have dK:Below wr.heap.size wr w7:=(zzT HQ.out.1 cW).trans (bh.toBelow (bC HQ.out.1.size cW.size) fun g hg e=>by have:=HQ.out.2.1.new g (.inl e);omega)
             have H7:=bU (bY dK fO)
             clear cW fO dK dD bh cU hS8 tA bS nM cR eI bE lm lh
             go_wp2_with fail
             go_roundw
             case rel=>exact ⟨m+1,n2+1,c7,a7,co++[(.slice a8 LU c8,.slice a9 LU c9)],L2++[l++[(mv,(k:Int))]],_,rfl,by omega,by go_num,rfl,by omega,H7.out.1,H7.out.2,fun u hu=>by
              rcases List.mem_append.1 hu with h | h
              ·exact HQ.out.2.2 u h
              ·rw [List.mem_singleton] at h;subst h
               refine ⟨by rw [List.length_append];rfl,fun x hx=>?_⟩
               rcases List.mem_append.1 hx with h | h
               ·exact HR.out.2.2.2.2.1 x h
               ·rw [List.mem_singleton] at h;subst h;exact HML.out⟩
             case measure=>simp [intOf];omega
      ·have hmtI:¬ (m:Int)<(n3:Int):=by omega
       clear tO Bo hLq oS dl e0 e1
       go_wp2_with fail
       go_roundw
       case rel=>exact ⟨k+1,n2,c2,a2,co,L2,_,rfl,by omega,by go_num,rfl,by omega,HQ.out.1,HQ.out.2.1,HQ.out.2.2⟩
       case measure=>simp [intOf];omega
    ·have hkI:¬ (k:Int)<(l.length:Int):=by omega
     obtain rfl:k=l.length:=by omega
     have rT:=(HK.out.1.block _ (zZ EJ.out)).trans EJ.out
     have iX:=HR.out.2.2.2.1.below HK.out.1
     have Bi:=HR.out.1.trans (But.ofBelow HK.out.1)
     by_cases A8:n2=0
     ·subst A8
      obtain ⟨q0,q1,q2,q3⟩:=zJ rT
      obtain ⟨r0,r1,_,_⟩:=zJ (qy rT (.slice ap l.length cp) (.slice aq l.length cq))
      have HE:=bU (pl_end (Q:=P+10) HV.out.2.1 (by have:=l7.out;omega) fd.out.1 Bi rT HPK.out iX (by omega) (by omega) HR.out.2.2.2.2.1 (fun g hg=>by have h1:=(HR.out.2.2.2.2.2 g hg).1;have h2:=l7.out;omega))
      clear rT iX Bi
      go_wp2_with fail
      refine bodyPost_ret (v:=.agg #[.slice ap l.length cp,.slice aq l.length cq]) (by simp [results,Tryz.results85,go_sem,r0,r1]) rfl ?_
      exact HE.out
     ·have hn0I:¬ (n2:Int)=0:=by omega
      have hn0B:((n2:Int) == 0)=false:=by simpa using hn0I
      obtain ⟨mm,lB⟩:=zzN (min 200 n2)
      have C_:0<mm/\mm<=n2/\mm<=200:=by omega
      have A9:min 200 (n2:Int)=(mm:Int):=by omega
      have EW:=bU (qA rd (P+1+i) mm wk iX C_.1 (by omega) (by have:=fd.out;omega))
      have HMI:=bU A9
      have HBK:=bU (bY Bi rT)
      clear lB A9 rT iX Bi
      go_wp2_with fail
      rw [HMI.out]
      refine EW.out.mono ?_
      rintro en w5 ⟨v,rfl,hv,b_,fR⟩
      have fa:=HK.out.2.1.rd.ul
      have dm:=HK.out.2.1.len
      have hvI:(v:Int)<(n2:Int):=by omega
      have h8k:=zZ HR.out.2.1
      have h3w:=l7.out.1
      obtain ⟨u,hu⟩:∃ u,co[v]? = some u:=⟨_,List.getElem?_eq_getElem (by omega)⟩
      obtain ⟨l2,nq⟩:∃ x,L2[v]? = some x:=⟨_,List.getElem?_eq_getElem (by omega)⟩
      have sF:NxR wr.heap.size L2 a2 n2 c2 co w5:=⟨dm,jE.but HK.out.2.1.pls b_ (fun b hb e=>by have h1:=HK.out.2.1.new b hb;omega),HK.out.2.1.new⟩
      obtain ⟨gl,cl,el,k1,k2⟩:=jE.cells sF.pls hu
      have mC:=sF.rd.each v u l2 hu nq
      have bD:=fun g (hg:u.1.ownBlock=some g\/u.2.ownBlock=some g)=>sF.new g (.inr ⟨u,List.mem_of_getElem? hu,hg⟩)
      obtain ⟨oc,Da⟩:=HK.out.2.2 l2 (List.mem_of_getElem? nq)
      simp only [Value.slice.injEq] at el
      obtain ⟨rfl,_,rfl⟩:=el
      obtain ⟨mv,pt⟩:=u
      obtain ⟨a8,c8,e8⟩:=mC.1.slice
      obtain ⟨a9,c9,e9⟩:=mC.2.slice
      change mv=_ at e8
      change pt=_ at e9
      subst e8;subst e9
      have hx5:=(b_.block _ (by have:=HK.out.1.size;omega) (by omega)).trans ((HK.out.1.block _ h8k).trans HR.out.2.1)
      obtain ⟨q0,q1,q2,q3⟩:=zJ hx5
      have rq:=qy hx5 (.slice a8 l2.length c8) (.slice a9 l2.length c9)
      have bf:=((But.refl (fun b=>b=w3.heap.size+1+1) w5).setCell (p:=⟨w3.heap.size+1+1,0,none⟩) (.inl rfl) (.slice a8 l2.length c8)).setCell (p:=⟨w3.heap.size+1+1,1,none⟩) (.inl rfl) (.slice a9 l2.length c9)
      have HF:=bU (bY ((HBK.out.1.trans (b_.weak fun i _ h=>.inl h)).trans (bf.weak fun i _ h=>.inr h)) (bY rq (bY (mC.but bf fun g hg e=>by have:=bD g hg;omega) (bY ((fR.but bf fun i hi e=>by omega).mono (show P+1+i+1<=P+1+(i+1) by omega)) (bY Da (fun g hg=>(show w3.heap.size<=g/\g≠w3.heap.size+1+1 from by have:=bD g hg;omega)))))))
      have Bv:=bU oc
      clear oc b_ fR fa dm hu nq sF mC bD Da hx5 rq bf EW HK HBK HPK
      go_wp2_with fail
      go_roundw
      have oc:=Bv.out
      case rel=>exact ⟨i+1,l2,a8,c8,a9,c9,_,rfl,by omega,by go_num,HF.out.1,HF.out.2.1,HF.out.2.2.1,HF.out.2.2.2.1,by omega,by omega,HF.out.2.2.2.2.1,HF.out.2.2.2.2.2⟩
      case measure=>simp [intOf];omega
  ·have cT:¬ (i:Int)<(nn:Int):=by omega
   obtain ⟨q0,q1,q2,q3⟩:=zJ EJ.out
   obtain ⟨e0,e1,_,_⟩:=zJ HR.out.2.1
   obtain ⟨r0,r1,_,_⟩:=zJ (qy EJ.out (.slice ap l.length cp) (.slice aq l.length cq))
   have HE:=bU (pl_end (Q:=P+10) HV.out.2.1 (by have:=l7.out;omega) fd.out.1 HR.out.1 EJ.out HR.out.2.2.1 HR.out.2.2.2.1 (by omega) (by omega) HR.out.2.2.2.2.1 (fun g hg=>by have h1:=(HR.out.2.2.2.2.2 g hg).1;have h2:=l7.out;omega))
   go_wp2_with fail
   refine bodyPost_ret (v:=.agg #[.slice ap l.length cp,.slice aq l.length cq]) (by simp [results,Tryz.results85,go_sem,r0,r1]) rfl ?_
   exact HE.out
def PlsPost (o:Option (List Pl)) (w:World) (en:Ending) (w':World):Prop :=
 ∃ v us,en=.returned (.tuple #[v,.bool o.isSome])/\Below w.heap.size w w'/\yB w' (o.getD []) v us/\∀ g,PlB v us g->w.heap.size<=g
theorem hE.views {o:Option (List Pl)} {w w':World} {en:Ending} (h:hE o w en w'):PlsPost o w en w':=by
 obtain ⟨a,n,c,us,h1,h2,h3⟩:=h
 exact ⟨_,us,h1,h2,h3.pls,h3.new⟩
theorem playsOf_some {s text:Bs} {n:Int} {L:List Pl} (h:qR s text n=some L):∃ b,zM s text=some b/\0<=n/\n<=8/\L=jX (zV s).1 b ((n.toNat+1) / 2)/\L.length<=300:=by
 unfold qR at h
 cases hb:zM s text with
 | none=>rw [hb] at h;simp at h
 | some b =>
   rw [hb] at h
   simp only at h
   split at h
   ·simp at h
   ·split at h
    ·simp at h
    ·obtain rfl:=Option.some.inj h
     exact ⟨b,rfl,by omega,by omega,rfl,by omega⟩
theorem sameTexts_any (a a':Option Addr) (c c':Nat) (xs:List Bs) (w:World) (h:wI w a xs) (h':wI w a' xs) (hx:xs.length<=16777216) :
 Calls Tryz.prog 41 #[.slice a xs.length c,.slice a' xs.length c'] w fun en w'=>en=.returned (.bool true)/\Below w.heap.size w w':=by
 have H:=bU h;have H':=bU h';clear h h'
 go_enter Tryz.func41,Tryz.ntmps41
 go_wp2_with fail
 go_loopw [5] (fun i wr=>∃ k:Nat,k<=xs.length/\i=.int .i64 k/\Below w.heap.size w wr) (fun i _=>xs.length-(intOf i).toNat)
 case atStart=>exact ⟨0,Nat.zero_le _,rfl,bP _ _⟩
 case round =>
  obtain ⟨k,hk,rfl,hb⟩:=hrel
  by_cases bA:k<xs.length
  ·obtain ⟨s,hks⟩:∃ s,xs[k]? = some s:=⟨xs[k],by simp [bA]⟩
   obtain ⟨b,o,e,hc⟩:=H.out.below hb k s hks
   obtain ⟨b2,o2,e2,eB⟩:=H'.out.below hb k s hks
   subst e;subst e2
   clear hks
   have fS:(k:Int)<(xs.length:Int):=by omega
   have bm:(s == s)=true:=by simp
   have HB:=bU hb;clear hb
   go_wp2_with fail
   go_quiet (fail)
   go_wp2_with fail
   go_roundw
   case rel=>exact ⟨k+1,by omega,by go_num,z8 HB.out _⟩
   case measure=>simp [intOf];omega
  ·obtain rfl:k=xs.length:=by omega
   go_wp2_with fail
   go_ret
   exact ⟨rfl,hb⟩
theorem sameInts_any (a a':Option Addr) (n c c':Nat) (xs:List Int) (w:World) (h:Own w 3 1 (.slice a n c) n (xs.map (Value.int .i64))) (h':Own w 3 1 (.slice a' n c') n (xs.map (Value.int .i64))) (hn:n<=16777216) :
 Calls Tryz.prog 42 #[.slice a n c,.slice a' n c'] w fun en w'=>en=.returned (.bool true)/\Below w.heap.size w w':=by
 have H:=bU h;have H':=bU h';clear h h'
 go_enter Tryz.func42,Tryz.ntmps42
 go_wp2_with fail
 go_loopw [5] (fun i wr=>∃ k:Nat,k<=n/\i=.int .i64 k/\Below w.heap.size w wr) (fun i _=>n-(intOf i).toNat)
 case atStart=>exact ⟨0,Nat.zero_le _,rfl,bP _ _⟩
 case round =>
  obtain ⟨k,hk,rfl,hb⟩:=hrel
  by_cases bA:k<n
  ·have ho:Own wr 3 1 (.slice a n c) n (xs.map (Value.int .i64)):=H.out.keep fun g o hg hh=>by rw [hb.block g (zZ hh)];exact hh
   have fw:Own wr 3 1 (.slice a' n c') n (xs.map (Value.int .i64)):=H'.out.keep fun g o hg hh=>by rw [hb.block g (zZ hh)];exact hh
   obtain ⟨g,e,hg,_,⟨u,hu1,hu⟩,_⟩:=ho.open1 bA
   obtain ⟨g',e',cb,_,⟨u',oP,fi⟩,_⟩:=fw.open1 bA
   subst e;subst e'
   rw [hu1] at oP
   obtain rfl:=Option.some.inj oP
   rw [List.getElem?_map,Option.map_eq_some_iff] at hu1
   obtain ⟨x,_,rfl⟩:=hu1
   have fS:(k:Int)<(n:Int):=by omega
   have bm:(x == x)=true:=by simp
   have hne':(x != x)=false:=by simp
   have HB:=bU hb;clear hb ho fw oP
   go_wp2_with fail
   go_quiet (fail)
   go_wp2_with fail
   go_roundw
   case rel=>exact ⟨k+1,by omega,by go_num,z8 HB.out _⟩
   case measure=>simp [intOf];omega
  ·obtain rfl:k=n:=by omega
   go_wp2_with fail
   go_ret
   exact ⟨rfl,hb⟩
theorem samePlay_any (log:List (Bs×Int)) (mv pt mv' pt':Value) (w:World) (h:zC w log mv pt) (h':zC w log mv' pt') (hl:log.length<=100000) :
 Calls Tryz.prog 16 #[.agg #[mv,pt],.agg #[mv',pt']] w fun en w'=>en=.returned (.bool true)/\Below w.heap.size w w':=by
 obtain ⟨a1,c1,rfl⟩:=h.1.slice
 obtain ⟨a2,c2,rfl⟩:=h.2.slice
 obtain ⟨a1',EG,rfl⟩:=h'.1.slice
 obtain ⟨Bu,Br,rfl⟩:=h'.2.slice
 have H:=bU (bY h h');clear h h'
 have C1:Hid (∀ w0,Below w.heap.size w w0->Calls Tryz.prog 41 #[.slice a1 log.length c1,.slice a1' log.length EG] w0 fun en w'=>en=.returned (.bool true)/\Below w0.heap.size w0 w'):=by
  show ∀ w0,_->_
  intro w0 hb
  have k1:=(H.out.1.below hb).1
  have k2:=(H.out.2.below hb).1
  have e:k_ log=(log.map (·.1)).map str:=by simp [k_]
  rw [e] at k1 k2
  have:=sameTexts_any a1 a1' c1 EG (log.map (·.1)) w0 k1.strs k2.strs (by simp;omega)
  rwa [List.length_map] at this
 have C2:Hid (∀ w0,Below w.heap.size w w0->Calls Tryz.prog 42 #[.slice a2 log.length c2,.slice Bu log.length Br] w0 fun en w'=>en=.returned (.bool true)/\Below w0.heap.size w0 w'):=by
  show ∀ w0,_->_
  intro w0 hb
  have k1:=(H.out.1.below hb).2
  have k2:=(H.out.2.below hb).2
  have e:qM log=(log.map (·.2)).map (Value.int .i64):=by simp [qM]
  rw [e] at k1 k2
  exact sameInts_any a2 Bu log.length c2 Br (log.map (·.2)) w0 k1 k2 (by omega)
 clear H
 go_enter Tryz.func16,Tryz.ntmps16
 go_wp2_with fail
 have d9:Below w.heap.size w ((w.alloc (.cells #[.slice a1 log.length c1,.slice a2 log.length c2] 33)).alloc (.cells #[.slice a1' log.length EG,.slice Bu log.length Br] 33)):=((bP _ _).alloc (bX _) _).alloc (by rw [zQ];omega) _
 (with_reducible refine (C1.out _ d9).mono ?_)
 rintro en w1 ⟨rfl,bE⟩
 have hbb:=zzT d9 bE
 have d1:w1.cell? ⟨w.heap.size,1,none⟩=some (.slice a2 log.length c2):=by rw [bE.cell (by simp;omega)];simp
 have d2:w1.cell? ⟨w.heap.size+1,1,none⟩=some (.slice Bu log.length Br):=by rw [bE.cell (by simp)];simp
 have HB:=bU hbb;clear hbb bE d9
 go_wp2_with fail
 (with_reducible refine (C2.out _ HB.out).mono ?_)
 rintro en w2 ⟨rfl,bN⟩
 have b6:=bU (zzT HB.out bN);clear bN
 go_wp2_with fail
 go_ret
 exact ⟨rfl,b6.out⟩

theorem vY (u:Pl):(u.map (·.1)).zip (u.map (·.2))=u:=by
 induction u with
 | nil=>rfl
 | cons x u ih=>rw [List.map_cons,List.map_cons,List.zip_cons_cons,ih]
theorem specStrat_ok {s text:Bs} {b:Bd} (h:zM s text=some b):(zV s).2=true:=by
 unfold zM at h
 by_cases hq:(zV s).2=false\/2000<text.length
 ·rw [if_pos hq] at h;simp at h
 ·cases hz:(zV s).2 with
  | true=>rfl
  | false=>exact absurd (Or.inl hz) hq
theorem follow_in {s text:Bs} {b:Bd} {u:Pl} (h:zM s text=some b) (hu:yD (zV s).1 b u):qY s text (u.map (·.1)) (u.map (·.2))=true:=by
 unfold qY
 rw [h]
 simp only
 unfold kO kt
 rw [vY,specStrat_ok h,hu.lg,decide_eq_true hu.fo]
 unfold qE
 have hv:=hu.ok
 unfold zv at hv
 rw [Bool.and_eq_true] at hv
 rw [vY,hv.2]
 simp only [List.length_map,decide_eq_true (ze hu.ok)]
 simp
theorem outAt_pos (t:Ty) (b:Bd) (r:Nat):0<(jX t b r).length:=by
 have:=gT t b (Nat.zero_le r)
 have h2:(jX t b 0).length=1:=rfl
 omega
theorem qH.ms {F:Nat->Prop} {w:World} {u:Pl} {x:Value} (h:qH F w u x):jz F w (u.map (·.1)) x:=by
 unfold jz
 unfold qH at h
 rw [List.length_map,List.map_map]
 exact h
theorem qG.ps {F:Nat->Prop} {w:World} {u:Pl} {x:Value} (h:qG F w u x):jO F w (u.map (·.2)) x:=by
 unfold jO
 unfold qG at h
 rw [List.length_map,List.map_map]
 exact h
theorem replyOk_spec (s text:Bs) (ms:List Bs) (ps:List Int):kX s text ms ps=match zM s text with
 | none=>none
 | some b=>qx (zV s).1 b (ms.zip ps) (kO s ms ps) ms.length:=rfl
theorem replyTo_of {t:Ty} {b:Bd} {v:Pl} {s:St} (h:¬ v.length=60) (hr:kZ t b v v.length=qj s):qN t b v=(qj s).map fun x=>v++[x]:=by unfold qN;rw [if_neg h,hr]
set_option maxRecDepth 100000 in
theorem uy (F:Nat->Prop) (s text:Bs) (mv pt:Value) (ms:List Bs) (ps:List Int) (w:World) (hs:Lim s.length) (ht:Lim text.length) (hm:jz F w ms mv) (hp:jO F w ps pt) (hl:∀ x∈ms,Lim x.length) :
 Calls Tryz.prog 25 #[str s,str text,.agg #[mv,pt]] w (PlQ (kX s text ms ps) w):=by
 obtain ⟨ma,mc,rfl⟩:=hm.slice
 obtain ⟨pa,pc,rfl⟩:=hp.slice
 obtain ⟨W,hW,bM,hz,b0,b1⟩:=kH w (.cells #[.slice ma ms.length mc,.slice pa ps.length pc] 33) (.cells #[.slice none 0 0,.slice none 0 0] 33)
 have C:=bU (vR s text hs ht W)
 have CL:=bU (fun (y:World) (hy:Below W.heap.size W y)=>vj F s _ _ ms ps y hs ((hm.below bM fun _ h=>h).below hy fun _ h=>h) ((hp.below bM fun _ h=>h).below hy fun _ h=>h) hl)
 have HP:=bU (fun (y:World) (hy:Below W.heap.size W y) (h:kt s ms ps=true)=>(vE (hm.below bM fun _ h=>h) (hp.below bM fun _ h=>h) hl h).below hy)
 have HW:=bU (bY hW (bY bM (bY b0 b1)))
 clear hW bM hz b0 b1 hs ht hm hp hl
 go_enter Tryz.func25,Tryz.ntmps25
 go_upto_region 1 with (fail)
 rw [HW.out.1]
 go_wp2_with fail
 (with_reducible refine C.out.mono ?_)
 rintro en w1 ⟨ta,tc,s',v',a2,n2,c2,a3,n3,c3,rfl,bE,mH,fv⟩
 have sQ:=bU (fun b (h:zM s text=some b)=>(qS h).1)
 have nN:=bU (replyOk_spec s text ms ps)
 generalize hT:(zV s).1=t at *
 obtain ⟨so,lJ⟩:=zzM (zM s text)
 rw [<- lJ] at fv sQ nN ⊢
 clear lJ C
 obtain ⟨X,hX,dp,ai,x0,x1⟩:=kH w1 (.cells #[.slice ta t.args.length tc] 61) (.cells #[str s',.int .i64 v',.slice a2 n2 c2,.slice a3 n3 c3] 64)
 have mM:Below W.heap.size W X:=zzT bE dp
 obtain ⟨c0,c1,_,_⟩:=zJ HW.out.2.2.1
 have d0:=(mM.cell (bW _ _ c0)).trans c0
 have d1:=(mM.cell (bW _ _ c1)).trans c1
 have b3:=(mM.block _ (zZ HW.out.2.2.2)).trans HW.out.2.2.2
 have t0:=kP x0
 obtain ⟨m0,m1,m2,m3⟩:=zl x1
 have HX:=bU (bY hX (bY mM (bY (zzT HW.out.2.1 mM) b3)))
 have mO:Rep (fun _=>True) X (qZ t) (.slice ta t.args.length tc):=(Rep.keep fun i o _ ho=>⟨trivial,by rw [dp.block i (zZ ho)];exact ho⟩).1 _ _ mH
 have mj:∀ b,so=some b->zq (fun _=>True) X (ke b) [str s',.int .i64 v',.slice a2 n2 c2,.slice a3 n3 c3]:=fun b h=>(Rep.keep fun i o _ ho=>⟨trivial,by rw [dp.block i (zZ ho)];exact ho⟩).2 _ _ (fv b h)
 have HR:=bU (bY mO mj)
 have HT:=bU hT
 obtain ⟨z0,z1,f0,f1⟩:=zJ b3
 clear c0 c1 bE hX dp ai x0 x1 mM mH fv mO mj hT b3
 go_upto_region 2 with (fail)
 rw [HX.out.1]
 cases so with
 | none =>
   have E:Hid (kX s text ms ps=none):=bU nN.out
   clear nN
   go_wp2_with fail
   have hV:=kE HX.out.2.2.2 (.slice none 0 0) (.slice none 0 0)
   obtain ⟨s0,s1,_,_⟩:=zJ hV
   refine bodyPost_ret (v:=.tuple #[.agg #[.slice none 0 0,.slice none 0 0],.bool false]) (by simp [results,Tryz.results25,go_sem,s0,s1]) rfl ?_
   rw [E.out]
   exact PlQ.none ((HX.out.2.2.1.setCell (p:=⟨w.heap.size+1,0,none⟩) (Nat.le_add_right _ _) _).setCell (p:=⟨w.heap.size+1,1,none⟩) (Nat.le_add_right _ _) _)
 | some b =>
   have E:kX s text ms ps=qx t b (ms.zip ps) (kO s ms ps) ms.length:=nN.out
   have dn:=sQ.out b rfl
   have C1:=CL.out X HX.out.2.1
   clear nN sQ CL
   cases dF:kO s ms ps with
   | false =>
     rw [dF] at E C1
     have E:=bU (E.trans (gU _ _ _ _))
     have C1:=bU C1
     clear dF dn z0 z1 f0 f1
     go_wp2_with fail
     (with_reducible refine C1.out.mono ?_)
     rintro en w2 ⟨rfl,bN⟩
     have b3:=(bN.block _ (zZ HX.out.2.2.2)).trans HX.out.2.2.2
     obtain ⟨z0,z1,f0,f1⟩:=zJ b3
     have b6:=bU (bY (zzT HX.out.2.2.1 bN) b3)
     clear bN d0 d1 t0 m0 m1 m2 m3 b3
     go_wp2_with fail
     have hV:=kE b6.out.2 (.slice none 0 0) (.slice none 0 0)
     obtain ⟨s0,s1,_,_⟩:=zJ hV
     refine bodyPost_ret (v:=.tuple #[.agg #[.slice none 0 0,.slice none 0 0],.bool false]) (by simp [results,Tryz.results25,go_sem,s0,s1]) rfl ?_
     rw [E.out]
     exact PlQ.none ((b6.out.1.setCell (p:=⟨w.heap.size+1,0,none⟩) (Nat.le_add_right _ _) _).setCell (p:=⟨w.heap.size+1,1,none⟩) (Nat.le_add_right _ _) _)
   | true =>
     rw [dF] at E C1
     have n5:=bU (vN dF)
     have bI:=zip_len n5.out
     have hv60:=ze (vD n5.out).2.1
     have lC:ms.length<=60:=by omega
     have sK:=bU bI
     have E:=bU E
     have C1:=bU C1
     have HG:=bU dn
     clear dF dn bI hv60 z0 z1 f0 f1
     go_wp2_with fail
     (with_reducible refine C1.out.mono ?_)
     rintro en w2 ⟨rfl,bN⟩
     have hk:∀ (a:Addr) (u:Value),X.cell? a=some u->w2.cell? a=some u:=fun a u h=>(bN.cell (bW _ _ h)).trans h
     have e0:=hk _ _ d0;have e1:=hk _ _ d1;have u0:=hk _ _ t0;have y0:=hk _ _ m0;have y1:=hk _ _ m1;have y2:=hk _ _ m2;have y3:=hk _ _ m3
     have b3:=(bN.block _ (zZ HX.out.2.2.2)).trans HX.out.2.2.2
     obtain ⟨z0,z1,f0,f1⟩:=zJ b3
     have b6:=bU (bY (zzT HX.out.2.2.1 bN) (bY b3 bN))
     have tr:=bU (HP.out w2 (zzT HX.out.2.1 bN) n5.out)
     clear hk d0 d1 t0 m0 m1 m2 m3 b3 bN C1 HP
     rcases Nat.mod_two_eq_zero_or_one ms.length with s_ | s_
     ·have A9:(ms.length:Int).tmod 2=0:=by rw [Int.tmod_eq_emod_of_nonneg (by omega)];omega
      have E:=bU (E.out.trans (xF t b _ _ s_))
      clear s_
      go_wp2_with fail
      have hV:=kE b6.out.2.1 (.slice none 0 0) (.slice none 0 0)
      obtain ⟨s0,s1,_,_⟩:=zJ hV
      refine bodyPost_ret (v:=.tuple #[.agg #[.slice none 0 0,.slice none 0 0],.bool false]) (by simp [results,Tryz.results25,go_sem,s0,s1]) rfl ?_
      rw [E.out]
      exact PlQ.none ((b6.out.1.setCell (p:=⟨w.heap.size+1,0,none⟩) (Nat.le_add_right _ _) _).setCell (p:=⟨w.heap.size+1,1,none⟩) (Nat.le_add_right _ _) _)
     have A9:(ms.length:Int).tmod 2=1:=by rw [Int.tmod_eq_emod_of_nonneg (by omega)];omega
     have tt:=bU s_
     clear s_
     have ci:¬ (60:Int)<=(ms.length:Int):=by have:=tt.out;omega
     have h60':¬ 60<=ms.length:=by omega
     have bw:=tr.out
     have C2:=yx t b (ms.zip ps) (.slice ta t.args.length tc) (.slice ma ms.length mc) (.slice pa ps.length pc) [str s',.int .i64 v',.slice a2 n2 c2,.slice a3 n3 c3] w2 ((Rep.below b6.out.2.2 fun _ h=>h) HR.out.1) ((Rep.keep fun i o hi ho=>⟨hi,by rw [b6.out.2.2.block i (zZ ho)];exact ho⟩).2 _ _ (HR.out.2 b rfl))
      ⟨(Rep.keep fun b o _ ho=>⟨trivial,ho⟩).1 _ _ bw.m,(Rep.keep fun b o _ ho=>⟨trivial,ho⟩).1 _ _ bw.p,bw.ok,bw.l⟩ HG.out.atoms HG.out.fit HG.out.wf
     obtain ⟨r,hr⟩:=zzN (decide (zI t b (ms.zip ps) (ms.zip ps).length))
     rw [hr] at C2
     have C2:=bU (show Calls Tryz.prog 50 #[.agg #[.slice ta t.args.length tc],.agg #[str s',.int .i64 v',.slice a2 n2 c2,.slice a3 n3 c3],.agg #[.slice ma ms.length mc,.slice pa ps.length pc]] w2 _ from C2)
     clear bw
     cases r with
     | false =>
       have E:=bU (E.out.trans (wb t b _ _ _ hr))
       clear hr z0 z1 f0 f1
       go_wp2_with fail
       (with_reducible refine C2.out.mono ?_)
       rintro en w3 ⟨rfl,bp⟩
       have b3:=(bp.block _ (zZ b6.out.2.1)).trans b6.out.2.1
       obtain ⟨z0,z1,f0,f1⟩:=zJ b3
       have cF:=bU (bY (zzT b6.out.1 bp) b3)
       clear bp b3
       go_wp2_with fail
       have hV:=kE cF.out.2 (.slice none 0 0) (.slice none 0 0)
       obtain ⟨s0,s1,_,_⟩:=zJ hV
       refine bodyPost_ret (v:=.tuple #[.agg #[.slice none 0 0,.slice none 0 0],.bool false]) (by simp [results,Tryz.results25,go_sem,s0,s1]) rfl ?_
       rw [E.out]
       exact PlQ.none ((cF.out.1.setCell (p:=⟨w.heap.size+1,0,none⟩) (Nat.le_add_right _ _) _).setCell (p:=⟨w.heap.size+1,1,none⟩) (Nat.le_add_right _ _) _)
     | true =>
       have E:=bU (E.out.trans (wt t b _ tt.out hr))
       have HF:=bU (of_decide_eq_true hr)
       clear hr z0 z1 f0 f1
       go_wp2_with fail
       (with_reducible refine C2.out.mono ?_)
       rintro en w3 ⟨rfl,bp⟩
       have hk:∀ (a:Addr) (u:Value),w2.cell? a=some u->w3.cell? a=some u:=fun a u h=>(bp.cell (bW _ _ h)).trans h
       have d0:=hk _ _ e0;have d1:=hk _ _ e1;have t0:=hk _ _ u0;have m0:=hk _ _ y0;have m1:=hk _ _ y1;have m2:=hk _ _ y2;have m3:=hk _ _ y3
       have Ex:=zzT b6.out.2.2 bp
       have bw:=tr.out.below bp
       obtain ⟨st,hand,dB,cJ⟩:=jS HG.out.atoms HG.out.fit HG.out.wf bw.ok (ms.length-1) (by have:=tt.out;have:=sK.out;omega) (by have:=tt.out;omega) (fun i hi ho=>HF.out i (by have:=sK.out;omega) ho)
       have C3:=bU (show Calls Tryz.prog 51 #[.agg #[.slice ta t.args.length tc],.agg #[str s',.int .i64 v',.slice a2 n2 c2,.slice a3 n3 c3],.agg #[.slice ma ms.length mc,.slice pa ps.length pc]] w3 _ from
        yJ (fun _=>True) t b (ms.zip ps) (ms.length-1) st (.slice ta t.args.length tc) (.slice ma ms.length mc) (.slice pa ps.length pc) [str s',.int .i64 v',.slice a2 n2 c2,.slice a3 n3 c3] w3 ((Rep.below Ex fun _ h=>h) HR.out.1) ((Rep.keep fun i o hi ho=>⟨hi,by rw [Ex.block i (zZ ho)];exact ho⟩).2 _ _ (HR.out.2 b rfl))
         ⟨(Rep.keep fun b o _ ho=>⟨trivial,ho⟩).1 _ _ bw.m,(Rep.keep fun b o _ ho=>⟨trivial,ho⟩).1 _ _ bw.p,bw.ok,bw.l⟩ HG.out.atoms HG.out.fit HG.out.wf
         (by have:=tt.out;have:=sK.out;omega) (by have:=tt.out;omega) (fun i hi ho=>HF.out i (by have:=sK.out;omega) ho) dB)
       have E:=bU (show kX s text ms ps=(qj st).map fun x=>ms.zip ps++[x] from E.out.trans (replyTo_of (by have:=sK.out;omega) (by
        unfold kZ;rw [show (ms.zip ps).length=ms.length-1+1 from by have:=tt.out;have:=sK.out;omega,dB];rfl)))
       have b3:=(bp.block _ (zZ b6.out.2.1)).trans b6.out.2.1
       have cF:=bU (bY (zzT b6.out.1 bp) b3)
       clear hk e0 e1 u0 y0 y1 y2 y3 bp b3 bw Ex dB cJ C2
       go_wp2_with fail
       (with_reducible refine C3.out.mono ?_)
       rintro en w4 ⟨a8,n8,c8,a9,n9,c9,rfl,cV,_,dQ⟩
       obtain ⟨Y,hY,fF,hzY,p0⟩:=kJ w4 (.cells #[.slice a8 n8 c8,.slice a9 n9 c9] 33)
       have b3:=(fF.block _ (zZ ((cV.block _ (zZ cF.out.2)).trans cF.out.2))).trans ((cV.block _ (zZ cF.out.2)).trans cF.out.2)
       obtain ⟨z0,z1,f0,f1⟩:=zJ b3
       obtain ⟨q0,q1,_,_⟩:=zJ p0
       have D1:Below w.heap.size w Y:=(zzT cF.out.1 cV).trans (fF.mono (bC cF.out.1.size cV.size))
       have HY:=bU (bY hY (bY b3 (bY D1 (bY fF (show w.heap.size+1<w3.heap.size from zZ cF.out.2)))))
       have HSO:=bU dQ
       clear hY b3 D1 fF hzY p0 cV dQ C3 d0 d1 t0 m0 m1 m2 m3
       obtain ⟨o,ho⟩:=zzN (qj st)
       rw [ho] at E HSO
       rw [ho]
       cases o with
       | none =>
         have E:=bU (show kX s text ms ps=none from E.out)
         clear ho HSO
         go_upto_region 5 with (fail)
         rw [HY.out.1]
         go_wp2_with fail
         have hV:=kE HY.out.2.1 (.slice none 0 0) (.slice none 0 0)
         obtain ⟨s0,s1,_,_⟩:=zJ hV
         refine bodyPost_ret (v:=.tuple #[.agg #[.slice none 0 0,.slice none 0 0],.bool false]) (by simp [results,Tryz.results25,go_sem,s0,s1]) rfl ?_
         rw [E.out]
         exact PlQ.none ((HY.out.2.2.1.setCell (p:=⟨w.heap.size+1,0,none⟩) (Nat.le_add_right _ _) _).setCell (p:=⟨w.heap.size+1,1,none⟩) (Nat.le_add_right _ _) _)
       | some x =>
         obtain ⟨cR,eI⟩:=HSO.out x rfl
         have E:=bU (show kX s text ms ps=some (ms.zip ps++[x]) from E.out)
         have l8:n8=(ms.zip ps++[x]).length:=by obtain ⟨_,_,e⟩:=cR.1.slice;exact (Value.slice.inj e).2.1
         have l9:n9=(ms.zip ps++[x]).length:=by obtain ⟨_,_,e⟩:=cR.2.slice;exact (Value.slice.inj e).2.1
         have h9:n8=n9:=l8.trans l9.symm
         subst h9
         have hpY:=cR.below HY.out.2.2.2.1
         have l6:=bU (bY hpY (bY eI (bY l8 l9)))
         clear ho HSO cR eI hpY l8 l9
         go_upto_region 5 with (fail)
         rw [HY.out.1]
         go_wp2_with fail
         have hV:=kE HY.out.2.1 (.slice a8 n8 c8) (.slice a9 n8 c9)
         obtain ⟨mR,mN,_,_⟩:=zJ hV
         have cG:∀ g,g≠w.heap.size+1->((Y.setCell ⟨w.heap.size+1,0,none⟩ (.slice a8 n8 c8)).setCell ⟨w.heap.size+1,1,none⟩ (.slice a9 n8 c9)).heap[g]? = Y.heap[g]?:=fun g hg=>by
          rw [bG _ _ _ _ (by show g≠w.heap.size+1;exact hg),bG _ _ _ _ (by show g≠w.heap.size+1;exact hg)]
         refine bodyPost_ret (v:=.tuple #[.agg #[.slice a8 n8 c8,.slice a9 n8 c9],.bool true]) (by simp [results,Tryz.results25,go_sem,mR,mN]) rfl ?_
         rw [E.out]
         have bA:=HY.out.2.2.2.2
         refine ⟨a8,c8,a9,c9,by rw [Option.getD_some,<- l6.out.2.2.1];rfl,(HY.out.2.2.1.setCell (p:=⟨w.heap.size+1,0,none⟩) (Nat.le_add_right _ _) _).setCell (p:=⟨w.heap.size+1,1,none⟩) (Nat.le_add_right _ _) _,?_,fun g hg=>?_⟩
         ·rw [Option.getD_some,show (ms.zip ps++[x]).length=n8 from l6.out.2.2.1.symm]
          refine ⟨?_,?_⟩
          ·exact l6.out.1.1.keep fun g o hg ho=>by
            have:=l6.out.2.1 g (.inl hg)
            rw [cG g (by omega)];exact ho
          ·exact l6.out.1.2.keep fun g o hg ho=>by
            have:=l6.out.2.1 g (.inr hg)
            rw [cG g (by omega)];exact ho
         ·rw [Option.getD_some,show (ms.zip ps++[x]).length=n8 from l6.out.2.2.1.symm] at hg
          have:=l6.out.2.1 g hg
          have h5:=HW.out.2.1.size;have h6:=cF.out.1.size
          omega
end Go.Proofs.YtfedjhgaeikjmaaGreatDoor

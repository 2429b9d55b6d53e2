/- Walks of functions that the statement reaches, and plain words. No conditions. -/
import Derived.Deep.RegionLaw
import Derived.Test.YtepgfdhkkjfmhabGreatDoorQ6
set_option linter.unusedVariables false
set_option linter.unusedSimpArgs false
set_option maxHeartbeats 8000000
namespace Go.Proofs.YtepgfdhkkjfmhabGreatDoor
open Go.RowKit
theorem kR.storeB {ob:Nat} {v:Int} {ks ys:Value} {w:World} (h:kR ob v ks ys w) (u0 u1 u2 u3:Value) :
 ∃ W,W=((((w.setCell ⟨ob,0,none⟩ u0).setCell ⟨ob,1,none⟩ u1).setCell ⟨ob,2,none⟩ u2).setCell ⟨ob,3,none⟩ u3) /\
   W.cell? ⟨ob,0,none⟩=some u0/\W.cell? ⟨ob,1,none⟩=some u1/\W.cell? ⟨ob,2,none⟩=some u2/\W.cell? ⟨ob,3,none⟩=some u3 /\
   (∀ (m:Nat->Prop) w0,But m w0 w->w0.heap.size<=ob->But m w0 W)/\(∀ i x,i≠ob->w.heap[i]? = some x->W.heap[i]? = some x)/\(∀ rd P,rd<ob->qQ w rd P->qQ W rd P):=by
 obtain ⟨W,hW,s0,s1,s2,s3,_,hk⟩:=h.store u0 u1 u2 u3
 have hB:∀ (m:Nat->Prop) w0,But m w0 w->(m ob\/w0.heap.size<=ob)->But m w0 W:=by
  intro m w0 hb ho
  rw [hW]
  exact ((((hb.setCell (p:=⟨ob,0,none⟩) ho _).setCell (p:=⟨ob,1,none⟩) ho _).setCell (p:=⟨ob,2,none⟩) ho _).setCell (p:=⟨ob,3,none⟩) ho _)
 refine ⟨W,hW,s0,s1,s2,s3,fun m w0 hb ho=>hB m w0 hb (.inr ho),hk,fun rd P bX hr=>?_⟩
 exact hr.but (hB (· = ob) w (But.refl _ _) (.inl rfl)) (fun i hi e=>by omega)
structure pJ (w:World) (rd ob Z:Nat) (v:Int) (wr:World) (pk py:List Bd) (kv yv:List Value) (ks:Value) (nk:Nat) (ys:Value) (ny:Nat):Prop where
 hnk:nk=pk.length
 hny:ny=py.length
 ksl:∃ a c,ks=.slice a nk c
 ysl:∃ a c,ys=.slice a ny c
 but:But (· = rd) w wr
 res:kR w.heap.size 0 (.slice none 0 0) (.slice none 0 0) wr
 out:kR ob v ks ys wr
 ownK:Own wr 43 4 ks nk kv
 ownY:Own wr 43 4 ys ny yv
 blkK:∀ g,ks.ownBlock=some g->Z<=g/\ys.ownBlock≠some g
 blkY:∀ g,ys.ownBlock=some g->Z<=g
 repK:zC (fun b=>Z<=b/\ks.ownBlock≠some b/\ys.ownBlock≠some b) wr (kt pk) kv
 repY:zC (fun b=>Z<=b/\ks.ownBlock≠some b/\ys.ownBlock≠some b) wr (kt py) yv
 z:Z<=wr.heap.size
theorem pJ.kid {w:World} {rd ob Z:Nat} {v:Int} {wr:World} {pk py:List Bd} {kv yv:List Value} {ks ys:Value} {nk ny:Nat}
 (h:pJ w rd ob Z v wr pk py kv yv ks nk ys ny) (cf:rd<w.heap.size) (d7:ob<Z) (hwo:w.heap.size<ob) {W w7:World} {b:Bd} {cs:List Value} {a':Option Addr} {c':Nat}
 (bW:But (· = rd) wr W) (hcs:zC (wr.heap.size<=·) W (qk b) cs) (bG:Own w7 43 4 (.slice a' (nk+1) c') (nk+1) (kv++cs)) (bB:But (fun i=>ks.ownBlock=some i) W w7)
 (b9:∀ g,(Value.slice a' (nk+1) c').ownBlock=some g->ks.ownBlock=some g\/g=W.heap.size) :
 pJ w rd ob Z v (w7.setCell ⟨ob,2,none⟩ (.slice a' (nk+1) c')) (pk++[b]) py (kv++cs) yv (.slice a' (nk+1) c') (nk+1) ys ny:=by
 have z6:=bW.size
 have z7:=bB.size
 have zr:=h.z
 have zb:=h.but.size
 have keep:∀ i x,wr.heap[i]? = some x->ks.ownBlock≠some i->i≠ob->i≠rd->(w7.setCell ⟨ob,2,none⟩ (.slice a' (nk+1) c')).heap[i]? = some x:=by
  intro i x hx h1 h2 h3
  have:=zZ hx
  rw [bQ _ _ _ _ (by simpa using h2),bB.block i (by omega) h1,bW.block i this h3];exact hx
 have cI:∀ i x,W.heap[i]? = some x->ks.ownBlock≠some i->i≠ob->(w7.setCell ⟨ob,2,none⟩ (.slice a' (nk+1) c')).heap[i]? = some x:=by
  intro i x hx h1 h2
  have:=zZ hx
  rw [bQ _ _ _ _ (by simpa using h2),bB.block i (by omega) h1];exact hx
 have ltK:∀ g,ks.ownBlock=some g->g<wr.heap.size:=fun g hg=>h.ownK.lt hg
 have ltY:∀ g,ys.ownBlock=some g->g<wr.heap.size:=fun g hg=>h.ownY.lt hg
 have nK:∀ i,i<Z->ks.ownBlock≠some i:=fun i hi e=>by have:=(h.blkK i e).1;omega
 have newg:∀ g,(Value.slice a' (nk+1) c').ownBlock=some g->Z<=g:=fun g hg=>by
  rcases b9 g hg with e | e
  ·exact (h.blkK g e).1
  ·omega
 refine ⟨by simp [h.hnk],h.hny,⟨_,_,rfl⟩,h.ysl,?_,?_,?_,?_,?_,?_,h.blkY,?_,?_,by simp [World.setCell];omega⟩
 ·refine But.setCell ?_ (.inr (show w.heap.size<=ob by omega)) _
  exact (h.but.trans bW).trans' bB (fun i hi e=>absurd e (nK i (by omega)))
 ·exact keep _ _ h.res (nK _ (by omega)) (by omega) (by omega)
 ·have h1:kR ob v ks ys w7:=by
   unfold kR;rw [bB.block ob (by omega) (nK _ d7),bW.block ob (by omega) (show ¬ ob=rd by omega)];exact h.out
  exact h1.put2
 ·exact bG.keep fun g o hg ho=>by rw [bQ _ _ _ _ (by have:=newg g hg;simp;omega)];exact ho
 ·exact h.ownY.keep fun g o hg ho=>keep g o ho (fun e=>(h.blkK g e).2 hg) (by have:=h.blkY g hg;omega) (by have:=h.blkY g hg;omega)
 ·intro g hg
  refine ⟨newg g hg,fun e=>?_⟩
  rcases b9 g hg with e' | e'
  ·exact (h.blkK g e').2 e
  ·have:=ltY g e;omega
 ·rw [jJ]
  have h1:=h.repK
  refine zC.append ((Rep.keep fun i x hi hx=>⟨⟨hi.1,fun e=>(b9 i e).elim (fun e'=>hi.2.1 e') (fun e'=>by have:=zZ hx;omega),hi.2.2⟩,keep i x hx hi.2.1 (by have:=hi.1;omega) (by have:=hi.1;omega)⟩).2 _ _ h1) ?_
  ·have e1:kt [b]=qk b:=by simp [kt]
   rw [e1]
   refine (Rep.keep fun i x hi hx=>?_).2 _ _ hcs
   have h2:=zZ hx
   have h3:wr.heap.size<=i:=hi
   refine ⟨⟨by omega,fun e=>?_,fun e=>by have:=ltY i e;omega⟩,cI i x hx (fun e=>by have:=ltK i e;omega) (by omega)⟩
   rcases b9 i e with e' | e'
   ·have:=ltK i e';omega
   ·omega
 ·exact (Rep.keep fun i x hi hx=>⟨⟨hi.1,fun e=>(b9 i e).elim (fun e'=>hi.2.1 e') (fun e'=>by have:=zZ hx;omega),hi.2.2⟩,keep i x hx hi.2.1 (by have:=hi.1;omega) (by have:=hi.1;omega)⟩).2 _ _ h.repY
theorem pJ.yes {w:World} {rd ob Z:Nat} {v:Int} {wr:World} {pk py:List Bd} {kv yv:List Value} {ks ys:Value} {nk ny:Nat}
 (h:pJ w rd ob Z v wr pk py kv yv ks nk ys ny) (cf:rd<w.heap.size) (d7:ob<Z) (hwo:w.heap.size<ob) {W w7:World} {b:Bd} {cs:List Value} {a':Option Addr} {c':Nat}
 (bW:But (· = rd) wr W) (hcs:zC (wr.heap.size<=·) W (qk b) cs) (bG:Own w7 43 4 (.slice a' (ny+1) c') (ny+1) (yv++cs)) (bB:But (fun i=>ys.ownBlock=some i) W w7)
 (b9:∀ g,(Value.slice a' (ny+1) c').ownBlock=some g->ys.ownBlock=some g\/g=W.heap.size) :
 pJ w rd ob Z v (w7.setCell ⟨ob,3,none⟩ (.slice a' (ny+1) c')) pk (py++[b]) kv (yv++cs) ks nk (.slice a' (ny+1) c') (ny+1):=by
 have z6:=bW.size
 have z7:=bB.size
 have zr:=h.z
 have zb:=h.but.size
 have keep:∀ i x,wr.heap[i]? = some x->ys.ownBlock≠some i->i≠ob->i≠rd->(w7.setCell ⟨ob,3,none⟩ (.slice a' (ny+1) c')).heap[i]? = some x:=by
  intro i x hx h1 h2 h3
  have:=zZ hx
  rw [bQ _ _ _ _ (by simpa using h2),bB.block i (by omega) h1,bW.block i this h3];exact hx
 have cI:∀ i x,W.heap[i]? = some x->ys.ownBlock≠some i->i≠ob->(w7.setCell ⟨ob,3,none⟩ (.slice a' (ny+1) c')).heap[i]? = some x:=by
  intro i x hx h1 h2
  have:=zZ hx
  rw [bQ _ _ _ _ (by simpa using h2),bB.block i (by omega) h1];exact hx
 have ltK:∀ g,ks.ownBlock=some g->g<wr.heap.size:=fun g hg=>h.ownK.lt hg
 have ltY:∀ g,ys.ownBlock=some g->g<wr.heap.size:=fun g hg=>h.ownY.lt hg
 have nY:∀ i,i<Z->ys.ownBlock≠some i:=fun i hi e=>by have:=h.blkY i e;omega
 have newg:∀ g,(Value.slice a' (ny+1) c').ownBlock=some g->Z<=g:=fun g hg=>by
  rcases b9 g hg with e | e
  ·exact h.blkY g e
  ·omega
 refine ⟨h.hnk,by simp [h.hny],h.ksl,⟨_,_,rfl⟩,?_,?_,?_,?_,?_,?_,newg,?_,?_,by simp [World.setCell];omega⟩
 ·refine But.setCell ?_ (.inr (show w.heap.size<=ob by omega)) _
  exact (h.but.trans bW).trans' bB (fun i hi e=>absurd e (nY i (by omega)))
 ·exact keep _ _ h.res (nY _ (by omega)) (by omega) (by omega)
 ·have h1:kR ob v ks ys w7:=by
   unfold kR;rw [bB.block ob (by omega) (nY _ d7),bW.block ob (by omega) (show ¬ ob=rd by omega)];exact h.out
  exact h1.put3
 ·exact h.ownK.keep fun g o hg ho=>keep g o ho (h.blkK g hg).2 (by have:=(h.blkK g hg).1;omega) (by have:=(h.blkK g hg).1;omega)
 ·exact bG.keep fun g o hg ho=>by rw [bQ _ _ _ _ (by have:=newg g hg;simp;omega)];exact ho
 ·intro g hg
  refine ⟨(h.blkK g hg).1,fun e=>?_⟩
  rcases b9 g e with e' | e'
  ·exact (h.blkK g hg).2 e'
  ·have:=ltK g hg;omega
 ·exact (Rep.keep fun i x hi hx=>⟨⟨hi.1,hi.2.1,fun e=>(b9 i e).elim (fun e'=>hi.2.2 e') (fun e'=>by have:=zZ hx;omega)⟩,keep i x hx hi.2.2 (by have:=hi.1;omega) (by have:=hi.1;omega)⟩).2 _ _ h.repK
 ·rw [jJ]
  refine zC.append ((Rep.keep fun i x hi hx=>⟨⟨hi.1,hi.2.1,fun e=>(b9 i e).elim (fun e'=>hi.2.2 e') (fun e'=>by have:=zZ hx;omega)⟩,keep i x hx hi.2.2 (by have:=hi.1;omega) (by have:=hi.1;omega)⟩).2 _ _ h.repY) ?_
  ·have e1:kt [b]=qk b:=by simp [kt]
   rw [e1]
   refine (Rep.keep fun i x hi hx=>?_).2 _ _ hcs
   have h2:=zZ hx
   have h3:wr.heap.size<=i:=hi
   refine ⟨⟨by omega,fun e=>by have:=ltK i e;omega,fun e=>?_⟩,cI i x hx (fun e=>by have:=ltY i e;omega) (by omega)⟩
   rcases b9 i e with e' | e'
   ·have:=ltY i e';omega
   ·omega
def cst:Nat->Nat
 | 0=>1
 | d+1=>5+17*cst d
def bnd:Nat->Nat
 | 0=>1
 | d+1=>1+17*bnd d
theorem cst_pos (d:Nat):2<=cst d\/d=0/\cst d=1:=by cases d <;> simp [cst];omega
theorem bnd_pos (d:Nat):1<=bnd d:=by cases d <;> simp [bnd]
theorem gh {s:Bs} (h:s∈qZ):∃ c,s=[c]:=by
 simp only [qZ,List.mem_cons,List.not_mem_nil,or_false] at h
 rcases h with rfl | rfl | rfl | rfl | rfl <;> exact ⟨_,rfl⟩
def BodyD (rd Q d:Nat) (hand:List Ty) (w:World) (en:Ending) (w':World):Prop :=
 ∃ (b:Bd) (s:Bs) (v:Int) (a2:Option Addr) (n2 c2:Nat) (a3:Option Addr) (n3 c3:Nat),en=.returned (.agg #[str s,.int .i64 v,.slice a2 n2 c2,.slice a3 n3 c3])/\But (· = rd) w w'/\qQ w' rd Q /\
   qb hand b/\lvB b/\zD b<=bnd d/\zC (w.heap.size<=·) w' (qk b) [str s,.int .i64 v,.slice a2 n2 c2,.slice a3 n3 c3]
def DrawB (rd d:Nat):Prop:=∀ (z:Int) (hand:List Ty) (F:Nat->Prop) (hv:Value) (w:World) (P:Nat),z<=d->-1000<=z->P+cst d<=1099511627776->qQ w rd P->qV d hand->(∀ k,F k->k≠rd) ->
 Rep F w (.sl 35 1 hand.length (qT hand)) hv ->
 Calls Tryz.prog 15 #[.pointer (some ⟨rd,0,none⟩),hv,.int .i64 z] w (BodyD rd (P+cst d) d hand w)
theorem uu.newAt {w:World} {rd:Nat} (cf:rd<w.heap.size) (xs:List Bs) (n:Nat) (hn:n=xs.length) (e:TypeId) (g:Nat) (hg:g=w.heap.size):uu (w.alloc (.cells (xs.map str).toArray e)) rd (.slice (some ⟨g,0,none⟩) n n) xs:=by
 subst hg;exact uu.new cf xs n hn e
theorem gX {F:Nat->Prop} {w:World} (c:UInt8):zC F w (qk (.leaf c)) [str [c],.int .i64 0,.slice none 0 0,.slice none 0 0]:=by
 rw [qk]
 have h0:Rep F w (.sl 43 4 0 []) (.slice none 0 0):=kD.2 ⟨rfl,none,0,rfl,hG _,fun _=>rfl,.inl rfl⟩
 exact zJ.2 ⟨_,_,rfl,zj.2 rfl,zJ.2 ⟨_,_,rfl,zj.2 rfl,zJ.2 ⟨_,_,rfl,h0,zJ.2 ⟨_,_,rfl,h0,zM.2 rfl⟩⟩⟩⟩
def KidsD (w:World) (rd ob Z v P d:Nat) (hand:List Ty) (t:Ty) (k:Nat) (wr:World):Prop :=
 ∃ (pk:List Bd) (kv:List Value) (ks:Value) (nk:Nat),pJ w rd ob Z v wr pk [] kv [] ks nk (.slice none 0 0) 0/\pk.length=k/\kN (zi hand (t.args.take k)) pk/\uV pk/\zE pk<=k*bnd d/\qQ wr rd (P+k*cst d)
def YesD (w:World) (rd ob Z v P d:Nat) (hand:List Ty) (pk:List Bd) (kv:List Value) (ks:Value) (nk:Nat) (k:Nat) (wr:World):Prop :=
 ∃ (py:List Bd) (yv:List Value) (ys:Value) (ny:Nat),pJ w rd ob Z v wr pk py kv yv ks nk ys ny/\py.length=k/\(∀ b∈py,qb hand b)/\uV py/\zE py<=k*bnd d/\qQ wr rd (P+k*(1+cst d))
theorem ul:∀ (xs ys:List Bd),uV xs->uV ys->uV (xs++ys)
 | [],ys,_,h=>by simpa using h
 | x::xs,ys,h1,h2=>by
   rw [uV] at h1
   simp only [List.cons_append]
   rw [uV]
   exact ⟨h1.1,ul xs ys h1.2 h2⟩
theorem lvBs_one {b:Bd} (h:lvB b):uV [b]:=by rw [uV];exact ⟨h,by rw [uV];trivial⟩
theorem rep_len {F:Nat->Prop} {w:World} {e:TypeId} {a:Option Addr} {c:Nat} {xs ys:List Ty} (h:Rep F w (.sl e 1 (xs++ys).length (qT (xs++ys))) (.slice a (xs++ys).length c)) :
 Rep F w (.sl e 1 (xs++ys).length (qT (xs++ys))) (.slice a (xs.length+ys.length) c):=by
 have e:xs.length+ys.length=(xs++ys).length:=by simp
 rw [e];exact h
theorem but_drew {m:Nat->Prop} {w w':World} (h:Below w.drew.heap.size w.drew w'):But m w w':=⟨h.os,h.tape,h.output,h.size,fun i hi _=>h.block i hi⟩
theorem wG {m:Nat->Prop} {w w':World} (h:But m w.drew w'):But m w w':=⟨h.os,h.tape,h.output,h.size,h.block⟩
theorem vx (x:Int) (h1 : -2000<=x) (h2:x<=1000000):IntKind.i64.wrap x=x:=by
 simp [IntKind.wrap,IntKind.bits,IntKind.signed];omega
theorem wrap_sub (z:Int) (p:Nat) (h1:0<z) (h2:z<=1000) (h3:p<2):IntKind.i64.wrap (z-1-(p:Int))=z-1-p:=vx _ (by omega) (by omega)
theorem sub_le {z:Int} {p d:Nat} (h2:z<=((d+1:Nat):Int)):z-1-(p:Int)<=d:=by omega
theorem sub_lo {z:Int} {p:Nat} (h1:0<z) (h3:p<2) : -1000<=z-1-(p:Int):=by omega
theorem reps_past {B B':Nat} {w:World} {o:Obj} {ds:List DV} {vs:List Value} (hB:B'<=B) (h:zC (B<=·) w ds vs):zC (B'<=·) (w.alloc o) ds vs :=
 (Rep.keep fun _ _ hi hx=>⟨bV hB hi,zH hx⟩).2 _ _ h
set_option maxRecDepth 100000 in
theorem xB (rd d:Nat) (hd:d<=100) (ih:∀ d',d=d'+1->DrawB rd d'):DrawB rd d:=by
 intro z hand F hv w P hz hzl hP hr hh hF rL
 have IH:=g_ ih;clear ih
 have bX:=hr.lt
 have CST:=g_ (cst_pos d)
 have BND:=g_ (bnd_pos d)
 have nV:qQ (w.alloc (.cells #[str [],.int .i64 0,.slice none 0 0,.slice none 0 0] 43)) rd P:=hr.alloc _
 have s8:kR w.heap.size 0 (.slice none 0 0) (.slice none 0 0) (w.alloc (.cells #[str [],.int .i64 0,.slice none 0 0,.slice none 0 0] 43)):=zO _ _
 have mQ:But (· = rd) w (w.alloc (.cells #[str [],.int .i64 0,.slice none 0 0,.slice none 0 0] 43)):=(But.refl _ _).alloc _
 obtain ⟨a0,k0,e,_,_,bL⟩:=zF rL
 subst e
 have HAT:=g_ bL;have iR:=g_ rL;have HF:=g_ hF;have HH:=g_ hh
 have bP:hand.length<=10000:=by have:=hh.2;omega
 clear bL rL hF hh hr
 by_cases hz0:z<=0
 ·go_enter Tryz.func15,Tryz.ntmps15
  have H0:=g_ (hU nV (hU s8 mQ))
  have fc:=H0.out.1.lt
  clear nV s8 mQ
  go_wp2_with fail
  obtain ⟨fU,d_,eX⟩:=H0.out
  refine (wU rd (P) (.slice (some ⟨w.heap.size+1,0,none⟩) 5 5) qZ _ (fU.alloc (.cells (qZ.map str).toArray 9)) (uu.newAt fc qZ 5 rfl _ (w.heap.size+1) (by simp)) (by decide) (by decide) (by omega)).mono ?_
  rintro en w2 ⟨s,hs,rfl,bY,cJ⟩
  obtain ⟨c,rfl⟩:=gh hs
  clear hs
  have cP:kR w.heap.size 0 (.slice none 0 0) (.slice none 0 0) w2:=kR.but (by unfold kR;exact zH d_) bY (show ¬ w.heap.size=rd by omega)
  have cj:=(eX.alloc (.cells (qZ.map str).toArray 9)).trans bY
  obtain ⟨r0,r1,r2,r3,rl,rf⟩:=cP.cells
  have dH:=rf 0;have dx:=rf 1;have sT:=rf 2;have sS:=rf 3;clear rf
  have HQ:=g_ (hU cP (hU cj cJ));clear cP cj cJ bY d_ eX fU
  go_wp2_with fail
  obtain ⟨cP,cj,cJ⟩:=HQ.out
  obtain ⟨W,hW,s0,s1,s2,s3,bE,bg,rI⟩:=cP.storeB (str [c]) (.int .i64 0) (.slice none 0 0) (.slice none 0 0)
  rw [<- hW]
  refine bodyPost_ret (v:=.agg #[str [c],.int .i64 0,.slice none 0 0,.slice none 0 0]) (by simp [results,Tryz.results15,go_sem,s0,s1,s2,s3]) rfl ?_
  exact ⟨.leaf c,[c],0,none,0,0,none,0,0,rfl,bE _ _ cj (hG _),(rI _ _ bX cJ).mono (by have:=CST.out;omega),by simp [qb],by simp [lvB],by simp only [zD];exact BND.out,gX c⟩
 have hP2:P+2<=1099511627776:=by have:=CST.out;omega
 by_cases fW:hand.length=0
 ·have tt:((hand.length:Int) == 0)=true:=by rw [beq_iff_eq];omega
  go_enter Tryz.func15,Tryz.ntmps15
  have H0:=g_ (hU nV (hU s8 mQ))
  have fc:=H0.out.1.lt
  clear nV s8 mQ
  go_wp2_with fail
  obtain ⟨fU,d_,eX⟩:=H0.out
  refine (wU rd (P) (.slice (some ⟨w.heap.size+1,0,none⟩) 5 5) qZ _ (fU.alloc (.cells (qZ.map str).toArray 9)) (uu.newAt fc qZ 5 rfl _ (w.heap.size+1) (by simp)) (by decide) (by decide) (by omega)).mono ?_
  rintro en w2 ⟨s,hs,rfl,bY,cJ⟩
  obtain ⟨c,rfl⟩:=gh hs
  clear hs
  have cP:kR w.heap.size 0 (.slice none 0 0) (.slice none 0 0) w2:=kR.but (by unfold kR;exact zH d_) bY (show ¬ w.heap.size=rd by omega)
  have cj:=(eX.alloc (.cells (qZ.map str).toArray 9)).trans bY
  obtain ⟨r0,r1,r2,r3,rl,rf⟩:=cP.cells
  have dH:=rf 0;have dx:=rf 1;have sT:=rf 2;have sS:=rf 3;clear rf
  have HQ:=g_ (hU cP (hU cj cJ));clear cP cj cJ bY d_ eX fU
  go_wp2_with fail
  obtain ⟨cP,cj,cJ⟩:=HQ.out
  obtain ⟨W,hW,s0,s1,s2,s3,bE,bg,rI⟩:=cP.storeB (str [c]) (.int .i64 0) (.slice none 0 0) (.slice none 0 0)
  rw [<- hW]
  refine bodyPost_ret (v:=.agg #[str [c],.int .i64 0,.slice none 0 0,.slice none 0 0]) (by simp [results,Tryz.results15,go_sem,s0,s1,s2,s3]) rfl ?_
  exact ⟨.leaf c,[c],0,none,0,0,none,0,0,rfl,bE _ _ cj (hG _),(rI _ _ bX cJ).mono (by have:=CST.out;omega),by simp [qb],by simp [lvB],by simp only [zD];exact BND.out,gX c⟩
 have tt:((hand.length:Int) == 0)=false:=by rw [beq_eq_false_iff_ne];omega
 go_enter Tryz.func15,Tryz.ntmps15
 go_wp2_with fail
 refine (jw rd P 5 _ nV (by omega) (by omega) (by omega)).mono ?_
 rintro en w1 ⟨p1,rfl,hp1,bU,cW⟩
 have hN1:=s8.but bU (show ¬ w.heap.size=rd by omega)
 have dT:=mQ.trans bU
 by_cases sj:p1=0
 ·subst sj
  have H0:=g_ (hU cW (hU hN1 dT))
  have fc:=H0.out.1.lt
  clear cW hN1 dT
  go_wp2_with fail
  obtain ⟨fU,d_,eX⟩:=H0.out
  refine (wU rd (P+1) (.slice (some ⟨w1.heap.size,0,none⟩) 5 5) qZ _ (fU.alloc (.cells (qZ.map str).toArray 9)) (uu.newAt fc qZ 5 rfl _ (w1.heap.size) (by simp)) (by decide) (by decide) (by omega)).mono ?_
  rintro en w2 ⟨s,hs,rfl,bY,cJ⟩
  obtain ⟨c,rfl⟩:=gh hs
  clear hs
  have cP:kR w.heap.size 0 (.slice none 0 0) (.slice none 0 0) w2:=kR.but (by unfold kR;exact zH d_) bY (show ¬ w.heap.size=rd by omega)
  have cj:=(eX.alloc (.cells (qZ.map str).toArray 9)).trans bY
  obtain ⟨r0,r1,r2,r3,rl,rf⟩:=cP.cells
  have dH:=rf 0;have dx:=rf 1;have sT:=rf 2;have sS:=rf 3;clear rf
  have HQ:=g_ (hU cP (hU cj cJ));clear cP cj cJ bY d_ eX fU
  go_wp2_with fail
  obtain ⟨cP,cj,cJ⟩:=HQ.out
  obtain ⟨W,hW,s0,s1,s2,s3,bE,bg,rI⟩:=cP.storeB (str [c]) (.int .i64 0) (.slice none 0 0) (.slice none 0 0)
  rw [<- hW]
  refine bodyPost_ret (v:=.agg #[str [c],.int .i64 0,.slice none 0 0,.slice none 0 0]) (by simp [results,Tryz.results15,go_sem,s0,s1,s2,s3]) rfl ?_
  exact ⟨.leaf c,[c],0,none,0,0,none,0,0,rfl,bE _ _ cj (hG _),(rI _ _ bX cJ).mono (by have:=CST.out;omega),by simp [qb],by simp [lvB],by simp only [zD];exact BND.out,gX c⟩
 have hp0':((p1:Int) == 0)=false:=by rw [beq_eq_false_iff_ne];omega
 obtain ⟨d',hd'⟩:∃ d',d=d'+1:=⟨d-1,by omega⟩
 have hih:=IH.out d' hd'
 subst hd'
 have IHD:=g_ hih;clear hih
 have hcs:cst (d'+1)=5+17*cst d':=rfl
 have hbs:bnd (d'+1)=1+17*bnd d':=rfl
 go_wp2_with fail
 refine (jw rd (P+1) hand.length w1 cW (by omega) (by omega) (by omega)).mono ?_
 rintro en w2 ⟨v,rfl,hv,bY,cJ⟩
 have hN2:=hN1.but bY (show ¬ w.heap.size=rd by omega)
 have nX:=dT.trans bY
 obtain ⟨bl,ol,u,dv,ea,hFl,ni,mo,aA,d6⟩:=HAT.out v hv
 rw [jh,Option.map_eq_some_iff] at mo
 obtain ⟨t,ht,rfl⟩:=mo
 obtain ⟨sa,sk,rfl⟩:=zt d6
 have eN:=d6
 rw [qA] at eN
 obtain ⟨_,_,est,_,_,cG⟩:=zF eN
 simp only [Value.slice.injEq] at est
 obtain ⟨rfl,_,rfl⟩:=est
 subst ea
 have hta:t.args.length<=15:=by
  have h1:=HH.out.1 t (List.mem_of_getElem? ht)
  have h2:=kw t
  have:=kF t.args;omega
 have HT:=g_ ht;have mG:=g_ cG
 have hblr:=HF.out bl hFl
 have z1:=bU.size
 rw [zQ] at z1
 have z2:=bY.size
 have tg:w.heap.size<w2.heap.size:=by omega
 have hrdo:rd<w2.heap.size:=by omega
 have bT:KidsD w rd w2.heap.size (w2.heap.size+1) v (P+2) d' hand t 0 (w2.alloc (.cells #[str [],.int .i64 v,.slice none 0 0,.slice none 0 0] 43)):=by
  refine ⟨[],[],.slice none 0 0,0,⟨rfl,rfl,⟨_,_,rfl⟩,⟨_,_,rfl⟩,nX.alloc _,by unfold kR;exact zH hN2,zO _ _,World.ownsRow_nil _ _ _ _,World.ownsRow_nil _ _ _ _,fun g h=>by simp [Value.ownBlock] at h,fun g h=>by simp [Value.ownBlock] at h,zM.2 rfl,zM.2 rfl,by simp⟩,rfl,by simp [kN,zi],by simp [uV],by simp [zE],?_⟩
  have:=cJ.alloc (.cells #[str [],.int .i64 v,.slice none 0 0,.slice none 0 0] 43)
  simpa using this
 have dY:w2.heap.size≠rd:=by omega
 have ZZ1:=g_ (vx (z-1) (by omega) (by omega))
 have zz2:z-1<=d':=by omega
 have zz3 : -1000<=z-1:=by omega
 have zz4:z<=1000:=by omega
 have zz0:0<z:=by omega
 have h04:0<4:=by omega
 have mw:(v:Int)<(hand.length:Int):=by omega
 clear ht cG eN hN2 nX bY bU hN1 dT s8 mQ cW cJ z1 z2 nV
 go_wp2_with fail
 go_loopw [9] (fun i wr=>∃ k:Nat,k<=t.args.length/\i=.int .i64 k/\KidsD w rd w2.heap.size (w2.heap.size+1) v (P+2) d' hand t k wr) (fun i _=>t.args.length-(intOf i).toNat)
 case atStart=>exact ⟨0,Nat.zero_le _,rfl,bT⟩
 case round =>
  clear bT
  obtain ⟨k,hk,rfl,pk,kv,ks,nk,hN,hpk,hfk,fS,dp,db⟩:=hrel
  have cC:=hN.but
  obtain ⟨ka,kc,eks⟩:=hN.ksl
  subst eks
  have e0:=qn cC hblr aA
  have HN:=g_ hN;have HFK:=g_ hfk;have HLK:=g_ fS;have HPK:=g_ hpk
  obtain ⟨q0,q1,q2,q3,ql,qf⟩:=hN.out.cells
  have mq:=qf 2;clear qf
  have hnk:nk<=15:=by have:=hN.hnk;omega
  have hm1:nk+1<=maxLen:=by unfold maxLen;omega
  have dW:(nk+1)*72<=140737488355328:=by omega
  have hk15:k*cst d'<=15*cst d':=Nat.mul_le_mul_right _ (by omega)
  have hQ:(P+2+k*cst d')+cst d'<=1099511627776:=by omega
  clear hfk fS hN hpk
  by_cases t_:k<t.args.length
  ·obtain ⟨ba,oa,uk,dk,esa,hFa,hba,nr,eU,rA⟩:=mG.out k t_
   subst esa
   rw [jh,Option.map_eq_some_iff] at nr
   obtain ⟨tk,dn,rfl⟩:=nr
   obtain ⟨ua,uc,rfl⟩:=zt rA
   have hbar:=HF.out ba hFa
   have e1:=qn cC hbar eU
   have dg:Rep F wr.drew (j0 tk) (.slice ua tk.args.length uc):=(Rep.but cC (fun b hb=>⟨HF.out b hb,hb⟩) rA).drew
   have dJ:=(Rep.but cC (fun b hb=>⟨HF.out b hb,hb⟩) iR.out).drew
   have nc:qV d' (hand++tk.args):=HH.out.next HT.out (List.mem_of_getElem? dn)
   have fS:Lim (hand.length+tk.args.length):=by have:=nc.2;simp at this;show _<=_;omega
   have HTK:=g_ dn
   have hF5:∀ g,(F g\/wr.drew.heap.size<=g)->g≠rd:=fun g hg=>by
    rcases hg with h | h
    ·exact HF.out g h
    ·have h2:wr.heap.size<=g:=h
     omega
   have C1:=g_ (yr F hand tk _ _ wr.drew dJ dg fS)
   have tu:=db.drew
   have C2:=g_ (fun a5 c5 w5 (h5:Below wr.drew.heap.size wr.drew w5) (dq:Rep (fun k=>F k\/wr.drew.heap.size<=k) w5 (.sl 35 1 (hand++tk.args).length (qT (hand++tk.args))) (.slice a5 (hand++tk.args).length c5)) =>
    IHD.out (z-1) (hand++tk.args) (fun k=>F k\/wr.drew.heap.size<=k) (.slice a5 (hand.length+tk.args.length) c5) w5 (P+2+k*cst d') zz2 zz3 hQ (tu.below h5) nc hF5 (rep_len dq))
   have OWN:=g_ (fun w5 w6 (h5:But (· = rd) wr w5) (h6:But (· = rd) w5 w6)=>own_thru HN.out.ownK (fun g hg=>by have:=(HN.out.blkK g hg).1;omega) h5 h6)
   have NB:=g_ (show ¬ (Value.slice ka nk kc).ownBlock=some w2.heap.size from fun e=>by have:=(HN.out.blkK _ e).1;omega)
   have hlt9':(k:Int)<(t.args.length:Int):=by omega
   clear dn eU rA dg dJ nc fS hF5 db tu
   have zz1:=ZZ1.out
   go_wp2_with fail
   go_region_law (first
    | (refine qC (by rfl) _ _ _ (by rfl) 43 (.agg #[str [],.int .i64 0,.slice none 0 0,.slice none 0 0]) 4 72 Tryz.underlying41 Tryz.infoN rfl h04 (.slice ka nk kc) nk kv (by rfl) (sE.out.alloc _) _ 1 [str s6,.int .i64 v6,.slice a2 n2 k2,.slice a3 n3 k3] (by rfl) (zp.lit4 #[str s6,.int .i64 v6,.slice a2 n2 k2,.slice a3 n3 k3] rfl (by simp [str,Value.oneCell']) _ rfl) hm1 dW ?_;intro a' c' w7 d8 bB b9;have hc7:=out_cell bB NB.out q26;have hf7:=out_free bB NB.out rX qf26)
    | (go_simp;go_at_call 15;refine (C2.out _ _ _ bF dq).mono ?_;rintro mU w6 ⟨b,s6,v6,a2,n2,k2,a3,n3,k3,rfl,bW,dz,nf,ff,dr,co⟩;have q26:=qn bW dY q25;have rX:=bJ sA bW.size;have qf26:=xy bW dY sA qf25;have sE:=g_ (OWN.out _ _ bc bW))
    | (go_simp;go_at_call 36;refine C1.out.mono ?_;rintro tK w5 ⟨a5,c5,rfl,bF,dq⟩;have bc:But (· = rd) wr w5:=but_drew bF;have q25:=qn bc dY q2;have sA:=bJ ql bc.size;have qf25:=xy bc dY ql mq))
   all_goals
    clear zz1
    have hA:=HN.out.kid bX (Nat.lt_succ_self _) tg ((bc.trans bW).alloc _) (reps_past bc.size co) d8 bB b9
    have fu:qQ (w7.setCell ⟨w2.heap.size,2,none⟩ (.slice a' (nk+1) c')) rd (P+2+(k+1)*cst d'):=by
     refine qQ.mono (qQ.but (m:=fun i=>i=w2.heap.size\/(Value.slice ka nk kc).ownBlock=some i) (dz.alloc (.cells #[str s6,.int .i64 v6,.slice a2 n2 k2,.slice a3 n3 k3] 43)) (But.setCell (bB.weak fun i _ h=>.inr h) (.inl (.inl rfl)) _) ?_) (by rw [Nat.succ_mul];omega)
     intro i hi h
     rcases h with h | h
     ·omega
     ·have:=(HN.out.blkK _ h).1;omega
    have aF:kN (zi hand (t.args.take (k+1))) (pk++[b]):=by
     rw [gI HTK.out]
     exact xA _ _ _ _ HFK.out ⟨_,_,rfl,nf,by rw [kN]⟩
    have eF:zE (pk++[b])<=(k+1)*bnd d':=by rw [kf,Nat.succ_mul];simp only [zE];omega
    have sM:Hid (KidsD w rd w2.heap.size (w2.heap.size+1) v (P+2) d' hand t (k+1) (w7.setCell ⟨w2.heap.size,2,none⟩ (.slice a' (nk+1) c'))) :=
     ⟨pk++[b],_,_,_,hA,by simp [HPK.out],aF,ul _ _ HLK.out (lvBs_one ff),eF,fu⟩
    clear hA fu aF eF nf ff dr co d8 bB b9 dz dq
    go_wp2_with fail
    go_roundw
    case rel=>exact ⟨k+1,by omega,by go_num,sM.out⟩
    case measure=>simp [intOf];omega
  ·obtain rfl:k=t.args.length:=by omega
   have hnlt:¬ ((t.args.length:Int)<(t.args.length:Int)):=by omega
   have HFA:Hid (kN (zi hand t.args) pk):=by have:=HFK.out;rwa [List.take_length] at this
   have HSK:=g_ dp
   have nu:YesD w rd w2.heap.size (w2.heap.size+1) v (P+2+t.args.length*cst d') d' hand pk kv (.slice ka nk kc) nk 0 wr :=
    ⟨[],[],.slice none 0 0,0,HN.out,rfl,by simp,by simp [uV],by simp [zE],by simpa using db⟩
   have HHS:Hid (qV d' hand):=by have:=HH.out.same;rw [List.append_nil] at this;exact this
   clear db dp HFK t_ cC
   go_wp2_with fail
   clear HN q0 q1 q2 q3 ql mq e0 hnlt
   go_loopw [10] (fun i wr=>∃ k:Nat,k<=2/\i=.int .i64 k/\YesD w rd w2.heap.size (w2.heap.size+1) v (P+2+t.args.length*cst d') d' hand pk kv (.slice ka nk kc) nk k wr) (fun i _=>2-(intOf i).toNat)
   case atStart=>exact ⟨0,by omega,rfl,nu⟩
   case round =>
    clear nu
    obtain ⟨k,hk,rfl,py,yv,ys,ny,hN,hpy,hfy,sx,hsy,mC⟩:=hrel
    have cC:=hN.but
    obtain ⟨ya,yc,eys⟩:=hN.ysl
    subst eys
    have HN:=g_ hN;have HFY:=g_ hfy;have HLY:=g_ sx;have HPY:=g_ hpy;have HSY:=g_ hsy
    obtain ⟨q0,q1,q2,q3,ql,qf⟩:=hN.out.cells
    have nD:=qf 3;clear qf
    have hny:ny<=2:=by have:=hN.hny;omega
    have hm1:ny+1<=maxLen:=by unfold maxLen;omega
    have dW:(ny+1)*72<=140737488355328:=by omega
    have hk2c:k*(1+cst d')<=2*(1+cst d'):=Nat.mul_le_mul_right _ (by omega)
    have hQ1:P+2+t.args.length*cst d'+k*(1+cst d')<=1099511627776:=by omega
    clear hfy sx hpy hsy
    by_cases hlt10:k<2
    ·have hk1c:k*(1+cst d')<=1*(1+cst d'):=Nat.mul_le_mul_right _ (by omega)
     have hQ2:P+2+t.args.length*cst d'+k*(1+cst d')+1+cst d'<=1099511627776:=by omega
     have hrw:=Rep.but cC (fun b hb=>⟨HF.out b hb,hb⟩) iR.out
     have C1:=g_ (jw rd (P+2+t.args.length*cst d'+k*(1+cst d')) 2 wr.drew mC.drew (by omega) (by omega) hQ1)
     have C2:=g_ (fun w5 (h5:But (· = rd) wr w5) (p5:Nat) (ei:p5<2) (dq:qQ w5 rd (P+2+t.args.length*cst d'+k*(1+cst d')+1)) =>
      IHD.out (z-1-(p5:Int)) hand F (.slice (some ⟨bl,ol,none⟩) hand.length k0) w5 (P+2+t.args.length*cst d'+k*(1+cst d')+1) (sub_le hz) (sub_lo zz0 ei) hQ2 dq HHS.out HF.out (Rep.but h5 (fun b hb=>⟨HF.out b hb,hb⟩) hrw))
     have OWN:=g_ (fun w5 w6 (h5:But (· = rd) wr w5) (h6:But (· = rd) w5 w6)=>own_thru HN.out.ownY (fun g hg=>by have:=HN.out.blkY g hg;omega) h5 h6)
     have NB:=g_ (show ¬ (Value.slice ya ny yc).ownBlock=some w2.heap.size from fun e=>by have:=HN.out.blkY _ e;omega)
     have hlt10':(k:Int)<2:=by omega
     clear hrw mC hN cC q2
     have zz1:=ZZ1.out
     go_wp2_with fail
     go_region_law (first
      | (refine qC (by rfl) _ _ _ (by rfl) 43 (.agg #[str [],.int .i64 0,.slice none 0 0,.slice none 0 0]) 4 72 Tryz.underlying41 Tryz.infoN rfl h04 (.slice ya ny yc) ny yv (by rfl) (sE.out.alloc _) _ 1 [str s6,.int .i64 v6,.slice a2 n2 k2,.slice a3 n3 k3] (by rfl) (zp.lit4 #[str s6,.int .i64 v6,.slice a2 n2 k2,.slice a3 n3 k3] rfl (by simp [str,Value.oneCell']) _ rfl) hm1 dW ?_;intro a' c' w7 d8 bB b9;have hc7:=out_cell bB NB.out q36;have hf7:=out_free bB NB.out rX qf36)
      | (go_simp;go_at_call 15;refine (C2.out _ bc _ ei dq).mono ?_;rintro mU w6 ⟨b,s6,v6,a2,n2,k2,a3,n3,k3,rfl,bW,dz,nf,ff,dr,co⟩;have q36:=qn bW dY q35;have rX:=bJ sA bW.size;have qf36:=xy bW dY sA qf35;have sE:=g_ (OWN.out _ _ bc bW))
      | (go_simp;go_at_call 12;refine C1.out.mono ?_;rintro tK w5 ⟨p5,rfl,ei,bF,dq⟩;have bc:But (· = rd) wr w5:=wG bF;have q35:=qn bc dY q3;have sA:=bJ ql bc.size;have qf35:=xy bc dY ql nD;have zz5:=wrap_sub z p5 zz0 zz4 ei))
     all_goals
      clear zz1 zz5
      have hA:=HN.out.yes bX (Nat.lt_succ_self _) tg ((bc.trans bW).alloc _) (reps_past bc.size co) d8 bB b9
      have fu:qQ (w7.setCell ⟨w2.heap.size,3,none⟩ (.slice a' (ny+1) c')) rd (P+2+t.args.length*cst d'+(k+1)*(1+cst d')):=by
       refine qQ.mono (qQ.but (m:=fun i=>i=w2.heap.size\/(Value.slice ya ny yc).ownBlock=some i) (dz.alloc (.cells #[str s6,.int .i64 v6,.slice a2 n2 k2,.slice a3 n3 k3] 43)) (But.setCell (bB.weak fun i _ h=>.inr h) (.inl (.inl rfl)) _) ?_) (by rw [Nat.succ_mul];omega)
       intro i hi h
       rcases h with h | h
       ·omega
       ·have:=HN.out.blkY _ h;omega
      have aD:∀ x∈py++[b],qb hand x:=by
       intro x hx
       rcases List.mem_append.1 hx with h | h
       ·exact HFY.out x h
       ·simp at h;subst h;exact nf
      have eF:zE (py++[b])<=(k+1)*bnd d':=by have:=HSY.out;rw [kf,Nat.succ_mul];simp only [zE];omega
      have sM:Hid (YesD w rd w2.heap.size (w2.heap.size+1) v (P+2+t.args.length*cst d') d' hand pk kv (.slice ka nk kc) nk (k+1) (w7.setCell ⟨w2.heap.size,3,none⟩ (.slice a' (ny+1) c'))) :=
       ⟨py++[b],_,_,_,hA,by simp [HPY.out],aD,ul _ _ HLY.out (lvBs_one ff),eF,fu⟩
      clear hA fu aD eF nf ff dr co d8 bB b9 dz dq
      go_wp2_with fail
      go_roundw
      case rel=>exact ⟨k+1,by omega,by go_num,sM.out⟩
      case measure=>simp [intOf];omega
    ·obtain rfl:k=2:=by omega
     obtain ⟨r0,r1,r2,r3,rl,rf⟩:=hN.res.cells
     have dH:=rf 0;have dx:=rf 1;have sT:=rf 2;have sS:=rf 3;clear rf
     have tV:=g_ mC
     clear mC hN cC
     go_wp2_with fail
     have hN:=HN.out
     obtain ⟨W,hW,s0,s1,s2,s3,bE,bg,rI⟩:=hN.res.storeB (str []) (.int .i64 v) (.slice ka nk kc) (.slice ya ny yc)
     rw [<- hW]
     refine bodyPost_ret (v:=.agg #[str [],.int .i64 v,.slice ka nk kc,.slice ya ny yc]) (by simp [results,Tryz.results15,go_sem,s0,s1,s2,s3]) rfl ?_
     have hpy:=HPY.out
     obtain ⟨y1,y2,rfl⟩:∃ y1 y2,py=[y1,y2]:=by
      match py,hpy with
      | [a,b],_=>exact ⟨a,b,rfl⟩
     have sx:=HLY.out
     rw [uV,uV] at sx
     have hsy:=HSY.out
     have dp:=HSK.out
     simp only [zE] at hsy
     have hb15:t.args.length*bnd d'<=15*bnd d':=Nat.mul_le_mul_right _ (by omega)
     have ry:=hN.hnk
     have rj:ny=2:=hN.hny
     subst rj
     refine ⟨.ask v pk y1 y2,[],v,ka,nk,kc,ya,2,yc,rfl,bE _ _ hN.but (hG _),(rI _ _ bX tV.out).mono (by omega),?_,?_,?_,?_⟩
     ·rw [qb];exact ⟨t,HT.out,HFA.out,HFY.out y1 (by simp),HFY.out y2 (by simp)⟩
     ·rw [lvB];exact ⟨by omega,HLK.out,sx.1,sx.2.1⟩
     ·simp only [zD];omega
     ·rw [gz]
      refine zJ.2 ⟨_,_,rfl,zj.2 rfl,zJ.2 ⟨_,_,rfl,zj.2 rfl,zJ.2 ⟨_,_,rfl,?_,zJ.2 ⟨_,_,rfl,?_,zM.2 rfl⟩⟩⟩⟩
      ·rw [<- ry]
       refine (hN.ownK.keep fun g o hg ho=>bg g o (by have:=(hN.blkK g hg).1;omega) ho).rep (fun g hg=>by have:=(hN.blkK g hg).1;omega) ?_
       exact (Rep.keep fun x o hx ho=>⟨by have:=hx.1;omega,bg x o (by have:=hx.1;omega) ho⟩).2 _ _ hN.repK
      ·refine (hN.ownY.keep fun g o hg ho=>bg g o (by have:=hN.blkY g hg;omega) ho).rep (fun g hg=>by have:=hN.blkY g hg;omega) ?_
       exact (Rep.keep fun x o hx ho=>⟨by have:=hx.1;omega,bg x o (by have:=hx.1;omega) ho⟩).2 _ _ hN.repY
theorem wu (rd d:Nat) (hd:d<=100):DrawB rd d:=by
 induction d with
 | zero=>exact xB rd 0 hd (fun d' h=>by omega)
 | succ d ih=>exact xB rd (d+1) hd (fun d' h=>by rw [<- Nat.succ.inj h];exact ih (by omega))
def Row8 (w:World) (a:Option Addr) (len cap:Nat) (zs:List Int):Prop :=
 (a=none/\len=0/\cap=0/\zs=[]) \/
 ∃ x,a=some x/\len<=cap/\cap<=maxLen/\zs.length=cap/\(∀ i,i<zs.length->w.cell? (x.add i)=some (.int .u8 (zs.getD i 0)))/\∀ n∈zs,(Lit.int .u8 n).wf=true
theorem Row8.le {w:World} {a:Option Addr} {len cap:Nat} {zs:List Int} (h:Row8 w a len cap zs):len<=cap:=by
 rcases h with ⟨_,rfl,rfl,_⟩ | ⟨x,_,h,_⟩
 ·exact hG _
 ·exact h
theorem Row8.bytes {w:World} {a:Option Addr} {len cap:Nat} {zs:List Int} (h:Row8 w a len cap zs) (n:Nat) (hn:n<=len) :
 n=0\/∃ b o,a=some ⟨b,o,none⟩/\b<w.heap.size/\∀ k,k<n->∃ x:Nat,x<256/\w.cell? ⟨b,o+k,none⟩=some (.int .u8 x):=by
 rcases Nat.eq_zero_or_pos n with h0 | h0
 ·exact .inl h0
 right
 rcases h with ⟨_,rfl,_,_⟩ | ⟨x,rfl,hl,_,hz,hc,hw⟩
 ·omega
 obtain ⟨b,o,sp⟩:=x
 have h1:=hc 0 (by omega)
 have sq:sp=none:=by
  cases sp with
  | none=>rfl
  | some q=>simp [World.cell?,Addr.add] at h1;split at h1 <;> simp_all
 subst sq
 have nJ:∀ i,(⟨b,o,none⟩:Addr).add i=⟨b,o+i,none⟩:=fun i=>by
  unfold Addr.add;split <;> simp_all
 have h2:=h_ w _ h1
 refine ⟨b,o,rfl,by rw [nJ] at h2;exact h2,fun k hk=>?_⟩
 have hkz:k<zs.length:=by omega
 have h3:=hc k hkz
 rw [nJ] at h3
 have hm:zs.getD k 0∈zs:=by
  rw [List.getD_eq_getElem?_getD,List.getElem?_eq_getElem hkz];exact List.getElem_mem hkz
 have tF:=hw _ hm
 clear hm
 generalize zs.getD k 0=z at *
 have hb:0<=z/\z<256:=by
  simp [Lit.wf,IntKind.min,IntKind.max,IntKind.bits,IntKind.signed] at tF
  omega
 refine ⟨z.toNat,by omega,?_⟩
 rw [h3,Int.toNat_of_nonneg hb.1]
theorem l6Open_any (a:Option Addr) (len cap:Nat) (zs:List Int) (w:World) (h:Row8 w a len cap zs) (hl:len<=1048576) :
 Calls Tryz.prog 9 #[.slice a len cap] w fun en w'=>en=.returned (.pointer (some ⟨w.heap.size,0,none⟩))/\Below w.heap.size w w'/\qQ w' w.heap.size 0/\w.heap.size<w'.heap.size:=by
 have cN:=h.le
 have H:=g_ h;clear h
 by_cases h2:2000<len
 ·have h2':(2000:Int)<(len:Int):=by omega
  have h3:(2000:Int)<=(cap:Int):=by omega
  obtain ⟨b,o,ea,hb,hk⟩:=(H.out.bytes 2000 (by omega)).resolve_left (by omega)
  subst ea
  have HK:=g_ hk;clear hk
  go_enter Tryz.func9,Tryz.ntmps9
  go_wp2_with fail
  go_ret
  refine ⟨rfl,(bZ _ _).alloc (hG _) _,?_,by simp⟩
  refine ⟨_,2000,_,0,zO _ _,hG _,hG _,.inr ⟨b,o,rfl,hb,fun k hk=>?_⟩⟩
  obtain ⟨x,hx,hc⟩:=HK.out k hk
  exact ⟨x,hx,zK hc⟩
 ·have h2':¬ (2000:Int)<(len:Int):=by omega
  go_enter Tryz.func9,Tryz.ntmps9
  go_wp2_with fail
  go_ret
  refine ⟨rfl,(bZ _ _).alloc (hG _) _,?_,by simp⟩
  refine ⟨_,len,_,0,zO _ _,hG _,by omega,?_⟩
  rcases H.out.bytes len (hG _) with h0 | ⟨b,o,ea,hb,hk⟩
  ·exact .inl h0
  ·refine .inr ⟨b,o,ea,hb,fun k mr=>?_⟩
   obtain ⟨x,hx,hc⟩:=hk k mr
   exact ⟨x,hx,zK hc⟩
theorem pM {s:Bs} (h:s∈jK):(zU s).2=true/\s.length<=100:=by
 simp only [jK,List.mem_cons,List.not_mem_nil,or_false] at h
 rcases h with rfl | rfl | rfl | rfl | rfl | rfl | rfl | rfl <;> exact ⟨by decide,by decide⟩
theorem wrap_one (p:Nat) (h:p<3):IntKind.i64.wrap (1+(p:Int))=1+p:=vx _ (by omega) (by omega)
theorem sum_le (p:Nat) (h:p<3):(1:Int)+(p:Int)<=((3:Nat):Int):=by omega
theorem sum_lo (p:Nat):(-1000:Int)<=(1:Int)+(p:Int):=by omega
theorem cst3:cst 3=6448:=rfl
def StratD (rd Q:Nat) (s:Bs) (w:World) (en:Ending) (w':World):Prop :=
 ∃ b:Bd,en=.returned (str (kg b))/\But (· = rd) w w'/\qQ w' rd Q/\qb (zU s).1.args b/\lvB b/\zD b<=5220
set_option maxRecDepth 100000 in
theorem pC (rd P:Nat) (s:Bs) (tA:s.length<=100) (hh:qV 3 (zU s).1.args) (w:World) (h:qQ w rd P) (hP:P+6500<=1099511627776) :
 Calls Tryz.prog 34 #[.pointer (some ⟨rd,0,none⟩),str s] w (StratD rd (P+6449) s w):=by
 have bX:=h.lt
 have H:=g_ h;have HH:=g_ hh
 clear h hh
 go_enter Tryz.func34,Tryz.ntmps34
 go_wp2_with fail
 refine (uE s (show _<=_ by omega) w).mono ?_
 rintro en w1 ⟨tv,rfl,bU,eG⟩
 obtain ⟨ta,tc,etv⟩:=zt eG
 subst etv
 have cW:=H.out.below (bU.mono (hG _))
 rw [qA] at eG
 generalize hT:(zU s).1=t at *
 have z1:=bU.size
 have aO:(w1.alloc (.cells #[.slice ta t.args.length tc] 35)).cell? ⟨w1.heap.size,0,none⟩=some (.slice ta t.args.length tc):=by simp
 have hne:w1.heap.size≠rd:=by omega
 have hF:∀ k,w.heap.size<=k->k≠rd:=fun k hk=>by omega
 have mg:Rep (w.heap.size<=·) (w1.alloc (.cells #[.slice ta t.args.length tc] 35)) (.sl 35 1 t.args.length (qT t.args)) (.slice ta t.args.length tc):=(Rep.keep fun b o h ho=>⟨h,zH ho⟩).1 _ _ eG
 have fv:=cW.alloc (.cells #[.slice ta t.args.length tc] 35)
 have C1:=g_ (jw rd P 3 _ fv.drew (by omega) (by omega) (by omega))
 have C2:=g_ (fun w5 (h5:But (· = rd) (w1.alloc (.cells #[.slice ta t.args.length tc] 35)) w5) (p5:Nat) (ei:p5<3) (dq:qQ w5 rd (P+1)) =>
  wu rd 3 (by omega) (1+(p5:Int)) t.args (w.heap.size<=·) (.slice ta t.args.length tc) w5 (P+1) (sum_le p5 ei) (sum_lo p5) (by rw [cst3];omega) dq HH.out hF (Rep.but h5 (fun b hb=>⟨hF b hb,hb⟩) mg))
 have bx:=g_ bU
 have HTT:=g_ hT
 clear hT eG mg fv cW bU hF
 go_wp2_with fail
 go_region_held3 (fun w'=>w'.cell? ⟨w1.heap.size,0,none⟩=some (.slice ta t.args.length tc))
  (first
   | exact aO
   | exact hcL
   | exact sX
   | exact az
   | go_keep)
  (first
   | (go_at_call 14;refine (gE 5220 b dr (by omega) ff _ w6 _ _ _ _ co).mono ?_;rintro en7 w7 ⟨rfl,bB⟩;have hcL:=(bB.cell (h_ w6 ⟨w1.heap.size,0,none⟩ sX)).trans sX)
   | (go_at_call 15;refine (C2.out _ bc _ ei dq).mono ?_;rintro mU w6 ⟨b,s6,v6,a2,n2,k2,a3,n3,k3,rfl,bW,dz,nf,ff,dr,co⟩;have sX:=qn bW hne az)
   | (go_at_call 12;refine C1.out.mono ?_;rintro tK w5 ⟨p5,rfl,ei,bF,dq⟩;have bc:=wG bF;have az:=qn bc hne aO;have zz:=wrap_one p5 ei))
 go_wp2_with fail
 go_ret
 have dS:But (· = rd) w (w1.alloc (.cells #[.slice ta t.args.length tc] 35)):=(But.ofBelow bx.out).alloc _
 refine ⟨b,rfl,((dS.trans bc).trans bW).trans (But.ofBelow bB),(dz.below bB).mono (by rw [cst3];omega),?_,ff,dr⟩
 rw [HTT.out];exact nf
theorem wn {s:Bs} (cK:(zU s).2=true):qV 3 (zU s).1.args:=by
 have:=uR (vQ cK)
 exact ⟨this.1,by have:=this.2;omega⟩
theorem pD (rd P:Nat) (s:Bs) (hs:s∈jK) (w:World) (h:qQ w rd P) (hP:P+6500<=1099511627776) :
 Calls Tryz.prog 34 #[.pointer (some ⟨rd,0,none⟩),str s] w (StratD rd (P+6449) s w) :=
 pC rd P s (pM hs).2 (wn (pM hs).1) w h hP
def Given (rd Q:Nat) (w:World) (en:Ending) (w':World):Prop :=
 ∃ s text:Bs,en=.returned (.tuple #[str s,str text])/\s.length<=100/\text.length<=100000/\But (· = rd) w w'/\qQ w' rd Q
theorem odd_len {s:Bs} (h:s∈jK++ut):s.length<=100:=by
 simp only [jK,ut,List.mem_append,List.mem_cons,List.not_mem_nil,or_false] at h
 rcases h with (rfl | rfl | rfl | rfl | rfl | rfl | rfl | rfl) | (rfl | rfl | rfl | rfl | rfl | rfl | rfl) <;> decide
theorem bad_len {s:Bs} (h:s∈yJ):s.length<=100:=by
 simp only [yJ,List.mem_cons,List.not_mem_nil,or_false] at h
 rcases h with rfl | rfl | rfl | rfl | rfl | rfl | rfl | rfl <;> decide
set_option maxRecDepth 100000 in
theorem l91Given_any (rd P:Nat) (w:World) (h:qQ w rd P) (hP:P+7000<=1099511627776) :
 Calls Tryz.prog 13 #[.pointer (some ⟨rd,0,none⟩)] w (Given rd (P+6500) w):=by
 go_enter Tryz.func13,Tryz.ntmps13
 go_wp2_with fail
 refine (un rd P w h (by omega)).mono ?_
 rintro en w1 ⟨s,hs,rfl,bU,cW⟩
 have HS:=g_ hs;clear hs h
 go_wp2_with fail
 refine (jw rd (P+1) 16 w1 cW (by omega) (by omega) (by omega)).mono ?_
 rintro en w2 ⟨v,rfl,hv,bY,cJ⟩
 have eW:=bU.trans bY
 by_cases nN:v=0
 ·subst nN
  clear cW bU bY
  go_wp2_with fail
  refine (l91Odd_any rd (P+2) w2 cJ (by omega)).mono ?_
  rintro en w3 ⟨s3,cc,rfl,bH,mE⟩
  have HS3:=g_ cc;clear cc cJ
  have hlt3:=mE.lt
  go_wp2_with fail
  refine (wU rd (P+2+2) (.slice (some ⟨w3.heap.size,0,none⟩) 8 8) yJ _ (mE.alloc (.cells (yJ.map str).toArray 9)) (uu.newAt hlt3 yJ 8 rfl _ (w3.heap.size) rfl) (by decide) (by decide) (by omega)).mono ?_
  rintro en w4 ⟨s4,b7,rfl,bC,eR⟩
  have HS4:=g_ b7;clear b7
  go_wp2_with fail
  refine bodyPost_ret (v:=.tuple #[str s3,str s4]) (by simp [results,Tryz.results13,go_sem]) rfl ?_
  exact ⟨s3,s4,rfl,odd_len HS3.out,bV (bad_len HS4.out) (by omega),(eW.trans bH).trans (((But.refl _ w3).alloc _).trans bC),eR.mono (by omega)⟩
 ·have dm:((v:Int) == 0)=false:=by rw [beq_eq_false_iff_ne];omega
  clear cW bU bY
  go_wp2_with fail
  refine (pD rd (P+2) s HS.out w2 cJ (by omega)).mono ?_
  rintro en w3 ⟨b,rfl,bH,mE,hf,cT,bN⟩
  have bP:=qF b cT
  clear hf
  go_wp2_with fail
  refine bodyPost_ret (v:=.tuple #[str s,str (kg b)]) (by simp [results,Tryz.results13,go_sem]) rfl ?_
  exact ⟨s,kg b,rfl,(pM HS.out).2,by omega,eW.trans bH,mE.mono (by omega)⟩
def Drawn (w:World) (en:Ending) (w':World):Prop:=∃ s text:Bs,en=.returned (.tuple #[str s,str text])/\s.length<=100/\text.length<=100000/\Below w.heap.size w w'
theorem xu {rd:Nat} {w w1 w2:World} (h1:Below w.heap.size w w1) (cf:w.heap.size<=rd) (h2:But (· = rd) w1 w2):Below w.heap.size w w2 :=
 h1.trans (h2.toBelow h1.size fun i hi e=>by omega)
theorem wrap_one2 (p:Nat) (h:p<2):IntKind.i64.wrap (1+(p:Int))=1+p:=vx _ (by omega) (by omega)
theorem sum_le2 (p:Nat) (h:p<2):(1:Int)+(p:Int)<=((3:Nat):Int):=by omega
set_option maxRecDepth 100000 in
theorem yK (a0:Option Addr) (len cap:Nat) (zs:List Int) (w:World) (h:Row8 w a0 len cap zs) (hl:len<=1048576) :
 Calls Tryz.prog 4 #[.slice a0 len cap] w (Drawn w):=by
 go_enter Tryz.func4,Tryz.ntmps4
 go_wp2_with fail
 refine (l6Open_any a0 len cap zs w h hl).mono ?_
 rintro en w1 ⟨rfl,bU,cW,b8⟩
 clear h
 obtain ⟨rd,cf⟩:=zzM (w.heap.size)
 rw [<- cf] at cW b8 ⊢
 have iS:=g_ (Nat.le_of_eq cf.symm);clear cf
 have bx:=g_ bU;clear bU
 go_wp2_with fail
 refine (un rd 0 w1 cW (by omega)).mono ?_
 rintro en w2 ⟨s,hs,rfl,bY,cJ⟩
 have cX:=g_ (xu bx.out iS.out bY);clear bY cW b8
 obtain ⟨cK,tA⟩:=pM hs
 have HH:=g_ (wn cK)
 have HSL:=g_ tA
 have C1:=g_ (uE s (show _<=_ by omega) w2)
 have HR2:=g_ cJ
 clear hs cK tA cJ
 go_wp2_with fail
 refine C1.out.mono ?_
 rintro en w3 ⟨tv,rfl,bH,eG⟩
 obtain ⟨ta,tc,etv⟩:=zt eG
 subst etv
 have mE:=HR2.out.below (bH.mono (hG _))
 rw [qA] at eG
 generalize hT:(zU s).1=t at *
 have z3:=bH.size
 have dR:=HR2.out.lt
 obtain ⟨W3,fA⟩:=zzM (w3.alloc (.cells #[.slice ta t.args.length tc] 35))
 have aO:W3.cell? ⟨w3.heap.size,0,none⟩=some (.slice ta t.args.length tc):=by subst fA;simp
 have hne:w3.heap.size≠rd:=by omega
 have hF:∀ k,w2.heap.size<=k->k≠rd:=fun k hk=>by omega
 have mg:Rep (w2.heap.size<=·) W3 (.sl 35 1 t.args.length (qT t.args)) (.slice ta t.args.length tc):=by subst fA;exact (Rep.keep fun b o h ho=>⟨h,zH ho⟩).1 _ _ eG
 have fv:qQ W3 rd 1:=by subst fA;exact mE.alloc _
 have ai:Below w.heap.size w W3:=by subst fA;exact (zzT cX.out bH).alloc (zzT cX.out bH).size _
 have C2:=g_ (jw rd 1 8 W3 fv (by omega) (by omega) (by omega))
 have HW3:=g_ fA
 have dl:=g_ ai
 have HRA:=g_ mg
 clear bH eG mE ai mg fv hT fA
 go_wp2_with fail
 rw [<- HW3.out]
 refine C2.out.mono ?_
 rintro en w4 ⟨v,rfl,hv,bC,eR⟩
 have cH:=g_ (xu dl.out iS.out bC)
 by_cases nN:v=0
 ·subst nN
  clear bC
  go_wp2_with fail
  refine (l91Given_any rd 2 w4 eR (by omega)).mono ?_
  rintro en w5 ⟨s',text,rfl,dD,cO,bF,_⟩
  have dy:=g_ (hU (xu cH.out iS.out bF) (hU dD cO))
  clear bF dD cO eR
  go_wp2_with fail
  refine bodyPost_ret (v:=.tuple #[str s',str text]) (by simp [results,Tryz.results4,go_sem]) rfl ?_
  exact ⟨s',text,rfl,dy.out.2.1,dy.out.2.2,dy.out.1⟩
 have dm:((v:Int) == 0)=false:=by rw [beq_eq_false_iff_ne];omega
 have aI:=qn bC hne aO
 have tx:=Rep.but (F':=fun b=>w2.heap.size<=b/\b≠rd) bC (fun b hb=>⟨hF b hb,hb,hF b hb⟩) HRA.out
 have C3:=g_ (jw rd 2 2 w4.drew eR.drew (by omega) (by omega) (by omega))
 have C4:=g_ (fun w5 (h5:But (· = rd) w4 w5) (p5:Nat) (ei:p5<2) (dq:qQ w5 rd 3) =>
  wu rd 3 (by omega) (1+(p5:Int)) t.args (fun b=>w2.heap.size<=b/\b≠rd) (.slice ta t.args.length tc) w5 3 (sum_le2 p5 ei) (sum_lo p5) (by rw [cst3];omega) dq HH.out (fun k hk=>hk.2) (Rep.but h5 (fun b hb=>⟨hb.2,hb⟩) tx))
 clear bC tx aO
 go_wp2_with fail
 go_region_held3 (fun w'=>w'.cell? ⟨w3.heap.size,0,none⟩=some (.slice ta t.args.length tc))
  (first
   | exact aI
   | exact hcL
   | exact sX
   | exact az
   | go_keep)
  (first
   | (go_at_call 14;refine (gE 5220 b dr (by omega) ff _ w6 _ _ _ _ co).mono ?_;rintro en7 w7 ⟨rfl,bB⟩;have hcL:=(bB.cell (h_ w6 ⟨w3.heap.size,0,none⟩ sX)).trans sX)
   | (go_at_call 15;refine (C4.out _ bc _ ei dq).mono ?_;rintro mU w6 ⟨b,s6,v6,a2,n2,k2,a3,n3,k3,rfl,bW,dz,nf,ff,dr,co⟩;have sX:=qn bW hne az)
   | (go_at_call 12;refine C3.out.mono ?_;rintro tK w5 ⟨p5,rfl,ei,bF,dq⟩;have bc:=wG bF;have az:=qn bc hne aI;have zz:=wrap_one2 p5 ei))
 go_wp2_with fail
 have bX:=qF b ff
 refine bodyPost_ret (v:=.tuple #[str s,str (kg b)]) (by simp [results,Tryz.results4,go_sem]) rfl ?_
 have hbnd:bnd 3=5220:=rfl
 exact ⟨s,kg b,rfl,HSL.out,by omega,(xu cH.out iS.out (bc.trans bW)).trans (bB.mono (xu cH.out iS.out (bc.trans bW)).size)⟩
theorem uo (n lo hi:Int) (w:World):Calls Tryz.prog 97 #[.int .i64 n,.int .i64 lo,.int .i64 hi] w fun en w'=>en=.returned (.bool (decide (lo<=n) && decide (n<=hi)))/\w'=w:=by
 by_cases h1:lo<=n
 ·by_cases h2:n<=hi
  ·go_enter Tryz.func97,Tryz.ntmps97
   go_wp2_with fail
   go_ret
   exact ⟨by simp [h1,h2],rfl⟩
  ·go_enter Tryz.func97,Tryz.ntmps97
   go_wp2_with fail
   go_ret
   exact ⟨by simp [h1,h2],rfl⟩
 ·go_enter Tryz.func97,Tryz.ntmps97
  go_wp2_with fail
  go_ret
  exact ⟨by simp [h1];omega,rfl⟩
set_option maxRecDepth 20000 in
theorem gD (s:Bs) (w:World) (hl:Lim s.length) :
 Calls Tryz.prog 68 #[str s] w fun en w'=>en=.returned (.bool (kh s))/\w'=w:=by
 have ct:=hl.le
 by_cases h0:s.length=0
 ·obtain rfl:s=[]:=List.eq_nil_of_length_eq_zero h0
  clear h0
  go_enter Tryz.func68,Tryz.ntmps68
  go_wp2_with fail
  (with_reducible refine (uo 0 1 3 w).mono ?_)
  rintro en w1 ⟨rfl,e⟩
  subst w1
  have q1:(decide ((1:Int)<=0) && decide ((0:Int)<=3))=false:=by decide
  rw [q1]
  clear q1
  go_wp2_with fail
  go_ret
  exact ⟨rfl,rfl⟩
 have hne:(s == [])=false:=by rw [beq_eq_false_iff_ne];rintro rfl;exact h0 rfl
 have dY:s.isEmpty=false:=by rw [List.isEmpty_eq_false_iff];rintro rfl;exact h0 rfl
 have bO:0<s.length:=by omega
 clear h0
 by_cases h3:3<s.length
 ·have HN:=g_ (name_no1 h3)
  go_enter Tryz.func68,Tryz.ntmps68
  have q1:(decide ((1:Int)<=(s.length:Int)) && decide ((s.length:Int)<=3))=false:=by rw [decide_eq_false (show ¬ (s.length:Int)<=3 by omega),Bool.and_false]
  go_wp2_with fail
  (with_reducible refine (uo (s.length:Int) 1 3 w).mono ?_)
  rintro en w1 ⟨rfl,e⟩
  subst w1
  rw [q1]
  clear q1
  go_wp2_with fail
  go_ret
  exact ⟨by rw [HN.out];rfl,rfl⟩
 have q1:(decide ((1:Int)<=(s.length:Int)) && decide ((s.length:Int)<=3))=true:=by rw [decide_eq_true (show (1:Int)<=(s.length:Int) by omega),decide_eq_true (show (s.length:Int)<=3 by omega)];rfl
 have Q1:=g_ q1;clear q1
 have B:=vX bO
 by_cases hA:s[0].toNat<120
 ·have HN:=g_ (xG bO (.inl hA))
  have b1:((((⟨s.toArray⟩:ByteArray)[0]'(zy bO)).toNat:Int))<120:=by rw [B];omega
  clear B hA
  go_enter Tryz.func68,Tryz.ntmps68
  go_wp2_with fail
  (with_reducible refine (uo (s.length:Int) 1 3 w).mono ?_)
  rintro en w1 ⟨rfl,e⟩
  subst w1
  rw [Q1.out]
  go_wp2_with fail
  go_ret
  exact ⟨by rw [HN.out];rfl,rfl⟩
 by_cases hB:122<s[0].toNat
 ·have HN:=g_ (xG bO (.inr hB))
  have b1:(122:Int)<((((⟨s.toArray⟩:ByteArray)[0]'(zy bO)).toNat:Int)):=by rw [B];omega
  have b2:¬ ((((⟨s.toArray⟩:ByteArray)[0]'(zy bO)).toNat:Int))<120:=by omega
  clear B hA hB
  go_enter Tryz.func68,Tryz.ntmps68
  go_wp2_with fail
  (with_reducible refine (uo (s.length:Int) 1 3 w).mono ?_)
  rintro en w1 ⟨rfl,e⟩
  subst w1
  rw [Q1.out]
  go_wp2_with fail
  go_ret
  exact ⟨by rw [HN.out];rfl,rfl⟩
 have b1:¬ (122:Int)<((((⟨s.toArray⟩:ByteArray)[0]'(zy bO)).toNat:Int)):=by rw [B];omega
 have b2:¬ ((((⟨s.toArray⟩:ByteArray)[0]'(zy bO)).toNat:Int))<120:=by rw [B];omega
 have HA:=g_ (hU hA hB)
 clear B hA hB
 go_enter Tryz.func68,Tryz.ntmps68
 go_wp2_with fail
 (with_reducible refine (uo (s.length:Int) 1 3 w).mono ?_)
 rintro en w1 ⟨rfl,e⟩
 subst w1
 rw [Q1.out]
 go_wp2_with fail
 clear b1 b2
 go_loop [3] (fun i=>∃ k:Nat,1<=k/\k<=s.length/\i=.int .i64 k/\∀ j,1<=j->j<k->∀ (hj:j<s.length),48<=s[j].toNat/\s[j].toNat<=57) (fun i=>s.length-(intOf i).toNat)
 case atStart=>exact ⟨1,hG _,bO,rfl,fun j h1 h2=>by omega⟩
 case round =>
  obtain ⟨k,fH,hk,rfl,ce⟩:=hrel
  have HR:=g_ ce;clear ce
  by_cases bX:k<s.length
  ·have B:=vX bX
   by_cases hA:s[k].toNat<48
   ·have HN:=g_ (xP fH bX (.inl hA))
    have b1:((((⟨s.toArray⟩:ByteArray)[k]'(zy bX)).toNat:Int))<48:=by rw [B];omega
    clear B hA
    go_wp2_with fail
    go_ret
    exact ⟨by rw [HN.out];rfl,rfl⟩
   by_cases hB:57<s[k].toNat
   ·have HN:=g_ (xP fH bX (.inr hB))
    have b1:(57:Int)<((((⟨s.toArray⟩:ByteArray)[k]'(zy bX)).toNat:Int)):=by rw [B];omega
    have b2:¬ ((((⟨s.toArray⟩:ByteArray)[k]'(zy bX)).toNat:Int))<48:=by omega
    clear B hA hB
    go_wp2_with fail
    go_ret
    exact ⟨by rw [HN.out];rfl,rfl⟩
   have b1:¬ (57:Int)<((((⟨s.toArray⟩:ByteArray)[k]'(zy bX)).toNat:Int)):=by rw [B];omega
   have b2:¬ ((((⟨s.toArray⟩:ByteArray)[k]'(zy bX)).toNat:Int))<48:=by rw [B];omega
   have HB:=g_ (hU hA hB)
   clear B hA hB
   go_wp2_with fail
   go_round
   case rel=>exact ⟨k+1,by omega,by omega,by go_num,fun j h1 h2 hj=>by
    by_cases e:j=k
    ·subst e;have:=HB.out;omega
    ·exact HR.out j h1 (by omega) hj⟩
   case measure=>simp [intOf];omega
  ·go_wp2_with fail
   go_ret
   have HA':=HA.out
   exact ⟨by rw [name_yes bO (by omega) (by omega) (fun j h1 hj=>HR.out j h1 (by omega) hj)];rfl,rfl⟩
mutual
def zm:Tr->List DV
 | .am a=>[.val (str a),.sl 57 2 0 []]
 | .ls ps=>[.val (str []),.sl 57 2 ps.length (ze ps)]
def ze:List Tr->List DV
 | []=>[]
 | p::ps=>zm p++ze ps
end
theorem xL (b:Tr):(zm b).length=2:=by cases b <;> simp [zm]
theorem vi (bs:List Tr):(ze bs).length=bs.length*2:=by
 induction bs with
 | nil=>simp [ze]
 | cons b bs ih=>simp [ze,xL,ih];omega
theorem vl (a b:List Tr):ze (a++b)=ze a++ze b:=by
 induction a with
 | nil=>simp [ze]
 | cons t ts ih=>simp [ze,ih,List.append_assoc]
theorem Tryz.infoTr:(Tryz.prog.info? 57).map (fun i=>(i.zero,i.size,i.bytes))=some (some (.agg #[str [],.slice none 0 0]),2,40):=by kernel_rfl
def qc:Tr->List Tr
 | .am _=>[]
 | .ls ps=>ps
theorem jo {F:Nat->Prop} {w:World} {b:Tr} {vs:List Value} (h:zC F w (zm b) vs) :
 ∃ a c,vs=[str (kn b),.slice a (qc b).length c]/\Rep F w (.sl 57 2 (qc b).length (ze (qc b))) (.slice a (qc b).length c):=by
 have key:∀ (s:Bs) (n:Nat) (ds:List DV),zC F w [.val (str s),.sl 57 2 n ds] vs->∃ a c,vs=[str s,.slice a n c]/\Rep F w (.sl 57 2 n ds) (.slice a n c):=by
  intro s n ds h
  obtain ⟨_,_,rfl,h0,h⟩:=zJ.1 h
  obtain ⟨_,_,rfl,h1,h⟩:=zJ.1 h
  rw [zM] at h;subst h
  rw [zj] at h0
  subst h0
  have h1':=h1
  obtain ⟨_,a2,c2,e2',_⟩:=kD.1 h1'
  subst e2'
  exact ⟨a2,c2,rfl,h1⟩
 cases b with
 | am a=>rw [zm] at h;exact key _ _ _ h
 | ls ps=>rw [zm] at h;exact key _ _ _ h
def AtTr (F:Nat->Prop) (w:World) (bs:List Tr) (a:Option Addr) (k:Nat):Prop :=
 ∃ b o s a2 n2 c2 d,a=some ⟨b,o,none⟩/\b<w.heap.size/\bs[k]? = some d/\w.cell? ⟨b,o+k*2,none⟩=some (str s)/\w.cell? ⟨b,o+k*2+1,none⟩=some (.slice a2 n2 c2)/\zC F w (zm d) [str s,.slice a2 n2 c2]/\s=kn d/\n2=(qc d).length
def ux (F:Nat->Prop) (w:World) (bs:List Tr) (a:Option Addr):Prop:=∀ k,k<bs.length->AtTr F w bs a k
theorem ux.of {F:Nat->Prop} {w:World} {bs:List Tr} {v:Value} (h:Rep F w (.sl 57 2 bs.length (ze bs)) v):∃ a c,v=.slice a bs.length c/\ux F w bs a:=by
 obtain ⟨hl,a,c,rfl,hn,hz,h⟩:=kD.1 h
 refine ⟨a,c,rfl,fun k hk=>?_⟩
 rcases h with h | ⟨b,o,cs,fr,rfl,hb,hc,hr⟩
 ·omega
 ·have hs:ze bs=ze (bs.take k)++(zm bs[k]++ze (bs.drop (k+1))):=by
   have e1:zm bs[k]=ze [bs[k]]:=by simp [ze]
   rw [e1,<- vl,<- vl]
   congr 1
   simp
  rw [hs] at hr
  obtain ⟨h1,h2⟩:=hr.split
  obtain ⟨h3,h4⟩:=h2.split
  have fs:(ze (bs.take k)).length=k*2:=by rw [vi];simp;omega
  rw [fs,xL] at h3
  obtain ⟨a2,c2,e,_⟩:=jo h3
  have bL:∀ j u,([str (kn bs[k]),.slice a2 (qc bs[k]).length c2]:List Value)[j]? = some u->w.cell? ⟨b,o+k*2+j,none⟩=some u:=by
   intro j u hu
   rw [<- e] at hu
   have hj:j<2:=by
    have:=(List.getElem?_eq_some_iff.1 hu).1
    simp at this;omega
   rw [List.getElem?_take,if_pos hj,List.getElem?_drop,List.getElem?_take] at hu
   split at hu
   ·rw [List.getElem?_drop] at hu
    simp only [World.cell?,hc]
    rw [Nat.add_assoc]
    simpa using hu
   ·simp at hu
  refine ⟨b,o,_,a2,_,c2,bs[k],rfl,zZ hc,by simp [hk],bL 0 _ rfl,bL 1 _ rfl,?_,rfl,rfl⟩
  rw [<- e];exact h3
theorem xW:∀ (ps:List Tr),zg ps->∀ (k:Nat) (t:Tr),ps[k]? = some t->kH t
 | [],_,k,t,h=>by simp at h
 | p::ps,ho,0,t,h=>by simp at h;subst h;exact (by rw [zg] at ho;exact ho.1)
 | p::ps,ho,k+1,t,h=>by rw [zg] at ho;exact xW ps ho.2 k t (by simpa using h)
def z_:List Tr->Bs
 | []=>[]
 | [p]=>zB p
 | p::q::ps=>zB p++32::z_ (q::ps)
theorem tail_join:∀ ps:List Tr,ps≠[]->zc ps=32::(z_ ps++[41])
 | [],h=>absurd rfl h
 | [p],_=>by rw [zc,zc,z_]
 | p::q::ps,_=>by rw [zc,tail_join (q::ps) (by simp),z_];simp
theorem text_join:∀ ps:List Tr,zB (.ls ps)=[40]++z_ ps++[41]
 | []=>by rw [zB,qG,z_];rfl
 | [p]=>by rw [zB,qG,zc,z_];simp
 | p::q::ps=>by rw [zB,qG,tail_join (q::ps) (by simp),z_];simp
theorem join_snoc:∀ (ps:List Tr) (t:Tr),ps≠[]->z_ (ps++[t])=z_ ps++[32]++zB t
 | [],t,h=>absurd rfl h
 | [p],t,_=>by rw [List.singleton_append,z_,z_,z_];simp
 | p::q::ps,t,_=>by rw [List.cons_append,List.cons_append,z_,<- List.cons_append,join_snoc (q::ps) t (by simp),z_];simp
theorem join_one (t:Tr):z_ [t]=zB t:=by rw [z_]
theorem join_take_len (ps:List Tr) (k:Nat):(z_ (ps.take k)).length<=(z_ ps).length:=by
 induction ps generalizing k with
 | nil=>simp
 | cons p ps ih =>
   cases k with
   | zero=>simp [z_]
   | succ k =>
     cases ps with
     | nil=>simp [z_]
     | cons q ps =>
       have:=ih k
       cases k with
       | zero=>simp [z_]
       | succ k=>simp only [List.take_succ_cons,z_,List.length_append,List.length_cons] at this ⊢;omega
theorem xY:∀ (ps:List Tr) (t:Tr),t∈ps->(zB t).length<=(z_ ps).length
 | [],t,h=>by simp at h
 | [p],t,h=>by simp at h;subst h;rw [z_];exact hG _
 | p::q::ps,t,h=>by
   rw [z_]
   rcases List.mem_cons.1 h with rfl | h
   ·simp
   ·have:=xY (q::ps) t h
    simp only [List.length_append,List.length_cons] at this ⊢;omega
theorem jI (ps:List Tr):(zB (.ls ps)).length=(z_ ps).length+2:=by rw [text_join];simp
theorem text_pos (t:Tr) (h:kH t):1<=(zB t).length:=by
 cases t with
 | am a=>rw [kH] at h;rw [zB];exact List.length_pos_iff.2 h.1
 | ls ps=>rw [jI];omega
mutual
theorem wZ:∀ t:Tr,kH t->zo t<=(zB t).length
 | .am a,h=>by
   rw [kH] at h
   rw [zo,zB]
   exact List.length_pos_iff.2 h.1
 | .ls ps,h=>by
   rw [kH] at h
   rw [zo,jI]
   have:=yw ps h.2
   omega
theorem yw:∀ ps:List Tr,zg ps->zv ps<=(z_ ps).length
 | [],h=>by rw [zv];omega
 | [p],h=>by
   rw [zg] at h
   rw [zv,zv,z_]
   exact wZ p h.1
 | p::q::ps,h=>by
   rw [zg] at h
   have h1:=wZ p h.1
   have h2:=yw (q::ps) h.2
   rw [zv,z_,List.length_append,List.length_cons]
   omega
end
theorem xE:∀ ps:List Tr,zg ps->ps.length<=(z_ ps).length
 | [],_=>by simp
 | [p],h=>by
   rw [zg] at h
   have hp:=text_pos p h.1
   rw [z_];simpa using hp
 | p::q::ps,h=>by
   rw [zg] at h
   have hp:=text_pos p h.1
   have:=xE (q::ps) h.2
   rw [z_];simp only [List.length_cons,List.length_append] at this ⊢;omega
theorem sizeTrs_take {ps:List Tr} {k:Nat} {t:Tr} (h:ps[k]? = some t):zv (ps.take (k+1))=zv (ps.take k)+zo t:=by
 induction ps generalizing k with
 | nil=>simp at h
 | cons p ps ih =>
   cases k with
   | zero=>simp at h;subst h;simp [zv]
   | succ k =>
     simp only [List.getElem?_cons_succ] at h
     have:=ih h
     simp only [List.take_succ_cons,zv] at this ⊢
     omega
theorem pG (ps:List Tr) (k:Nat):zv (ps.take k)<=zv ps:=by
 induction ps generalizing k with
 | nil=>simp
 | cons p ps ih =>
   cases k with
   | zero=>simp [zv]
   | succ k=>have:=ih k;simp only [List.take_succ_cons,zv];omega
theorem am_ne {a:Bs} (h:kH (.am a)):(a == [])=false:=by
 rw [kH] at h
 rw [beq_eq_false_iff_ne];exact h.1
def BoxT (g:Nat) (s:Bs) (k:Value) (w:World):Prop:=w.cell? ⟨g,0,none⟩=some (str s)/\w.cell? ⟨g,1,none⟩=some k
theorem BoxT.below {g:Nat} {s:Bs} {k:Value} {w w':World} (h:BoxT g s k w) (hb:Below w.heap.size w w'):BoxT g s k w':=by
 obtain ⟨h1,h2⟩:=h
 have:=h_ w _ h1
 exact ⟨by rw [hb.cell (by exact this)];exact h1,by rw [hb.cell (by exact this)];exact h2⟩
def uI (b:Tr):Prop:=∀ (F:Nat->Prop) (w:World) (s v:Value),zC F w (zm b) [s,v] ->
 Calls Tryz.prog 52 #[.agg #[s,v]] w fun en w'=>en=.returned (.int .i64 (zo b))/\Below w.heap.size w w'
set_option maxRecDepth 100000 in
theorem wh (b:Tr) (ho:kH b) (hl:Lim (zB b).length) (ih:∀ b',(zB b').length<(zB b).length->kH b'->uI b'):uI b:=by
 intro F w s v hv
 obtain ⟨a2,c2,e,hk⟩:=jo hv
 simp only [List.cons.injEq,and_true] at e
 obtain ⟨rfl,rfl⟩:=e
 cases b with
 | am a =>
   have ha:=am_ne ho
   clear hv hk ih hl
   simp only [kn,qc]
   go_enter Tryz.func52,Tryz.ntmps52
   go_wp2_with fail
   go_ret
   exact ⟨by rw [zo];rfl,(bZ _ _).alloc (hG _) _⟩
 | ls kids =>
   simp only [kn,qc] at hk ⊢
   obtain ⟨_,_,ek,cS⟩:=ux.of hk
   simp only [Value.slice.injEq,true_and] at ek
   obtain ⟨rfl,rfl⟩:=ek
   rw [kH] at ho
   have IH:=g_ ih;clear ih
   have bN:=yw kids ho.2
   have rF:=jI kids
   have hll:=hl.le
   have fs:kids.length<=zv kids+kids.length:=by omega
   have nk:kids.length<=16777216:=by have:=xE kids ho.2;omega
   have E1:=g_ bN
   have HO:=g_ ho
   have HT:=g_ rF
   have ATK:=g_ cS
   clear cS hk hv bN rF fs ho
   go_enter Tryz.func52,Tryz.ntmps52
   go_wp2_with fail
   go_loopw [3,4] (fun n i wr=>∃ k:Nat,k<=kids.length/\i=.int .i64 k/\n=.int .i64 ((zv (kids.take k):Nat):Int)/\Below w.heap.size w wr/\BoxT w.heap.size [] (.slice a2 kids.length c2) wr) (fun _ i _=>kids.length-(intOf i).toNat)
   case atStart=>exact ⟨0,Nat.zero_le _,rfl,by simp [zv],(bZ _ _).alloc (hG _) _,by simp,by simp⟩
   case round =>
    rename_i wr
    obtain ⟨k,hk,rfl,rfl,hb,hc⟩:=hrel
    obtain ⟨c_,da⟩:=id hc
    by_cases bX:k<kids.length
    ·obtain ⟨bb,o,s',b2,m2,d2,t,rfl,hbb,ht,u0,u1,hr,es,en⟩:=ATK.out k bX
     clear es en
     have q0:=(hb.cell hbb).trans u0
     have q1:=(hb.cell hbb).trans u1
     have dJ:=(zC.below (F':=F) hb (fun _ h=>h) hr)
     have hs:=sizeTrs_take ht
     have cN:=pG kids (k+1)
     have cw:=E1.out
     have rO:=xY kids t (List.mem_of_getElem? ht)
     have cO:=HT.out
     have IH':=g_ (IH.out t (by omega) (xW kids HO.out.2 k t ht))
     unfold uI at IH'
     have HS:=g_ hs
     have b1:zv (kids.take k)+zo t<=16777216:=by omega
     have hz:=h_ wr _ c_
     have dc:(k:Int)<(kids.length:Int):=by omega
     clear hs ht cw u0 u1 hr cO rO
     go_wp2_with fail
     (with_reducible refine (IH'.out _ _ _ _ dJ).mono ?_)
     rintro en w2 ⟨rfl,bY⟩
     have bH:=zzT hb bY
     obtain ⟨c_,da⟩:=id (hc.below bY)
     have el:=g_ (hc.below bY)
     go_wp2_with fail
     go_roundw
     case rel=>exact ⟨k+1,by omega,by go_num,by rw [HS.out] <;> go_num,bH,el.out⟩
     case measure=>simp [intOf];omega
    ·obtain rfl:k=kids.length:=by omega
     rw [List.take_length]
     go_wp2_with fail
     go_ret
     exact ⟨by rw [zo];rfl,hb⟩
theorem l5Size_any (n:Nat):∀ b,(zB b).length<=n->Lim n->kH b->uI b:=by
 induction n with
 | zero=>intro b h hn ho;exact wh b ho (hn.mono h) (fun b' h' _=>by omega)
 | succ n ih=>exact fun b h hn ho=>wh b ho (hn.mono h) (fun b' h' eS=>ih b' (by omega) (hn.mono (by omega)) eS)
def headW:Tr->Bs
 | .am _=>[]
 | .ls ps=>kC ps
set_option maxRecDepth 100000 in
theorem l5Head_any (b:Tr) (ho:kH b) (F:Nat->Prop) (w:World) (s v:Value) (hv:zC F w (zm b) [s,v]) :
 Calls Tryz.prog 69 #[.agg #[s,v]] w fun en w'=>en=.returned (str (headW b))/\Below w.heap.size w w':=by
 obtain ⟨a2,c2,e,hk⟩:=jo hv
 simp only [List.cons.injEq,and_true] at e
 obtain ⟨rfl,rfl⟩:=e
 cases b with
 | am a =>
   have ha:=am_ne ho
   clear hv hk
   simp only [kn,qc]
   go_enter Tryz.func69,Tryz.ntmps69
   go_wp2_with fail
   go_ret
   exact ⟨by rw [headW];rfl,(bZ _ _).alloc (hG _) _⟩
 | ls kids =>
   simp only [kn,qc] at hk ⊢
   obtain ⟨_,_,ek,cS⟩:=ux.of hk
   simp only [Value.slice.injEq,true_and] at ek
   obtain ⟨rfl,rfl⟩:=ek
   rw [kH] at ho
   cases kids with
   | nil=>exact absurd rfl ho.1
   | cons p ps =>
     obtain ⟨bb,o,s',b2,m2,d2,t,rfl,hbb,ht,u0,u1,hr,dD,_⟩:=cS 0 (by simp)
     simp only [List.getElem?_cons_zero,Option.some.injEq] at ht
     subst ht
     have HH:=g_ (show headW (.ls (p::ps))=s' by rw [dD,headW];cases p <;> rfl)
     simp only [Nat.zero_mul,Nat.add_zero] at u0
     have hl0:0<(p::ps).length:=by simp
     have aU:(((p::ps).length:Int) == 0)=false:=by rw [beq_eq_false_iff_ne];simp;omega
     generalize (p::ps).length=L at *
     have hl2:(0:Int)<(L:Int):=by omega
     clear cS hk hv ho u1 hr dD
     go_enter Tryz.func69,Tryz.ntmps69
     go_wp2_with fail
     go_ret
     exact ⟨by rw [HH.out];rfl,(bZ _ _).alloc (hG _) _⟩
def j5 (b:Tr):Prop:=∀ (F:Nat->Prop) (w:World) (s v:Value),zC F w (zm b) [s,v] ->
 Calls Tryz.prog 20 #[.agg #[s,v]] w fun en w'=>en=.returned (str (zB b))/\Below w.heap.size w w'
def jg (ps:List Tr) (k:Nat):Bs:=[40]++z_ (ps.take k)
set_option maxRecDepth 100000 in
theorem ww (b:Tr) (ho:kH b) (hl:Lim (zB b).length) (ih:∀ b',(zB b').length<(zB b).length->kH b'->j5 b'):j5 b:=by
 intro F w s v hv
 obtain ⟨a2,c2,e,hk⟩:=jo hv
 simp only [List.cons.injEq,and_true] at e
 obtain ⟨rfl,rfl⟩:=e
 cases b with
 | am a =>
   have ha:=am_ne ho
   clear hv hk ih hl
   simp only [kn,qc]
   go_enter Tryz.func20,Tryz.ntmps20
   go_wp2_with fail
   go_ret
   exact ⟨by rw [zB];rfl,(bZ _ _).alloc (hG _) _⟩
 | ls kids =>
   simp only [kn,qc] at hk ⊢
   obtain ⟨_,_,ek,cS⟩:=ux.of hk
   simp only [Value.slice.injEq,true_and] at ek
   obtain ⟨rfl,rfl⟩:=ek
   rw [kH] at ho
   have IH:=g_ ih;clear ih
   have rF:=jI kids
   have hll:=hl.le
   have nk:kids.length<=16777216:=by have:=xE kids ho.2;omega
   have HO:=g_ ho
   have HT:=g_ rF
   have ATK:=g_ cS
   have HJ:=g_ (text_join kids)
   clear cS hk hv rF ho hl
   go_enter Tryz.func20,Tryz.ntmps20
   go_wp2_with fail
   go_loopw [3,4] (fun n i wr=>∃ k:Nat,k<=kids.length/\i=.int .i64 k/\n=str (jg kids k)/\Below w.heap.size w wr/\BoxT w.heap.size [] (.slice a2 kids.length c2) wr) (fun _ i _=>kids.length-(intOf i).toNat)
   case atStart=>exact ⟨0,Nat.zero_le _,rfl,rfl,(bZ _ _).alloc (hG _) _,by simp,by simp⟩
   case round =>
    rename_i wr
    obtain ⟨k,hk,rfl,rfl,hb,hc⟩:=hrel
    obtain ⟨c_,da⟩:=id hc
    have nh:(jg kids k).length<=(z_ kids).length+1:=by
     have:=join_take_len kids k
     unfold jg;simp;omega
    by_cases bX:k<kids.length
    ·obtain ⟨bb,o,s',b2,m2,d2,t,rfl,hbb,ht,u0,u1,hr,es,en⟩:=ATK.out k bX
     clear es en
     have q0:=(hb.cell hbb).trans u0
     have q1:=(hb.cell hbb).trans u1
     have dJ:=(zC.below (F':=F) hb (fun _ h=>h) hr)
     have rO:=xY kids t (List.mem_of_getElem? ht)
     have cO:=HT.out
     have IH':=g_ (IH.out t (by omega) (xW kids HO.out.2 k t ht))
     have hz:=h_ wr _ c_
     have dc:(k:Int)<(kids.length:Int):=by omega
     have e1:kids.take (k+1)=kids.take k++[t]:=by rw [List.take_add_one,ht];rfl
     by_cases hk0:k=0
     ·have fH:¬ (0:Int)<(k:Int):=by omega
      have bM:jg kids (k+1)=jg kids k++zB t:=by unfold jg;rw [e1,hk0,List.take_zero,List.nil_append,join_one,z_];simp
      obtain ⟨A,hA⟩:=zzM (jg kids k)
      obtain ⟨T,hT⟩:=zzM (zB t)
      unfold j5 at IH'
      rw [<- hA] at bM nh ⊢
      rw [<- hT] at bM rO IH'
      obtain ⟨O,hO⟩:=zzM (A++T)
      have a1:=fun w0=>zN (P:=Tryz.prog) A T (by omega) w0
      rw [<- hO] at a1 bM
      have HS:=g_ bM
      clear hk0 bM hA hT hO e1 ht u0 u1 hr cO rO
      go_wp2_with fail
      (with_reducible refine (IH'.out _ _ _ _ dJ).mono ?_)
      rintro en w2 ⟨rfl,bY⟩
      have bH:=zzT hb bY
      obtain ⟨c_,da⟩:=id (hc.below bY)
      have el:=g_ (hc.below bY)
      go_wp2_with fail
      go_roundw
      case rel=>exact ⟨k+1,by omega,by go_num,by rw [<- HS.out],bH,el.out⟩
      case measure=>simp [intOf];omega
     ·have fH:(0:Int)<(k:Int):=by omega
      have bM:jg kids (k+1)=jg kids k++[32]++zB t:=by unfold jg;rw [e1,join_snoc _ _ (by intro h;have:=congrArg List.length h;rw [List.length_take] at this;simp only [List.length_nil] at this;omega)];simp
      obtain ⟨A,hA⟩:=zzM (jg kids k)
      obtain ⟨T,hT⟩:=zzM (zB t)
      unfold j5 at IH'
      rw [<- hA] at bM nh ⊢
      rw [<- hT] at bM rO IH'
      obtain ⟨A1,hA1⟩:=zzM (A++[32])
      have lA1:A1.length=A.length+1:=by rw [hA1];simp
      obtain ⟨O,hO⟩:=zzM (A1++T)
      have a0:=fun w0=>zN (P:=Tryz.prog) A [32] (by simp;omega) w0
      have a1:=fun w0=>zN (P:=Tryz.prog) A1 T (by omega) w0
      rw [<- hA1] at a0 bM
      rw [<- hO] at a1 bM
      have HS:=g_ bM
      clear bM hA hT hO hA1 lA1 e1 ht u0 u1 hr cO rO
      go_wp2_with fail
      (with_reducible refine (IH'.out _ _ _ _ dJ).mono ?_)
      rintro en w2 ⟨rfl,bY⟩
      have bH:=zzT hb bY
      obtain ⟨c_,da⟩:=id (hc.below bY)
      have el:=g_ (hc.below bY)
      go_wp2_with fail
      go_roundw
      case rel=>exact ⟨k+1,by omega,by go_num,by rw [<- HS.out],bH,el.out⟩
      case measure=>simp [intOf];omega
    ·obtain rfl:k=kids.length:=by omega
     have hj:zB (.ls kids)=jg kids kids.length++[41]:=by rw [HJ.out];unfold jg;rw [List.take_length]
     have ru:¬ ((kids.length:Int)<(kids.length:Int)):=by omega
     obtain ⟨A,hA⟩:=zzM (jg kids kids.length)
     rw [<- hA] at hj nh ⊢
     obtain ⟨O,hO⟩:=zzM (A++[41])
     have cO:=HT.out
     have a1:=fun w0=>zN (P:=Tryz.prog) A [41] (by simp;omega) w0
     rw [<- hO] at a1 hj
     have HS:=g_ hj
     clear hj hA hO cO
     go_wp2_with fail
     go_ret
     exact ⟨by rw [HS.out];rfl,hb⟩
theorem gG (n:Nat):∀ b,(zB b).length<=n->Lim n->kH b->j5 b:=by
 induction n with
 | zero=>intro b h hn ho;exact ww b ho (hn.mono h) (fun b' h' _=>by omega)
 | succ n ih=>exact fun b h hn ho=>ww b ho (hn.mono h) (fun b' h' eS=>ih b' (by omega) (hn.mono (by omega)) eS)
theorem TypeValid_any (l:Bs) (hl:Lim l.length) (w:World):Calls Tryz.prog 70 #[str l] w fun en w'=>en=.returned (.bool (zU l).2)/\Below w.heap.size w w':=by
 have C:=g_ (uE l hl w)
 generalize hB:(zU l).2=B
 have HB:=g_ hB;clear hB
 go_enter Tryz.func70,Tryz.ntmps70
 go_wp2_with fail
 (with_reducible refine C.out.mono ?_)
 rintro en w1 ⟨v,rfl,hb,hv⟩
 obtain ⟨a1,c1,e1⟩:=zt hv
 subst e1
 clear hv
 rw [HB.out]
 generalize (zU l).1.args.length=n1
 go_wp2_with fail
 refine bodyPost_ret (v:=.bool B) (by simp [results,Tryz.results70,go_sem]) rfl ?_
 exact ⟨rfl,by repeat (first | exact hb | refine Below.alloc ?_ hb.size _ | refine Below.setCell ?_ (by simp;exact hb.size) _)⟩
theorem ux.some {F:Nat->Prop} {w:World} {bs:List Tr} {a:Option Addr} (h:ux F w bs a) (hp:0<bs.length):∃ bb o,a=.some ⟨bb,o,none⟩/\bb<w.heap.size:=by
 obtain ⟨b,o,_,_,_,_,_,e,hb,_⟩:=h 0 hp
 exact ⟨b,o,e,hb⟩
theorem ux.get {F:Nat->Prop} {w:World} {bs:List Tr} {bb o:Nat} (h:ux F w bs (.some ⟨bb,o,none⟩)) {k:Nat} {t:Tr} (ht:bs[k]? = .some t) :
 ∃ a2 c2,w.cell? ⟨bb,o+k*2,none⟩=.some (str (kn t))/\w.cell? ⟨bb,o+k*2+1,none⟩=.some (.slice a2 (qc t).length c2)/\zC F w (zm t) [str (kn t),.slice a2 (qc t).length c2]:=by
 obtain ⟨b,o',s,a2,n2,c2,d,e,hb,hd,u0,u1,hr,es,en⟩:=h k (List.getElem?_eq_some_iff.1 ht).1
 simp only [Option.some.injEq,Addr.mk.injEq,and_true] at e
 obtain ⟨rfl,rfl⟩:=e
 rw [ht] at hd
 obtain rfl:=Option.some.inj hd
 subst es;subst en
 exact ⟨a2,c2,u0,u1,hr⟩
theorem isTr_no3 {ps:List Tr} (h:kC ps=qo) (hl:ps.length≠3):kW (.ls ps)=false:=by
 match ps with
 | []=>exact (kW.eq_def _).trans rfl
 | [a]=>exact (kW.eq_def _).trans rfl
 | [a,b]=>exact (kW.eq_def _).trans rfl
 | [a,b,c]=>simp at hl
 | [a,b,c,d] =>
   have h':kC [a]=qo:=by cases a <;> exact h
   rw [kW,h'];rfl
 | a::b::c::d::e::ps=>exact (kW.eq_def _).trans rfl
theorem isTr_no4 {ps:List Tr} (h:kC ps=qH\/kC ps=ifW) (hl:ps.length≠4):kW (.ls ps)=false:=by
 match ps with
 | []=>exact (kW.eq_def _).trans rfl
 | [a]=>exact (kW.eq_def _).trans rfl
 | [a,b]=>exact (kW.eq_def _).trans rfl
 | [a,b,c] =>
   have h':kC [a]=qH\/kC [a]=ifW:=by cases a <;> exact h
   rw [kW]
   rcases h' with h' | h' <;> (rw [h'];rfl)
 | [a,b,c,d]=>simp at hl
 | a::b::c::d::e::ps=>exact (kW.eq_def _).trans rfl
theorem isTr_noW {ps:List Tr} (h1:kC ps≠qH) (h2:kC ps≠qo) (h3:kC ps≠ifW):kW (.ls ps)=false:=by
 match ps with
 | []=>exact (kW.eq_def _).trans rfl
 | [a]=>exact (kW.eq_def _).trans rfl
 | [a,b]=>exact (kW.eq_def _).trans rfl
 | [a,b,c] =>
   have h':kC [a]≠qo:=by cases a <;> exact h2
   rw [kW,beq_false_of_ne h'];rfl
 | [a,b,c,d] =>
   have h':kC [a]≠qH:=by cases a <;> exact h1
   have h'':kC [a]≠ifW:=by cases a <;> exact h3
   rw [kW,beq_false_of_ne h',beq_false_of_ne h''];rfl
 | a::b::c::d::e::ps=>exact (kW.eq_def _).trans rfl
theorem isTr_lam {a b c d:Tr} (h:kC [a,b,c,d]=qH):kW (.ls [a,b,c,d])=(kh (kn b) && (zU (zB c)).2 && kW d):=by
 have h':kC [a]=qH:=by cases a <;> exact h
 rw [kW,h']
 have e1:(qH == qH)=true:=by decide
 have e2:(qH == ifW)=false:=by decide
 rw [e1,e2,Bool.true_and,Bool.false_and,Bool.or_false,Bool.and_assoc]
theorem isTr_if {a b c d:Tr} (h:kC [a,b,c,d]=ifW):kW (.ls [a,b,c,d])=(kW b && kW c && kW d):=by
 have h':kC [a]=ifW:=by cases a <;> exact h
 rw [kW,h']
 have e1:(ifW == qH)=false:=by decide
 have e2:(ifW == ifW)=true:=by decide
 rw [e1,e2,Bool.true_and,Bool.false_and,Bool.false_or]
theorem isTr_app {a b c:Tr} (h:kC [a,b,c]=qo):kW (.ls [a,b,c])=(kW b && kW c):=by
 have h':kC [a]=qo:=by cases a <;> exact h
 rw [kW,h']
 have e2:(qo == qo)=true:=by decide
 rw [e2,Bool.true_and]
def xf (b:Tr):Prop:=∀ (F:Nat->Prop) (w:World) (s v:Value),zC F w (zm b) [s,v] ->
 Calls Tryz.prog 51 #[.agg #[s,v]] w fun en w'=>en=.returned (.bool (kW b))/\Below w.heap.size w w'
structure PartAt (F:Nat->Prop) (w:World) (bb o k:Nat) (t:Tr) (a2:Option Addr) (c2:Nat):Prop where
 blk:bb<w.heap.size
 c0:w.cell? ⟨bb,o+k,none⟩=.some (str (kn t))
 c1:w.cell? ⟨bb,o+(k+1),none⟩=.some (.slice a2 (qc t).length c2)
 rp:zC F w (zm t) [str (kn t),.slice a2 (qc t).length c2]
theorem PartAt.below {F:Nat->Prop} {w w':World} {bb o k:Nat} {t:Tr} {a2:Option Addr} {c2:Nat} (h:PartAt F w bb o k t a2 c2) (hb:Below w.heap.size w w'):PartAt F w' bb o k t a2 c2 :=
 ⟨bJ h.blk hb.size,(hb.cell (by exact h.blk)).trans h.c0,(hb.cell (by exact h.blk)).trans h.c1,zC.below hb (fun _ h=>h) h.rp⟩
theorem ux.part {F:Nat->Prop} {w:World} {bs:List Tr} {bb o:Nat} (h:ux F w bs (.some ⟨bb,o,none⟩)) (hb:bb<w.heap.size) {k:Nat} {t:Tr} (ht:bs[k]? = .some t):∃ a2 c2,PartAt F w bb o (k*2) t a2 c2:=by
 obtain ⟨a2,c2,u0,u1,hr⟩:=h.get ht
 exact ⟨a2,c2,hb,u0,u1,hr⟩
set_option maxRecDepth 100000 in
theorem l5Is_step (b:Tr) (ho:kH b) (hl:Lim (zB b).length) (ih:∀ b',(zB b').length<(zB b).length->kH b'->xf b'):xf b:=by
 intro F w s v hv
 have hvv:=g_ hv
 have CH:=g_ (fun wz (hb:Below w.heap.size w wz)=>l5Head_any b ho F wz s v (zC.below hb (fun _ h=>h) hvv.out))
 obtain ⟨a2,c2,e,hk⟩:=jo hv
 simp only [List.cons.injEq,and_true] at e
 obtain ⟨rfl,rfl⟩:=e
 cases b with
 | am a =>
   have ha:=am_ne ho
   have hla:Lim a.length:=hl.mono (by rw [zB];exact hG _)
   have CN:=g_ (fun wz=>gD a wz hla)
   have HI:=g_ (show kW (.am a)=(jp a || kh a) by rw [kW])
   clear hv hk ih hl hla CH hvv ho
   simp only [kn,qc]
   by_cases h1:a=[116]
   ·subst h1
    go_enter Tryz.func51,Tryz.ntmps51
    go_wp2_with fail
    go_ret
    exact ⟨by rw [HI.out];rfl,(bZ _ _).alloc (hG _) _⟩
   by_cases h2:a=[102]
   ·subst h2
    go_enter Tryz.func51,Tryz.ntmps51
    go_wp2_with fail
    go_ret
    exact ⟨by rw [HI.out];rfl,(bZ _ _).alloc (hG _) _⟩
   by_cases h3:a=[117]
   ·subst h3
    go_enter Tryz.func51,Tryz.ntmps51
    go_wp2_with fail
    go_ret
    exact ⟨by rw [HI.out];rfl,(bZ _ _).alloc (hG _) _⟩
   have n1:(a == [116])=false:=by rw [beq_eq_false_iff_ne];exact h1
   have n2:(a == [102])=false:=by rw [beq_eq_false_iff_ne];exact h2
   have n3:(a == [117])=false:=by rw [beq_eq_false_iff_ne];exact h3
   have HL:=g_ (show jp a=false by simp [jp,n1,n2,n3])
   clear h1 h2 h3
   go_enter Tryz.func51,Tryz.ntmps51
   go_wp2_with fail
   (with_reducible refine (CN.out _).mono ?_)
   rintro en w1 ⟨rfl,e⟩
   subst w1
   go_wp2_with fail
   go_ret
   exact ⟨by rw [HI.out,HL.out];rfl,(bZ _ _).alloc (hG _) _⟩
 | ls kids =>
   simp only [kn,qc] at hk CH hvv ⊢
   obtain ⟨_,_,ek,cS⟩:=ux.of hk
   simp only [Value.slice.injEq,true_and] at ek
   obtain ⟨rfl,rfl⟩:=ek
   rw [kH] at ho
   have IH:=g_ ih;clear ih
   have sj:0<kids.length:=List.length_pos_iff.2 ho.1
   obtain ⟨bb,o,rfl,hbb⟩:=cS.some sj
   have HO:=g_ ho
   have HT:=g_ (hU (jI kids) hl)
   have ATK:=g_ cS
   have fs:kids.length<=16777216:=by have:=xE kids ho.2;have:=jI kids;have:=hl.le;omega
   have sub:∀ (t:Tr),t∈kids->kH t/\Lim (zB t).length/\xf t:=fun t ht=>by
    obtain ⟨k,hk⟩:=List.getElem?_of_mem ht
    have h1:=xW kids HO.out.2 k t hk
    have h2:=xY kids t ht
    have h3:=HT.out.1
    have h4:=HT.out.2.le
    exact ⟨h1,(show _<=_ by omega),IH.out t (by omega) h1⟩
   have SUB:=g_ sub
   have dj:BoxT w.heap.size [] (.slice (.some ⟨bb,o,none⟩) kids.length c2) (w.alloc (.cells #[str [],.slice (.some ⟨bb,o,none⟩) kids.length c2] 57)):=⟨by simp,by simp⟩
   have HBX:=g_ dj
   have HB0:Hid (Below w.heap.size w (w.alloc (.cells #[str [],.slice (.some ⟨bb,o,none⟩) kids.length c2] 57))):=(bZ _ _).alloc (hG _) _
   clear cS hk hv hvv ho hl sub dj
   go_enter Tryz.func51,Tryz.ntmps51
   go_wp2_with fail
   (with_reducible refine (CH.out _ HB0.out).mono ?_)
   rintro en w1 ⟨rfl,bU⟩
   have iQ:Below w.heap.size w w1:=zzT HB0.out bU
   have tJ:=g_ (HBX.out.below bU)
   have bx:=g_ iQ
   clear bU iQ HBX HB0 CH
   obtain ⟨hd,nd⟩:=zzM (headW (.ls kids))
   rw [<- nd]
   have HD:Hid (kC kids=hd):=nd.symm
   clear nd
   have nl:(4:Int)=(kids.length:Int)\/¬ (4:Int)=(kids.length:Int):=by omega
   by_cases cR:hd=qH
   ·have q0:(hd == [108,97,109])=true:=by rw [beq_iff_eq];exact cR
    have HL:=g_ cR;clear cR
    obtain ⟨x0,x1⟩:=tJ.out
    by_cases h4:kids.length=4
    ·obtain ⟨p0,p1,p2,p3,rfl⟩:∃ a b c d,kids=[a,b,c,d]:=by
      match kids,h4 with
      | [a,b,c,d],_=>exact ⟨a,b,c,d,rfl⟩
     obtain ⟨a1,k1,P1⟩:=(ATK.out.part hbb (k:=1) (t:=p1) rfl).imp fun _ h=>h
     obtain ⟨a3,k3,P2⟩:=(ATK.out.part hbb (k:=2) (t:=p2) rfl).imp fun _ h=>h
     obtain ⟨a5,k5,P3⟩:=(ATK.out.part hbb (k:=3) (t:=p3) rfl).imp fun _ h=>h
     have HI:=g_ (isTr_lam (a:=p0) (b:=p1) (c:=p2) (d:=p3) (by rw [HD.out,HL.out]))
     have S1:=g_ (SUB.out p1 (by simp));have S2:=g_ (SUB.out p2 (by simp));have S3:=g_ (SUB.out p3 (by simp))
     have PP:=g_ (hU P1 (hU P2 P3))
     have lat:Lim (kn p1).length:=by
      cases p1 with
      | am a=>have:=S1.out.2.1;rw [zB] at this;exact this
      | ls ps=>exact Nat.zero_le _
     have CN:=g_ (fun wz=>gD (kn p1) wz lat)
     obtain ⟨y0,y1⟩:=hU (P1.below bx.out).c0 (P1.below bx.out).c1
     have cA:=(P1.below bx.out).blk
     have dX:(([p0,p1,p2,p3]:List Tr).length:Nat)=4:=rfl
     rw [dX] at x1 ⊢
     simp only [Nat.one_mul,Nat.reduceMul,Nat.reduceAdd] at y0 y1
     clear P1 P2 P3 h4 dX lat fs sj nl
     go_wp2_with fail
     (with_reducible refine (CN.out _).mono ?_)
     rintro en w2 ⟨rfl,e⟩
     subst w2
     cases hn:kh (kn p1) with
     | false =>
       have HN:=g_ hn;clear hn
       go_wp2_with fail
       go_ret
       exact ⟨by rw [HI.out,HN.out];rfl,bx.out⟩
     | true =>
       have HN:=g_ hn;clear hn
       have P2:=PP.out.2.1.below bx.out
       have CT:=g_ (gG _ p2 (hG _) S2.out.2.1 S2.out.1 F w1 _ _ P2.rp)
       obtain ⟨y2,y3⟩:=hU P2.c0 P2.c1
       simp only [Nat.one_mul,Nat.reduceMul,Nat.reduceAdd] at y2 y3
       clear P2 y0 y1
       go_wp2_with fail
       (with_reducible refine CT.out.mono ?_)
       rintro en w2 ⟨rfl,bY⟩
       have cX:=g_ (zzT bx.out bY)
       have tQ:=g_ (tJ.out.below bY)
       have CV:=g_ (TypeValid_any (zB p2) S2.out.2.1 w2)
       clear bY x0 x1 y2 y3 cA
       go_wp2_with fail
       (with_reducible refine CV.out.mono ?_)
       rintro en w3 ⟨rfl,bH⟩
       have dl:=g_ (zzT cX.out bH)
       have HX3:=g_ (tQ.out.below bH)
       clear bH
       cases hv:(zU (zB p2)).2 with
       | false =>
         have HV:=g_ hv;clear hv
         go_wp2_with fail
         go_ret
         exact ⟨by rw [HI.out,HN.out,HV.out];rfl,dl.out⟩
       | true =>
         have HV:=g_ hv;clear hv
         have P3:=PP.out.2.2.below dl.out
         have CI:=g_ (S3.out.2.2 F w3 _ _ P3.rp)
         obtain ⟨x0,x1⟩:=HX3.out
         obtain ⟨y2,y3⟩:=hU P3.c0 P3.c1
         have cA:=P3.blk
         have dX:(([p0,p1,p2,p3]:List Tr).length:Nat)=4:=rfl
         rw [dX] at x1
         simp only [Nat.one_mul,Nat.reduceMul,Nat.reduceAdd] at y2 y3
         clear P3 dX
         go_wp2_with fail
         (with_reducible refine CI.out.mono ?_)
         rintro en w4 ⟨rfl,bC⟩
         go_wp2_with fail
         go_ret
         exact ⟨by rw [HI.out,HN.out,HV.out];rfl,zzT dl.out bC⟩
    ·have hne:((kids.length:Int) == 4)=false:=by rw [beq_eq_false_iff_ne];omega
     have HI:=g_ (isTr_no4 (.inl (by rw [HD.out,HL.out])) h4)
     clear h4
     go_wp2_with fail
     go_ret
     exact ⟨by rw [HI.out];rfl,bx.out⟩
   have q0:(hd == [108,97,109])=false:=by rw [beq_eq_false_iff_ne];exact cR
   by_cases eh:hd=qo
   ·have q1:(hd == [97,112,112])=true:=by rw [beq_iff_eq];exact eh
    have HL:=g_ eh;clear eh cR
    obtain ⟨x0,x1⟩:=tJ.out
    by_cases h4:kids.length=3
    ·obtain ⟨p0,p1,p2,rfl⟩:∃ a b c,kids=[a,b,c]:=by
      match kids,h4 with
      | [a,b,c],_=>exact ⟨a,b,c,rfl⟩
     obtain ⟨a1,k1,P1⟩:=(ATK.out.part hbb (k:=1) (t:=p1) rfl).imp fun _ h=>h
     obtain ⟨a3,k3,P2⟩:=(ATK.out.part hbb (k:=2) (t:=p2) rfl).imp fun _ h=>h
     have HI:=g_ (isTr_app (a:=p0) (b:=p1) (c:=p2) (by rw [HD.out,HL.out]))
     have S1:=g_ (SUB.out p1 (by simp));have S2:=g_ (SUB.out p2 (by simp))
     have PP:=g_ (hU P1 P2)
     have CI1:=g_ (S1.out.2.2 F w1 _ _ (P1.below bx.out).rp)
     obtain ⟨y0,y1⟩:=hU (P1.below bx.out).c0 (P1.below bx.out).c1
     have cA:=(P1.below bx.out).blk
     have dX:(([p0,p1,p2]:List Tr).length:Nat)=3:=rfl
     rw [dX] at x1 ⊢
     simp only [Nat.one_mul,Nat.reduceMul,Nat.reduceAdd] at y0 y1
     clear P1 P2 h4 dX fs sj nl
     go_wp2_with fail
     (with_reducible refine CI1.out.mono ?_)
     rintro en w2 ⟨rfl,bY⟩
     have cX:=g_ (zzT bx.out bY)
     have tQ:=g_ (tJ.out.below bY)
     clear bY x0 x1 y0 y1 cA
     cases hn:kW p1 with
     | false =>
       have HN:=g_ hn;clear hn
       go_wp2_with fail
       go_ret
       exact ⟨by rw [HI.out,HN.out];rfl,cX.out⟩
     | true =>
       have HN:=g_ hn;clear hn
       have P2:=PP.out.2.below cX.out
       have CI2:=g_ (S2.out.2.2 F w2 _ _ P2.rp)
       obtain ⟨x0,x1⟩:=tQ.out
       obtain ⟨y2,y3⟩:=hU P2.c0 P2.c1
       have cA:=P2.blk
       have dX:(([p0,p1,p2]:List Tr).length:Nat)=3:=rfl
       rw [dX] at x1
       simp only [Nat.one_mul,Nat.reduceMul,Nat.reduceAdd] at y2 y3
       clear P2 dX
       go_wp2_with fail
       (with_reducible refine CI2.out.mono ?_)
       rintro en w4 ⟨rfl,bC⟩
       go_wp2_with fail
       go_ret
       exact ⟨by rw [HI.out,HN.out];rfl,zzT cX.out bC⟩
    ·have hne:((kids.length:Int) == 3)=false:=by rw [beq_eq_false_iff_ne];omega
     have HI:=g_ (isTr_no3 (by rw [HD.out,HL.out]) h4)
     clear h4
     go_wp2_with fail
     go_ret
     exact ⟨by rw [HI.out];rfl,bx.out⟩
   have q1:(hd == [97,112,112])=false:=by rw [beq_eq_false_iff_ne];exact eh
   by_cases sg:hd=ifW
   ·have q2:(hd == [105,102])=true:=by rw [beq_iff_eq];exact sg
    have HL:=g_ sg;clear sg eh cR
    obtain ⟨x0,x1⟩:=tJ.out
    by_cases h4:kids.length=4
    ·obtain ⟨p0,p1,p2,p3,rfl⟩:∃ a b c d,kids=[a,b,c,d]:=by
      match kids,h4 with
      | [a,b,c,d],_=>exact ⟨a,b,c,d,rfl⟩
     obtain ⟨a1,k1,P1⟩:=(ATK.out.part hbb (k:=1) (t:=p1) rfl).imp fun _ h=>h
     obtain ⟨a3,k3,P2⟩:=(ATK.out.part hbb (k:=2) (t:=p2) rfl).imp fun _ h=>h
     obtain ⟨a5,k5,P3⟩:=(ATK.out.part hbb (k:=3) (t:=p3) rfl).imp fun _ h=>h
     have HI:=g_ (isTr_if (a:=p0) (b:=p1) (c:=p2) (d:=p3) (by rw [HD.out,HL.out]))
     have S1:=g_ (SUB.out p1 (by simp));have S2:=g_ (SUB.out p2 (by simp));have S3:=g_ (SUB.out p3 (by simp))
     have PP:=g_ (hU P1 (hU P2 P3))
     have CI1:=g_ (S1.out.2.2 F w1 _ _ (P1.below bx.out).rp)
     obtain ⟨y0,y1⟩:=hU (P1.below bx.out).c0 (P1.below bx.out).c1
     have cA:=(P1.below bx.out).blk
     have dX:(([p0,p1,p2,p3]:List Tr).length:Nat)=4:=rfl
     rw [dX] at x1 ⊢
     simp only [Nat.one_mul,Nat.reduceMul,Nat.reduceAdd] at y0 y1
     clear P1 P2 P3 h4 dX fs sj nl
     go_wp2_with fail
     (with_reducible refine CI1.out.mono ?_)
     rintro en w2 ⟨rfl,bY⟩
     have cX:=g_ (zzT bx.out bY)
     have tQ:=g_ (tJ.out.below bY)
     clear bY x0 x1 y0 y1 cA
     cases hn:kW p1 with
     | false =>
       have HN:=g_ hn;clear hn
       go_wp2_with fail
       go_ret
       exact ⟨by rw [HI.out,HN.out];rfl,cX.out⟩
     | true =>
       have HN:=g_ hn;clear hn
       have P2:=PP.out.2.1.below cX.out
       have CI2:=g_ (S2.out.2.2 F w2 _ _ P2.rp)
       obtain ⟨x0,x1⟩:=tQ.out
       obtain ⟨y2,y3⟩:=hU P2.c0 P2.c1
       have cA:=P2.blk
       have dX:(([p0,p1,p2,p3]:List Tr).length:Nat)=4:=rfl
       rw [dX] at x1
       simp only [Nat.one_mul,Nat.reduceMul,Nat.reduceAdd] at y2 y3
       clear P2 dX
       go_wp2_with fail
       (with_reducible refine CI2.out.mono ?_)
       rintro en w4 ⟨rfl,bC⟩
       have cH:=g_ (zzT cX.out bC)
       have HX4:=g_ (tQ.out.below bC)
       clear bC x0 x1 y2 y3 cA
       cases cr:kW p2 with
       | false =>
         have rU:=g_ cr;clear cr
         go_wp2_with fail
         go_ret
         exact ⟨by rw [HI.out,HN.out,rU.out];rfl,cH.out⟩
       | true =>
         have rU:=g_ cr;clear cr
         have P3:=PP.out.2.2.below cH.out
         have CI3:=g_ (S3.out.2.2 F w4 _ _ P3.rp)
         obtain ⟨x0,x1⟩:=HX4.out
         obtain ⟨y2,y3⟩:=hU P3.c0 P3.c1
         have cA:=P3.blk
         have dX:(([p0,p1,p2,p3]:List Tr).length:Nat)=4:=rfl
         rw [dX] at x1
         simp only [Nat.one_mul,Nat.reduceMul,Nat.reduceAdd] at y2 y3
         clear P3 dX
         go_wp2_with fail
         (with_reducible refine CI3.out.mono ?_)
         rintro en w5 ⟨rfl,bF⟩
         go_wp2_with fail
         go_ret
         exact ⟨by rw [HI.out,HN.out,rU.out];rfl,zzT cH.out bF⟩
    ·have hne:((kids.length:Int) == 4)=false:=by rw [beq_eq_false_iff_ne];omega
     have HI:=g_ (isTr_no4 (.inr (by rw [HD.out,HL.out])) h4)
     clear h4
     go_wp2_with fail
     go_ret
     exact ⟨by rw [HI.out];rfl,bx.out⟩
   have q2:(hd == [105,102])=false:=by rw [beq_eq_false_iff_ne];exact sg
   have HI:=g_ (isTr_noW (by rw [HD.out];exact cR) (by rw [HD.out];exact eh) (by rw [HD.out];exact sg))
   clear cR eh sg
   go_wp2_with fail
   go_ret
   exact ⟨by rw [HI.out];rfl,bx.out⟩
theorem l5Is_any (n:Nat):∀ b,(zB b).length<=n->Lim n->kH b->xf b:=by
 induction n with
 | zero=>intro b h hn ho;exact l5Is_step b ho (hn.mono h) (fun b' h' _=>by omega)
 | succ n ih=>exact fun b h hn ho=>l5Is_step b ho (hn.mono h) (fun b' h' eS=>ih b' (by omega) (hn.mono (by omega)) eS)
def xU (e:Nat) (m:Bs):Option (List Tr×Bs):=vJ (qO e) (m.length+1) m
theorem rdAll_eq (e:Nat) (m:Bs):xU e m=(qO e m).bind fun x=>match x.2 with
 | []=>none
 | c::r=>if c=41 then some ([x.1],r) else if c=32 then (xU e r).map fun y=>(x.1::y.1,y.2) else none:=by
 unfold xU
 rw [vJ]
 cases h:qO e m with
 | none=>rfl
 | some x =>
   obtain ⟨t,r1⟩:=x
   simp only [Option.bind_some]
   cases r1 with
   | nil=>rfl
   | cons c r =>
     have hl:=jy e _ _ _ h
     simp only [List.length_cons] at hl
     simp only
     rw [pi (jy e) m.length (r.length+1) r (by omega) (by omega)]
theorem rdTr_all (e:Nat) (r:Bs):qO (e+1) (40::r)=(xU e r).map fun y=>(.ls y.1,y.2):=yB e r
theorem rdTr_suffix {e:Nat} {m r:Bs} {t:Tr} (h:qO e m=some (t,r)):r <:+ m:=by
 obtain ⟨e1,_⟩:=vv e m t r h
 exact ⟨_,e1.symm⟩
def q_ (L:Nat) (w:World) (o:Option (Tr×Bs)) (en:Ending) (w':World):Prop :=
 ∃ (s:Bs) (a:Option Addr) (n c:Nat) (k:Int),en=.returned (.tuple #[.agg #[str s,.slice a n c],.int .i64 k])/\Below w.heap.size w w'/\(o=none->k = -1) /\
   (∀ t rest,o=some (t,rest)->k=(L:Int)-rest.length/\zC (w.heap.size<=·) w' (zm t) [str s,.slice a n c])
theorem q_.no {L:Nat} {w w':World} {o:Option (Tr×Bs)} {s:Bs} {a:Option Addr} {n c:Nat} (ho:o=.none) (hb:Below w.heap.size w w'):q_ L w o (.returned (.tuple #[.agg #[str s,.slice a n c],.int .i64 (-1)])) w' :=
 ⟨s,a,n,c,_,rfl,hb,fun _=>rfl,fun _ _ h=>by rw [ho] at h;simp at h⟩
theorem q_.yes {L:Nat} {w w':World} {o:Option (Tr×Bs)} {t:Tr} {rest s:Bs} {a:Option Addr} {n c:Nat} {k:Int} (ho:o=.some (t,rest)) (hk:k=(L:Int)-rest.length) (hb:Below w.heap.size w w')
 (hv:zC (w.heap.size<=·) w' (zm t) [str s,.slice a n c]):q_ L w o (.returned (.tuple #[.agg #[str s,.slice a n c],.int .i64 k])) w' :=
 ⟨s,a,n,c,k,rfl,hb,fun h=>by rw [ho] at h;simp at h,fun _ _ h=>by rw [ho] at h;simp at h;obtain ⟨rfl,rfl⟩:=h;exact ⟨hk,hv⟩⟩
def TrSaid (l:Bs) (e:Nat):Prop:=∀ (d i:Nat) (w:World),e+d=101->i<=l.length ->
    Calls Tryz.prog 50 #[str l,.int .i64 i,.int .i64 d] w (q_ l.length w (qO e (l.drop i)))
def kB (ob:Nat) (s:Bs) (slv:Value) (w:World):Prop:=w.heap[ob]? = some (.cells #[str s,slv] 57 (0,0))
theorem kB.cells {ob:Nat} {s:Bs} {sl:Value} {w:World} (h:kB ob s sl w):w.cell? ⟨ob,0,none⟩=some (str s)/\w.cell? ⟨ob,1,none⟩=some sl/\ob<w.heap.size/\(∀ o,w.frozen? ⟨ob,o,none⟩=false):=by
 have hl:=zZ h
 unfold kB at h
 exact ⟨by simp [World.cell?,h],by simp [World.cell?,h],hl,fun o=>by simp [World.frozen?,h]⟩
theorem kB.put1 {ob:Nat} {s:Bs} {sl u:Value} {w:World} (h:kB ob s sl w):kB ob s u (w.setCell ⟨ob,1,none⟩ u):=by
 unfold kB;rw [zh h];rfl
theorem kB.below {ob:Nat} {s:Bs} {sl:Value} {w w':World} {B:Nat} (h:kB ob s sl w) (hb:Below B w w') (hm:ob<B):kB ob s sl w':=by
 unfold kB;rw [hb.block ob hm];exact h
theorem kB.store {ob:Nat} {s:Bs} {sl:Value} {w:World} (h:kB ob s sl w) (u0 u1:Value) :
 ∃ W,W=((w.setCell ⟨ob,0,none⟩ u0).setCell ⟨ob,1,none⟩ u1)/\W.cell? ⟨ob,0,none⟩=some u0/\W.cell? ⟨ob,1,none⟩=some u1 /\
   (∀ B w0,Below B w0 w->B<=ob->Below B w0 W)/\(∀ i x,i≠ob->w.heap[i]? = some x->W.heap[i]? = some x):=by
 have hc:((w.setCell ⟨ob,0,none⟩ u0).setCell ⟨ob,1,none⟩ u1).heap[ob]? = some (.cells #[u0,u1] 57 (0,0)):=by
  unfold kB at h
  rw [zh (zh h)];rfl
 refine ⟨_,rfl,by simp only [World.cell?,hc];rfl,by simp only [World.cell?,hc];rfl,fun B w0 hb hB=>?_,fun i x hi hx=>?_⟩
 ·exact ((hb.setCell (p:=⟨ob,0,none⟩) hB _).setCell (p:=⟨ob,1,none⟩) hB _)
 ·rw [bQ _ _ _ _ (by simpa using hi),bQ _ _ _ _ (by simpa using hi)];exact hx
theorem zp.lit2 {w:World} {e:TypeId} (cs:Array Value) (hn:cs.size=2) (hc:∀ u∈cs.toList,u.oneCell'=true) (g:Nat) (hg:g=w.heap.size):zp 2 (.slice (some ⟨g,0,none⟩) 1 1) 1 cs.toList (w.alloc (.cells cs e)):=by
 subst hg
 refine ⟨by simp [hn],hc,.inl ⟨_,_,rfl,fun j u hu=>?_⟩⟩
 unfold Addr.add
 split
 ·subst j;simp;simpa using hu
 ·simp;simpa using hu
theorem word_in {m:Bs} {j:Nat} (h:j<(zY m).length):∃ hm:j<m.length,sep m[j]=false:=by
 have cN:=j6 m
 have hm:j<m.length:=by omega
 refine ⟨hm,?_⟩
 have h1:m[j]=(zY m)[j]:=by
  have e:=vZ m
  have:m[j]? = (zY m)[j]?:=by conv=>lhs;rw [<- e]
                              rw [List.getElem?_append_left h]
  rw [List.getElem?_eq_getElem hm,List.getElem?_eq_getElem h] at this
  exact Option.some.inj this
 rw [h1]
 have:=tw_all (fun c=>!sep c) m _ (List.getElem_mem h)
 simpa using this
theorem word_out {m:Bs} (h:(zY m).length<m.length):sep m[(zY m).length]=true:=by
 have h2:(!sep m[(zY m).length])=false:=tw_end (fun c=>!sep c) m h
 simpa using h2
structure ga (w:World) (ob Z:Nat) (wr:World) (ps:List Tr) (vs:List Value) (sl:Value):Prop where
 below:Below w.heap.size w wr
 res:kB w.heap.size [] (.slice none 0 0) wr
 out:kB ob [] sl wr
 own:Own wr 57 2 sl ps.length vs
 blk:∀ g,sl.ownBlock=some g->Z<=g
 rep:zC (fun b=>Z<=b/\sl.ownBlock≠some b) wr (ze ps) vs
 z:Z<=wr.heap.size
theorem ga.next {w:World} {ob Z:Nat} {wr:World} {ps:List Tr} {vs:List Value} {sl:Value} (h:ga w ob Z wr ps vs sl) (d7:ob<Z) (hwo:w.heap.size<ob) {W w7:World} {t:Tr} {cs:List Value} {a':Option Addr} {c':Nat}
 (bW:Below wr.heap.size wr W) (hcs:zC (wr.heap.size<=·) W (zm t) cs) (bG:Own w7 57 2 (.slice a' (ps.length+1) c') (ps.length+1) (vs++cs)) (bB:But (fun i=>sl.ownBlock=some i) W w7)
 (b9:∀ g,(Value.slice a' (ps.length+1) c').ownBlock=some g->sl.ownBlock=some g\/g=W.heap.size) :
 ga w ob Z (w7.setCell ⟨ob,1,none⟩ (.slice a' (ps.length+1) c')) (ps++[t]) (vs++cs) (.slice a' (ps.length+1) c'):=by
 have z6:=bW.size
 have z7:=bB.size
 have zr:=h.z
 have keep:∀ i x,wr.heap[i]? = some x->sl.ownBlock≠some i->i≠ob->(w7.setCell ⟨ob,1,none⟩ (.slice a' (ps.length+1) c')).heap[i]? = some x:=by
  intro i x hx h1 h2
  have:=zZ hx
  rw [bQ _ _ _ _ (by simpa using h2),bB.block i (by omega) h1,bW.block i this];exact hx
 have cI:∀ i x,W.heap[i]? = some x->sl.ownBlock≠some i->i≠ob->(w7.setCell ⟨ob,1,none⟩ (.slice a' (ps.length+1) c')).heap[i]? = some x:=by
  intro i x hx h1 h2
  have:=zZ hx
  rw [bQ _ _ _ _ (by simpa using h2),bB.block i (by omega) h1];exact hx
 have ltK:∀ g,sl.ownBlock=some g->g<wr.heap.size:=fun g hg=>h.own.lt hg
 have nK:∀ i,i<Z->sl.ownBlock≠some i:=fun i hi e=>by have:=h.blk i e;omega
 have newg:∀ g,(Value.slice a' (ps.length+1) c').ownBlock=some g->Z<=g:=fun g hg=>by
  rcases b9 g hg with e | e
  ·exact h.blk g e
  ·omega
 refine ⟨?_,?_,?_,?_,newg,?_,by simp [World.setCell];omega⟩
 ·refine Below.setCell ?_ (show w.heap.size<=ob by omega) _
  exact (zzT h.below bW).trans (bB.toBelow (by have:=h.below.size;omega) fun i hi e=>nK i (by omega) e)
 ·exact keep _ _ h.res (nK _ (by omega)) (by omega)
 ·have h1:kB ob [] sl w7:=by
   unfold kB;rw [bB.block ob (by omega) (nK _ d7),bW.block ob (by omega)];exact h.out
  exact h1.put1
 ·rw [show (ps++[t]).length=ps.length+1 from by simp]
  exact bG.keep fun g o hg ho=>by rw [bQ _ _ _ _ (by have:=newg g hg;simp;omega)];exact ho
 ·rw [vl]
  refine zC.append ?_ ?_
  ·refine (Rep.keep fun x o hx ho=>⟨⟨hx.1,fun e=>?_⟩,?_⟩).2 _ _ h.rep
   ·exact keep x o ho hx.2 (by have:=hx.1;omega)
   ·rcases b9 x e with e' | e'
    ·exact hx.2 e'
    ·have:=zZ ho;omega
  ·have e1:ze [t]=zm t:=by simp [ze]
   rw [e1]
   refine (Rep.keep fun x o hx ho=>⟨⟨by have:=hx;omega,fun e=>?_⟩,?_⟩).2 _ _ hcs
   ·exact cI x o ho (fun e=>by have:=ltK x e;have:=hx;omega) (by have:=hx;omega)
   ·rcases b9 x e with e' | e'
    ·have:=ltK x e';have:=hx;omega
    ·have:=zZ ho;omega
set_option maxRecDepth 100000 in
theorem xC (l:Bs) (hl:Lim l.length) (e d:Nat) (fD:e+d=101) (i:Nat) (w:World) (hi:i<=l.length) (cB:∀ h:i<l.length,e=0\/¬ l[i]=40) :
 Calls Tryz.prog 50 #[str l,.int .i64 i,.int .i64 d] w (q_ l.length w (qO e (l.drop i))):=by
 have ct:=hl.le
 rcases e with _ | e
 ·have hd1:(100:Int)<(d:Int):=by omega
  clear cB
  go_enter Tryz.func50,Tryz.ntmps50
  go_wp2_with fail
  refine bodyPost_ret (v:=.tuple #[.agg #[str [],.slice none 0 0],.int .i64 (-1)]) (by simp [results,Tryz.results50,go_sem]) rfl ?_
  exact q_.no (by rfl) (((bZ _ _).alloc (hG _) _).alloc (by simp) _)
 have eV:¬ (100:Int)<(d:Int):=by omega
 by_cases bX:i<l.length
 rotate_left
 ·clear cB
  go_enter Tryz.func50,Tryz.ntmps50
  go_wp2_with fail
  refine bodyPost_ret (v:=.tuple #[.agg #[str [],.slice none 0 0],.int .i64 (-1)]) (by simp [results,Tryz.results50,go_sem]) rfl ?_
  exact q_.no (by rw [List.drop_eq_nil_of_le (by omega)];rfl) (((bZ _ _).alloc (hG _) _).alloc (by simp) _)
 have bf:¬ l[i]=40:=(cB bX).resolve_left (by omega)
 clear cB
 have aN:=List.drop_eq_getElem_cons bX
 have hm:qO (e+1) (l.drop i)=if zY (l.drop i)=[] then none else some (.am (zY (l.drop i)),zV (l.drop i)):=by rw [aN];exact yC e _ _ bf
 have dZ:=j6 (l.drop i)
 rw [List.length_drop] at dZ
 have hx:(l.take (i+(zY (l.drop i)).length)).drop i=zY (l.drop i):=by
  rw [List.drop_take,Nat.add_sub_cancel_left];exact word_take _
 have mN:∀ j,j<(zY (l.drop i)).length->∃ h:i+j<l.length,sep l[i+j]=false:=fun j hj=>by
  obtain ⟨h1,h2⟩:=word_in hj
  rw [List.length_drop] at h1
  rw [List.getElem_drop] at h2
  exact ⟨by omega,h2⟩
 have bR:l.length<=i+(zY (l.drop i)).length\/∃ h:i+(zY (l.drop i)).length<l.length,sep l[i+(zY (l.drop i)).length]=true:=by
  by_cases h:i+(zY (l.drop i)).length<l.length
  ·right
   refine ⟨h,?_⟩
   have:=word_out (m:=l.drop i) (by rw [List.length_drop];omega)
   rw [List.getElem_drop] at this
   exact this
  ·left;omega
 have fq:(zV (l.drop i)).length+(i+(zY (l.drop i)).length)=l.length:=by omega
 obtain ⟨wd,my⟩:=zzM (zY (l.drop i))
 rw [<- my] at hm hx mN bR fq dZ
 have HM:=g_ (hU hm (hU mN (hU bR (hU hx fq))))
 have f4:=qv bX (n:=40) (by decide) bf
 have ro:i+wd.length<=l.length:=by omega
 clear bf aN hm hx mN bR my dZ fq
 go_enter Tryz.func50,Tryz.ntmps50
 go_wp2_with fail
 clear f4
 go_loop [1] (fun a=>∃ j:Nat,j<=wd.length/\a=.int .i64 ((i+j:Nat):Int)) (fun a=>i+wd.length-(intOf a).toNat)
 case atStart=>exact ⟨0,Nat.zero_le _,by simp⟩
 case round =>
  obtain ⟨j,hj,rfl⟩:=hrel
  by_cases nh:j<wd.length
  ·obtain ⟨mt,hs⟩:=HM.out.2.1 j nh
   have cc:¬ l[i+j]=32/\¬ l[i+j]=40/\¬ l[i+j]=41:=by
    simp only [sep,Bool.or_eq_false_iff,beq_eq_false_iff_ne] at hs
    exact ⟨hs.1.1,hs.1.2,hs.2⟩
   have f1:=qv mt (n:=32) (by decide) cc.1
   have f2:=qv mt (n:=40) (by decide) cc.2.1
   have f3:=qv mt (n:=41) (by decide) cc.2.2
   clear hs cc
   go_wp2_with fail
   go_round
   case rel=>exact ⟨j+1,by omega,by go_num⟩
   case measure=>simp [intOf];omega
  ·obtain rfl:j=wd.length:=by omega
   have b_:l.length<=i+wd.length\/(∃ h:i+wd.length<l.length,((((⟨l.toArray⟩:ByteArray)[i+wd.length]'(zy h)).toNat:Int) != 32)=false) \/
    (∃ h:i+wd.length<l.length,((((⟨l.toArray⟩:ByteArray)[i+wd.length]'(zy h)).toNat:Int) != 32)=true/\((((⟨l.toArray⟩:ByteArray)[i+wd.length]'(zy h)).toNat:Int) != 40)=false) \/
    (∃ h:i+wd.length<l.length,((((⟨l.toArray⟩:ByteArray)[i+wd.length]'(zy h)).toNat:Int) != 32)=true/\((((⟨l.toArray⟩:ByteArray)[i+wd.length]'(zy h)).toNat:Int) != 40)=true/\((((⟨l.toArray⟩:ByteArray)[i+wd.length]'(zy h)).toNat:Int) != 41)=false):=by
    rcases HM.out.2.2.1 with h | ⟨h,hs⟩
    ·exact .inl h
    ·right
     simp only [sep,Bool.or_eq_true,beq_iff_eq] at hs
     rcases hs with (hs | hs) | hs
     ·exact .inl ⟨h,qg h (n:=32) (by decide) hs⟩
     ·exact .inr (.inl ⟨h,qv h (c:=32) (n:=32) (by decide) (by rw [hs];decide),qg h (n:=40) (by decide) hs⟩)
     ·exact .inr (.inr ⟨h,qv h (c:=32) (n:=32) (by decide) (by rw [hs];decide),qv h (c:=40) (n:=40) (by decide) (by rw [hs];decide),qg h (n:=41) (by decide) hs⟩)
   have hx:((⟨l.toArray⟩:ByteArray).extract i (i+wd.length))=⟨wd.toArray⟩:=by rw [yD,HM.out.2.2.2.1]
   by_cases h0:wd=[]
   ·subst h0
    have HN:=g_ (show qO (e+1) (l.drop i)=none by rw [HM.out.1,if_pos rfl])
    simp only [List.length_nil,Nat.add_zero] at b_ hx ro ⊢
    clear nh hj
    rcases b_ with h | ⟨h,f1⟩ | ⟨h,f1,f2⟩ | ⟨h,f1,f2,f3⟩
    ·omega
    all_goals
     go_wp2_with fail
     refine bodyPost_ret (v:=.tuple #[.agg #[.string ByteArray.empty,.slice none 0 0],.int .i64 (-1)]) (by simp [results,Tryz.results50,go_sem]) rfl ?_
     exact q_.no (s:=[]) HN.out (((bZ _ _).alloc (hG _) _).alloc (by simp) _)
   ·have hne:(wd == [])=false:=by rw [beq_eq_false_iff_ne];exact h0
    have dY:wd.isEmpty=false:=by rw [List.isEmpty_eq_false_iff];exact h0
    have HN:=g_ (show qO (e+1) (l.drop i)=some (.am wd,zV (l.drop i)) by rw [HM.out.1,if_neg h0])
    have fin:∀ W:World,Below w.heap.size w W->q_ l.length w (qO (e+1) (l.drop i)) (.returned (.tuple #[.agg #[str wd,.slice none 0 0],.int .i64 ((i:Int)+(wd.length:Int))])) W:=fun W hb =>
     q_.yes HN.out (by have:=HM.out.2.2.2.2;omega) hb (by
      rw [zm]
      exact zJ.2 ⟨_,_,rfl,zj.2 rfl,zJ.2 ⟨_,_,rfl,kD.2 ⟨rfl,none,0,rfl,hG _,fun _=>rfl,.inl rfl⟩,zM.2 rfl⟩⟩)
    have FIN:=g_ fin
    clear fin h0 nh hj
    rcases b_ with h | ⟨h,f1⟩ | ⟨h,f1,f2⟩ | ⟨h,f1,f2,f3⟩
    all_goals
     go_wp2_with fail
     refine bodyPost_ret (v:=.tuple #[.agg #[str wd,.slice none 0 0],.int .i64 ((i:Int)+(wd.length:Int))]) (by simp [results,Tryz.results50,go_sem]) rfl ?_
     exact FIN.out _ (((bZ _ _).alloc (hG _) _).alloc (by simp) _)
theorem kB.alloc {ob:Nat} {s:Bs} {sl:Value} {w:World} (h:kB ob s sl w) (o:Obj):kB ob s sl (w.alloc o):=zH h
set_option maxRecDepth 100000 in
theorem l5Read_open (l:Bs) (hl:Lim l.length) (e d:Nat) (fD:e+1+d=101) (ih:TrSaid l e) (i0:Nat) (w:World) (hi:i0<l.length) (bf:l[i0]=40) :
 Calls Tryz.prog 50 #[str l,.int .i64 i0,.int .i64 d] w (q_ l.length w (qO (e+1) (l.drop i0))):=by
 have ct:=hl.le
 have IH:=g_ ih;clear ih
 have eV:¬ (100:Int)<(d:Int):=by omega
 have hm:qO (e+1) (l.drop i0)=(xU e (l.drop (i0+1))).map fun y=>(.ls y.1,y.2):=by
  rw [List.drop_eq_getElem_cons hi,bf,rdTr_all]
 have HM:=g_ hm;clear hm
 have f4:=qg hi (n:=40) (by decide) bf
 clear bf
 go_enter Tryz.func50,Tryz.ntmps50
 go_wp2_with fail
 clear f4
 have tR:ga w (w.heap.size+1) (w.heap.size+2) ((w.alloc (.cells #[str [],.slice none 0 0] 57)).alloc (.cells #[str [],.slice none 0 0] 57)) [] [] (.slice none 0 0):=by
  refine ⟨((bZ _ _).alloc (hG _) _).alloc (by simp) _,?_,?_,World.ownsRow_nil _ _ _ _,fun g h=>by simp [Value.ownBlock] at h,zM.2 rfl,by simp⟩
  ·exact zH (zO _ _)
  ·have:=zO (w.alloc (.cells #[str [],.slice none 0 0] 57)) (.cells #[str [],.slice none 0 0] 57)
   rw [zQ] at this;exact this
 go_loopw [1] (fun a wr=>∃ (i:Nat) (ps:List Tr) (vs:List Value) (sa:Option Addr) (sc:Nat),a=.int .i64 i/\i<l.length/\ps.length<=i/\(xU e (l.drop (i0+1))=(xU e (l.drop (i+1))).map fun y=>(ps++y.1,y.2))/\ga w (w.heap.size+1) (w.heap.size+2) wr ps vs (.slice sa ps.length sc)) (fun a _=>l.length-(intOf a).toNat)
 case atStart=>exact ⟨i0,[],[],none,0,rfl,hi,Nat.zero_le _,by simp,tR⟩
 case round =>
  clear tR
  rename_i wr
  obtain ⟨i,ps,vs,sa,sc,rfl,ro,rO,sq,dF⟩:=hrel
  have iN:=g_ sq;clear sq
  have mY:=g_ dF;clear dF
  have C:=g_ (IH.out (d+1) (i+1) wr (by omega) ro)
  go_wp2_with fail
  rw [show (i:Int)+1=((i+1:Nat):Int) from by omega,show (d:Int)+1=((d+1:Nat):Int) from by omega]
  (with_reducible refine C.out.mono ?_)
  rintro mU w6 ⟨s6,a6,n6,c6,k6,rfl,bW,eL,eD⟩
  have z6:=bW.size
  have zr:=mY.out.z
  have fj:=mY.out.res.below bW (by omega)
  have fp:=mY.out.out.below bW (by omega)
  have eY:=zzT mY.out.below bW
  obtain ⟨r0,r1,rl6,rf⟩:=fj.cells
  obtain ⟨q0,q1,rX,qf⟩:=fp.cells
  have dH:=rf 0;have dx:=rf 1;clear rf
  have qf0:=qf 0;have qf1:=qf 1;clear qf
  have Q:=g_ (hU bW (hU fj (hU fp eY)));clear bW fj fp eY C
  have eH:=rdAll_eq e (l.drop (i+1))
  cases hq:qO e (l.drop (i+1)) with
  | none =>
    obtain rfl:=eL hq
    have HN:=g_ (show qO (e+1) (l.drop i0)=none by rw [HM.out,iN.out,eH,hq];rfl)
    clear eH hq eL eD
    go_wp2_with fail
    obtain ⟨W,hW,s0,s1,bE,_⟩:=Q.out.2.1.store (.string ⟨#[]⟩) (.slice sa ps.length sc)
    rw [<- hW]
    refine bodyPost_ret (v:=.tuple #[.agg #[str [],.slice sa ps.length sc],.int .i64 (-1)]) (by simp [results,Tryz.results50,go_sem,zK s0,zK s1]) rfl ?_
    exact q_.no HN.out ((bE _ _ Q.out.2.2.2 (hG _)).alloc (bE _ _ Q.out.2.2.2 (hG _)).size _)
  | some x =>
    obtain ⟨t,rest⟩:=x
    obtain ⟨rfl,co⟩:=eD _ _ hq
    have dI:=vK (rdTr_suffix hq)
    have hsh:=jy e _ _ _ hq
    rw [List.length_drop] at hsh
    have hrl:rest.length<=l.length:=by omega
    obtain ⟨cV,mR⟩:=zzM (l.length-rest.length)
    rw [<- mR] at dI
    have ng:(l.length:Int)-(rest.length:Int)=(cV:Int):=by omega
    rw [ng]
    have mi:i+1<cV/\cV<=l.length:=by omega
    subst dI
    rw [hq,Option.bind_some] at eH
    simp only at eH
    have iv:=g_ eH;have iq:=g_ co
    clear eH co hq eL eD ng mR hrl hsh
    by_cases ez:cV=l.length
    ·have HN:=g_ (show qO (e+1) (l.drop i0)=none by rw [HM.out,iN.out,iv.out,List.drop_eq_nil_of_le (by omega)];rfl)
     have g1:(l.length:Int)<=(cV:Int):=by omega
     have g0:¬ (cV:Int)<0:=by omega
     go_wp2_with fail
     obtain ⟨W,hW,s0,s1,bE,_⟩:=Q.out.2.1.store (.string ⟨#[]⟩) (.slice sa ps.length sc)
     rw [<- hW]
     refine bodyPost_ret (v:=.tuple #[.agg #[str [],.slice sa ps.length sc],.int .i64 (-1)]) (by simp [results,Tryz.results50,go_sem,zK s0,zK s1]) rfl ?_
     exact q_.no HN.out ((bE _ _ Q.out.2.2.2 (hG _)).alloc (bE _ _ Q.out.2.2.2 (hG _)).size _)
    have dR:cV<l.length:=by omega
    have g1:¬ (l.length:Int)<=(cV:Int):=by omega
    have g0:¬ (cV:Int)<0:=by omega
    have hlps:ps.length<=16777216:=by omega
    clear ez
    go_wp2_with (at_builtin;refine zu rfl _ _ 55 rfl 57 (.agg #[str [],.slice none 0 0]) 2 40 Tryz.underlying55 Tryz.infoTr rfl (by decide) (.slice sa ps.length sc) ps.length vs rfl ?c1 _ 1 [str s6,.slice a6 n6 c6] rfl ?c2 ?c3 ?c4 ?_)
    case c1 =>
     refine (mY.out.own.keep fun g o hg ho=>?_).alloc _ |>.alloc _
     rw [Q.out.1.block g (zZ ho)];exact ho
    case c2=>exact zp.lit2 #[str s6,.slice a6 n6 c6] rfl (by simp [str,Value.oneCell']) _ (by simp)
    case c3=>unfold maxLen;omega
    case c4=>omega
    intro a' c' w7 d8 bB b9
    have hW:Below wr.heap.size wr ((w6.alloc (.cells #[str s6,.slice a6 n6 c6] 57)).alloc (.cells #[str s6,.slice a6 n6 c6] 57)):=(Q.out.1.alloc Q.out.1.size _).alloc (by have:=Q.out.1.size;simp;omega) _
    have hC:zC (wr.heap.size<=·) ((w6.alloc (.cells #[str s6,.slice a6 n6 c6] 57)).alloc (.cells #[str s6,.slice a6 n6 c6] 57)) (zm t) [str s6,.slice a6 n6 c6] :=
     (Rep.keep fun i o hi ho=>⟨hi,zH (zH ho)⟩).2 _ _ iq.out
    have hA:=mY.out.next (by omega) (show w.heap.size<w.heap.size+1 by omega) hW hC d8 bB (fun g hg=>by simpa only [zQ] using b9 g hg)
    have z7:=bB.size
    rw [zQ,zQ] at z7
    have ep:w7.cell? ⟨w.heap.size+1,1,none⟩=some (.slice sa ps.length sc):=by
     rw [bB.cell (by simp only [zQ];omega) (fun e=>by have h:w.heap.size+2<=w.heap.size+1:=mY.out.blk _ e;omega)]
     exact zK (zK q1)
    have fw:kB (w.heap.size+1) [] (.slice sa ps.length sc) w7:=by
     unfold kB
     rw [bB.block _ (by simp only [zQ];omega) (fun e=>by have h:w.heap.size+2<=w.heap.size+1:=mY.out.blk _ e;omega)]
     exact zH (zH Q.out.2.2.1)
    obtain ⟨p0,p1,pl7,pf⟩:=fw.cells
    have tY:=pf 1
    clear pf q0 q1 qf0 qf1 r0 r1 dH dx rX rl6
    have HA:=g_ (hU hA fw);clear hA hW hC d8 bB b9 fw ep
    have aN:=List.drop_eq_getElem_cons dR
    rw [aN] at iv
    obtain ⟨r0,r1,rl8,rf⟩:=HA.out.1.res.cells
    have dH:=rf 0;have dx:=rf 1;clear rf aN
    by_cases di:l[cV]=41
    ·have f1:=vy dR (n:=41) (by decide) di
     have HY:=g_ (show qO (e+1) (l.drop i0)=some (.ls (ps++[t]),l.drop (cV+1)) by
      rw [HM.out,iN.out,iv.out];simp only [if_pos di,Option.map_some])
     clear di
     go_wp2_with fail
     obtain ⟨W,hW,s0,s1,bE,bg⟩:=HA.out.1.res.store (.string ⟨#[]⟩) (.slice a' (ps.length+1) c')
     rw [<- hW]
     refine bodyPost_ret (v:=.tuple #[.agg #[str [],.slice a' (ps.length+1) c'],.int .i64 ((cV:Int)+1)]) (by simp [results,Tryz.results50,go_sem,s0,s1]) rfl ?_
     have dF:=HA.out.1
     refine q_.yes (s:=[]) HY.out (by rw [List.length_drop];omega) (bE _ _ dF.below (hG _)) ?_
     rw [zm]
     refine zJ.2 ⟨_,_,rfl,zj.2 rfl,zJ.2 ⟨_,_,rfl,?_,zM.2 rfl⟩⟩
     rw [show ps.length+1=(ps++[t]).length from by simp] at dF bg ⊢
     refine (dF.own.keep fun g o hg ho=>bg g o (by have:=dF.blk g hg;omega) ho).rep (fun g hg=>by have:=dF.blk g hg;omega) ?_
     exact (Rep.keep fun x o hx ho=>⟨by have:=hx.1;omega,bg x o (by have:=hx.1;omega) ho⟩).2 _ _ dF.rep
    have f1:=jU dR (n:=41) (by decide) di
    by_cases eB:l[cV]=32
    ·have f2:=qg dR (n:=32) (by decide) eB
     have HY:=g_ (show xU e (l.drop (i0+1))=(xU e (l.drop (cV+1))).map fun y=>((ps++[t])++y.1,y.2) by
      rw [iN.out,iv.out];simp only [if_neg di,if_pos eB,Option.map_map];congr 1;funext y;simp)
     clear di eB
     go_wp2_with fail
     go_roundw
     case rel=>exact ⟨cV,ps++[t],vs++[str s6,.slice a6 n6 c6],a',c',rfl,dR,by simp;omega,HY.out,by simpa using HA.out.1⟩
     case measure=>simp [intOf];omega
    ·have f2:=qv dR (n:=32) (by decide) eB
     have HN:=g_ (show qO (e+1) (l.drop i0)=none by rw [HM.out,iN.out,iv.out];simp only [if_neg di,if_neg eB];rfl)
     clear di eB
     go_wp2_with fail
     obtain ⟨W,hW,s0,s1,bE,bg⟩:=HA.out.1.res.store (.string ⟨#[]⟩) (.slice a' (ps.length+1) c')
     rw [<- hW]
     refine bodyPost_ret (v:=.tuple #[.agg #[str [],.slice a' (ps.length+1) c'],.int .i64 (-1)]) (by simp [results,Tryz.results50,go_sem,s0,s1]) rfl ?_
     exact q_.no HN.out (bE _ _ HA.out.1.below (hG _))
theorem gH (l:Bs) (hl:Lim l.length):∀ e,e<=101->TrSaid l e
 | 0,h=>fun d i w fD hi=>xC l hl 0 d fD i w hi (fun _=>.inl rfl)
 | e+1,h=>fun d i w fD hi=>by
   by_cases bf:∃ bX:i<l.length,l[i]=40
   ·obtain ⟨bX,bf⟩:=bf
    exact l5Read_open l hl e d fD (gH l hl e (by omega)) i w bX bf
   ·exact xC l hl (e+1) d fD i w hi (fun bX=>.inr fun h=>bf ⟨bX,h⟩)
end Go.Proofs.YtepgfdhkkjfmhabGreatDoor

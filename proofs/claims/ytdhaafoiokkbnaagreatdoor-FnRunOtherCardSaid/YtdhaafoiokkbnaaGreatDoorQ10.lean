/- Walks of functions that the statement reaches, and plain words. No conditions. -/
import Derived.Deep.RegionLaw
import Derived.Test.YtdhaafoiokkbnaaGreatDoorQ9
set_option linter.unusedVariables false
set_option linter.unusedSimpArgs false
set_option maxHeartbeats 8000000
namespace Go.Proofs.YtdhaafoiokkbnaaGreatDoor
open Go.RowKit
theorem kD.storeB {ob:Nat} {v:Int} {ks ys:Value} {w:World} (h:kD ob v ks ys w) (u0 u1 u2 u3:Value) :
 ∃ W,W=((((w.setCell ⟨ob,0,none⟩ u0).setCell ⟨ob,1,none⟩ u1).setCell ⟨ob,2,none⟩ u2).setCell ⟨ob,3,none⟩ u3) /\
   W.cell? ⟨ob,0,none⟩=some u0/\W.cell? ⟨ob,1,none⟩=some u1/\W.cell? ⟨ob,2,none⟩=some u2/\W.cell? ⟨ob,3,none⟩=some u3 /\
   (∀ (m:Nat->Prop) w0,But m w0 w->w0.heap.size<=ob->But m w0 W)/\(∀ i x,i≠ob->w.heap[i]? = some x->W.heap[i]? = some x)/\(∀ rd P,rd<ob->kL w rd P->kL W rd P):=by
 obtain ⟨W,hW,s0,s1,s2,s3,_,hk⟩:=h.store u0 u1 u2 u3
 have hB:∀ (m:Nat->Prop) w0,But m w0 w->(m ob\/w0.heap.size<=ob)->But m w0 W:=by
  intro m w0 hb ho
  rw [hW]
  exact ((((hb.setCell (p:=⟨ob,0,none⟩) ho _).setCell (p:=⟨ob,1,none⟩) ho _).setCell (p:=⟨ob,2,none⟩) ho _).setCell (p:=⟨ob,3,none⟩) ho _)
 refine ⟨W,hW,s0,s1,s2,s3,fun m w0 hb ho=>hB m w0 hb (.inr ho),hk,fun rd P cL hr=>?_⟩
 exact hr.but (hB (· = ob) w (But.refl _ _) (.inl rfl)) (fun i hi e=>by omega)
structure gP (w:World) (rd ob Z:Nat) (v:Int) (wr:World) (pk py:List Bd) (kv yv:List Value) (ks:Value) (nk:Nat) (ys:Value) (ny:Nat):Prop where
 hnk:nk=pk.length
 hny:ny=py.length
 ksl:∃ a c,ks=.slice a nk c
 ysl:∃ a c,ys=.slice a ny c
 but:But (· = rd) w wr
 res:kD w.heap.size 0 (.slice none 0 0) (.slice none 0 0) wr
 out:kD ob v ks ys wr
 ownK:Own wr 80 4 ks nk kv
 ownY:Own wr 80 4 ys ny yv
 blkK:∀ g,ks.ownBlock=some g->Z<=g/\ys.ownBlock≠some g
 blkY:∀ g,ys.ownBlock=some g->Z<=g
 repK:zH (fun b=>Z<=b/\ks.ownBlock≠some b/\ys.ownBlock≠some b) wr (zl pk) kv
 repY:zH (fun b=>Z<=b/\ks.ownBlock≠some b/\ys.ownBlock≠some b) wr (zl py) yv
 z:Z<=wr.heap.size
theorem gP.kid {w:World} {rd ob Z:Nat} {v:Int} {wr:World} {pk py:List Bd} {kv yv:List Value} {ks ys:Value} {nk ny:Nat}
 (h:gP w rd ob Z v wr pk py kv yv ks nk ys ny) (dT:rd<w.heap.size) (sj:ob<Z) (Bp:w.heap.size<ob) {W w7:World} {b:Bd} {cs:List Value} {a':Option Addr} {c':Nat}
 (cd:But (· = rd) wr W) (hcs:zH (wr.heap.size<=·) W (kT b) cs) (cw:Own w7 80 4 (.slice a' (nk+1) c') (nk+1) (kv++cs)) (cq:But (fun i=>ks.ownBlock=some i) W w7)
 (ci:∀ g,(Value.slice a' (nk+1) c').ownBlock=some g->ks.ownBlock=some g\/g=W.heap.size) :
 gP w rd ob Z v (w7.setCell ⟨ob,2,none⟩ (.slice a' (nk+1) c')) (pk++[b]) py (kv++cs) yv (.slice a' (nk+1) c') (nk+1) ys ny:=by
 have z6:=cd.size
 have z7:=cq.size
 have zr:=h.z
 have zb:=h.but.size
 have keep:∀ i x,wr.heap[i]? = some x->ks.ownBlock≠some i->i≠ob->i≠rd->(w7.setCell ⟨ob,2,none⟩ (.slice a' (nk+1) c')).heap[i]? = some x:=by
  intro i x hx h1 h2 h3
  have:=zZ hx
  rw [cF _ _ _ _ (by simpa using h2),cq.block i (by omega) h1,cd.block i this h3];exact hx
 have dq:∀ i x,W.heap[i]? = some x->ks.ownBlock≠some i->i≠ob->(w7.setCell ⟨ob,2,none⟩ (.slice a' (nk+1) c')).heap[i]? = some x:=by
  intro i x hx h1 h2
  have:=zZ hx
  rw [cF _ _ _ _ (by simpa using h2),cq.block i (by omega) h1];exact hx
 have ltK:∀ g,ks.ownBlock=some g->g<wr.heap.size:=fun g hg=>h.ownK.lt hg
 have ltY:∀ g,ys.ownBlock=some g->g<wr.heap.size:=fun g hg=>h.ownY.lt hg
 have nK:∀ i,i<Z->ks.ownBlock≠some i:=fun i hi e=>by have:=(h.blkK i e).1;omega
 have newg:∀ g,(Value.slice a' (nk+1) c').ownBlock=some g->Z<=g:=fun g hg=>by
  rcases ci g hg with e | e
  ·exact (h.blkK g e).1
  ·omega
 refine ⟨by simp [h.hnk],h.hny,⟨_,_,rfl⟩,h.ysl,?_,?_,?_,?_,?_,?_,h.blkY,?_,?_,by simp [World.setCell];omega⟩
 ·refine But.setCell ?_ (.inr (show w.heap.size<=ob by omega)) _
  exact (h.but.trans cd).trans' cq (fun i hi e=>absurd e (nK i (by omega)))
 ·exact keep _ _ h.res (nK _ (by omega)) (by omega) (by omega)
 ·have h1:kD ob v ks ys w7:=by
   unfold kD;rw [cq.block ob (by omega) (nK _ sj),cd.block ob (by omega) (show ¬ ob=rd by omega)];exact h.out
  exact h1.put2
 ·exact cw.keep fun g o hg ho=>by rw [cF _ _ _ _ (by have:=newg g hg;simp;omega)];exact ho
 ·exact h.ownY.keep fun g o hg ho=>keep g o ho (fun e=>(h.blkK g e).2 hg) (by have:=h.blkY g hg;omega) (by have:=h.blkY g hg;omega)
 ·intro g hg
  refine ⟨newg g hg,fun e=>?_⟩
  rcases ci g hg with e' | e'
  ·exact (h.blkK g e').2 e
  ·have:=ltY g e;omega
 ·rw [k9]
  have h1:=h.repK
  refine zH.append ((Rep.keep fun i x hi hx=>⟨⟨hi.1,fun e=>(ci i e).elim (fun e'=>hi.2.1 e') (fun e'=>by have:=zZ hx;omega),hi.2.2⟩,keep i x hx hi.2.1 (by have:=hi.1;omega) (by have:=hi.1;omega)⟩).2 _ _ h1) ?_
  ·have e1:zl [b]=kT b:=by simp [zl]
   rw [e1]
   refine (Rep.keep fun i x hi hx=>?_).2 _ _ hcs
   have h2:=zZ hx
   have h3:wr.heap.size<=i:=hi
   refine ⟨⟨by omega,fun e=>?_,fun e=>by have:=ltY i e;omega⟩,dq i x hx (fun e=>by have:=ltK i e;omega) (by omega)⟩
   rcases ci i e with e' | e'
   ·have:=ltK i e';omega
   ·omega
 ·exact (Rep.keep fun i x hi hx=>⟨⟨hi.1,fun e=>(ci i e).elim (fun e'=>hi.2.1 e') (fun e'=>by have:=zZ hx;omega),hi.2.2⟩,keep i x hx hi.2.1 (by have:=hi.1;omega) (by have:=hi.1;omega)⟩).2 _ _ h.repY
theorem gP.yes {w:World} {rd ob Z:Nat} {v:Int} {wr:World} {pk py:List Bd} {kv yv:List Value} {ks ys:Value} {nk ny:Nat}
 (h:gP w rd ob Z v wr pk py kv yv ks nk ys ny) (dT:rd<w.heap.size) (sj:ob<Z) (Bp:w.heap.size<ob) {W w7:World} {b:Bd} {cs:List Value} {a':Option Addr} {c':Nat}
 (cd:But (· = rd) wr W) (hcs:zH (wr.heap.size<=·) W (kT b) cs) (cw:Own w7 80 4 (.slice a' (ny+1) c') (ny+1) (yv++cs)) (cq:But (fun i=>ys.ownBlock=some i) W w7)
 (ci:∀ g,(Value.slice a' (ny+1) c').ownBlock=some g->ys.ownBlock=some g\/g=W.heap.size) :
 gP w rd ob Z v (w7.setCell ⟨ob,3,none⟩ (.slice a' (ny+1) c')) pk (py++[b]) kv (yv++cs) ks nk (.slice a' (ny+1) c') (ny+1):=by
 have z6:=cd.size
 have z7:=cq.size
 have zr:=h.z
 have zb:=h.but.size
 have keep:∀ i x,wr.heap[i]? = some x->ys.ownBlock≠some i->i≠ob->i≠rd->(w7.setCell ⟨ob,3,none⟩ (.slice a' (ny+1) c')).heap[i]? = some x:=by
  intro i x hx h1 h2 h3
  have:=zZ hx
  rw [cF _ _ _ _ (by simpa using h2),cq.block i (by omega) h1,cd.block i this h3];exact hx
 have dq:∀ i x,W.heap[i]? = some x->ys.ownBlock≠some i->i≠ob->(w7.setCell ⟨ob,3,none⟩ (.slice a' (ny+1) c')).heap[i]? = some x:=by
  intro i x hx h1 h2
  have:=zZ hx
  rw [cF _ _ _ _ (by simpa using h2),cq.block i (by omega) h1];exact hx
 have ltK:∀ g,ks.ownBlock=some g->g<wr.heap.size:=fun g hg=>h.ownK.lt hg
 have ltY:∀ g,ys.ownBlock=some g->g<wr.heap.size:=fun g hg=>h.ownY.lt hg
 have nY:∀ i,i<Z->ys.ownBlock≠some i:=fun i hi e=>by have:=h.blkY i e;omega
 have newg:∀ g,(Value.slice a' (ny+1) c').ownBlock=some g->Z<=g:=fun g hg=>by
  rcases ci g hg with e | e
  ·exact h.blkY g e
  ·omega
 refine ⟨h.hnk,by simp [h.hny],h.ksl,⟨_,_,rfl⟩,?_,?_,?_,?_,?_,?_,newg,?_,?_,by simp [World.setCell];omega⟩
 ·refine But.setCell ?_ (.inr (show w.heap.size<=ob by omega)) _
  exact (h.but.trans cd).trans' cq (fun i hi e=>absurd e (nY i (by omega)))
 ·exact keep _ _ h.res (nY _ (by omega)) (by omega) (by omega)
 ·have h1:kD ob v ks ys w7:=by
   unfold kD;rw [cq.block ob (by omega) (nY _ sj),cd.block ob (by omega) (show ¬ ob=rd by omega)];exact h.out
  exact h1.put3
 ·exact h.ownK.keep fun g o hg ho=>keep g o ho (h.blkK g hg).2 (by have:=(h.blkK g hg).1;omega) (by have:=(h.blkK g hg).1;omega)
 ·exact cw.keep fun g o hg ho=>by rw [cF _ _ _ _ (by have:=newg g hg;simp;omega)];exact ho
 ·intro g hg
  refine ⟨(h.blkK g hg).1,fun e=>?_⟩
  rcases ci g e with e' | e'
  ·exact (h.blkK g hg).2 e'
  ·have:=ltK g hg;omega
 ·exact (Rep.keep fun i x hi hx=>⟨⟨hi.1,hi.2.1,fun e=>(ci i e).elim (fun e'=>hi.2.2 e') (fun e'=>by have:=zZ hx;omega)⟩,keep i x hx hi.2.2 (by have:=hi.1;omega) (by have:=hi.1;omega)⟩).2 _ _ h.repK
 ·rw [k9]
  refine zH.append ((Rep.keep fun i x hi hx=>⟨⟨hi.1,hi.2.1,fun e=>(ci i e).elim (fun e'=>hi.2.2 e') (fun e'=>by have:=zZ hx;omega)⟩,keep i x hx hi.2.2 (by have:=hi.1;omega) (by have:=hi.1;omega)⟩).2 _ _ h.repY) ?_
  ·have e1:zl [b]=kT b:=by simp [zl]
   rw [e1]
   refine (Rep.keep fun i x hi hx=>?_).2 _ _ hcs
   have h2:=zZ hx
   have h3:wr.heap.size<=i:=hi
   refine ⟨⟨by omega,fun e=>by have:=ltK i e;omega,fun e=>?_⟩,dq i x hx (fun e=>by have:=ltY i e;omega) (by omega)⟩
   rcases ci i e with e' | e'
   ·have:=ltY i e';omega
   ·omega
def cst:Nat->Nat
 | 0=>1
 | d+1=>5+17*cst d
def bnd:Nat->Nat
 | 0=>1
 | d+1=>1+17*bnd d
theorem cst_pos (d:Nat):2<=cst d\/d=0/\cst d=1:=by cases d <;> simp [cst];omega
theorem bnd_pos (d:Nat):1<=bnd d:=by cases d <;> simp [bnd]
theorem b9 {s:Bs} (h:s∈kt):∃ c,s=[c]:=by
 simp only [kt,List.mem_cons,List.not_mem_nil,or_false] at h
 rcases h with rfl | rfl | rfl | rfl | rfl <;> exact ⟨_,rfl⟩
def BodyD (rd Q d:Nat) (hand:List Ty) (w:World) (en:Ending) (w':World):Prop :=
 ∃ (b:Bd) (s:Bs) (v:Int) (a2:Option Addr) (n2 c2:Nat) (a3:Option Addr) (n3 c3:Nat),en=.returned (.agg #[str s,.int .i64 v,.slice a2 n2 c2,.slice a3 n3 c3])/\But (· = rd) w w'/\kL w' rd Q /\
   kX hand b/\lvB b/\zk b<=bnd d/\zH (w.heap.size<=·) w' (kT b) [str s,.int .i64 v,.slice a2 n2 c2,.slice a3 n3 c3]
def DrawB (rd d:Nat):Prop:=∀ (z:Int) (hand:List Ty) (F:Nat->Prop) (hv:Value) (w:World) (P:Nat),z<=d->-1000<=z->P+cst d<=1099511627776->kL w rd P->ke d hand->(∀ k,F k->k≠rd) ->
 Rep F w (.sl 77 1 hand.length (qx hand)) hv ->
 Calls Tryz.prog 44 #[.pointer (some ⟨rd,0,none⟩),hv,.int .i64 z] w (BodyD rd (P+cst d) d hand w)
theorem yI.newAt {w:World} {rd:Nat} (dT:rd<w.heap.size) (xs:List Bs) (n:Nat) (hn:n=xs.length) (e:TypeId) (g:Nat) (hg:g=w.heap.size):yI (w.alloc (.cells (xs.map str).toArray e)) rd (.slice (some ⟨g,0,none⟩) n n) xs:=by
 subst hg;exact yI.new dT xs n hn e
theorem bN {F:Nat->Prop} {w:World} (c:UInt8):zH F w (kT (.leaf c)) [str [c],.int .i64 0,.slice none 0 0,.slice none 0 0]:=by
 rw [kT]
 have h0:Rep F w (.sl 80 4 0 []) (.slice none 0 0):=kM.2 ⟨rfl,none,0,rfl,cC _,fun _=>rfl,.inl rfl⟩
 exact zV.2 ⟨_,_,rfl,zj.2 rfl,zV.2 ⟨_,_,rfl,zj.2 rfl,zV.2 ⟨_,_,rfl,h0,zV.2 ⟨_,_,rfl,h0,zF.2 rfl⟩⟩⟩⟩
def KidsD (w:World) (rd ob Z v P d:Nat) (hand:List Ty) (t:Ty) (k:Nat) (wr:World):Prop :=
 ∃ (pk:List Bd) (kv:List Value) (ks:Value) (nk:Nat),gP w rd ob Z v wr pk [] kv [] ks nk (.slice none 0 0) 0/\pk.length=k/\za (zp hand (t.args.take k)) pk/\ug pk/\zN pk<=k*bnd d/\kL wr rd (P+k*cst d)
def YesD (w:World) (rd ob Z v P d:Nat) (hand:List Ty) (pk:List Bd) (kv:List Value) (ks:Value) (nk:Nat) (k:Nat) (wr:World):Prop :=
 ∃ (py:List Bd) (yv:List Value) (ys:Value) (ny:Nat),gP w rd ob Z v wr pk py kv yv ks nk ys ny/\py.length=k/\(∀ b∈py,kX hand b)/\ug py/\zN py<=k*bnd d/\kL wr rd (P+k*(1+cst d))
theorem y4:∀ (xs ys:List Bd),ug xs->ug ys->ug (xs++ys)
 | [],ys,_,h=>by simpa using h
 | x::xs,ys,h1,h2=>by
   rw [ug] at h1
   simp only [List.cons_append]
   rw [ug]
   exact ⟨h1.1,y4 xs ys h1.2 h2⟩
theorem lvBs_one {b:Bd} (h:lvB b):ug [b]:=by rw [ug];exact ⟨h,by rw [ug];trivial⟩
theorem rep_len {F:Nat->Prop} {w:World} {e:TypeId} {a:Option Addr} {c:Nat} {xs ys:List Ty} (h:Rep F w (.sl e 1 (xs++ys).length (qx (xs++ys))) (.slice a (xs++ys).length c)) :
 Rep F w (.sl e 1 (xs++ys).length (qx (xs++ys))) (.slice a (xs.length+ys.length) c):=by
 have e:xs.length+ys.length=(xs++ys).length:=by simp
 rw [e];exact h
theorem but_drew {m:Nat->Prop} {w w':World} (h:Below w.drew.heap.size w.drew w'):But m w w':=⟨h.os,h.tape,h.output,h.size,fun i hi _=>h.block i hi⟩
theorem but_drew2 {m:Nat->Prop} {w w':World} (h:But m w.drew w'):But m w w':=⟨h.os,h.tape,h.output,h.size,h.block⟩
theorem yz (x:Int) (h1 : -2000<=x) (h2:x<=1000000):IntKind.i64.wrap x=x:=by
 simp [IntKind.wrap,IntKind.bits,IntKind.signed];omega
theorem wrap_sub (z:Int) (p:Nat) (h1:0<z) (h2:z<=1000) (h3:p<2):IntKind.i64.wrap (z-1-(p:Int))=z-1-p:=yz _ (by omega) (by omega)
theorem sub_le {z:Int} {p d:Nat} (h2:z<=((d+1:Nat):Int)):z-1-(p:Int)<=d:=by omega
theorem sub_lo {z:Int} {p:Nat} (h1:0<z) (h3:p<2) : -1000<=z-1-(p:Int):=by omega
theorem reps_past {B B':Nat} {w:World} {o:Obj} {ds:List DV} {vs:List Value} (hB:B'<=B) (h:zH (B<=·) w ds vs):zH (B'<=·) (w.alloc o) ds vs :=
 (Rep.keep fun _ _ hi hx=>⟨cR hB hi,zY hx⟩).2 _ _ h
set_option maxRecDepth 100000 in
theorem wR (rd d:Nat) (hd:d<=100) (ih:∀ d',d=d'+1->DrawB rd d'):DrawB rd d:=by
 intro z hand F hv w P hz hzl hP hr hh hF nW
 have IH:=cH ih;clear ih
 have cL:=hr.lt
 have CST:=cH (cst_pos d)
 have BND:=cH (bnd_pos d)
 have AZ:kL (w.alloc (.cells #[str [],.int .i64 0,.slice none 0 0,.slice none 0 0] 80)) rd P:=hr.alloc _
 have lI:kD w.heap.size 0 (.slice none 0 0) (.slice none 0 0) (w.alloc (.cells #[str [],.int .i64 0,.slice none 0 0,.slice none 0 0] 80)):=zT _ _
 have aB:But (· = rd) w (w.alloc (.cells #[str [],.int .i64 0,.slice none 0 0,.slice none 0 0] 80)):=(But.refl _ _).alloc _
 obtain ⟨a0,k0,e,_,_,hat⟩:=zC nW
 subst e
 have dE:=cH hat;have D6:=cH nW;have HF:=cH hF;have HH:=cH hh
 have cA:hand.length<=10000:=by have:=hh.2;omega
 clear hat nW hF hh hr
 by_cases ie:z<=0
 ·go_enter Tryz.func44,Tryz.ntmps44
  have H0:=cH (cB AZ (cB lI aB))
  have tR:=H0.out.1.lt
  clear AZ lI aB
  go_wp2_with fail
  obtain ⟨lK,nF,nz⟩:=H0.out
  refine (pG rd (P) (.slice (some ⟨w.heap.size+1,0,none⟩) 5 5) kt _ (lK.alloc (.cells (kt.map str).toArray 9)) (yI.newAt tR kt 5 rfl _ (w.heap.size+1) (by simp)) (by decide) (by decide) (by omega)).mono ?_
  rintro en w2 ⟨s,hs,rfl,cS,de⟩
  obtain ⟨c,rfl⟩:=b9 hs
  clear hs
  have di:kD w.heap.size 0 (.slice none 0 0) (.slice none 0 0) w2:=kD.but (by unfold kD;exact zY nF) cS (show ¬ w.heap.size=rd by omega)
  have eM:=(nz.alloc (.cells (kt.map str).toArray 9)).trans cS
  obtain ⟨r0,r1,r2,r3,rl,rf⟩:=di.cells
  have al:=rf 0;have Ax:=rf 1;have Aw:=rf 2;have Av:=rf 3;clear rf
  have HQ:=cH (cB di (cB eM de));clear di eM de cS nF nz lK
  go_wp2_with fail
  obtain ⟨di,eM,de⟩:=HQ.out
  obtain ⟨W,hW,s0,s1,s2,s3,cO,fJ,rL⟩:=di.storeB (str [c]) (.int .i64 0) (.slice none 0 0) (.slice none 0 0)
  rw [<- hW]
  refine bodyPost_ret (v:=.agg #[str [c],.int .i64 0,.slice none 0 0,.slice none 0 0]) (by simp [results,Tryz.results44,go_sem,s0,s1,s2,s3]) rfl ?_
  exact ⟨.leaf c,[c],0,none,0,0,none,0,0,rfl,cO _ _ eM (cC _),(rL _ _ cL de).mono (by have:=CST.out;omega),by simp [kX],by simp [lvB],by simp only [zk];exact BND.out,bN c⟩
 have hP2:P+2<=1099511627776:=by have:=CST.out;omega
 by_cases ft:hand.length=0
 ·have B_:((hand.length:Int) == 0)=true:=by rw [beq_iff_eq];omega
  go_enter Tryz.func44,Tryz.ntmps44
  have H0:=cH (cB AZ (cB lI aB))
  have tR:=H0.out.1.lt
  clear AZ lI aB
  go_wp2_with fail
  obtain ⟨lK,nF,nz⟩:=H0.out
  refine (pG rd (P) (.slice (some ⟨w.heap.size+1,0,none⟩) 5 5) kt _ (lK.alloc (.cells (kt.map str).toArray 9)) (yI.newAt tR kt 5 rfl _ (w.heap.size+1) (by simp)) (by decide) (by decide) (by omega)).mono ?_
  rintro en w2 ⟨s,hs,rfl,cS,de⟩
  obtain ⟨c,rfl⟩:=b9 hs
  clear hs
  have di:kD w.heap.size 0 (.slice none 0 0) (.slice none 0 0) w2:=kD.but (by unfold kD;exact zY nF) cS (show ¬ w.heap.size=rd by omega)
  have eM:=(nz.alloc (.cells (kt.map str).toArray 9)).trans cS
  obtain ⟨r0,r1,r2,r3,rl,rf⟩:=di.cells
  have al:=rf 0;have Ax:=rf 1;have Aw:=rf 2;have Av:=rf 3;clear rf
  have HQ:=cH (cB di (cB eM de));clear di eM de cS nF nz lK
  go_wp2_with fail
  obtain ⟨di,eM,de⟩:=HQ.out
  obtain ⟨W,hW,s0,s1,s2,s3,cO,fJ,rL⟩:=di.storeB (str [c]) (.int .i64 0) (.slice none 0 0) (.slice none 0 0)
  rw [<- hW]
  refine bodyPost_ret (v:=.agg #[str [c],.int .i64 0,.slice none 0 0,.slice none 0 0]) (by simp [results,Tryz.results44,go_sem,s0,s1,s2,s3]) rfl ?_
  exact ⟨.leaf c,[c],0,none,0,0,none,0,0,rfl,cO _ _ eM (cC _),(rL _ _ cL de).mono (by have:=CST.out;omega),by simp [kX],by simp [lvB],by simp only [zk];exact BND.out,bN c⟩
 have B_:((hand.length:Int) == 0)=false:=by rw [beq_eq_false_iff_ne];omega
 go_enter Tryz.func44,Tryz.ntmps44
 go_wp2_with fail
 refine (vW rd P 5 _ AZ (by omega) (by omega) (by omega)).mono ?_
 rintro en w1 ⟨p1,rfl,hp1,cT,dH⟩
 have Ai:=lI.but cT (show ¬ w.heap.size=rd by omega)
 have af:=aB.trans cT
 by_cases hp0:p1=0
 ·subst hp0
  have H0:=cH (cB dH (cB Ai af))
  have tR:=H0.out.1.lt
  clear dH Ai af
  go_wp2_with fail
  obtain ⟨lK,nF,nz⟩:=H0.out
  refine (pG rd (P+1) (.slice (some ⟨w1.heap.size,0,none⟩) 5 5) kt _ (lK.alloc (.cells (kt.map str).toArray 9)) (yI.newAt tR kt 5 rfl _ (w1.heap.size) (by simp)) (by decide) (by decide) (by omega)).mono ?_
  rintro en w2 ⟨s,hs,rfl,cS,de⟩
  obtain ⟨c,rfl⟩:=b9 hs
  clear hs
  have di:kD w.heap.size 0 (.slice none 0 0) (.slice none 0 0) w2:=kD.but (by unfold kD;exact zY nF) cS (show ¬ w.heap.size=rd by omega)
  have eM:=(nz.alloc (.cells (kt.map str).toArray 9)).trans cS
  obtain ⟨r0,r1,r2,r3,rl,rf⟩:=di.cells
  have al:=rf 0;have Ax:=rf 1;have Aw:=rf 2;have Av:=rf 3;clear rf
  have HQ:=cH (cB di (cB eM de));clear di eM de cS nF nz lK
  go_wp2_with fail
  obtain ⟨di,eM,de⟩:=HQ.out
  obtain ⟨W,hW,s0,s1,s2,s3,cO,fJ,rL⟩:=di.storeB (str [c]) (.int .i64 0) (.slice none 0 0) (.slice none 0 0)
  rw [<- hW]
  refine bodyPost_ret (v:=.agg #[str [c],.int .i64 0,.slice none 0 0,.slice none 0 0]) (by simp [results,Tryz.results44,go_sem,s0,s1,s2,s3]) rfl ?_
  exact ⟨.leaf c,[c],0,none,0,0,none,0,0,rfl,cO _ _ eM (cC _),(rL _ _ cL de).mono (by have:=CST.out;omega),by simp [kX],by simp [lvB],by simp only [zk];exact BND.out,bN c⟩
 have hp0':((p1:Int) == 0)=false:=by rw [beq_eq_false_iff_ne];omega
 obtain ⟨d',hd'⟩:∃ d',d=d'+1:=⟨d-1,by omega⟩
 have hih:=IH.out d' hd'
 subst hd'
 have IHD:=cH hih;clear hih
 have hcs:cst (d'+1)=5+17*cst d':=rfl
 have nj:bnd (d'+1)=1+17*bnd d':=rfl
 go_wp2_with fail
 refine (vW rd (P+1) hand.length w1 dH (by omega) (by omega) (by omega)).mono ?_
 rintro en w2 ⟨v,rfl,hv,cS,de⟩
 have DK:=Ai.but cS (show ¬ w.heap.size=rd by omega)
 have db:=af.trans cS
 obtain ⟨bl,ol,u,dv,ea,hFl,dr,iR,Db,fK⟩:=dE.out v hv
 rw [js,Option.map_eq_some_iff] at iR
 obtain ⟨t,ht,rfl⟩:=iR
 obtain ⟨sa,sk,rfl⟩:=kJ fK
 have rV:=fK
 rw [qE] at rV
 obtain ⟨_,_,est,_,_,dj⟩:=zC rV
 simp only [Value.slice.injEq] at est
 obtain ⟨rfl,_,rfl⟩:=est
 subst ea
 have mX:t.args.length<=15:=by
  have h1:=HH.out.1 t (List.mem_of_getElem? ht)
  have h2:=zg t
  have:=zd t.args;omega
 have HT:=cH ht;have aE:=cH dj
 have hblr:=HF.out bl hFl
 have z1:=cT.size
 rw [zK] at z1
 have z2:=cS.size
 have BZ:w.heap.size<w2.heap.size:=by omega
 have hrdo:rd<w2.heap.size:=by omega
 have eD:KidsD w rd w2.heap.size (w2.heap.size+1) v (P+2) d' hand t 0 (w2.alloc (.cells #[str [],.int .i64 v,.slice none 0 0,.slice none 0 0] 80)):=by
  refine ⟨[],[],.slice none 0 0,0,⟨rfl,rfl,⟨_,_,rfl⟩,⟨_,_,rfl⟩,db.alloc _,by unfold kD;exact zY DK,zT _ _,World.ownsRow_nil _ _ _ _,World.ownsRow_nil _ _ _ _,fun g h=>by simp [Value.ownBlock] at h,fun g h=>by simp [Value.ownBlock] at h,zF.2 rfl,zF.2 rfl,by simp⟩,rfl,by simp [za,zp],by simp [ug],by simp [zN],?_⟩
  have:=de.alloc (.cells #[str [],.int .i64 v,.slice none 0 0,.slice none 0 0] 80)
  simpa using this
 have nM:w2.heap.size≠rd:=by omega
 have ZZ1:=cH (yz (z-1) (by omega) (by omega))
 have zz2:z-1<=d':=by omega
 have zz3 : -1000<=z-1:=by omega
 have zz4:z<=1000:=by omega
 have zz0:0<z:=by omega
 have h04:0<4:=by omega
 have dg:(v:Int)<(hand.length:Int):=by omega
 clear ht dj rV DK db cS cT Ai af lI aB dH de z1 z2 AZ
 go_wp2_with fail
 go_loopw [9] (fun i wr=>∃ k:Nat,k<=t.args.length/\i=.int .i64 k/\KidsD w rd w2.heap.size (w2.heap.size+1) v (P+2) d' hand t k wr) (fun i _=>t.args.length-(intOf i).toNat)
 case atStart=>exact ⟨0,Nat.zero_le _,rfl,eD⟩
 case round =>
  clear eD
  obtain ⟨k,hk,rfl,pk,kv,ks,nk,hN,mH,hfk,lY,aS,mf⟩:=hrel
  have dV:=hN.but
  obtain ⟨ka,kc,eks⟩:=hN.ksl
  subst eks
  have e0:=vF dV hblr Db
  have HN:=cH hN;have HFK:=cH hfk;have HLK:=cH lY;have HPK:=cH mH
  obtain ⟨q0,q1,q2,q3,ql,qf⟩:=hN.out.cells
  have ao:=qf 2;clear qf
  have hnk:nk<=15:=by have:=hN.hnk;omega
  have aL:nk+1<=maxLen:=by unfold maxLen;omega
  have eW:(nk+1)*72<=140737488355328:=by omega
  have hk15:k*cst d'<=15*cst d':=Nat.mul_le_mul_right _ (by omega)
  have hQ:(P+2+k*cst d')+cst d'<=1099511627776:=by omega
  clear hfk lY hN mH
  by_cases Cl:k<t.args.length
  ·obtain ⟨ba,oa,uk,dk,esa,hFa,hba,rv,sE,oD⟩:=aE.out k Cl
   subst esa
   rw [js,Option.map_eq_some_iff] at rv
   obtain ⟨tk,d6,rfl⟩:=rv
   obtain ⟨ua,uc,rfl⟩:=kJ oD
   have hbar:=HF.out ba hFa
   have e1:=vF dV hbar sE
   have tG:Rep F wr.drew (jA tk) (.slice ua tk.args.length uc):=(Rep.but dV (fun b hb=>⟨HF.out b hb,hb⟩) oD).drew
   have mz:=(Rep.but dV (fun b hb=>⟨HF.out b hb,hb⟩) D6.out).drew
   have lD:ke d' (hand++tk.args):=HH.out.next HT.out (List.mem_of_getElem? d6)
   have lY:Lim (hand.length+tk.args.length):=by have:=lD.2;simp at this;show _<=_;omega
   have HTK:=cH d6
   have hF5:∀ g,(F g\/wr.drew.heap.size<=g)->g≠rd:=fun g hg=>by
    rcases hg with h | h
    ·exact HF.out g h
    ·have h2:wr.heap.size<=g:=h
     omega
   have C1:=cH (bS F hand tk _ _ wr.drew mz tG lY)
   have BG:=mf.drew
   have C2:=cH (fun a5 c5 w5 (h5:Below wr.drew.heap.size wr.drew w5) (mO:Rep (fun k=>F k\/wr.drew.heap.size<=k) w5 (.sl 77 1 (hand++tk.args).length (qx (hand++tk.args))) (.slice a5 (hand++tk.args).length c5)) =>
    IHD.out (z-1) (hand++tk.args) (fun k=>F k\/wr.drew.heap.size<=k) (.slice a5 (hand.length+tk.args.length) c5) w5 (P+2+k*cst d') zz2 zz3 hQ (BG.below h5) lD hF5 (rep_len mO))
   have OWN:=cH (fun w5 w6 (h5:But (· = rd) wr w5) (h6:But (· = rd) w5 w6)=>own_thru HN.out.ownK (fun g hg=>by have:=(HN.out.blkK g hg).1;omega) h5 h6)
   have NB:=cH (show ¬ (Value.slice ka nk kc).ownBlock=some w2.heap.size from fun e=>by have:=(HN.out.blkK _ e).1;omega)
   have hlt9':(k:Int)<(t.args.length:Int):=by omega
   clear d6 sE oD tG mz lD lY hF5 mf BG
   have zz1:=ZZ1.out
   go_wp2_with fail
   go_region_law (first
    | (refine zc (by rfl) _ _ _ (by rfl) 80 (.agg #[str [],.int .i64 0,.slice none 0 0,.slice none 0 0]) 4 72 Tryz.underlying78 Tryz.infoN rfl h04 (.slice ka nk kc) nk kv (by rfl) (Ao.out.alloc _) _ 1 [str s6,.int .i64 v6,.slice a2 n2 k2,.slice a3 n3 k3] (by rfl) (zM.lit4 #[str s6,.int .i64 v6,.slice a2 n2 k2,.slice a3 n3 k3] rfl (by simp [str,Value.oneCell']) _ rfl) aL eW ?_;intro a' c' w7 dB cq ci;have se:=out_cell cq NB.out q26;have dz:=out_free cq NB.out Ba qf26)
    | (go_simp;go_at_call 44;refine (C2.out _ _ _ dK mO).mono ?_;rintro en6 w6 ⟨b,s6,v6,a2,n2,k2,a3,n3,k3,rfl,cd,aA,og,lH,sJ,me⟩;have q26:=vF cd nM q25;have Ba:=cM Ay cd.size;have qf26:=wd cd nM Ay qf25;have Ao:=cH (OWN.out _ _ dc cd))
    | (go_simp;go_at_call 67;refine C1.out.mono ?_;rintro en5 w5 ⟨a5,c5,rfl,dK,mO⟩;have dc:But (· = rd) wr w5:=but_drew dK;have q25:=vF dc nM q2;have Ay:=cM ql dc.size;have qf25:=wd dc nM ql ao))
   all_goals
    clear zz1
    have hA:=HN.out.kid cL (Nat.lt_succ_self _) BZ ((dc.trans cd).alloc _) (reps_past dc.size me) dB cq ci
    have fh:kL (w7.setCell ⟨w2.heap.size,2,none⟩ (.slice a' (nk+1) c')) rd (P+2+(k+1)*cst d'):=by
     refine kL.mono (kL.but (m:=fun i=>i=w2.heap.size\/(Value.slice ka nk kc).ownBlock=some i) (aA.alloc (.cells #[str s6,.int .i64 v6,.slice a2 n2 k2,.slice a3 n3 k3] 80)) (But.setCell (cq.weak fun i _ h=>.inr h) (.inl (.inl rfl)) _) ?_) (by rw [Nat.succ_mul];omega)
     intro i hi h
     rcases h with h | h
     ·omega
     ·have:=(HN.out.blkK _ h).1;omega
    have CZ:za (zp hand (t.args.take (k+1))) (pk++[b]):=by
     rw [bz HTK.out]
     exact yD _ _ _ _ HFK.out ⟨_,_,rfl,og,by rw [za]⟩
    have iZ:zN (pk++[b])<=(k+1)*bnd d':=by rw [kx,Nat.succ_mul];simp only [zN];omega
    have Ar:Hid (KidsD w rd w2.heap.size (w2.heap.size+1) v (P+2) d' hand t (k+1) (w7.setCell ⟨w2.heap.size,2,none⟩ (.slice a' (nk+1) c'))) :=
     ⟨pk++[b],_,_,_,hA,by simp [HPK.out],CZ,y4 _ _ HLK.out (lvBs_one lH),iZ,fh⟩
    clear hA fh CZ iZ og lH sJ me dB cq ci aA mO
    go_wp2_with fail
    go_roundw
    case rel=>exact ⟨k+1,by omega,by go_num,Ar.out⟩
    case measure=>simp [intOf];omega
  ·obtain rfl:k=t.args.length:=by omega
   have oN:¬ ((t.args.length:Int)<(t.args.length:Int)):=by omega
   have Eb:Hid (za (zp hand t.args) pk):=by have:=HFK.out;rwa [List.take_length] at this
   have HSK:=cH aS
   have i_:YesD w rd w2.heap.size (w2.heap.size+1) v (P+2+t.args.length*cst d') d' hand pk kv (.slice ka nk kc) nk 0 wr :=
    ⟨[],[],.slice none 0 0,0,HN.out,rfl,by simp,by simp [ug],by simp [zN],by simpa using mf⟩
   have HHS:Hid (ke d' hand):=by have:=HH.out.same;rw [List.append_nil] at this;exact this
   clear mf aS HFK Cl dV
   go_wp2_with fail
   clear HN q0 q1 q2 q3 ql ao e0 oN
   go_loopw [10] (fun i wr=>∃ k:Nat,k<=2/\i=.int .i64 k/\YesD w rd w2.heap.size (w2.heap.size+1) v (P+2+t.args.length*cst d') d' hand pk kv (.slice ka nk kc) nk k wr) (fun i _=>2-(intOf i).toNat)
   case atStart=>exact ⟨0,by omega,rfl,i_⟩
   case round =>
    clear i_
    obtain ⟨k,hk,rfl,py,yv,ys,ny,hN,hpy,AR,AL,oP,oC⟩:=hrel
    have dV:=hN.but
    obtain ⟨ya,yc,eys⟩:=hN.ysl
    subst eys
    have HN:=cH hN;have HFY:=cH AR;have HLY:=cH AL;have HPY:=cH hpy;have HSY:=cH oP
    obtain ⟨q0,q1,q2,q3,ql,qf⟩:=hN.out.cells
    have im:=qf 3;clear qf
    have hny:ny<=2:=by have:=hN.hny;omega
    have aL:ny+1<=maxLen:=by unfold maxLen;omega
    have eW:(ny+1)*72<=140737488355328:=by omega
    have hk2c:k*(1+cst d')<=2*(1+cst d'):=Nat.mul_le_mul_right _ (by omega)
    have hQ1:P+2+t.args.length*cst d'+k*(1+cst d')<=1099511627776:=by omega
    clear AR AL hpy oP
    by_cases hlt10:k<2
    ·have hk1c:k*(1+cst d')<=1*(1+cst d'):=Nat.mul_le_mul_right _ (by omega)
     have A0:P+2+t.args.length*cst d'+k*(1+cst d')+1+cst d'<=1099511627776:=by omega
     have hrw:=Rep.but dV (fun b hb=>⟨HF.out b hb,hb⟩) D6.out
     have C1:=cH (vW rd (P+2+t.args.length*cst d'+k*(1+cst d')) 2 wr.drew oC.drew (by omega) (by omega) hQ1)
     have C2:=cH (fun w5 (h5:But (· = rd) wr w5) (p5:Nat) (iQ:p5<2) (mO:kL w5 rd (P+2+t.args.length*cst d'+k*(1+cst d')+1)) =>
      IHD.out (z-1-(p5:Int)) hand F (.slice (some ⟨bl,ol,none⟩) hand.length k0) w5 (P+2+t.args.length*cst d'+k*(1+cst d')+1) (sub_le hz) (sub_lo zz0 iQ) A0 mO HHS.out HF.out (Rep.but h5 (fun b hb=>⟨HF.out b hb,hb⟩) hrw))
     have OWN:=cH (fun w5 w6 (h5:But (· = rd) wr w5) (h6:But (· = rd) w5 w6)=>own_thru HN.out.ownY (fun g hg=>by have:=HN.out.blkY g hg;omega) h5 h6)
     have NB:=cH (show ¬ (Value.slice ya ny yc).ownBlock=some w2.heap.size from fun e=>by have:=HN.out.blkY _ e;omega)
     have hlt10':(k:Int)<2:=by omega
     clear hrw oC hN dV q2
     have zz1:=ZZ1.out
     go_wp2_with fail
     go_region_law (first
      | (refine zc (by rfl) _ _ _ (by rfl) 80 (.agg #[str [],.int .i64 0,.slice none 0 0,.slice none 0 0]) 4 72 Tryz.underlying78 Tryz.infoN rfl h04 (.slice ya ny yc) ny yv (by rfl) (Ao.out.alloc _) _ 1 [str s6,.int .i64 v6,.slice a2 n2 k2,.slice a3 n3 k3] (by rfl) (zM.lit4 #[str s6,.int .i64 v6,.slice a2 n2 k2,.slice a3 n3 k3] rfl (by simp [str,Value.oneCell']) _ rfl) aL eW ?_;intro a' c' w7 dB cq ci;have se:=out_cell cq NB.out q36;have dz:=out_free cq NB.out Ba qf36)
      | (go_simp;go_at_call 44;refine (C2.out _ dc _ iQ mO).mono ?_;rintro en6 w6 ⟨b,s6,v6,a2,n2,k2,a3,n3,k3,rfl,cd,aA,og,lH,sJ,me⟩;have q36:=vF cd nM q35;have Ba:=cM Ay cd.size;have qf36:=wd cd nM Ay qf35;have Ao:=cH (OWN.out _ _ dc cd))
      | (go_simp;go_at_call 23;refine C1.out.mono ?_;rintro en5 w5 ⟨p5,rfl,iQ,dK,mO⟩;have dc:But (· = rd) wr w5:=but_drew2 dK;have q35:=vF dc nM q3;have Ay:=cM ql dc.size;have qf35:=wd dc nM ql im;have zz5:=wrap_sub z p5 zz0 zz4 iQ))
     all_goals
      clear zz1 zz5
      have hA:=HN.out.yes cL (Nat.lt_succ_self _) BZ ((dc.trans cd).alloc _) (reps_past dc.size me) dB cq ci
      have fh:kL (w7.setCell ⟨w2.heap.size,3,none⟩ (.slice a' (ny+1) c')) rd (P+2+t.args.length*cst d'+(k+1)*(1+cst d')):=by
       refine kL.mono (kL.but (m:=fun i=>i=w2.heap.size\/(Value.slice ya ny yc).ownBlock=some i) (aA.alloc (.cells #[str s6,.int .i64 v6,.slice a2 n2 k2,.slice a3 n3 k3] 80)) (But.setCell (cq.weak fun i _ h=>.inr h) (.inl (.inl rfl)) _) ?_) (by rw [Nat.succ_mul];omega)
       intro i hi h
       rcases h with h | h
       ·omega
       ·have:=HN.out.blkY _ h;omega
      have CR:∀ x∈py++[b],kX hand x:=by
       intro x hx
       rcases List.mem_append.1 hx with h | h
       ·exact HFY.out x h
       ·simp at h;subst h;exact og
      have iZ:zN (py++[b])<=(k+1)*bnd d':=by have:=HSY.out;rw [kx,Nat.succ_mul];simp only [zN];omega
      have Ar:Hid (YesD w rd w2.heap.size (w2.heap.size+1) v (P+2+t.args.length*cst d') d' hand pk kv (.slice ka nk kc) nk (k+1) (w7.setCell ⟨w2.heap.size,3,none⟩ (.slice a' (ny+1) c'))) :=
       ⟨py++[b],_,_,_,hA,by simp [HPY.out],CR,y4 _ _ HLY.out (lvBs_one lH),iZ,fh⟩
      clear hA fh CR iZ og lH sJ me dB cq ci aA mO
      go_wp2_with fail
      go_roundw
      case rel=>exact ⟨k+1,by omega,by go_num,Ar.out⟩
      case measure=>simp [intOf];omega
    ·obtain rfl:k=2:=by omega
     obtain ⟨r0,r1,r2,r3,rl,rf⟩:=hN.res.cells
     have al:=rf 0;have Ax:=rf 1;have Aw:=rf 2;have Av:=rf 3;clear rf
     have HRY:=cH oC
     clear oC hN dV
     go_wp2_with fail
     have hN:=HN.out
     obtain ⟨W,hW,s0,s1,s2,s3,cO,fJ,rL⟩:=hN.res.storeB (str []) (.int .i64 v) (.slice ka nk kc) (.slice ya ny yc)
     rw [<- hW]
     refine bodyPost_ret (v:=.agg #[str [],.int .i64 v,.slice ka nk kc,.slice ya ny yc]) (by simp [results,Tryz.results44,go_sem,s0,s1,s2,s3]) rfl ?_
     have hpy:=HPY.out
     obtain ⟨y1,y2,rfl⟩:∃ y1 y2,py=[y1,y2]:=by
      match py,hpy with
      | [a,b],_=>exact ⟨a,b,rfl⟩
     have AL:=HLY.out
     rw [ug,ug] at AL
     have oP:=HSY.out
     have aS:=HSK.out
     simp only [zN] at oP
     have hb15:t.args.length*bnd d'<=15*bnd d':=Nat.mul_le_mul_right _ (by omega)
     have oR:=hN.hnk
     have oM:ny=2:=hN.hny
     subst oM
     refine ⟨.ask v pk y1 y2,[],v,ka,nk,kc,ya,2,yc,rfl,cO _ _ hN.but (cC _),(rL _ _ cL HRY.out).mono (by omega),?_,?_,?_,?_⟩
     ·rw [kX];exact ⟨t,HT.out,Eb.out,HFY.out y1 (by simp),HFY.out y2 (by simp)⟩
     ·rw [lvB];exact ⟨by omega,HLK.out,AL.1,AL.2.1⟩
     ·simp only [zk];omega
     ·rw [wk]
      refine zV.2 ⟨_,_,rfl,zj.2 rfl,zV.2 ⟨_,_,rfl,zj.2 rfl,zV.2 ⟨_,_,rfl,?_,zV.2 ⟨_,_,rfl,?_,zF.2 rfl⟩⟩⟩⟩
      ·rw [<- oR]
       refine (hN.ownK.keep fun g o hg ho=>fJ g o (by have:=(hN.blkK g hg).1;omega) ho).rep (fun g hg=>by have:=(hN.blkK g hg).1;omega) ?_
       exact (Rep.keep fun x o hx ho=>⟨by have:=hx.1;omega,fJ x o (by have:=hx.1;omega) ho⟩).2 _ _ hN.repK
      ·refine (hN.ownY.keep fun g o hg ho=>fJ g o (by have:=hN.blkY g hg;omega) ho).rep (fun g hg=>by have:=hN.blkY g hg;omega) ?_
       exact (Rep.keep fun x o hx ho=>⟨by have:=hx.1;omega,fJ x o (by have:=hx.1;omega) ho⟩).2 _ _ hN.repY
theorem l91Body_any (rd d:Nat) (hd:d<=100):DrawB rd d:=by
 induction d with
 | zero=>exact wR rd 0 hd (fun d' h=>by omega)
 | succ d ih=>exact wR rd (d+1) hd (fun d' h=>by rw [<- Nat.succ.inj h];exact ih (by omega))
def Row8 (w:World) (a:Option Addr) (len cap:Nat) (zs:List Int):Prop :=
 (a=none/\len=0/\cap=0/\zs=[]) \/
 ∃ x,a=some x/\len<=cap/\cap<=maxLen/\zs.length=cap/\(∀ i,i<zs.length->w.cell? (x.add i)=some (.int .u8 (zs.getD i 0)))/\∀ n∈zs,(Lit.int .u8 n).wf=true
theorem Row8.le {w:World} {a:Option Addr} {len cap:Nat} {zs:List Int} (h:Row8 w a len cap zs):len<=cap:=by
 rcases h with ⟨_,rfl,rfl,_⟩ | ⟨x,_,h,_⟩
 ·exact cC _
 ·exact h
theorem Row8.bytes {w:World} {a:Option Addr} {len cap:Nat} {zs:List Int} (h:Row8 w a len cap zs) (n:Nat) (hn:n<=len) :
 n=0\/∃ b o,a=some ⟨b,o,none⟩/\b<w.heap.size/\∀ k,k<n->∃ x:Nat,x<256/\w.cell? ⟨b,o+k,none⟩=some (.int .u8 x):=by
 rcases Nat.eq_zero_or_pos n with h0 | h0
 ·exact .inl h0
 right
 rcases h with ⟨_,rfl,_,_⟩ | ⟨x,rfl,hl,_,hz,hc,hw⟩
 ·omega
 obtain ⟨b,o,sp⟩:=x
 have h1:=hc 0 (by omega)
 have hsp:sp=none:=by
  cases sp with
  | none=>rfl
  | some q=>simp [World.cell?,Addr.add] at h1;split at h1 <;> simp_all
 subst hsp
 have er:∀ i,(⟨b,o,none⟩:Addr).add i=⟨b,o+i,none⟩:=fun i=>by
  unfold Addr.add;split <;> simp_all
 have h2:=cD w _ h1
 refine ⟨b,o,rfl,by rw [er] at h2;exact h2,fun k hk=>?_⟩
 have hkz:k<zs.length:=by omega
 have h3:=hc k hkz
 rw [er] at h3
 have hm:zs.getD k 0∈zs:=by
  rw [List.getD_eq_getElem?_getD,List.getElem?_eq_getElem hkz];exact List.getElem_mem hkz
 have mU:=hw _ hm
 clear hm
 generalize zs.getD k 0=z at *
 have hb:0<=z/\z<256:=by
  simp [Lit.wf,IntKind.min,IntKind.max,IntKind.bits,IntKind.signed] at mU
  omega
 refine ⟨z.toNat,by omega,?_⟩
 rw [h3,Int.toNat_of_nonneg hb.1]
theorem l6Open_any (a:Option Addr) (len cap:Nat) (zs:List Int) (w:World) (h:Row8 w a len cap zs) (hl:len<=1048576) :
 Calls Tryz.prog 10 #[.slice a len cap] w fun en w'=>en=.returned (.pointer (some ⟨w.heap.size,0,none⟩))/\Below w.heap.size w w'/\kL w' w.heap.size 0/\w.heap.size<w'.heap.size:=by
 have eX:=h.le
 have H:=cH h;clear h
 by_cases h2:2000<len
 ·have h2':(2000:Int)<(len:Int):=by omega
  have h3:(2000:Int)<=(cap:Int):=by omega
  obtain ⟨b,o,ea,hb,hk⟩:=(H.out.bytes 2000 (by omega)).resolve_left (by omega)
  subst ea
  have HK:=cH hk;clear hk
  go_enter Tryz.func10,Tryz.ntmps10
  go_wp2_with fail
  go_ret
  refine ⟨rfl,(cE _ _).alloc (cC _) _,?_,by simp⟩
  refine ⟨_,2000,_,0,zT _ _,cC _,cC _,.inr ⟨b,o,rfl,hb,fun k hk=>?_⟩⟩
  obtain ⟨x,hx,hc⟩:=HK.out k hk
  exact ⟨x,hx,zX hc⟩
 ·have h2':¬ (2000:Int)<(len:Int):=by omega
  go_enter Tryz.func10,Tryz.ntmps10
  go_wp2_with fail
  go_ret
  refine ⟨rfl,(cE _ _).alloc (cC _) _,?_,by simp⟩
  refine ⟨_,len,_,0,zT _ _,cC _,by omega,?_⟩
  rcases H.out.bytes len (cC _) with h0 | ⟨b,o,ea,hb,hk⟩
  ·exact .inl h0
  ·refine .inr ⟨b,o,ea,hb,fun k iD=>?_⟩
   obtain ⟨x,hx,hc⟩:=hk k iD
   exact ⟨x,hx,zX hc⟩
theorem type_ok {s:Bs} (h:s∈jU):(zQ s).2=true/\s.length<=100:=by
 simp only [jU,List.mem_cons,List.not_mem_nil,or_false] at h
 rcases h with rfl | rfl | rfl | rfl | rfl | rfl | rfl | rfl <;> exact ⟨by decide,by decide⟩
theorem wrap_one (p:Nat) (h:p<3):IntKind.i64.wrap (1+(p:Int))=1+p:=yz _ (by omega) (by omega)
theorem sum_le (p:Nat) (h:p<3):(1:Int)+(p:Int)<=((3:Nat):Int):=by omega
theorem sum_lo (p:Nat):(-1000:Int)<=(1:Int)+(p:Int):=by omega
theorem cst3:cst 3=6448:=rfl
def StratD (rd Q:Nat) (s:Bs) (w:World) (en:Ending) (w':World):Prop :=
 ∃ b:Bd,en=.returned (str (k_ b))/\But (· = rd) w w'/\kL w' rd Q/\kX (zQ s).1.args b/\lvB b/\zk b<=5220
set_option maxRecDepth 100000 in
theorem yA (rd P:Nat) (s:Bs) (rJ:s.length<=100) (hh:ke 3 (zQ s).1.args) (w:World) (h:kL w rd P) (hP:P+6500<=1099511627776) :
 Calls Tryz.prog 26 #[.pointer (some ⟨rd,0,none⟩),str s] w (StratD rd (P+6449) s w):=by
 have cL:=h.lt
 have H:=cH h;have HH:=cH hh
 clear h hh
 go_enter Tryz.func26,Tryz.ntmps26
 go_wp2_with fail
 refine (xl s (show _<=_ by omega) w).mono ?_
 rintro en w1 ⟨tv,rfl,cT,dy⟩
 obtain ⟨ta,tc,etv⟩:=kJ dy
 subst etv
 have dH:=H.out.below (cT.mono (cC _))
 rw [qE] at dy
 generalize hT:(zQ s).1=t at *
 have z1:=cT.size
 have hcT:(w1.alloc (.cells #[.slice ta t.args.length tc] 77)).cell? ⟨w1.heap.size,0,none⟩=some (.slice ta t.args.length tc):=by simp
 have hne:w1.heap.size≠rd:=by omega
 have hF:∀ k,w.heap.size<=k->k≠rd:=fun k hk=>by omega
 have AG:Rep (w.heap.size<=·) (w1.alloc (.cells #[.slice ta t.args.length tc] 77)) (.sl 77 1 t.args.length (qx t.args)) (.slice ta t.args.length tc):=(Rep.keep fun b o h ho=>⟨h,zY ho⟩).1 _ _ dy
 have BJ:=dH.alloc (.cells #[.slice ta t.args.length tc] 77)
 have C1:=cH (vW rd P 3 _ BJ.drew (by omega) (by omega) (by omega))
 have C2:=cH (fun w5 (h5:But (· = rd) (w1.alloc (.cells #[.slice ta t.args.length tc] 77)) w5) (p5:Nat) (iQ:p5<3) (mO:kL w5 rd (P+1)) =>
  l91Body_any rd 3 (by omega) (1+(p5:Int)) t.args (w.heap.size<=·) (.slice ta t.args.length tc) w5 (P+1) (sum_le p5 iQ) (sum_lo p5) (by rw [cst3];omega) mO HH.out hF (Rep.but h5 (fun b hb=>⟨hF b hb,hb⟩) AG))
 have da:=cH cT
 have HTT:=cH hT
 clear hT dy AG BJ dH cT hF
 go_wp2_with fail
 go_region_held3 (fun w'=>w'.cell? ⟨w1.heap.size,0,none⟩=some (.slice ta t.args.length tc))
  (first
   | exact hcT
   | exact hcL
   | exact hcB
   | exact hcP
   | go_keep)
  (first
   | (go_at_call 43;refine (l3Text_any 5220 b sJ (by omega) lH _ w6 _ _ _ _ me).mono ?_;rintro en7 w7 ⟨rfl,cq⟩;have hcL:=(cq.cell (cD w6 ⟨w1.heap.size,0,none⟩ hcB)).trans hcB)
   | (go_at_call 44;refine (C2.out _ dc _ iQ mO).mono ?_;rintro en6 w6 ⟨b,s6,v6,a2,n2,k2,a3,n3,k3,rfl,cd,aA,og,lH,sJ,me⟩;have hcB:=vF cd hne hcP)
   | (go_at_call 23;refine C1.out.mono ?_;rintro en5 w5 ⟨p5,rfl,iQ,dK,mO⟩;have dc:=but_drew2 dK;have hcP:=vF dc hne hcT;have zz:=wrap_one p5 iQ))
 go_wp2_with fail
 go_ret
 have dm:But (· = rd) w (w1.alloc (.cells #[.slice ta t.args.length tc] 77)):=(But.ofBelow da.out).alloc _
 refine ⟨b,rfl,((dm.trans dc).trans cd).trans (But.ofBelow cq),(aA.below cq).mono (by rw [cst3];omega),?_,lH,sJ⟩
 rw [HTT.out];exact og
theorem gK {s:Bs} (co:(zQ s).2=true):ke 3 (zQ s).1.args:=by
 have:=yB (qI co)
 exact ⟨this.1,by have:=this.2;omega⟩
theorem gD (rd P:Nat) (s:Bs) (hs:s∈jU) (w:World) (h:kL w rd P) (hP:P+6500<=1099511627776) :
 Calls Tryz.prog 26 #[.pointer (some ⟨rd,0,none⟩),str s] w (StratD rd (P+6449) s w) :=
 yA rd P s (type_ok hs).2 (gK (type_ok hs).1) w h hP
def Given (rd Q:Nat) (w:World) (en:Ending) (w':World):Prop :=
 ∃ s text:Bs,en=.returned (.tuple #[str s,str text])/\s.length<=100/\text.length<=100000/\But (· = rd) w w'/\kL w' rd Q
theorem odd_len {s:Bs} (h:s∈jU++yr):s.length<=100:=by
 simp only [jU,yr,List.mem_append,List.mem_cons,List.not_mem_nil,or_false] at h
 rcases h with (rfl | rfl | rfl | rfl | rfl | rfl | rfl | rfl) | (rfl | rfl | rfl | rfl | rfl | rfl | rfl) <;> decide
theorem bad_len {s:Bs} (h:s∈xK):s.length<=100:=by
 simp only [xK,List.mem_cons,List.not_mem_nil,or_false] at h
 rcases h with rfl | rfl | rfl | rfl | rfl | rfl | rfl | rfl <;> decide
set_option maxRecDepth 100000 in
theorem l91Given_any (rd P:Nat) (w:World) (h:kL w rd P) (hP:P+7000<=1099511627776) :
 Calls Tryz.prog 11 #[.pointer (some ⟨rd,0,none⟩)] w (Given rd (P+6500) w):=by
 go_enter Tryz.func11,Tryz.ntmps11
 go_wp2_with fail
 refine (p9 rd P w h (by omega)).mono ?_
 rintro en w1 ⟨s,hs,rfl,cT,dH⟩
 have HS:=cH hs;clear hs h
 go_wp2_with fail
 refine (vW rd (P+1) 16 w1 dH (by omega) (by omega) (by omega)).mono ?_
 rintro en w2 ⟨v,rfl,hv,cS,de⟩
 have mK:=cT.trans cS
 by_cases io:v=0
 ·subst io
  clear dH cT cS
  go_wp2_with fail
  refine (l91Odd_any rd (P+2) w2 de (by omega)).mono ?_
  rintro en w3 ⟨s3,mG,rfl,cr,rO⟩
  have HS3:=cH mG;clear mG de
  have hlt3:=rO.lt
  go_wp2_with fail
  refine (pG rd (P+2+2) (.slice (some ⟨w3.heap.size,0,none⟩) 8 8) xK _ (rO.alloc (.cells (xK.map str).toArray 9)) (yI.newAt hlt3 xK 8 rfl _ (w3.heap.size) rfl) (by decide) (by decide) (by omega)).mono ?_
  rintro en w4 ⟨s4,mh,rfl,dJ,tH⟩
  have HS4:=cH mh;clear mh
  go_wp2_with fail
  refine bodyPost_ret (v:=.tuple #[str s3,str s4]) (by simp [results,Tryz.results11,go_sem]) rfl ?_
  exact ⟨s3,s4,rfl,odd_len HS3.out,cR (bad_len HS4.out) (by omega),(mK.trans cr).trans (((But.refl _ w3).alloc _).trans dJ),tH.mono (by omega)⟩
 ·have m8:((v:Int) == 0)=false:=by rw [beq_eq_false_iff_ne];omega
  clear dH cT cS
  go_wp2_with fail
  refine (gD rd (P+2) s HS.out w2 de (by omega)).mono ?_
  rintro en w3 ⟨b,rfl,cr,rO,hf,eJ,hsz⟩
  have cA:=qP b eJ
  clear hf
  go_wp2_with fail
  refine bodyPost_ret (v:=.tuple #[str s,str (k_ b)]) (by simp [results,Tryz.results11,go_sem]) rfl ?_
  exact ⟨s,k_ b,rfl,(type_ok HS.out).2,by omega,mK.trans cr,rO.mono (by omega)⟩
theorem but_new {rd:Nat} {w w1 w2:World} (h1:Below w.heap.size w w1) (dT:w.heap.size<=rd) (h2:But (· = rd) w1 w2):Below w.heap.size w w2 :=
 h1.trans (h2.toBelow h1.size fun i hi e=>by omega)
theorem strat_len {rd Q:Nat} {s:Bs} {w w':World} {en:Ending} (h:StratD rd Q s w en w'):∃ m:Bs,en=.returned (str m)/\m.length<=100000/\But (· = rd) w w'/\kL w' rd Q:=by
 obtain ⟨b,rfl,h1,h2,h3,h4,h5⟩:=h
 have:=qP b h4
 exact ⟨_,rfl,by omega,h1,h2⟩
theorem jl.cells {w:World} {v:Value} {us:List (Value×Value)} {xs:wi} (h:jl w v us xs) {i:Nat} {u:Value×Value} (hu:us[i]? = some u):∃ g c,v=.slice (some ⟨g,0,none⟩) us.length c/\w.cell? ⟨g,i*2,none⟩=some u.1/\w.cell? ⟨g,i*2+1,none⟩=some u.2:=by
 obtain ⟨h1,h2⟩:=plC_at us i u hu
 obtain ⟨g,c,e,k1⟩:=h.own.at h1
 obtain ⟨g',c',e',k2⟩:=h.own.at h2
 rw [e] at e'
 simp only [Value.slice.injEq,Option.some.injEq,Addr.mk.injEq,true_and] at e'
 obtain ⟨⟨rfl,_⟩,_⟩:=e'
 exact ⟨g,c,e,k1,k2⟩
theorem jl.slice {w:World} {v:Value} {us:List (Value×Value)} {xs:wi} (h:jl w v us xs):∃ a c,v=.slice a us.length c:=h.own.slice

def PlsPost (o:Option (List Pl)) (w:World) (en:Ending) (w':World):Prop :=
 ∃ v us,en=.returned (.tuple #[v,.bool o.isSome])/\Below w.heap.size w w'/\xY w' (o.getD []) v us/\∀ g,PlB v us g->w.heap.size<=g
theorem PlaysQ.views {o:Option (List Pl)} {w w':World} {en:Ending} (h:PlaysQ o w en w'):PlsPost o w en w':=by
 obtain ⟨a,n,c,us,h1,h2,h3⟩:=h
 exact ⟨_,us,h1,h2,h3.pls,h3.new⟩
theorem sameTexts_any (a a':Option Addr) (c c':Nat) (xs:List Bs) (w:World) (h:jQ w a xs) (h':jQ w a' xs) (hx:xs.length<=16777216) :
 Calls Tryz.prog 15 #[.slice a xs.length c,.slice a' xs.length c'] w fun en w'=>en=.returned (.bool true)/\Below w.heap.size w w':=by
 have H:=cH h;have H':=cH h';clear h h'
 go_enter Tryz.func15,Tryz.ntmps15
 go_wp2_with fail
 go_loopw [5] (fun i wr=>∃ k:Nat,k<=xs.length/\i=.int .i64 k/\Below w.heap.size w wr) (fun i _=>xs.length-(intOf i).toNat)
 case atStart=>exact ⟨0,Nat.zero_le _,rfl,cE _ _⟩
 case round =>
  obtain ⟨k,hk,rfl,hb⟩:=hrel
  by_cases cL:k<xs.length
  ·obtain ⟨s,hks⟩:∃ s,xs[k]? = some s:=⟨xs[k],by simp [cL]⟩
   obtain ⟨b,o,e,hc⟩:=H.out.below hb k s hks
   obtain ⟨b2,o2,e2,fV⟩:=H'.out.below hb k s hks
   subst e;subst e2
   clear hks
   have d8:(k:Int)<(xs.length:Int):=by omega
   have hne:(s == s)=true:=by simp
   have HB:=cH hb;clear hb
   go_wp2_with fail
   go_quiet (fail)
   go_wp2_with fail
   go_roundw
   case rel=>exact ⟨k+1,by omega,by go_num,kZ HB.out _⟩
   case measure=>simp [intOf];omega
  ·obtain rfl:k=xs.length:=by omega
   go_wp2_with fail
   go_ret
   exact ⟨rfl,hb⟩
theorem sameInts_any (a a':Option Addr) (n c c':Nat) (xs:List Int) (w:World) (h:Own w 3 1 (.slice a n c) n (xs.map (Value.int .i64))) (h':Own w 3 1 (.slice a' n c') n (xs.map (Value.int .i64))) (hn:n<=16777216) :
 Calls Tryz.prog 16 #[.slice a n c,.slice a' n c'] w fun en w'=>en=.returned (.bool true)/\Below w.heap.size w w':=by
 have H:=cH h;have H':=cH h';clear h h'
 go_enter Tryz.func16,Tryz.ntmps16
 go_wp2_with fail
 go_loopw [5] (fun i wr=>∃ k:Nat,k<=n/\i=.int .i64 k/\Below w.heap.size w wr) (fun i _=>n-(intOf i).toNat)
 case atStart=>exact ⟨0,Nat.zero_le _,rfl,cE _ _⟩
 case round =>
  obtain ⟨k,hk,rfl,hb⟩:=hrel
  by_cases cL:k<n
  ·have ho:Own wr 3 1 (.slice a n c) n (xs.map (Value.int .i64)):=H.out.keep fun g o hg hh=>by rw [hb.block g (zZ hh)];exact hh
   have fk:Own wr 3 1 (.slice a' n c') n (xs.map (Value.int .i64)):=H'.out.keep fun g o hg hh=>by rw [hb.block g (zZ hh)];exact hh
   obtain ⟨g,e,hg,_,⟨u,Bv,hu⟩,_⟩:=ho.open1 cL
   obtain ⟨g',e',dF,_,⟨u',oY,mL⟩,_⟩:=fk.open1 cL
   subst e;subst e'
   rw [Bv] at oY
   obtain rfl:=Option.some.inj oY
   rw [List.getElem?_map,Option.map_eq_some_iff] at Bv
   obtain ⟨x,_,rfl⟩:=Bv
   have d8:(k:Int)<(n:Int):=by omega
   have hne:(x == x)=true:=by simp
   have hne':(x != x)=false:=by simp
   have HB:=cH hb;clear hb ho fk oY
   go_wp2_with fail
   go_quiet (fail)
   go_wp2_with fail
   go_roundw
   case rel=>exact ⟨k+1,by omega,by go_num,kZ HB.out _⟩
   case measure=>simp [intOf];omega
  ·obtain rfl:k=n:=by omega
   go_wp2_with fail
   go_ret
   exact ⟨rfl,hb⟩
theorem uo (log:List (Bs×Int)) (mv pt mv' pt':Value) (w:World) (h:zo w log mv pt) (h':zo w log mv' pt') (hl:log.length<=100000) :
 Calls Tryz.prog 7 #[.agg #[mv,pt],.agg #[mv',pt']] w fun en w'=>en=.returned (.bool true)/\Below w.heap.size w w':=by
 obtain ⟨a1,c1,rfl⟩:=h.1.slice
 obtain ⟨a2,c2,rfl⟩:=h.2.slice
 obtain ⟨a1',c1',rfl⟩:=h'.1.slice
 obtain ⟨D4,DY,rfl⟩:=h'.2.slice
 have H:=cH (cB h h');clear h h'
 have C1:Hid (∀ w0,Below w.heap.size w w0->Calls Tryz.prog 15 #[.slice a1 log.length c1,.slice a1' log.length c1'] w0 fun en w'=>en=.returned (.bool true)/\Below w0.heap.size w0 w'):=by
  show ∀ w0,_->_
  intro w0 hb
  have k1:=(H.out.1.below hb).1
  have k2:=(H.out.2.below hb).1
  have e:qg log=(log.map (·.1)).map str:=by simp [qg]
  rw [e] at k1 k2
  have:=sameTexts_any a1 a1' c1 c1' (log.map (·.1)) w0 k1.strs k2.strs (by simp;omega)
  rwa [List.length_map] at this
 have C2:Hid (∀ w0,Below w.heap.size w w0->Calls Tryz.prog 16 #[.slice a2 log.length c2,.slice D4 log.length DY] w0 fun en w'=>en=.returned (.bool true)/\Below w0.heap.size w0 w'):=by
  show ∀ w0,_->_
  intro w0 hb
  have k1:=(H.out.1.below hb).2
  have k2:=(H.out.2.below hb).2
  have e:qD log=(log.map (·.2)).map (Value.int .i64):=by simp [qD]
  rw [e] at k1 k2
  exact sameInts_any a2 D4 log.length c2 DY (log.map (·.2)) w0 k1 k2 (by omega)
 clear H
 go_enter Tryz.func7,Tryz.ntmps7
 go_wp2_with fail
 have mM:Below w.heap.size w ((w.alloc (.cells #[.slice a1 log.length c1,.slice a2 log.length c2] 28)).alloc (.cells #[.slice a1' log.length c1',.slice D4 log.length DY] 28)):=((cE _ _).alloc (cC _) _).alloc (by rw [zK];omega) _
 (with_reducible refine (C1.out _ mM).mono ?_)
 rintro en w1 ⟨rfl,cT⟩
 have hbb:=zzT mM cT
 have d1:w1.cell? ⟨w.heap.size,1,none⟩=some (.slice a2 log.length c2):=by rw [cT.cell (by simp;omega)];simp
 have d2:w1.cell? ⟨w.heap.size+1,1,none⟩=some (.slice D4 log.length DY):=by rw [cT.cell (by simp)];simp
 have HB:=cH hbb;clear hbb cT mM
 go_wp2_with fail
 (with_reducible refine (C2.out _ HB.out).mono ?_)
 rintro en w2 ⟨rfl,cS⟩
 have dS:=cH (zzT HB.out cS);clear cS
 go_wp2_with fail
 go_ret
 exact ⟨rfl,dS.out⟩

theorem uz (u:Pl):(u.map (·.1)).zip (u.map (·.2))=u:=by
 induction u with
 | nil=>rfl
 | cons x u ih=>rw [List.map_cons,List.map_cons,List.zip_cons_cons,ih]
theorem specStrat_ok {s text:Bs} {b:Bd} (h:zI s text=some b):(zQ s).2=true:=by
 unfold zI at h
 by_cases hq:(zQ s).2=false\/2000<text.length
 ·rw [if_pos hq] at h;simp at h
 ·cases hz:(zQ s).2 with
  | true=>rfl
  | false=>exact absurd (Or.inl hz) hq
theorem follow_in {s text:Bs} {b:Bd} {u:Pl} (h:zI s text=some b) (hu:InPl (zQ s).1 b u):qa s text (u.map (·.1)) (u.map (·.2))=true:=by
 unfold qa
 rw [h]
 simp only
 unfold jf jF
 rw [uz,specStrat_ok h,hu.lg,decide_eq_true hu.fo]
 unfold jh
 have hv:=hu.ok
 unfold zL at hv
 rw [Bool.and_eq_true] at hv
 rw [uz,hv.2]
 simp only [List.length_map,decide_eq_true (jV hu.ok)]
 simp
theorem vR.ms {F:Nat->Prop} {w:World} {u:Pl} {x:Value} (h:vR F w u x):uD F w (u.map (·.1)) x:=by
 unfold uD
 unfold vR at h
 rw [List.length_map,List.map_map]
 exact h
theorem vM.ps {F:Nat->Prop} {w:World} {u:Pl} {x:Value} (h:vM F w u x):uC F w (u.map (·.2)) x:=by
 unfold uC
 unfold vM at h
 rw [List.length_map,List.map_map]
 exact h



theorem in_of_follow {s text:Bs} {u:Pl} (h:qa s text (u.map (·.1)) (u.map (·.2))=true):∃ b,zI s text=some b/\InPl (zQ s).1 b u/\jf s (u.map (·.1)) (u.map (·.2))=true:=by
 unfold qa at h
 cases hb:zI s text with
 | none=>rw [hb] at h;simp at h
 | some b =>
   rw [hb] at h
   simp only [Bool.and_eq_true,decide_eq_true_eq,uz] at h
   have h1:=(bU (xi h.1)).2.1
   have h2:=h.1
   unfold jf at h2
   rw [Bool.and_eq_true,uz] at h2
   rw [uz] at h1
   exact ⟨b,rfl,⟨h1,h2.2,h.2⟩,h.1⟩

structure PtI (X:World) (g:Nat) (u:Pl) (k:Nat) (a5:Option Addr) (c5:Nat) (a6:Option Addr) (c6:Nat) (wr:World):Prop where
 below:Below X.heap.size X wr
 box:wr.heap[g]? = some (.cells #[.slice a5 k c5,.slice a6 k c6] 28 (0,0))
 o5:Own wr 9 1 (.slice a5 k c5) k (qg u)
 o6:Own wr 3 1 (.slice a6 k c6) k (qD u)
 gw:X.heap.size<g
 f5:∀ i,(Value.slice a5 k c5).ownBlock=some i->X.heap.size<i/\i≠g
 f6:∀ i,(Value.slice a6 k c6).ownBlock=some i->X.heap.size<i/\i≠g
 ap:∀ i,(Value.slice a5 k c5).ownBlock=some i->(Value.slice a6 k c6).ownBlock≠some i
 res:wr.heap[X.heap.size]? = some (.cells #[.slice none 0 0,.slice none 0 0] 28 (0,0))
theorem PtI.half {X:World} {g:Nat} {u:Pl} {k:Nat} {a5:Option Addr} {c5:Nat} {a6:Option Addr} {c6:Nat} {wr:World} (h:PtI X g u k a5 c5 a6 c6 wr) {s:Bs}
 {a7:Option Addr} {c7:Nat} {w7:World} {o:Obj} (ho:Own w7 9 1 (.slice a7 (k+1) c7) (k+1) (qg u++[str s])) (hb:But (fun b=>(Value.slice a5 k c5).ownBlock=some b) (wr.alloc o) w7)
 (hg:∀ i,(Value.slice a7 (k+1) c7).ownBlock=some i->(Value.slice a5 k c5).ownBlock=some i\/i=wr.heap.size+1) :
 ∃ W7,w7.setCell ⟨g,0,none⟩ (.slice a7 (k+1) c7)=W7/\Below X.heap.size X W7/\W7.heap[g]? = some (.cells #[.slice a7 (k+1) c7,.slice a6 k c6] 28 (0,0)) /\
   Own W7 9 1 (.slice a7 (k+1) c7) (k+1) (qg u++[str s])/\Own W7 3 1 (.slice a6 k c6) k (qD u) /\
   (∀ i,(Value.slice a7 (k+1) c7).ownBlock=some i->X.heap.size<i/\i≠g)/\(∀ i,(Value.slice a7 (k+1) c7).ownBlock=some i->(Value.slice a6 k c6).ownBlock≠some i)/\W7.heap[X.heap.size]? = some (.cells #[.slice none 0 0,.slice none 0 0] 28 (0,0)):=by
 have hz:=h.below.size
 have tx:=zZ h.box
 have n6:=h.gw
 have AF:=zZ h.res
 have tT:∀ i,(Value.slice a6 k c6).ownBlock=some i->i<wr.heap.size:=fun i hi=>h.o6.lt hi
 have dz:∀ i,(Value.slice a7 (k+1) c7).ownBlock=some i->X.heap.size<i/\i≠g:=fun i hi=>by
  rcases hg i hi with e | e
  ·exact h.f5 i e
  ·omega
 have t6:w7.heap[g]? = some (.cells #[.slice a5 k c5,.slice a6 k c6] 28 (0,0)) :=
  (hb.block g (by rw [zK];omega) (fun e=>(h.f5 g e).2 rfl)).trans (zY h.box)
 refine ⟨_,rfl,?_,?_,?_,?_,dz,fun i hi=>?_,?_⟩
 ·exact ((h.below.alloc hz o).trans (hb.toBelow (by rw [zK];omega) fun i hi e=>by have:=(h.f5 i e).1;omega)).setCell (p:=⟨g,0,none⟩) (Nat.le_of_lt n6) _
 ·rw [kH t6];rfl
 ·exact ho.keep fun i x hi hx=>by rw [cF _ _ _ _ (by show i≠g;exact (dz i hi).2)];exact hx
 ·exact h.o6.keep fun i x hi hx=>by
   rw [cF _ _ _ _ (by show i≠g;exact (h.f6 i hi).2),hb.block i (by rw [zK];have:=tT i hi;omega) (fun e=>h.ap i e hi)];exact zY hx
 ·rcases hg i hi with e | e
  ·exact h.ap i e
  ·intro e6;have:=tT i e6;omega
 ·rw [cF _ _ _ _ (by show X.heap.size≠g;omega),hb.block _ (by rw [zK];omega) (fun e=>by have:=(h.f5 _ e).1;omega)];exact zY h.res
theorem PtI.next {X:World} {g:Nat} {u:Pl} {k:Nat} {a7:Option Addr} {c7:Nat} {a6:Option Addr} {c6:Nat} {wr:World} {s:Bs} {z:Int} (dr:Below X.heap.size X wr) (n6:X.heap.size<g)
 (mi:wr.heap[g]? = some (.cells #[.slice a7 (k+1) c7,.slice a6 k c6] 28 (0,0)))
 (o5:Own wr 9 1 (.slice a7 (k+1) c7) (k+1) (qg u++[str s])) (o6:Own wr 3 1 (.slice a6 k c6) k (qD u))
 (f5:∀ i,(Value.slice a7 (k+1) c7).ownBlock=some i->X.heap.size<i/\i≠g) (f6:∀ i,(Value.slice a6 k c6).ownBlock=some i->X.heap.size<i/\i≠g) (ap:∀ i,(Value.slice a7 (k+1) c7).ownBlock=some i->(Value.slice a6 k c6).ownBlock≠some i)
 (res:wr.heap[X.heap.size]? = some (.cells #[.slice none 0 0,.slice none 0 0] 28 (0,0)))
 {a8:Option Addr} {c8:Nat} {w8:World} {o:Obj} (ho:Own w8 3 1 (.slice a8 (k+1) c8) (k+1) (qD u++[.int .i64 z])) (hb:But (fun b=>(Value.slice a6 k c6).ownBlock=some b) (wr.alloc o) w8)
 (hg:∀ i,(Value.slice a8 (k+1) c8).ownBlock=some i->(Value.slice a6 k c6).ownBlock=some i\/i=wr.heap.size+1) :
 PtI X g (u++[(s,z)]) (k+1) a7 c7 a8 c8 (w8.setCell ⟨g,1,none⟩ (.slice a8 (k+1) c8)):=by
 have hz:=dr.size
 have tx:=zZ mi
 have AF:=zZ res
 have tS:∀ i,(Value.slice a7 (k+1) c7).ownBlock=some i->i<wr.heap.size:=fun i hi=>o5.lt hi
 have C6:∀ i,(Value.slice a8 (k+1) c8).ownBlock=some i->X.heap.size<i/\i≠g:=fun i hi=>by
  rcases hg i hi with e | e
  ·exact f6 i e
  ·omega
 have eN:w8.heap[g]? = some (.cells #[.slice a7 (k+1) c7,.slice a6 k c6] 28 (0,0)) :=
  (hb.block g (by rw [zK];omega) (fun e=>(f6 g e).2 rfl)).trans (zY mi)
 refine ⟨?_,?_,?_,?_,n6,f5,C6,fun i hi e8=>?_,?_⟩
 ·exact ((dr.alloc hz o).trans (hb.toBelow (by rw [zK];omega) fun i hi e=>by have:=(f6 i e).1;omega)).setCell (p:=⟨g,1,none⟩) (Nat.le_of_lt n6) _
 ·rw [kH eN];rfl
 ·rw [xG]
  exact o5.keep fun i x hi hx=>by
   rw [cF _ _ _ _ (by show i≠g;exact (f5 i hi).2),hb.block i (by rw [zK];have:=tS i hi;omega) (fun e=>ap i hi e)];exact zY hx
 ·have e:qD (u++[(s,z)])=qD u++[.int .i64 z]:=by simp [qD]
  rw [e]
  exact ho.keep fun i x hi hx=>by rw [cF _ _ _ _ (by show i≠g;exact (C6 i hi).2)];exact hx
 ·rcases hg i e8 with e | e
  ·exact ap i hi e
  ·have:=tS i hi;omega
 ·rw [cF _ _ _ _ (by show X.heap.size≠g;omega),hb.block _ (by rw [zK];omega) (fun e=>by have:=(f6 _ e).1;omega)];exact zY res
theorem vP {w:World} {e:TypeId} {sz n:Nat} {v:Value} {xs:List Value} (h:Own w e sz v n xs):Own w.drew e sz v n xs:=h.keep fun _ _ _ hx=>hx
def wn (W:World) (g:Nat) (l:Pl) (mv pt:Value):Prop:=∀ y,Below W.heap.size W y->(y.cell? ⟨g,0,none⟩=some mv/\y.cell? ⟨g,1,none⟩=some pt)/\zo y l mv pt
theorem wn.mk' {w W:World} {l:Pl} {mv pt:Value} {T:TypeId} (hb:Below w.heap.size w W) (hx:W.heap[w.heap.size]? = some (.cells #[mv,pt] T (0,0))) (hp:zo w l mv pt):wn W w.heap.size l mv pt:=fun y hy=>by
 obtain ⟨k0,k1,_,_⟩:=kp ((hy.block _ (zZ hx)).trans hx)
 exact ⟨⟨k0,k1⟩,(hp.below hb).below hy⟩
theorem wn.next {W W':World} {g:Nat} {l:Pl} {mv pt:Value} (h:wn W g l mv pt) (hb:Below W.heap.size W W'):wn W' g l mv pt:=fun y hy=>h y (zzT hb hy)
theorem zo.cellM {w:World} {l:Pl} {mv pt:Value} (h:zo w l mv pt) {i:Nat} {x:Bs×Int} (hi:l[i]? = some x):∃ g c,mv=.slice (some ⟨g,0,none⟩) l.length c/\w.cell? ⟨g,i,none⟩=some (str x.1) :=
 h.1.at (by simp [qg,hi])
def pls (env:List Clo):List zx:=env.map fun e=>(e.begun,e.path)
mutual
def xp (D:Prop) (t:Ty) (B:Bd) (v:Pl):Clo->Bool->Ty->Prop
 | .mk b env g p,o,a=>(D/\p=[])\/((∃ q j z,j<10/\p=q++[jC j]/\v[g]? = some (113::q,z)/\qZ (113::q) = !o)/\atT t p=some a/\wfB b/\(o=true->∃ l ss y n bg,kw t B v g=some (.ask l ss y n,pls env,bg)/\ss[lastD p]? = some b))/\∃ h,z9 D t B v env (!o) g h/\kX (h++a.args) b
def z9 (D:Prop) (t:Ty) (B:Bd) (v:Pl):List Clo->Bool->Nat->List Ty->Prop
 | [],_,_,h=>h=[]
 | e::es,o,m,h=>∃ a h',h=a::h'/\xp D t B v e o a/\((D/\e.path=[])\/(e.begun<m/\e.begun∈kB v o m))/\z9 D t B v es o m h'
end
theorem z9.mono {D:Prop} {t:Ty} {B:Bd} {v:Pl} {o:Bool} {m m':Nat} (hm:m<=m') (m7:∀ i,i∈kB v o m->i∈kB v o m'):∀ (env:List Clo) (h:List Ty),z9 D t B v env o m h->z9 D t B v env o m' h
 | [],h,k=>by rw [z9] at k ⊢;exact k
 | e::es,h,k=>by
   rw [z9] at k ⊢
   obtain ⟨a,h',e1,k1,k2,k4⟩:=k
   exact ⟨a,h',e1,k1,k2.imp id fun ⟨x,y⟩=>⟨by omega,m7 _ y⟩,z9.mono hm m7 es h' k4⟩
theorem z9.get {D:Prop} {t:Ty} {B:Bd} {v:Pl} {o:Bool} {m:Nat}:∀ (env:List Clo) (h:List Ty),z9 D t B v env o m h->∀ (l:Nat) (e:Clo),env[l]? = some e->∃ a,h[l]? = some a/\xp D t B v e o a/\((D/\e.path=[])\/(e.begun<m/\e.begun∈kB v o m))
 | [],h,_,l,e,he=>by simp at he
 | e'::es,h,k,0,e,he=>by
   rw [z9] at k
   obtain ⟨a,h',rfl,k1,k2,_⟩:=k
   simp at he;subst he
   exact ⟨a,rfl,k1,k2⟩
 | e'::es,h,k,l+1,e,he=>by
   rw [z9] at k
   obtain ⟨a,h',rfl,_,_,k4⟩:=k
   obtain ⟨b,h1,h2⟩:=z9.get es h' k4 l e (by simpa using he)
   exact ⟨b,by simpa using h1,h2⟩
theorem z9.len {D:Prop} {t:Ty} {B:Bd} {v:Pl} {o:Bool} {m:Nat}:∀ (env:List Clo) (h:List Ty),z9 D t B v env o m h->env.length=h.length
 | [],h,k=>by rw [z9] at k;subst k;rfl
 | e::es,h,k=>by
   rw [z9] at k
   obtain ⟨a,h',rfl,_,_,k4⟩:=k
   rw [List.length_cons,List.length_cons,z9.len es h' k4]
theorem z9.append {D:Prop} {t:Ty} {B:Bd} {v:Pl} {o:Bool} {m:Nat}:∀ (xs ys:List Clo) (h k:List Ty),z9 D t B v xs o m h->z9 D t B v ys o m k->z9 D t B v (xs++ys) o m (h++k)
 | [],ys,h,k,h1,h2=>by rw [z9] at h1;subst h1;exact h2
 | e::es,ys,h,k,h1,h2=>by
   rw [z9] at h1
   obtain ⟨a,h',rfl,k1,k2,k4⟩:=h1
   rw [List.cons_append,z9]
   exact ⟨a,h'++k,rfl,k1,k2,z9.append es ys h' k k4 h2⟩
theorem jj {t:Ty} {B:Bd} {v:Pl} {x:Bs×Int} (dg:zL t (v++[x])=true) {m:Nat} (hm:m<=v.length):kw t B (v++[x]) m=kw t B v m:=by
 have h1:=wD dg B (n:=v.length) (m:=m) hm (by rw [List.length_append];omega)
 rw [List.take_left' rfl] at h1
 exact h1.symm
mutual
theorem xp.lift {D:Prop} {t:Ty} {B:Bd} {v:Pl} {x:Bs×Int} (hv:zL t v=true) (dg:zL t (v++[x])=true):∀ (e:Clo) (o:Bool) (a:Ty),xp D t B v e o a->xp D t B (v++[x]) e o a
 | .mk b env g p,o,a,h=>by
   rw [xp] at h ⊢
   rcases h with hdd | ⟨⟨⟨q,j,z,h1,h2,h3,h4⟩,h5,h6,h7⟩,hd,h8,h9⟩
   ·exact .inl hdd
   have hg:=(List.getElem?_eq_some_iff.1 h3).1
   refine .inr ⟨⟨⟨q,j,z,h1,h2,by rw [jO hg];exact h3,h4⟩,h5,h6,fun e=>?_⟩,hd,z9.lift hv dg env (!o) g hd (Nat.le_of_lt hg) h8,h9⟩
   obtain ⟨l,ss,y,n,bg,k1,k2⟩:=h7 e
   exact ⟨l,ss,y,n,bg,by rw [jj dg (Nat.le_of_lt hg)];exact k1,k2⟩
theorem z9.lift {D:Prop} {t:Ty} {B:Bd} {v:Pl} {x:Bs×Int} (hv:zL t v=true) (dg:zL t (v++[x])=true):∀ (env:List Clo) (o:Bool) (m:Nat) (h:List Ty),m<=v.length->z9 D t B v env o m h->z9 D t B (v++[x]) env o m h
 | [],o,m,h,_,k=>by rw [z9] at k ⊢;exact k
 | e::es,o,m,h,hm,k=>by
   rw [z9] at k ⊢
   obtain ⟨a,h',e1,k1,k2,k4⟩:=k
   exact ⟨a,h',e1,xp.lift hv dg e o a k1,k2.imp id fun ⟨x1,x2⟩=>⟨x1,by rw [jn hv x o hm];exact x2⟩,z9.lift hv dg es o m h' hm k4⟩
end
theorem view_gen {t:Ty} {v:Pl} (hv:zL t v=true) {k z:Nat} {m:Bs} (o:Bool) (aI:k<v.length) (hk:v[k]? = some (m,(z:Int))) (hzk:z<k) (hb:qZ m = !o) {y:Bs×Int} (hz:v[z]? = some y) (hy:qZ y.1=o):kB v o (k+1)=kB v o z++[z,k]:=by
 have cT:qh v o k=z+1:=by
  unfold qh
  rw [hk]
  simp only [hb]
  rw [if_neg (by cases o <;> simp)];omega
 have cS:qh v o z=z:=by
  unfold qh
  rw [hz]
  simp only [hy,if_true]
 unfold kB
 rw [kk,cT,gt hv o (z+1) k (by omega) (by omega),kk,cS]
 simp
theorem view_self (v:Pl) (o:Bool) (n:Nat):n∈kB v o (n+1):=by
 unfold kB
 rw [kk,List.mem_reverse]
 exact List.mem_cons_self
def qu (D:Prop) (t:Ty) (B:Bd) (v:Pl):Nat->List Fr->Prop
 | a,[]=>a=0
 | a,fr::st=>(0<a/\a<v.length)/\(∃ hand,z9 D t B v fr.env (decide (a % 2=0)) a hand/\kX hand fr.yes/\kX hand fr.no)/\(wfB fr.yes/\wfB fr.no) /\
  ((∃ z,v[fr.begun]? = some (113::fr.path,z))/\fr.begun∈kB v (decide (a % 2=0)) a/\fr.begun<a/\qZ (113::fr.path) = !(decide (a % 2=0))/\(∃ a',atT t fr.path=some a')/\qN v a []=(fr.begun:Int)) /\
  (decide (a % 2=0)=false->∃ l ss,kw t B v a=some (.ask l ss fr.yes fr.no,pls fr.env,(fr.begun,fr.path)))/\qu D t B v fr.begun st
theorem qu.lift {D:Prop} {t:Ty} {B:Bd} {v:Pl} {x:Bs×Int} (hv:zL t v=true) (dg:zL t (v++[x])=true):∀ (st:List Fr) (a:Nat),qu D t B v a st->qu D t B (v++[x]) a st
 | [],a,h=>by rw [qu] at h ⊢;exact h
 | fr::st,a,h=>by
   rw [qu] at h ⊢
   obtain ⟨⟨h0,h1⟩,⟨hand,h2,h3,h4⟩,h5,⟨⟨z,h6⟩,h7,h8,h9,mQ,h11⟩,h12,h13⟩:=h
   have hg:=(List.getElem?_eq_some_iff.1 h6).1
   refine ⟨⟨h0,by rw [List.length_append];omega⟩,⟨hand,z9.lift hv dg _ _ _ _ (Nat.le_of_lt h1) h2,h3,h4⟩,h5,⟨⟨z,by rw [jO hg];exact h6⟩,by rw [jn hv x _ (Nat.le_of_lt h1)];exact h7,h8,h9,mQ,by rw [jv v x a _ (Nat.le_of_lt h1)];exact h11⟩,fun e=>?_,qu.lift hv dg st _ h13⟩
   rw [jj dg (Nat.le_of_lt h1)];exact h12 e
structure xj (D:Prop) (t:Ty) (B:Bd) (v:Pl) (b:Bd) (env:List Clo) (bg:zx) (st:List Fr) (o:Bool):Prop where
 ins:InPl t B v
 pos:0<v.length
 par:o=decide (v.length % 2=0)
 typ:∃ hand,z9 D t B v env o v.length hand/\kX hand b
 wf:wfB b
 bgq:∃ z,v[bg.1]? = some (113::bg.2,z)
 bgv:bg.1∈kB v o v.length
 bgl:bg.1<v.length
 bgo:qZ (113::bg.2) = !o
 bgt:∃ a,atT t bg.2=some a
 pend:qN v v.length []=(bg.1:Int)
 pl:o=false->kw t B v v.length=some (b,pls env,bg)
 stk:qu D t B v bg.1 st
theorem move_in {t:Ty} {B:Bd} {v:Pl} (h:InPl t B v) (h0:0<v.length) (mT:v.length<60) {c:UInt8} {p:Bs} {g:Nat} (hc:c=113\/c=116\/c=102) (hp:∃ a,atT t p=some a) (eW:qZ (c::p)=decide (v.length % 2=0)) (hg:g<v.length) (hne:¬ (c::p)=[113]) (az:∃ z,v[g]? = some (uI (c::p),z))
 (m7:g∈kB v (decide (v.length % 2=0)) v.length) (Dk:c=113\/qN v v.length []=(g:Int)) (nW:decide (v.length % 2=0)=false->jz t B v v.length=some (c::p,(g:Int))):InPl t B (v++[(c::p,(g:Int))]):=by
 have ch:=g9 v (c::p,(g:Int))
 obtain ⟨a,hat⟩:=hp
 obtain ⟨z,hz⟩:=az
 have co:ji t (v++[(c::p,(g:Int))]) v.length=true:=by
  unfold ji
  rw [ch]
  simp only
  rw [if_neg (by omega),eW,show yG t (c::p)=true from by
   simp only [yG,hat];rcases hc with h | h | h <;> rw [h] <;> rfl,Int.toNat_natCast,jO hg,hz]
  have e2:((c::p) == [113])=false:=by
   cases hh:((c::p) == [113]) with
   | false=>rfl
   | true=>exact absurd (by simpa using hh) hne
  have e3:decide ((0:Int)<=(g:Int))=true:=decide_eq_true (by omega)
  have e4:decide ((g:Int)<(v.length:Int))=true:=decide_eq_true (by omega)
  rw [e2,e3,e4]
  simp
 have fD:zL t (v++[(c::p,(g:Int))])=true:=by
  rw [valid_snoc h.ok,co,decide_eq_true mT];rfl
 refine ⟨fD,?_,?_⟩
 ·rw [legal_snoc h.ok h.lg,visAt_at ch (by omega),brAt_at ch,jn h.ok _ _ (cC _),jv v _ _ _ (cC _),eW,Bool.and_eq_true]
  refine ⟨?_,?_⟩
  ·rw [List.contains_iff_mem,List.mem_map]
   exact ⟨g,m7,rfl⟩
  ·rcases Dk with h | h
   ·rw [h];rfl
   ·rw [h];simp
 ·rw [List.length_append,List.length_singleton]
  intro j hj hjo
  rcases Nat.lt_or_ge j v.length with h' | h'
  ·exact follows_snoc fD v.length (cC _) h.fo j h' hjo
  ·obtain rfl:j=v.length:=by omega
   rw [ch]
   unfold jz
   rw [jj fD (cC _)]
   exact nW (decide_eq_false (by omega))
theorem par_next (n:Nat):decide ((n+1) % 2=0) = !decide (n % 2=0):=by
 rcases Nat.mod_two_eq_zero_or_one n with h | h
 ·rw [decide_eq_true h,decide_eq_false (show ¬ (n+1) % 2=0 by omega)];rfl
 ·rw [decide_eq_false (show ¬ n % 2=0 by omega),decide_eq_true (show (n+1) % 2=0 by omega)];rfl
theorem xj.answer {D:Prop} {t:Ty} {B:Bd} {v:Pl} {c:UInt8} {env:List Clo} {bg:zx} {st:List Fr} {o:Bool} (h:xj D t B v (.leaf c) env bg st o) (hc:c≠117) (mT:v.length<60) :
 InPl t B (v++[(c::bg.2,(bg.1:Int))])/\∀ fr st',st=fr::st'->xj D t B (v++[(c::bg.2,(bg.1:Int))]) (if c=116 then fr.yes else fr.no) fr.env (fr.begun,fr.path) st' (!o):=by
 have mU:=h.wf
 rw [wfB] at mU
 have fV:c=116\/c=102:=by
  rcases mU with k | k | k
  ·exact .inl k
  ·exact .inr k
  ·exact absurd k hc
 have rx:¬ c=113:=by rcases fV with k | k <;> rw [k] <;> decide
 have hne:¬ (c::bg.2)=[113]:=fun e=>rx (by simp only [List.cons.injEq] at e;exact e.1)
 have lV:isQ (c::bg.2)=false:=by rw [qR];simp [rx]
 have az:uI (c::bg.2)=113::bg.2:=by unfold uI;rw [if_neg hne,lV,if_neg (by simp)];rfl
 have eW:qZ (c::bg.2)=o:=by
  have h1:=x6 hne
  rw [az,h.bgo] at h1
  cases o <;> cases hh:qZ (c::bg.2) <;> rw [hh] at h1 <;> simp at h1 ⊢
 obtain ⟨z,hz⟩:=h.bgq
 have mC:=h.par
 have hI:=move_in h.ins h.pos mT (.inr fV) h.bgt (by rw [eW];exact mC) h.bgl hne ⟨z,by rw [az];exact hz⟩ (by rw [<- mC];exact h.bgv) (.inr h.pend) (fun e=>by
  rw [<- mC] at e
  unfold jz
  rw [h.pl e,Option.bind_some]
  simp only [wV]
  rw [if_neg hc])
 refine ⟨hI,fun fr st' e=>?_⟩
 subst e
 have ch:=g9 v (c::bg.2,(bg.1:Int))
 have cA:(v++[(c::bg.2,(bg.1:Int))]).length=v.length+1:=by rw [List.length_append];rfl
 have hs:=h.stk
 rw [qu] at hs
 have hpa:decide (bg.1 % 2=0) = !o:=by
  obtain ⟨c',p',z',dg,fk⟩:=kg h.ins.ok h.bgl
  rw [hz] at dg
  simp only [Option.some.injEq,Prod.mk.injEq] at dg
  have h1:=fk.opp
  rw [<- dg.1,h.bgo] at h1
  exact h1.symm
 rw [hpa] at hs
 obtain ⟨⟨h0,h1⟩,⟨hand,h2,h3,h4⟩,h5,⟨⟨zf,h6⟩,h7,h8,h9,mQ,h11⟩,h12,h13⟩:=hs
 have nr:=jO (x:=(c::bg.2,(bg.1:Int))) h.bgl
 have m7:kB (v++[(c::bg.2,(bg.1:Int))]) (!o) (v.length+1)=kB (v++[(c::bg.2,(bg.1:Int))]) (!o) bg.1++[bg.1,v.length] :=
  view_gen hI.ok (!o) (by omega) ch h.bgl (by rw [eW];simp) (nr.trans hz) h.bgo
 have dn:∀ i,i∈kB (v++[(c::bg.2,(bg.1:Int))]) (!o) bg.1->i∈kB (v++[(c::bg.2,(bg.1:Int))]) (!o) (v.length+1):=fun i hi=>by rw [m7];exact List.mem_append_left _ hi
 have hgf:=(List.getElem?_eq_some_iff.1 h6).1
 refine ⟨hI,by omega,by rw [cA,par_next,mC],⟨hand,?_,?_⟩,?_,⟨zf,by rw [jO hgf];exact h6⟩,?_,by rw [cA];show fr.begun<_;omega,h9,mQ,?_,fun e=>?_,qu.lift h.ins.ok hI.ok _ _ h13⟩
 ·rw [cA]
  exact z9.mono (by omega) dn _ _ (z9.lift h.ins.ok hI.ok _ _ _ _ (Nat.le_of_lt h1) h2)
 ·split
  ·exact h3
  ·exact h4
 ·split
  ·exact h5.1
  ·exact h5.2
 ·rw [cA]
  refine dn _ ?_
  rw [jn h.ins.ok _ _ (Nat.le_of_lt h1)];exact h7
 ·rw [cA]
  exact pend_back (by omega) (brP_to hI.lg) ch lV (nr.trans hz) (by rw [qR];rfl) h.bgl (by rw [jv v _ _ _ (Nat.le_of_lt h1)];exact h11)
 ·obtain ⟨l,ss,dU⟩:=h12 e
  have ho:o=true:=by cases o <;> simp at e ⊢
  have nD:bg.1 % 2=1:=by
   rw [ho] at hpa
   have:=of_decide_eq_false hpa
   omega
  rw [cA,vy hI.ok B (by omega) h.pos (m:=c::bg.2) (z:=bg.1) ⟨ch,h.bgl,nD,⟨_,nr.trans hz,az.symm⟩⟩,jj hI.ok (Nat.le_of_lt h1),dU,Option.bind_some]
  unfold wX
  simp only
  rw [if_neg rx]
  rcases fV with k | k
  ·rw [k];rfl
  ·rw [k];rfl
theorem pls_own (env:List Clo) (m:Nat) (p:Bs):∀ (ss:List Bd) (i:Nat),pls (zD env m p i ss)=(List.range' i ss.length).map fun j=>(m,p++dec j)
 | [],i=>rfl
 | s::ss,i=>by
   rw [zD,List.length_cons,List.range'_succ,List.map_cons,<- pls_own env m p ss (i+1)]
   rfl
theorem xm (env:List Clo) (m:Nat) (p:Bs) (ss:List Bd):pls (zD env m p 0 ss)=zh ss.length m p:=by
 rw [pls_own,zh,List.range_eq_range']
theorem own_ok {D:Prop} {t:Ty} {B:Bd} {v:Pl} {o:Bool} {env:List Clo} {g m':Nat} {p:Bs} {hand:List Ty} (he:z9 D t B v env (!o) g hand) (hq:∃ z,v[g]? = some (113::p,z)) (eW:qZ (113::p) = !o) (hg:g<m') (hgv:g∈kB v o m') {a:Ty} (hat:atT t p=some a) :
 ∀ (ss:List Bd) (ts:List Ty) (i:Nat),(∀ k,ts[k]? = a.args[i+k]?)->i+ss.length<=10->za (zp hand ts) ss->uY ss->(o=true->∃ l ss' y n bg,kw t B v g=some (.ask l ss' y n,pls env,bg)/\∀ k b,ss[k]? = some b->ss'[i+k]? = some b)->z9 D t B v (zD env g p i ss) o m' ts
 | [],ts,i,_,_,hf,_,_=>by
   rw [za] at hf
   have:ts=[]:=by cases ts with
    | nil=>rfl
    | cons t ts=>simp [zp] at hf
   subst this
   rw [zD,z9]
 | s::ss,ts,i,hts,hi,hf,hw,dU=>by
   rw [za] at hf
   obtain ⟨h',fE,e,h1,h2⟩:=hf
   rw [uY] at hw
   rw [List.length_cons] at hi
   cases ts with
   | nil=>simp [zp] at e
   | cons ti ts =>
     simp only [zp,List.map_cons,List.cons.injEq] at e
     obtain ⟨rfl,rfl⟩:=e
     obtain ⟨z,hz⟩:=hq
     have hai:a.args[i]? = some ti:=by have:=hts 0;rw [Nat.add_zero] at this;rw [<- this];rfl
     rw [zD,z9]
     refine ⟨ti,ts,rfl,?_,.inr ⟨hg,hgv⟩,own_ok he ⟨z,hz⟩ eW hg hgv hat ss ts (i+1) (fun k=>?_) (by omega) h2 hw.2 (fun e=>?_)⟩
     ·rw [xp,jW (by omega)]
      refine .inr ⟨⟨⟨p,i,z,by omega,rfl,hz,eW⟩,?_,hw.1,fun e=>?_⟩,hand,he,h1⟩
      ·rw [j_,hat,Option.bind_some,atT_digit _ (by omega)];exact hai
      ·obtain ⟨l,ss',y,n,bg,k1,k2⟩:=dU e
       refine ⟨l,ss',y,n,bg,k1,?_⟩
       rw [p8 p (by omega)]
       exact k2 0 s rfl
     ·have:=hts (k+1)
      rw [show i+1+k=i+(k+1) from by omega]
      exact this
     ·obtain ⟨l,ss',y,n,bg,k1,k2⟩:=dU e
      refine ⟨l,ss',y,n,bg,k1,fun k b hk=>?_⟩
      rw [show i+1+k=i+(k+1) from by omega]
      exact k2 (k+1) b (by simpa using hk)
theorem xj.ask {D:Prop} {t:Ty} {B:Bd} {v:Pl} {l:Nat} {ss:List Bd} {y n:Bd} {env:List Clo} {bg:zx} {st:List Fr} {o:Bool} (cj:zU t<=15) (h:xj D t B v (.ask l ss y n) env bg st o) (mT:v.length<60) (hD:D->∀ e,env[l]? = some e->e.path≠[]) :
 ∃ e,env[l]? = some e/\xj D t B (v++[(113::e.path,(e.begun:Int))]) e.body (e.env++zD env v.length e.path 0 ss) (v.length,e.path) (⟨y,n,env,bg.1,bg.2⟩::st) (!o):=by
 obtain ⟨hand,hE,hf⟩:=h.typ
 have oc:=hf
 rw [kX] at hf
 obtain ⟨a,ha,iE,AR,hfn⟩:=hf
 obtain ⟨a2,ha2,_,cA⟩:=fit_parts oc
 obtain rfl:a=a2:=Option.some.inj (ha.symm.trans ha2)
 have nT:=z9.len _ _ hE
 have cL:=(List.getElem?_eq_some_iff.1 ha).1
 obtain ⟨e,he⟩:∃ e,env[l]? = some e:=⟨env[l]'(by omega),List.getElem?_eq_getElem _⟩
 obtain ⟨a',ha',hC,oe⟩:=z9.get _ _ hE l e he
 obtain rfl:a=a':=Option.some.inj (ha.symm.trans ha')
 refine ⟨e,he,?_⟩
 obtain ⟨b,ee,g,p⟩:=e
 have hC0:=hC
 rw [xp] at hC
 rcases hC with ⟨d,hp⟩ | ⟨⟨⟨q,j,z,hj,hp,hz,Aa⟩,hat,hwb,dU⟩,h',hE',hfb⟩
 ·exact absurd hp (hD d _ he)
 rcases oe with ⟨d,hp⟩ | ⟨mw,hev⟩
 ·exact absurd hp (hD d _ he)
 have mw:g<v.length:=mw
 have hev:g∈kB v o v.length:=hev
 show xj D t B (v++[(113::p,(g:Int))]) b (ee++zD env v.length p 0 ss) (v.length,p) _ (!o)
 have hne:¬ (113::p)=[113]:=fun k=>by rw [hp] at k;simp at k
 have az:uI (113::p)=113::q:=by
  unfold uI
  rw [if_neg hne,qR,show ((113:UInt8) == 113)=true from rfl,if_pos rfl,hp,<- List.cons_append,List.dropLast_concat]
 have eW:qZ (113::p)=o:=by
  have h1:=x6 hne
  rw [az,Aa] at h1
  cases o <;> cases hh:qZ (113::p) <;> rw [hh] at h1 <;> simp at h1 ⊢
 have mC:=h.par
 have mU:=h.wf
 rw [wfB] at mU
 have hI:=move_in h.ins h.pos mT (.inl rfl) ⟨a,hat⟩ (by rw [eW];exact mC) mw hne ⟨z,by rw [az];exact hz⟩ (by rw [<- mC];exact hev) (.inl rfl) (fun k=>by
  rw [<- mC] at k
  unfold jz
  rw [h.pl k,Option.bind_some]
  simp only [wV,pls,List.getElem?_map,he,Option.map_some]
  rfl)
 have ch:=g9 v (113::p,(g:Int))
 have mY:(v++[(113::p,(g:Int))]).length=v.length+1:=by rw [List.length_append];rfl
 have nr:=jO (x:=(113::p,(g:Int))) mw
 have m7:kB (v++[(113::p,(g:Int))]) (!o) (v.length+1)=kB (v++[(113::p,(g:Int))]) (!o) g++[g,v.length] :=
  view_gen hI.ok (!o) (by omega) ch mw (by rw [eW];simp) (nr.trans hz) Aa
 have dn:∀ i,i∈kB (v++[(113::p,(g:Int))]) (!o) g->i∈kB (v++[(113::p,(g:Int))]) (!o) (v.length+1):=fun i hi=>by rw [m7];exact List.mem_append_left _ hi
 have mQ:ss.length<=10:=by
  have h1:=jk _ _ _ hat
  have h2:=jZ a
  have h3:ss.length=a.args.length:=cA
  omega
 have i7:=view_self (v++[(113::p,(g:Int))]) (!o) v.length
 have hEl:=z9.lift h.ins.ok hI.ok _ _ _ _ (cC _) hE
 have cw:z9 D t B (v++[(113::p,(g:Int))]) (zD env v.length p 0 ss) (!o) (v.length+1) a.args:=by
  refine own_ok (hand:=hand) (by rw [Bool.not_not];exact hEl) ⟨_,ch⟩ (by rw [Bool.not_not];exact eW) (Nat.lt_succ_self _) i7 hat ss a.args 0 (fun k=>by rw [Nat.zero_add]) (by omega) iE mU.1 (fun k=>?_)
  have ho:o=false:=by cases o <;> simp at k ⊢
  refine ⟨l,ss,y,n,bg,by rw [jj hI.ok (cC _)];exact h.pl ho,fun k b hk=>by rw [Nat.zero_add];exact hk⟩
 have hE2:z9 D t B (v++[(113::p,(g:Int))]) ee (!o) (v.length+1) h' :=
  z9.mono (by omega) dn _ _ (z9.lift h.ins.ok hI.ok _ _ _ _ (Nat.le_of_lt mw) hE')
 refine ⟨hI,by omega,by rw [mY,par_next,mC],⟨h'++a.args,?_,hfb⟩,hwb,⟨_,ch⟩,?_,?_,by rw [Bool.not_not];exact eW,⟨a,hat⟩,?_,fun k=>?_,?_⟩
 ·rw [mY]
  exact z9.append _ _ _ _ hE2 cw
 ·rw [mY];exact i7
 ·rw [mY];exact Nat.lt_succ_self _
 ·rw [mY,wF ch,qR];rfl
 ·have ho:o=true:=by cases o <;> simp at k ⊢
  obtain ⟨l',ss',y',n',bg',k1,k2⟩:=dU ho
  have nD:g % 2=1:=by
   obtain ⟨c',p',z',dg,fk⟩:=kg h.ins.ok mw
   rw [hz] at dg
   simp only [Option.some.injEq,Prod.mk.injEq] at dg
   have h1:=fk.opp
   rw [<- dg.1,Aa,ho] at h1
   have:=of_decide_eq_false h1.symm
   omega
  rw [mY,vy hI.ok B (by omega) h.pos (m:=113::p) (z:=g) ⟨ch,mw,nD,⟨_,nr.trans hz,az.symm⟩⟩,jj hI.ok (Nat.le_of_lt mw),k1,Option.bind_some]
  unfold wX
  simp only [if_true]
  rw [k2,Option.map_some]
  have e1:ja t p=ss.length:=by unfold ja;rw [hat];show a.args.length=ss.length;exact cA.symm
  have e2:pls (ee++zD env v.length p 0 ss)=pls ee++zh ss.length v.length p:=by
   rw [<- xm env];unfold pls;rw [List.map_append]
  rw [e1,e2]
 ·rw [qu]
  rw [<- mC]
  exact ⟨⟨h.pos,by omega⟩,⟨hand,hEl,AR,hfn⟩,mU.2,⟨by
   obtain ⟨zb,Bj⟩:=h.bgq
   exact ⟨zb,by rw [jO h.bgl];exact Bj⟩,by rw [jn h.ins.ok _ _ (cC _)];exact h.bgv,h.bgl,h.bgo,h.bgt,by rw [jv v _ _ _ (cC _)];exact h.pend⟩,fun k=>⟨l,ss,by rw [jj hI.ok (cC _)];exact h.pl k⟩,qu.lift h.ins.ok hI.ok _ _ h.stk⟩
theorem run_in {D:Prop} {t:Ty} {B:Bd} (cj:zU t<=15):∀ (f m:Nat) (b:Bd) (env:List Clo) (bg:Nat) (path:Bs) (st:List Fr) (v:Pl) (o:Bool) (c:UInt8) (log:List (Bs×Nat)),qm f m b env bg path st=some (c,log)->xj D t B v b env (bg,path) st o->v.length=m->m+f<=60->(D->∀ x∈log,x.1≠[113]) ->
 InPl t B (v++kK log)/\(c=117\/((c=116\/c=102)/\∃ w,log=w++[([c],0)])):=by
 intro f
 induction f with
 | zero =>
   intro m b env bg path st v o c log h hS hm hf hD
   cases b with
   | leaf d =>
     by_cases hd:d=117
     ·subst hd
      rw [jc] at h
      simp only [Option.some.injEq,Prod.mk.injEq] at h
      obtain ⟨rfl,rfl⟩:=h
      exact ⟨by simpa [kK] using hS.ins,.inl rfl⟩
     ·rw [v7 hd] at h;simp at h
   | ask l ss y n=>rw [j3] at h;simp at h
 | succ f ih =>
   intro m b env bg path st v o c log h hS hm hf hD
   cases b with
   | leaf d =>
     by_cases hd:d=117
     ·subst hd
      rw [jc] at h
      simp only [Option.some.injEq,Prod.mk.injEq] at h
      obtain ⟨rfl,rfl⟩:=h
      exact ⟨by simpa [kK] using hS.ins,.inl rfl⟩
     ·obtain ⟨hI,hN⟩:=hS.answer hd (by omega)
      cases st with
      | nil =>
        rw [vY hd] at h
        simp only [Option.some.injEq,Prod.mk.injEq] at h
        obtain ⟨rfl,rfl⟩:=h
        have hk:=hS.stk
        rw [qu] at hk
        have hk:bg=0:=hk
        have hq:=hS.bgq
        subst hk
        obtain ⟨z,hz⟩:=hq
        obtain ⟨c',p',z',dg,fk⟩:=kg hS.ins.ok hS.pos
        have hz:v[0]? = some (113::path,z):=hz
        rw [hz] at dg
        simp only [Option.some.injEq,Prod.mk.injEq,List.cons.injEq] at dg
        have hp:path=[]:=by rw [dg.1.2];exact (fk.zero rfl).2.1
        subst hp
        refine ⟨by simpa [kK] using hI,.inr ⟨?_,[],rfl⟩⟩
        have mU:=hS.wf
        rw [wfB] at mU
        rcases mU with k | k | k
        ·exact .inl k
        ·exact .inr k
        ·exact absurd k hd
      | cons fr st' =>
        rw [qp hd,Option.map_eq_some_iff] at h
        obtain ⟨⟨c',log'⟩,h1,h2⟩:=h
        simp only [Prod.mk.injEq] at h2
        obtain ⟨rfl,rfl⟩:=h2
        obtain ⟨k1,k2⟩:=ih (m+1) _ _ _ _ _ _ (!o) c' log' h1 (hN fr st' rfl) (by rw [List.length_append,List.length_singleton,hm]) (by omega) (fun d x hx=>hD d x (List.mem_cons_of_mem _ hx))
        refine ⟨by simpa [kK] using k1,k2.imp id fun ⟨k3,w,k4⟩=>⟨k3,_::w,by rw [k4];rfl⟩⟩
   | ask l ss y n =>
     obtain ⟨e,he,hN⟩:=hS.ask cj (by omega) (fun d e he hp=>by
      rw [qb _ _ _ _ _ _ _ _ _ _ he,Option.map_eq_some_iff] at h
      obtain ⟨⟨c',log'⟩,h1,h2⟩:=h
      simp only [Prod.mk.injEq] at h2
      refine hD d (113::e.path,e.begun) ?_ (by rw [hp])
      rw [<- h2.2];exact List.mem_cons_self)
     rw [qb _ _ _ _ _ _ _ _ _ _ he,Option.map_eq_some_iff] at h
     obtain ⟨⟨c',log'⟩,h1,h2⟩:=h
     simp only [Prod.mk.injEq] at h2
     obtain ⟨rfl,rfl⟩:=h2
     rw [hm] at hN
     obtain ⟨k1,k2⟩:=ih (m+1) _ _ _ _ _ _ (!o) c' log' h1 hN (by rw [List.length_append,List.length_singleton,hm]) (by omega) (fun d x hx=>hD d x (List.mem_cons_of_mem _ hx))
     refine ⟨by simpa [kK] using k1,k2.imp id fun ⟨k3,w,k4⟩=>⟨k3,_::w,by rw [k4];rfl⟩⟩
theorem run_first {t:Ty} {B:Bd} {ar:List Bd} (cj:zU t<=15) (hf:kX t.args B) (hw:wfB B) (ha:za (zp [] t.args) ar) (hwa:uY ar):xj False t B [([113],-1)] B (zD [] 0 [] 0 ar) (0,[]) [] false:=by
 have co:ji t [([113],-1)] 0=true:=by
  unfold ji
  show (yG t [113] && (qZ [113] == decide (0 % 2=0)) && _)=true
  have:yG t [113]=true:=by simp [yG,qc]
  rw [this]
  rfl
 have fD:zL t [([113],-1)]=true:=by
  unfold zL
  show (decide (1<=60) && (qd t _ 0 && ji t _ 0))=true
  rw [co];rfl
 have cA:ar.length=t.args.length:=by
  have:=qB _ _ ha
  rw [qH] at this;exact this.symm
 have mQ:=jZ t
 have m7:kB [([113],-1)] false 1=[0]:=yj fD (by simp)
 have hE:z9 False t B [([113],-1)] [] true 0 []:=by rw [z9]
 refine ⟨⟨fD,rfl,fun i hi ho=>?_⟩,Nat.lt_succ_self 0,rfl,⟨t.args,?_,hf⟩,hw,⟨-1,rfl⟩,by rw [show ([([113],-1)]:Pl).length=1 from rfl,m7];simp,Nat.lt_succ_self 0,rfl,⟨t,qc t⟩,?_,fun _=>?_,by rw [qu]⟩
 ·have hi:i<1:=hi
  omega
 ·exact own_ok (o:=false) (hand:=[]) hE ⟨-1,rfl⟩ rfl (Nat.lt_succ_self 0) (by show 0∈kB _ false 1;rw [m7];simp) (qc t) ar t.args 0 (fun k=>by rw [Nat.zero_add]) (by omega) ha hwa (fun e=>by simp at e)
 ·rfl
 ·show kw t B _ 1=_
  rw [vQ,xm,cA];rfl
theorem runAll_in {t:Ty} {B:Bd} {ar:List Bd} {most:Nat} {c:UInt8} {log:List (Bs×Int)} (cj:zU t<=15) (hf:kX t.args B) (hw:wfB B) (ha:za (zp [] t.args) ar) (hwa:uY ar) (hm:0<most) (mT:most<=60) (h:v8 most B ar=some (c,log)) :
 InPl t B log/\(c=117\/((c=116\/c=102)/\∃ w,log=w++[([c],0)]/\0<w.length)):=by
 unfold v8 at h
 rw [Option.map_eq_some_iff] at h
 obtain ⟨⟨c',l'⟩,h1,h2⟩:=h
 simp only [Prod.mk.injEq] at h2
 obtain ⟨rfl,rfl⟩:=h2
 obtain ⟨k1,k2⟩:=run_in cj _ _ _ _ _ _ _ _ _ _ _ h1 (run_first cj hf hw ha hwa) rfl (by omega) False.elim
 refine ⟨k1,k2.imp id fun ⟨k3,w,k4⟩=>⟨k3,[([113],-1)]++kK w,?_,by simp⟩⟩
 rw [k4];simp [kK]
def je (B:Nat) (w:World) (a:Option Addr) (xs:List Bs):Prop:=∀ (k:Nat) (s:Bs),xs[k]? = some s->∃ b o,a=some ⟨b,o,none⟩/\B<=b/\w.cell? ⟨b,o+k,none⟩=some (str s)
theorem je.at {B:Nat} {w:World} {a:Option Addr} {xs:List Bs} (h:je B w a xs):jQ w a xs:=fun k s hs=>by
 obtain ⟨b,o,e,_,hc⟩:=h k s hs
 exact ⟨b,o,e,hc⟩
theorem je.but {B rd:Nat} {w w':World} {a:Option Addr} {xs:List Bs} (h:je B w a xs) (hb:But (· = rd) w w') (dT:rd<B):je B w' a xs:=fun k s hs=>by
 obtain ⟨b,o,e,hB,hc⟩:=h k s hs
 exact ⟨b,o,e,hB,(hb.cell (p:=⟨b,o+k,none⟩) (cD w ⟨b,o+k,none⟩ hc) (fun e=>by have e2:b=rd:=e;omega)).trans hc⟩
theorem Own.strsNew {B:Nat} {w:World} {e:TypeId} {a:Option Addr} {n c:Nat} {xs:List Bs} (h:Own w e 1 (.slice a n c) n (xs.map str)) (hf:∀ g,(Value.slice a n c).ownBlock=some g->B<=g):je B w a xs:=by
 intro k s hk
 have hn:xs.length=n:=by have:=h.1;simpa using this
 have cL:=(List.getElem?_eq_some_iff.1 hk).1
 rcases h.2 with ⟨e0,e1⟩ | ⟨g,cap,cur,e0,hrest⟩
 ·omega
 ·injection e0 with e1 e2 e3
  subst e1
  refine ⟨g,0,rfl,hf g (by simp [Value.ownBlock]),?_⟩
  have:=World.ownsRow.cells h (g:=g) (by simp [Value.ownBlock]) k (str s) (by simp [hk])
  rw [Nat.zero_add]
  unfold Addr.add at this
  split at this
  ·rename_i h0;subst h0;exact this
  ·simpa using this
theorem Own.cap {w:World} {e:TypeId} {a:Option Addr} {n c k:Nat} {xs:List Value} (h:Own w e 1 (.slice a n c) k xs):n<=c:=by
 rcases h.2 with ⟨e0,rfl⟩ | ⟨g,cap,cur,e0,_,_,hc,_⟩
 ·injection e0 with e1 e2 e3;omega
 ·injection e0 with e1 e2 e3;omega
theorem x9 {t:Ty} (h:zU t<=15):(∀ a∈t.args,zU a<=15)/\t.args.length<=15:=by
 refine ⟨(yB h).1,?_⟩
 have:=zd t.args;have:=zg t;omega
def vZ (s:Bs):List Bs:=if (zQ s).2 then (zQ s).1.args.map zq else []
set_option maxRecDepth 100000 in
theorem pV (s:Bs) (hs:Lim s.length) (w:World) :
 Calls Tryz.prog 27 #[str s] w fun en w'=>∃ a c,en=.returned (.tuple #[.slice a (vZ s).length c,.bool (zQ s).2])/\Below w.heap.size w w'/\je w.heap.size w' a (vZ s):=by
 go_enter Tryz.func27,Tryz.ntmps27
 go_wp2_with fail
 refine (xl s hs w).mono ?_
 rintro en w1 ⟨v,rfl,cT,dH⟩
 obtain ⟨ta,tc,e⟩:=kJ dH
 subst e
 cases co:(zQ s).2 with
 | false =>
   have da:=cH cT;have ip:=cH co;clear cT dH co
   have z1:=da.out.size
   go_wp2_with fail
   refine bodyPost_ret (v:=.tuple #[.slice (some ⟨w1.heap.size+1,0,none⟩) 0 0,.bool false]) (by simp [results,Tryz.results27,go_sem]) rfl ?_
   have e0:vZ s=[]:=by unfold vZ;rw [ip.out];rfl
   rw [e0,ip.out]
   exact ⟨_,_,rfl,((da.out.alloc z1 _).alloc (by rw [zK];omega) _),fun k x hk=>by simp at hk⟩
 | true =>
   have cj:=qI co
   have sN:=x9 cj
   have e0:vZ s=(zQ s).1.args.map zq:=by unfold vZ;rw [co];rfl
   have HE:=cH e0
   have ip:=cH co
   clear co e0
   generalize hT:(zQ s).1=t at *
   have cA:(vZ s).length=t.args.length:=by rw [HE.out,List.length_map]
   have HLEN:=cH cA
   rw [qE] at dH
   obtain ⟨_,_,e,_,_,hat⟩:=zC dH
   cases e
   obtain ⟨W,hW⟩:=zzN (w1.alloc (.cells #[.slice ta t.args.length tc] 77))
   have bX:W.heap[w1.heap.size]? = some (.cells #[.slice ta t.args.length tc] 77 (0,0)):=by rw [<- hW];exact zT _ _
   have cO:Below w.heap.size w W:=by rw [<- hW];exact cT.alloc cT.size _
   have DQ:Below w1.heap.size w1 W:=by rw [<- hW];exact (cE _ _).alloc (cC _) _
   have eK:w.heap.size<=w1.heap.size:=cT.size
   have ni:W.heap.size=w1.heap.size+1:=by rw [<- hW,zK]
   have HW:=cH (cB hW (cB bX (cB cO (cB DQ (cB eK ni)))))
   have AT:=cH hat
   have HA:=cH sN
   clear hW bX cO DQ eK ni hat dH hT cA cT
   have oO:t.args.length<=15:=HA.out.2
   go_wp2_with fail
   rw [HW.out.1]
   go_loopw [6,7] (fun o i wr=>∃ k:Nat,k<=t.args.length/\i=.int .i64 k/\∃ a c,o=.slice a k c/\Own wr 9 1 (.slice a k c) k (((t.args.take k).map zq).map str)/\Below W.heap.size W wr/\(∀ g,(Value.slice a k c).ownBlock=some g->W.heap.size<=g)) (fun _ i _=>t.args.length-(intOf i).toNat)
   case atStart=>exact ⟨0,Nat.zero_le _,rfl,_,_,rfl,Own.litAt #[] 0 _ (by have:=HW.out.2.2.2.2.2;omega) (by decide) rfl,(cE _ _).alloc (cC _) _,fun g h=>by simp [Value.ownBlock] at h;have:=HW.out.2.2.2.2.2;omega⟩
   case round =>
    obtain ⟨k,hk,rfl,a,c,rfl,ho,hb,hf⟩:=hrel
    have HO:=cH ho;have HF:=cH hf;have HB:=cH hb
    clear ho hf hb
    have hcX:wr.cell? ⟨w1.heap.size,0,none⟩=some (.slice ta t.args.length tc):=by
     have h:=(HB.out.block _ (zZ HW.out.2.1)).trans HW.out.2.1
     simp [World.cell?,h]
    by_cases cL:k<t.args.length
    ·have d8:(k:Int)<(t.args.length:Int):=by omega
     obtain ⟨b,o,u,d,e,ah,tn,hd,hc,fK⟩:=AT.out k cL
     subst e
     rw [js,Option.map_eq_some_iff] at hd
     obtain ⟨tk,ht,rfl⟩:=hd
     obtain ⟨ua,uc,rfl⟩:=kJ fK
     have h1r:Below w1.heap.size w1 wr:=HW.out.2.2.2.1.trans (HB.out.mono (by have:=HW.out.2.2.2.2.2;omega))
     have q0:wr.cell? ⟨b,o+k,none⟩=some (.slice ua tk.args.length uc):=(h1r.cell (p:=⟨b,o+k,none⟩) tn).trans hc
     have d6:zU tk<=15:=HA.out.1 tk (List.mem_of_getElem? ht)
     have C1:=cH (bT 15 tk d6 (by omega) _ wr _ (Rep.below h1r (fun _ h=>h) fK))
     have HT:=cH ht
     clear ht hc fK h1r ah
     go_wp2_with fail
     (with_reducible refine C1.out.mono ?_)
     rintro en w4 ⟨rfl,dJ⟩
     have nE:=HO.out.keep (w':=w4) fun g x _ hx=>by rw [dJ.block g (zZ hx)];exact hx
     have lj:=cH (zzT HB.out dJ);have D8:=cH nE
     clear dJ nE C1
     obtain ⟨X,hX⟩:=zzM (zq tk)
     rw [<- hX]
     have HX:=cH hX;clear hX
     go_wp2_with (at_builtin;refine zG rfl _ _ 23 rfl 9 (str []) 1 16 Tryz.underlying23 Tryz.infoStr rfl (by decide) (.slice a k c) k (((t.args.take k).map zq).map str) rfl ?c1 _ 1 [str X] rfl ?c2 ?c3 ?c4 ?_)
     case c1=>exact D8.out.alloc _
     case c2=>exact zM.lit (by simp [Value.oneCell'])
     case c3=>unfold maxLen;omega
     case c4=>omega
     intro a' c' w7 dB cq ci
     have dG:Below W.heap.size W w7:=by
      have h1:=lj.out
      refine (h1.alloc h1.size _).trans (cq.toBelow (by rw [zK];have:=h1.size;omega) fun i hi e=>?_)
      have:=HF.out i e;omega
     have dz:∀ g,(Value.slice a' (k+1) c').ownBlock=some g->W.heap.size<=g:=by
      intro g h
      rcases ci g h with h | h
      ·exact HF.out g h
      ·have h2:=lj.out.size
       omega
     have fm:Own w7 9 1 (.slice a' (k+1) c') (k+1) (((t.args.take (k+1)).map zq).map str):=by
      have e:((t.args.take (k+1)).map zq).map str=List.take k (List.map (str ∘ zq) t.args)++[str (zq tk)]:=by rw [List.take_add_one,HT.out];simp [List.map_take]
      have h:=dB
      rw [HX.out] at h
      rw [e]
      simpa [List.map_take] using h
     have rr:=cH (cB fm (cB dG dz));clear dB fm dG dz cq ci
     go_wp2_with fail
     go_roundw
     case rel=>exact ⟨k+1,by omega,by go_num,a',c',rfl,rr.out.1,rr.out.2.1,rr.out.2.2⟩
     case measure=>simp [intOf];omega
    ·obtain rfl:k=t.args.length:=by omega
     go_wp2_with fail
     refine bodyPost_ret (v:=.tuple #[.slice a t.args.length c,.bool true]) (by simp [results,Tryz.results27,go_sem]) rfl ?_
     have h0:=HO.out
     rw [List.take_length] at h0
     refine ⟨a,c,by rw [HLEN.out,ip.out],HW.out.2.2.1.trans (HB.out.mono (by have:=HW.out.2.2.2.2;omega)),?_⟩
     rw [HE.out]
     exact h0.strsNew fun g h=>by have:=HF.out g h;have:=HW.out.2.2.2.2;omega
theorem argsOf_len (s:Bs):(vZ s).length<=15:=by
 unfold vZ
 cases h:(zQ s).2 with
 | false=>simp
 | true=>simp;exact (x9 (qI h)).2
theorem argsOf_each {s x:Bs} (h:x∈vZ s):x.length<=100/\ke 3 (zQ x).1.args:=by
 unfold vZ at h
 cases co:(zQ s).2 with
 | false=>rw [co] at h;simp at h
 | true =>
   rw [co] at h
   simp only [if_true,List.mem_map] at h
   obtain ⟨t,ht,rfl⟩:=h
   have cj:=(x9 (qI co)).1 t ht
   have hl:=kn 15 t cj
   refine ⟨by omega,?_⟩
   exact gK (by rw [jS cj])
def ArgsD (rd Q:Nat) (w:World) (en:Ending) (w':World):Prop :=
 ∃ (xs:List Bs) (a:Option Addr) (c:Nat),en=.returned (.slice a xs.length c)/\xs.length<=16/\xs.length<=c/\(∀ x∈xs,x.length<=100000)/\je w.heap.size w' a xs/\But (· = rd) w w'/\kL w' rd Q
set_option maxRecDepth 100000 in
theorem l91Args_any (rd P:Nat) (s:Bs) (hs:Lim s.length) (w:World) (h:kL w rd P) (hP:P+200000<=1099511627776) :
 Calls Tryz.prog 12 #[.pointer (some ⟨rd,0,none⟩),str s] w (ArgsD rd (P+100000) w):=by
 have cL:=h.lt
 have H:=cH h;clear h
 have lU:=argsOf_len s
 go_enter Tryz.func12,Tryz.ntmps12
 go_wp2_with fail
 refine (pV s hs w).mono ?_
 rintro en w1 ⟨la,lc,rfl,cT,mP⟩
 obtain ⟨ok,co⟩:=zzM ((zQ s).2)
 rw [<- co]
 clear co
 have Ec:=cH (fun x (h:x∈vZ s)=>argsOf_each h)
 generalize vZ s=ls at *
 have dH:=H.out.below (cT.mono (cC _))
 have eK:=cT.size
 have hrd1:rd<w1.heap.size:=by omega
 have HX:=cH mP;have da:=cH cT;have HR1:=cH dH
 clear mP cT dH
 obtain ⟨W,hW⟩:=zzN (w1.alloc (.cells #[] 9))
 have rL:kL W rd P:=by rw [<- hW];exact HR1.out.alloc _
 have DQ:But (· = rd) w1 W:=by rw [<- hW];exact (But.refl _ _).alloc _
 have DI:Own W 9 1 (.slice (some ⟨w1.heap.size,0,none⟩) 0 0) 0 []:=by rw [<- hW];exact Own.litAt #[] 0 _ rfl (by decide) rfl
 have HW:=cH (cB hW (cB rL (cB DQ DI)))
 clear hW rL DQ DI
 go_wp2_with fail
 rw [HW.out.1]
 go_loopw [7,8] (fun o i wr=>∃ k:Nat,k<=ls.length/\i=.int .i64 k/\∃ a c ys,o=.slice a k c/\Own wr 9 1 (.slice a k c) k (List.map str ys)/\But (· = rd) w1 wr/\(∀ g,(Value.slice a k c).ownBlock=some g->w1.heap.size<=g)/\kL wr rd (P+6449*k)/\(∀ y∈ys,y.length<=100000)) (fun _ i _=>ls.length-(intOf i).toNat)
 case atStart=>exact ⟨0,Nat.zero_le _,rfl,_,_,[],rfl,HW.out.2.2.2,HW.out.2.2.1,fun g h=>by simp [Value.ownBlock] at h;omega,HW.out.2.1,by simp⟩
 case round =>
  obtain ⟨k,hk,rfl,a,c,ys,rfl,ho,hb,hf,hr,hy⟩:=hrel
  have HO:=cH ho;have HF:=cH hf;have HB:=cH hb;have HR:=cH hr;have HY:=cH hy
  clear ho hf hb hr hy
  by_cases Cm:k<ls.length
  ·have d8:(k:Int)<(ls.length:Int):=by omega
   obtain ⟨x,hx⟩:∃ x,ls[k]? = some x:=⟨ls[k],by simp [Cm]⟩
   obtain ⟨b,o,ea,rD,hc⟩:=HX.out k x hx
   subst ea
   have q0:wr.cell? ⟨b,o+k,none⟩=some (str x):=(HB.out.cell (p:=⟨b,o+k,none⟩) (cD w1 ⟨b,o+k,none⟩ hc) (fun e=>by have e2:b=rd:=e;omega)).trans hc
   have hE:=Ec.out x (List.mem_of_getElem? hx)
   have C1:=cH (yA rd (P+6449*k) x hE.1 hE.2 wr HR.out (by omega))
   clear hx hc hE
   go_wp2_with fail
   (with_reducible refine C1.out.mono ?_)
   intro en w4 h4
   obtain ⟨m,rfl,lm,dJ,tH⟩:=strat_len h4
   have nE:=HO.out.keep (w':=w4) fun g y hg hy=>by
    rw [dJ.block g (zZ hy) (fun e=>by have e2:g=rd:=e;have:=HF.out g hg;omega)];exact hy
   have lj:=cH (HB.out.trans dJ);have D8:=cH nE;have HR4:=cH tH;have HM:=cH lm
   clear dJ nE tH h4 C1 lm
   go_wp2_with (at_builtin;refine zG rfl _ _ 23 rfl 9 (str []) 1 16 Tryz.underlying23 Tryz.infoStr rfl (by decide) (.slice a k c) k (List.map str ys) rfl ?c1 _ 1 [str m] rfl ?c2 ?c3 ?c4 ?_)
   case c1=>exact D8.out.alloc _
   case c2=>exact zM.lit (by simp [Value.oneCell'])
   case c3=>unfold maxLen;omega
   case c4=>omega
   intro a' c' w7 dB cq ci
   have dG:But (· = rd) w1 w7:=(lj.out.alloc (.cells #[str m] 9)).trans' cq fun i hi e=>by have:=HF.out i e;omega
   have rI:kL w7 rd (P+6449*(k+1)):=by
    exact ((HR4.out.alloc (.cells #[str m] 9)).but cq fun i hi e=>by have:=HF.out i e;omega).mono (by omega)
   have dz:∀ g,(Value.slice a' (k+1) c').ownBlock=some g->w1.heap.size<=g:=by
    intro g h
    rcases ci g h with h | h
    ·exact HF.out g h
    ·have:=lj.out.size;omega
   have fm:Own w7 9 1 (.slice a' (k+1) c') (k+1) (List.map str (ys++[m])):=by rw [List.map_append];exact dB
   have rr:=cH (cB fm (cB dG (cB dz rI)));clear dB fm dG dz cq ci rI
   go_wp2_with fail
   go_roundw
   case rel=>exact ⟨k+1,by omega,by go_num,a',c',_,rfl,rr.out.1,rr.out.2.1,rr.out.2.2.1,rr.out.2.2.2,fun y hy=>by
    rcases List.mem_append.1 hy with h | h
    ·exact HY.out y h
    ·simp at h;subst h;exact HM.out⟩
   case measure=>simp [intOf];omega
  ·obtain rfl:k=ls.length:=by omega
   have cA:ys.length=ls.length:=by have:=HO.out.1;simpa using this
   have HL:=cH cA;clear cA
   go_wp2_with fail
   refine (vW rd (P+6449*ls.length) 24 wr HR.out (by omega) (by omega) (by omega)).mono ?_
   rintro en w2 ⟨v,rfl,hv,cS,de⟩
   have tD:=HO.out.keep (w':=w2) fun g y hg hy=>by
    rw [cS.block g (zZ hy) (fun e=>by have e2:g=rd:=e;have:=HF.out g hg;omega)];exact hy
   have dS:=cH (HB.out.trans cS);have HO2:=cH tD;have HR2:=cH de
   clear cS tD de
   have s7:=dS.out.size
   by_cases io:v=0
   ·subst io
    go_wp2_with (at_builtin;refine zG rfl _ _ 23 rfl 9 (str []) 1 16 Tryz.underlying23 Tryz.infoStr rfl (by decide) (.slice a ls.length c) ls.length (List.map str ys) rfl ?c1 _ 1 [str [116]] rfl ?c2 ?c3 ?c4 ?_)
    case c1=>exact HO2.out.alloc _
    case c2=>exact zM.lit (by simp [Value.oneCell'])
    case c3=>unfold maxLen;omega
    case c4=>omega
    intro a' c' w7 dB cq ci
    have dG:But (· = rd) w1 w7:=(dS.out.alloc (.cells #[str [116]] 9)).trans' cq fun i hi e=>by have:=HF.out i e;omega
    have rI:kL w7 rd (P+100000):=((HR2.out.alloc (.cells #[str [116]] 9)).but cq fun i hi e=>by have:=HF.out i e;omega).mono (by omega)
    have dz:∀ g,(Value.slice a' (ls.length+1) c').ownBlock=some g->w.heap.size<=g:=by
     intro g h
     rcases ci g h with h | h
     ·have:=HF.out g h;omega
     ·omega
    have fm:Own w7 9 1 (.slice a' (ls.length+1) c') (ls.length+1) (List.map str (ys++[[116]])):=by rw [List.map_append];exact dB
    have rr:=cH (cB fm (cB dG (cB dz rI)));clear dB fm dG dz cq ci rI
    go_wp2_with fail
    refine bodyPost_ret (v:=.slice a' (ls.length+1) c') (by simp [results,Tryz.results12,go_sem]) rfl ?_
    have oz:(ys++[[116]]).length=ls.length+1:=by rw [List.length_append,HL.out];rfl
    refine ⟨ys++[[116]],a',c',by rw [oz],by omega,by rw [oz];exact rr.out.1.cap,fun y hy=>?_,rr.out.1.strsNew rr.out.2.2.1,(But.ofBelow da.out).trans rr.out.2.1,rr.out.2.2.2⟩
    rcases List.mem_append.1 hy with h | h
    ·exact HY.out y h
    ·simp at h;subst h;simp
   ·have m8:((v:Int) == 0)=false:=by rw [beq_eq_false_iff_ne];omega
    go_wp2_with fail
    refine bodyPost_ret (v:=.slice a ls.length c) (by simp [results,Tryz.results12,go_sem]) rfl ?_
    refine ⟨ys,a,c,by rw [HL.out],by rw [HL.out];omega,by rw [HL.out];exact HO2.out.cap,HY.out,HO2.out.strsNew fun g h=>by have:=HF.out g h;omega,(But.ofBelow da.out).trans dS.out,HR2.out.mono (by omega)⟩
def DrawnA (w:World) (en:Ending) (w':World):Prop :=
 ∃ (s text:Bs) (xs:List Bs) (a:Option Addr) (c:Nat),en=.returned (.tuple #[str s,str text,.slice a xs.length c])/\s.length<=100/\text.length<=100000/\xs.length<=16/\xs.length<=c/\(∀ x∈xs,x.length<=100000)/\je w.heap.size w' a xs/\Below w.heap.size w w'
theorem drawRunOf_any (a0:Option Addr) (len cap:Nat) (zs:List Int) (w:World) (h:Row8 w a0 len cap zs) (hl:len<=1048576) :
 Calls Tryz.prog 4 #[.slice a0 len cap] w (DrawnA w):=by
 go_enter Tryz.func4,Tryz.ntmps4
 go_wp2_with fail
 refine (l6Open_any a0 len cap zs w h hl).mono ?_
 rintro en w1 ⟨rfl,cT,dH,d7⟩
 clear h
 go_wp2_with fail
 refine (l91Given_any w.heap.size 0 w1 dH (by omega)).mono ?_
 rintro en w2 ⟨s,text,rfl,hs,ht,cS,de⟩
 have dS:=cH (but_new cT (cC _) cS);clear cT cS dH
 go_wp2_with fail
 refine (l91Args_any w.heap.size (0+6500) s (show _<=_ by omega) w2 de (by omega)).mono ?_
 rintro en w3 ⟨xs,a,c,rfl,hl3,rx,aR,fq,cr,_⟩
 have n_:=cH (but_new dS.out (cC _) cr);have HN3:=cH (cB aR fq);clear cr de fq aR
 go_wp2_with fail
 refine bodyPost_ret (v:=.tuple #[str s,str text,.slice a xs.length c]) (by simp [results,Tryz.results4,go_sem]) rfl ?_
 exact ⟨s,text,xs,a,c,rfl,hs,ht,hl3,rx,HN3.out.1,fun k x hk=>by
  obtain ⟨b,o,e,hB,h⟩:=HN3.out.2 k x hk
  exact ⟨b,o,e,cR dS.out.size hB,h⟩,n_.out⟩
structure NodeC (F:Nat->Prop) (w:World) (rd rb nb:Nat) (no:Obj) (ob Z:Nat) (v:Int) (wr:World) (pk py:List Bd) (kv yv:List Value) (ks:Value) (nk:Nat) (ys:Value) (ny:Nat):Prop where
 hnk:nk=pk.length
 hny:ny=py.length
 ksl:∃ a c,ks=.slice a nk c
 ysl:∃ a c,ys=.slice a ny c
 but:But (· = rd) w wr
 res:kD rb 0 (.slice none 0 0) (.slice none 0 0) wr
 out:kD ob v ks ys wr
 ownK:Own wr 80 4 ks nk kv
 ownY:Own wr 80 4 ys ny yv
 blkK:∀ g,ks.ownBlock=some g->Z<=g/\ys.ownBlock≠some g
 blkY:∀ g,ys.ownBlock=some g->Z<=g
 repK:zH (fun b=>(F b\/Z<=b)/\ks.ownBlock≠some b/\ys.ownBlock≠some b) wr (zl pk) kv
 repY:zH (fun b=>(F b\/Z<=b)/\ks.ownBlock≠some b/\ys.ownBlock≠some b) wr (zl py) yv
 z:Z<=wr.heap.size
 old:∀ k,F k->k<w.heap.size/\k≠rd
 rbl:(w.heap.size<=rb/\rb<ob)/\(w.heap.size<=nb/\nb<ob)
 nbx:wr.heap[nb]? = some no
theorem NodeC.kid {F:Nat->Prop} {w:World} {rd rb nb:Nat} {no:Obj} {ob Z:Nat} {v:Int} {wr:World} {pk py:List Bd} {kv yv:List Value} {ks ys:Value} {nk ny:Nat}
 (h:NodeC F w rd rb nb no ob Z v wr pk py kv yv ks nk ys ny) (dT:rd<w.heap.size) (sj:ob<Z) (Bp:w.heap.size<ob) {W w7:World} {b:Bd} {cs:List Value} {a':Option Addr} {c':Nat}
 (cd:But (· = rd) wr W) (hcs:zH (fun k=>F k\/wr.heap.size<=k) W (kT b) cs) (cw:Own w7 80 4 (.slice a' (nk+1) c') (nk+1) (kv++cs)) (cq:But (fun i=>ks.ownBlock=some i) W w7)
 (ci:∀ g,(Value.slice a' (nk+1) c').ownBlock=some g->ks.ownBlock=some g\/g=W.heap.size) :
 NodeC F w rd rb nb no ob Z v (w7.setCell ⟨ob,2,none⟩ (.slice a' (nk+1) c')) (pk++[b]) py (kv++cs) yv (.slice a' (nk+1) c') (nk+1) ys ny:=by
 have z6:=cd.size
 have nG:=h.rbl
 have z7:=cq.size
 have zr:=h.z
 have zb:=h.but.size
 have keep:∀ i x,wr.heap[i]? = some x->ks.ownBlock≠some i->i≠ob->i≠rd->(w7.setCell ⟨ob,2,none⟩ (.slice a' (nk+1) c')).heap[i]? = some x:=by
  intro i x hx h1 h2 h3
  have:=zZ hx
  rw [cF _ _ _ _ (by simpa using h2),cq.block i (by omega) h1,cd.block i this h3];exact hx
 have dq:∀ i x,W.heap[i]? = some x->ks.ownBlock≠some i->i≠ob->(w7.setCell ⟨ob,2,none⟩ (.slice a' (nk+1) c')).heap[i]? = some x:=by
  intro i x hx h1 h2
  have:=zZ hx
  rw [cF _ _ _ _ (by simpa using h2),cq.block i (by omega) h1];exact hx
 have FO:∀ i,F i\/Z<=i->i≠ob/\i≠rd:=fun i hi=>by
  rcases hi with hi | hi
  ·have:=h.old i hi;omega
  ·omega
 have ltK:∀ g,ks.ownBlock=some g->g<wr.heap.size:=fun g hg=>h.ownK.lt hg
 have ltY:∀ g,ys.ownBlock=some g->g<wr.heap.size:=fun g hg=>h.ownY.lt hg
 have nK:∀ i,i<Z->ks.ownBlock≠some i:=fun i hi e=>by have:=(h.blkK i e).1;omega
 have newg:∀ g,(Value.slice a' (nk+1) c').ownBlock=some g->Z<=g:=fun g hg=>by
  rcases ci g hg with e | e
  ·exact (h.blkK g e).1
  ·omega
 refine ⟨by simp [h.hnk],h.hny,⟨_,_,rfl⟩,h.ysl,?_,?_,?_,?_,?_,?_,h.blkY,?_,?_,by simp [World.setCell];omega,h.old,h.rbl,?_⟩
 ·refine But.setCell ?_ (.inr (show w.heap.size<=ob by omega)) _
  exact (h.but.trans cd).trans' cq (fun i hi e=>absurd e (nK i (by omega)))
 ·exact keep _ _ h.res (nK _ (by omega)) (by omega) (by omega)
 ·have h1:kD ob v ks ys w7:=by
   unfold kD;rw [cq.block ob (by omega) (nK _ sj),cd.block ob (by omega) (show ¬ ob=rd by omega)];exact h.out
  exact h1.put2
 ·exact cw.keep fun g o hg ho=>by rw [cF _ _ _ _ (by have:=newg g hg;simp;omega)];exact ho
 ·exact h.ownY.keep fun g o hg ho=>keep g o ho (fun e=>(h.blkK g e).2 hg) (by have:=h.blkY g hg;omega) (by have:=h.blkY g hg;omega)
 ·intro g hg
  refine ⟨newg g hg,fun e=>?_⟩
  rcases ci g hg with e' | e'
  ·exact (h.blkK g e').2 e
  ·have:=ltY g e;omega
 ·rw [k9]
  have h1:=h.repK
  refine zH.append ((Rep.keep fun i x hi hx=>⟨⟨hi.1,fun e=>(ci i e).elim (fun e'=>hi.2.1 e') (fun e'=>by have:=zZ hx;omega),hi.2.2⟩,keep i x hx hi.2.1 (FO i hi.1).1 (FO i hi.1).2⟩).2 _ _ h1) ?_
  ·have e1:zl [b]=kT b:=by simp [zl]
   rw [e1]
   refine (Rep.keep fun i x hi hx=>?_).2 _ _ hcs
   have h2:=zZ hx
   rcases hi with hf | h3
   ·have C8:=(h.old i hf).1
    exact ⟨⟨.inl hf,fun e=>by have:=newg i e;omega,fun e=>by have:=h.blkY i e;omega⟩,dq i x hx (fun e=>by have:=(h.blkK i e).1;omega) (by omega)⟩
   refine ⟨⟨.inr (by omega),fun e=>?_,fun e=>by have:=ltY i e;omega⟩,dq i x hx (fun e=>by have:=ltK i e;omega) (by omega)⟩
   rcases ci i e with e' | e'
   ·have:=ltK i e';omega
   ·omega
 ·exact (Rep.keep fun i x hi hx=>⟨⟨hi.1,fun e=>(ci i e).elim (fun e'=>hi.2.1 e') (fun e'=>by have:=zZ hx;omega),hi.2.2⟩,keep i x hx hi.2.1 (FO i hi.1).1 (FO i hi.1).2⟩).2 _ _ h.repY
 ·exact keep _ _ h.nbx (nK _ (by omega)) (by omega) (by omega)
theorem NodeC.yes {F:Nat->Prop} {w:World} {rd rb nb:Nat} {no:Obj} {ob Z:Nat} {v:Int} {wr:World} {pk py:List Bd} {kv yv:List Value} {ks ys:Value} {nk ny:Nat}
 (h:NodeC F w rd rb nb no ob Z v wr pk py kv yv ks nk ys ny) (dT:rd<w.heap.size) (sj:ob<Z) (Bp:w.heap.size<ob) {W w7:World} {b:Bd} {cs:List Value} {a':Option Addr} {c':Nat}
 (cd:But (· = rd) wr W) (hcs:zH (fun k=>F k\/wr.heap.size<=k) W (kT b) cs) (cw:Own w7 80 4 (.slice a' (ny+1) c') (ny+1) (yv++cs)) (cq:But (fun i=>ys.ownBlock=some i) W w7)
 (ci:∀ g,(Value.slice a' (ny+1) c').ownBlock=some g->ys.ownBlock=some g\/g=W.heap.size) :
 NodeC F w rd rb nb no ob Z v (w7.setCell ⟨ob,3,none⟩ (.slice a' (ny+1) c')) pk (py++[b]) kv (yv++cs) ks nk (.slice a' (ny+1) c') (ny+1):=by
 have z6:=cd.size
 have nG:=h.rbl
 have z7:=cq.size
 have zr:=h.z
 have zb:=h.but.size
 have keep:∀ i x,wr.heap[i]? = some x->ys.ownBlock≠some i->i≠ob->i≠rd->(w7.setCell ⟨ob,3,none⟩ (.slice a' (ny+1) c')).heap[i]? = some x:=by
  intro i x hx h1 h2 h3
  have:=zZ hx
  rw [cF _ _ _ _ (by simpa using h2),cq.block i (by omega) h1,cd.block i this h3];exact hx
 have dq:∀ i x,W.heap[i]? = some x->ys.ownBlock≠some i->i≠ob->(w7.setCell ⟨ob,3,none⟩ (.slice a' (ny+1) c')).heap[i]? = some x:=by
  intro i x hx h1 h2
  have:=zZ hx
  rw [cF _ _ _ _ (by simpa using h2),cq.block i (by omega) h1];exact hx
 have FO:∀ i,F i\/Z<=i->i≠ob/\i≠rd:=fun i hi=>by
  rcases hi with hi | hi
  ·have:=h.old i hi;omega
  ·omega
 have ltK:∀ g,ks.ownBlock=some g->g<wr.heap.size:=fun g hg=>h.ownK.lt hg
 have ltY:∀ g,ys.ownBlock=some g->g<wr.heap.size:=fun g hg=>h.ownY.lt hg
 have nY:∀ i,i<Z->ys.ownBlock≠some i:=fun i hi e=>by have:=h.blkY i e;omega
 have newg:∀ g,(Value.slice a' (ny+1) c').ownBlock=some g->Z<=g:=fun g hg=>by
  rcases ci g hg with e | e
  ·exact h.blkY g e
  ·omega
 refine ⟨h.hnk,by simp [h.hny],h.ksl,⟨_,_,rfl⟩,?_,?_,?_,?_,?_,?_,newg,?_,?_,by simp [World.setCell];omega,h.old,h.rbl,?_⟩
 ·refine But.setCell ?_ (.inr (show w.heap.size<=ob by omega)) _
  exact (h.but.trans cd).trans' cq (fun i hi e=>absurd e (nY i (by omega)))
 ·exact keep _ _ h.res (nY _ (by omega)) (by omega) (by omega)
 ·have h1:kD ob v ks ys w7:=by
   unfold kD;rw [cq.block ob (by omega) (nY _ sj),cd.block ob (by omega) (show ¬ ob=rd by omega)];exact h.out
  exact h1.put3
 ·exact h.ownK.keep fun g o hg ho=>keep g o ho (h.blkK g hg).2 (by have:=(h.blkK g hg).1;omega) (by have:=(h.blkK g hg).1;omega)
 ·exact cw.keep fun g o hg ho=>by rw [cF _ _ _ _ (by have:=newg g hg;simp;omega)];exact ho
 ·intro g hg
  refine ⟨(h.blkK g hg).1,fun e=>?_⟩
  rcases ci g e with e' | e'
  ·exact (h.blkK g hg).2 e'
  ·have:=ltK g hg;omega
 ·exact (Rep.keep fun i x hi hx=>⟨⟨hi.1,hi.2.1,fun e=>(ci i e).elim (fun e'=>hi.2.2 e') (fun e'=>by have:=zZ hx;omega)⟩,keep i x hx hi.2.2 (FO i hi.1).1 (FO i hi.1).2⟩).2 _ _ h.repK
 ·rw [k9]
  refine zH.append ((Rep.keep fun i x hi hx=>⟨⟨hi.1,hi.2.1,fun e=>(ci i e).elim (fun e'=>hi.2.2 e') (fun e'=>by have:=zZ hx;omega)⟩,keep i x hx hi.2.2 (FO i hi.1).1 (FO i hi.1).2⟩).2 _ _ h.repY) ?_
  ·have e1:zl [b]=kT b:=by simp [zl]
   rw [e1]
   refine (Rep.keep fun i x hi hx=>?_).2 _ _ hcs
   have h2:=zZ hx
   rcases hi with hf | h3
   ·have C8:=(h.old i hf).1
    exact ⟨⟨.inl hf,fun e=>by have:=(h.blkK i e).1;omega,fun e=>by have:=newg i e;omega⟩,dq i x hx (fun e=>by have:=h.blkY i e;omega) (by omega)⟩
   refine ⟨⟨.inr (by omega),fun e=>by have:=ltK i e;omega,fun e=>?_⟩,dq i x hx (fun e=>by have:=ltY i e;omega) (by omega)⟩
   rcases ci i e with e' | e'
   ·have:=ltY i e';omega
   ·omega
 ·exact keep _ _ h.nbx (nY _ (by omega)) (by omega) (by omega)
theorem kL.not_str {w:World} {rd P j:Nat} {x:Bs} (h:kL w rd P) (hc:w.cell? ⟨rd,j,none⟩=some (str x)):False:=by
 obtain ⟨a,m,c,p,h1,hp,hm,hcs⟩:=h
 simp only [World.cell?,h1] at hc
 match j,hc with
 | 0,hc=>simp at hc
 | 1,hc=>simp at hc
 | j+2,hc=>simp at hc
theorem AtN.out {F:Nat->Prop} {w:World} {bs:List Bd} {a:Option Addr} {k rd P:Nat} (h:AtN F w bs a k) (hr:kL w rd P):∃ b o s v a2 n2 c2 a3 n3 c3 d,a=some ⟨b,o,none⟩/\b<w.heap.size/\b≠rd/\bs[k]? = some d/\w.cell? ⟨b,o+k*4,none⟩=some (str s)/\w.cell? ⟨b,o+k*4+1,none⟩=some (.int .i64 v) /\
 w.cell? ⟨b,o+k*4+2,none⟩=some (.slice a2 n2 c2)/\w.cell? ⟨b,o+k*4+3,none⟩=some (.slice a3 n3 c3)/\zH F w (kT d) [str s,.int .i64 v,.slice a2 n2 c2,.slice a3 n3 c3]:=by
 obtain ⟨b,o,s,v,a2,n2,c2,a3,n3,c3,d,rfl,hb,hd,h0,h1,h2,h3,mz⟩:=h
 refine ⟨b,o,s,v,a2,n2,c2,a3,n3,c3,d,rfl,hb,fun e=>?_,hd,h0,h1,h2,h3,mz⟩
 rw [e] at h0
 exact hr.not_str h0
theorem gX {t:Ty} (h:zU t<=15):(∀ a∈t.args,zU a<=15)/\t.args.length<=15:=by
 have hm:=zg t
 constructor
 ·intro a ha
  have key:∀ ts:List Ty,a∈ts->1+zU a<=zR ts:=by
   intro ts
   induction ts with
   | nil=>intro h;simp at h
   | cons x xs ih =>
     intro h
     rcases List.mem_cons.1 h with rfl | h
     ·simp only [zR];omega
     ·have:=ih h;simp only [zR];omega
  have:=key _ ha;omega
 ·have:=zd t.args;omega
end Go.Proofs.YtdhaafoiokkbnaaGreatDoor

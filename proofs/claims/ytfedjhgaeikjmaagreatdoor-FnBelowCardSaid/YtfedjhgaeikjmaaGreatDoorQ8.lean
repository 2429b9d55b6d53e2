/- Walks of functions that the statement reaches, and plain words. No conditions. -/
import Derived.Deep.RegionLaw
import Derived.Lib.SliceRun
import Derived.RangeFuncNested
import Derived.RangeFuncBound
import Derived.RangeFuncCalls
import Derived.RangeFuncLeaves
import Derived.RangeFuncFrom
import Derived.RangeFuncBox
import Derived.Shelf.Abstract
import Derived.Shelf.RegionOpen
import Derived.OwnWalkIn
import Derived.TacticsInMore
import Derived.LoopNIn
import Derived.LoopIn
import Derived.Test.YtfedjhgaeikjmaaGreatDoorQ7
set_option linter.unusedVariables false
set_option linter.unusedSimpArgs false
set_option maxHeartbeats 8000000
namespace Go.Proofs.YtfedjhgaeikjmaaGreatDoor
open Go.RowKit
theorem kY.storeB {ob:Nat} {v:Int} {ks ys:Value} {w:World} (h:kY ob v ks ys w) (u0 u1 u2 u3:Value) :
 ∃ W,W=((((w.setCell ⟨ob,0,none⟩ u0).setCell ⟨ob,1,none⟩ u1).setCell ⟨ob,2,none⟩ u2).setCell ⟨ob,3,none⟩ u3) /\
   W.cell? ⟨ob,0,none⟩=some u0/\W.cell? ⟨ob,1,none⟩=some u1/\W.cell? ⟨ob,2,none⟩=some u2/\W.cell? ⟨ob,3,none⟩=some u3 /\
   (∀ (m:Nat->Prop) w0,But m w0 w->w0.heap.size<=ob->But m w0 W)/\(∀ i x,i≠ob->w.heap[i]? = some x->W.heap[i]? = some x)/\(∀ rd P,rd<ob->kW w rd P->kW W rd P):=by
 obtain ⟨W,hW,s0,s1,s2,s3,_,hk⟩:=h.store u0 u1 u2 u3
 have hB:∀ (m:Nat->Prop) w0,But m w0 w->(m ob\/w0.heap.size<=ob)->But m w0 W:=by
  intro m w0 hb ho
  rw [hW]
  exact ((((hb.setCell (p:=⟨ob,0,none⟩) ho _).setCell (p:=⟨ob,1,none⟩) ho _).setCell (p:=⟨ob,2,none⟩) ho _).setCell (p:=⟨ob,3,none⟩) ho _)
 refine ⟨W,hW,s0,s1,s2,s3,fun m w0 hb ho=>hB m w0 hb (.inr ho),hk,fun rd P gH hr=>?_⟩
 exact hr.but (hB (· = ob) w (But.refl _ _) (.inl rfl)) (fun i hi e=>by omega)
structure wU (w:World) (rd ob Z:Nat) (v:Int) (wr:World) (pk py:List Bd) (kv yv:List Value) (ks:Value) (nk:Nat) (ys:Value) (ny:Nat):Prop where
 hnk:nk=pk.length
 hny:ny=py.length
 ksl:∃ a c,ks=.slice a nk c
 ysl:∃ a c,ys=.slice a ny c
 but:But (· = rd) w wr
 res:kY w.heap.size 0 (.slice none 0 0) (.slice none 0 0) wr
 out:kY ob v ks ys wr
 ownK:Own wr 64 4 ks nk kv
 ownY:Own wr 64 4 ys ny yv
 blkK:∀ g,ks.ownBlock=some g->Z<=g/\ys.ownBlock≠some g
 blkY:∀ g,ys.ownBlock=some g->Z<=g
 repK:zD (fun b=>Z<=b/\ks.ownBlock≠some b/\ys.ownBlock≠some b) wr (kH pk) kv
 repY:zD (fun b=>Z<=b/\ks.ownBlock≠some b/\ys.ownBlock≠some b) wr (kH py) yv
 z:Z<=wr.heap.size
theorem wU.kid {w:World} {rd ob Z:Nat} {v:Int} {wr:World} {pk py:List Bd} {kv yv:List Value} {ks ys:Value} {nk ny:Nat}
 (h:wU w rd ob Z v wr pk py kv yv ks nk ys ny) (cJ:rd<w.heap.size) (fY:ob<Z) (aG:w.heap.size<ob) {W w7:World} {b:Bd} {cs:List Value} {a':Option Addr} {c':Nat}
 (gB:But (· = rd) wr W) (hcs:zD (wr.heap.size<=·) W (kF b) cs) (gM:Own w7 64 4 (.slice a' (nk+1) c') (nk+1) (kv++cs)) (gD:But (fun i=>ks.ownBlock=some i) W w7)
 (gL:∀ g,(Value.slice a' (nk+1) c').ownBlock=some g->ks.ownBlock=some g\/g=W.heap.size) :
 wU w rd ob Z v (w7.setCell ⟨ob,2,none⟩ (.slice a' (nk+1) c')) (pk++[b]) py (kv++cs) yv (.slice a' (nk+1) c') (nk+1) ys ny:=by
 have z6:=gB.size
 have z7:=gD.size
 have zr:=h.z
 have zb:=h.but.size
 have keep:∀ i x,wr.heap[i]? = some x->ks.ownBlock≠some i->i≠ob->i≠rd->(w7.setCell ⟨ob,2,none⟩ (.slice a' (nk+1) c')).heap[i]? = some x:=by
  intro i x hx h1 h2 h3
  have:=zZ hx
  rw [gU _ _ _ _ (by simpa using h2),gD.block i (by omega) h1,gB.block i this h3];exact hx
 have gr:∀ i x,W.heap[i]? = some x->ks.ownBlock≠some i->i≠ob->(w7.setCell ⟨ob,2,none⟩ (.slice a' (nk+1) c')).heap[i]? = some x:=by
  intro i x hx h1 h2
  have:=zZ hx
  rw [gU _ _ _ _ (by simpa using h2),gD.block i (by omega) h1];exact hx
 have ltK:∀ g,ks.ownBlock=some g->g<wr.heap.size:=fun g hg=>h.ownK.lt hg
 have ltY:∀ g,ys.ownBlock=some g->g<wr.heap.size:=fun g hg=>h.ownY.lt hg
 have nK:∀ i,i<Z->ks.ownBlock≠some i:=fun i hi e=>by have:=(h.blkK i e).1;omega
 have newg:∀ g,(Value.slice a' (nk+1) c').ownBlock=some g->Z<=g:=fun g hg=>by
  rcases gL g hg with e | e
  ·exact (h.blkK g e).1
  ·omega
 refine ⟨by simp [h.hnk],h.hny,⟨_,_,rfl⟩,h.ysl,?_,?_,?_,?_,?_,?_,h.blkY,?_,?_,by simp [World.setCell];omega⟩
 ·refine But.setCell ?_ (.inr (show w.heap.size<=ob by omega)) _
  exact (h.but.trans gB).trans' gD (fun i hi e=>absurd e (nK i (by omega)))
 ·exact keep _ _ h.res (nK _ (by omega)) (by omega) (by omega)
 ·have h1:kY ob v ks ys w7:=by
   unfold kY;rw [gD.block ob (by omega) (nK _ fY),gB.block ob (by omega) (show ¬ ob=rd by omega)];exact h.out
  exact h1.put2
 ·exact gM.keep fun g o hg ho=>by rw [gU _ _ _ _ (by have:=newg g hg;simp;omega)];exact ho
 ·exact h.ownY.keep fun g o hg ho=>keep g o ho (fun e=>(h.blkK g e).2 hg) (by have:=h.blkY g hg;omega) (by have:=h.blkY g hg;omega)
 ·intro g hg
  refine ⟨newg g hg,fun e=>?_⟩
  rcases gL g hg with e' | e'
  ·exact (h.blkK g e').2 e
  ·have:=ltY g e;omega
 ·rw [k7]
  have h1:=h.repK
  refine zD.append ((Rep.keep fun i x hi hx=>⟨⟨hi.1,fun e=>(gL i e).elim (fun e'=>hi.2.1 e') (fun e'=>by have:=zZ hx;omega),hi.2.2⟩,keep i x hx hi.2.1 (by have:=hi.1;omega) (by have:=hi.1;omega)⟩).2 _ _ h1) ?_
  ·have e1:kH [b]=kF b:=by simp [kH]
   rw [e1]
   refine (Rep.keep fun i x hi hx=>?_).2 _ _ hcs
   have h2:=zZ hx
   have h3:wr.heap.size<=i:=hi
   refine ⟨⟨by omega,fun e=>?_,fun e=>by have:=ltY i e;omega⟩,gr i x hx (fun e=>by have:=ltK i e;omega) (by omega)⟩
   rcases gL i e with e' | e'
   ·have:=ltK i e';omega
   ·omega
 ·exact (Rep.keep fun i x hi hx=>⟨⟨hi.1,fun e=>(gL i e).elim (fun e'=>hi.2.1 e') (fun e'=>by have:=zZ hx;omega),hi.2.2⟩,keep i x hx hi.2.1 (by have:=hi.1;omega) (by have:=hi.1;omega)⟩).2 _ _ h.repY
theorem wU.yes {w:World} {rd ob Z:Nat} {v:Int} {wr:World} {pk py:List Bd} {kv yv:List Value} {ks ys:Value} {nk ny:Nat}
 (h:wU w rd ob Z v wr pk py kv yv ks nk ys ny) (cJ:rd<w.heap.size) (fY:ob<Z) (aG:w.heap.size<ob) {W w7:World} {b:Bd} {cs:List Value} {a':Option Addr} {c':Nat}
 (gB:But (· = rd) wr W) (hcs:zD (wr.heap.size<=·) W (kF b) cs) (gM:Own w7 64 4 (.slice a' (ny+1) c') (ny+1) (yv++cs)) (gD:But (fun i=>ys.ownBlock=some i) W w7)
 (gL:∀ g,(Value.slice a' (ny+1) c').ownBlock=some g->ys.ownBlock=some g\/g=W.heap.size) :
 wU w rd ob Z v (w7.setCell ⟨ob,3,none⟩ (.slice a' (ny+1) c')) pk (py++[b]) kv (yv++cs) ks nk (.slice a' (ny+1) c') (ny+1):=by
 have z6:=gB.size
 have z7:=gD.size
 have zr:=h.z
 have zb:=h.but.size
 have keep:∀ i x,wr.heap[i]? = some x->ys.ownBlock≠some i->i≠ob->i≠rd->(w7.setCell ⟨ob,3,none⟩ (.slice a' (ny+1) c')).heap[i]? = some x:=by
  intro i x hx h1 h2 h3
  have:=zZ hx
  rw [gU _ _ _ _ (by simpa using h2),gD.block i (by omega) h1,gB.block i this h3];exact hx
 have gr:∀ i x,W.heap[i]? = some x->ys.ownBlock≠some i->i≠ob->(w7.setCell ⟨ob,3,none⟩ (.slice a' (ny+1) c')).heap[i]? = some x:=by
  intro i x hx h1 h2
  have:=zZ hx
  rw [gU _ _ _ _ (by simpa using h2),gD.block i (by omega) h1];exact hx
 have ltK:∀ g,ks.ownBlock=some g->g<wr.heap.size:=fun g hg=>h.ownK.lt hg
 have ltY:∀ g,ys.ownBlock=some g->g<wr.heap.size:=fun g hg=>h.ownY.lt hg
 have nY:∀ i,i<Z->ys.ownBlock≠some i:=fun i hi e=>by have:=h.blkY i e;omega
 have newg:∀ g,(Value.slice a' (ny+1) c').ownBlock=some g->Z<=g:=fun g hg=>by
  rcases gL g hg with e | e
  ·exact h.blkY g e
  ·omega
 refine ⟨h.hnk,by simp [h.hny],h.ksl,⟨_,_,rfl⟩,?_,?_,?_,?_,?_,?_,newg,?_,?_,by simp [World.setCell];omega⟩
 ·refine But.setCell ?_ (.inr (show w.heap.size<=ob by omega)) _
  exact (h.but.trans gB).trans' gD (fun i hi e=>absurd e (nY i (by omega)))
 ·exact keep _ _ h.res (nY _ (by omega)) (by omega) (by omega)
 ·have h1:kY ob v ks ys w7:=by
   unfold kY;rw [gD.block ob (by omega) (nY _ fY),gB.block ob (by omega) (show ¬ ob=rd by omega)];exact h.out
  exact h1.put3
 ·exact h.ownK.keep fun g o hg ho=>keep g o ho (h.blkK g hg).2 (by have:=(h.blkK g hg).1;omega) (by have:=(h.blkK g hg).1;omega)
 ·exact gM.keep fun g o hg ho=>by rw [gU _ _ _ _ (by have:=newg g hg;simp;omega)];exact ho
 ·intro g hg
  refine ⟨(h.blkK g hg).1,fun e=>?_⟩
  rcases gL g e with e' | e'
  ·exact (h.blkK g hg).2 e'
  ·have:=ltK g hg;omega
 ·exact (Rep.keep fun i x hi hx=>⟨⟨hi.1,hi.2.1,fun e=>(gL i e).elim (fun e'=>hi.2.2 e') (fun e'=>by have:=zZ hx;omega)⟩,keep i x hx hi.2.2 (by have:=hi.1;omega) (by have:=hi.1;omega)⟩).2 _ _ h.repK
 ·rw [k7]
  refine zD.append ((Rep.keep fun i x hi hx=>⟨⟨hi.1,hi.2.1,fun e=>(gL i e).elim (fun e'=>hi.2.2 e') (fun e'=>by have:=zZ hx;omega)⟩,keep i x hx hi.2.2 (by have:=hi.1;omega) (by have:=hi.1;omega)⟩).2 _ _ h.repY) ?_
  ·have e1:kH [b]=kF b:=by simp [kH]
   rw [e1]
   refine (Rep.keep fun i x hi hx=>?_).2 _ _ hcs
   have h2:=zZ hx
   have h3:wr.heap.size<=i:=hi
   refine ⟨⟨by omega,fun e=>by have:=ltK i e;omega,fun e=>?_⟩,gr i x hx (fun e=>by have:=ltY i e;omega) (by omega)⟩
   rcases gL i e with e' | e'
   ·have:=ltY i e';omega
   ·omega
def cst:Nat->Nat
 | 0=>1
 | d+1=>5+17*cst d
def bnd:Nat->Nat
 | 0=>1
 | d+1=>1+17*bnd d
theorem cst_pos (d:Nat):2<=cst d\/d=0/\cst d=1:=by cases d <;> simp [cst];omega
theorem bnd_pos (d:Nat):1<=bnd d:=by cases d <;> simp [bnd]
theorem pg {s:Bs} (h:s∈kI):∃ c,s=[c]:=by
 simp only [kI,List.mem_cons,List.not_mem_nil,or_false] at h
 rcases h with rfl | rfl | rfl | rfl | rfl <;> exact ⟨_,rfl⟩
def BodyD (rd Q d:Nat) (hand:List Ty) (w:World) (en:Ending) (w':World):Prop :=
 ∃ (b:Bd) (s:Bs) (v:Int) (a2:Option Addr) (n2 c2:Nat) (a3:Option Addr) (n3 c3:Nat),en=.returned (.agg #[str s,.int .i64 v,.slice a2 n2 c2,.slice a3 n3 c3])/\But (· = rd) w w'/\kW w' rd Q /\
   zm hand b/\lvB b/\zP b<=bnd d/\zD (w.heap.size<=·) w' (kF b) [str s,.int .i64 v,.slice a2 n2 c2,.slice a3 n3 c3]
def DrawB (rd d:Nat):Prop:=∀ (z:Int) (hand:List Ty) (F:Nat->Prop) (hv:Value) (w:World) (P:Nat),z<=d->-1000<=z->P+cst d<=1099511627776->kW w rd P->kj d hand->(∀ k,F k->k≠rd) ->
 Rep F w (.sl 61 1 hand.length (qQ hand)) hv ->
 Calls Tryz.prog 58 #[.pointer (some ⟨rd,0,none⟩),hv,.int .i64 z] w (BodyD rd (P+cst d) d hand w)
theorem uH.newAt {w:World} {rd:Nat} (cJ:rd<w.heap.size) (xs:List Bs) (n:Nat) (hn:n=xs.length) (e:TypeId) (g:Nat) (hg:g=w.heap.size):uH (w.alloc (.cells (xs.map str).toArray e)) rd (.slice (some ⟨g,0,none⟩) n n) xs:=by
 subst hg;exact uH.new cJ xs n hn e
theorem ye {F:Nat->Prop} {w:World} (c:UInt8):zD F w (kF (.leaf c)) [str [c],.int .i64 0,.slice none 0 0,.slice none 0 0]:=by
 rw [kF]
 have h0:Rep F w (.sl 64 4 0 []) (.slice none 0 0):=qB.2 ⟨rfl,none,0,rfl,gQ _,fun _=>rfl,.inl rfl⟩
 exact zU.2 ⟨_,_,rfl,zf.2 rfl,zU.2 ⟨_,_,rfl,zf.2 rfl,zU.2 ⟨_,_,rfl,h0,zU.2 ⟨_,_,rfl,h0,zI.2 rfl⟩⟩⟩⟩
def KidsD (w:World) (rd ob Z v P d:Nat) (hand:List Ty) (t:Ty) (k:Nat) (wr:World):Prop :=
 ∃ (pk:List Bd) (kv:List Value) (ks:Value) (nk:Nat),wU w rd ob Z v wr pk [] kv [] ks nk (.slice none 0 0) 0/\pk.length=k/\z_ (kP hand (t.args.take k)) pk/\qd pk/\zW pk<=k*bnd d/\kW wr rd (P+k*cst d)
def YesD (w:World) (rd ob Z v P d:Nat) (hand:List Ty) (pk:List Bd) (kv:List Value) (ks:Value) (nk:Nat) (k:Nat) (wr:World):Prop :=
 ∃ (py:List Bd) (yv:List Value) (ys:Value) (ny:Nat),wU w rd ob Z v wr pk py kv yv ks nk ys ny/\py.length=k/\(∀ b∈py,zm hand b)/\qd py/\zW py<=k*bnd d/\kW wr rd (P+k*(1+cst d))
theorem jI:∀ (xs ys:List Bd),qd xs->qd ys->qd (xs++ys)
 | [],ys,_,h=>by simpa using h
 | x::xs,ys,h1,h2=>by
   rw [qd] at h1
   simp only [List.cons_append]
   rw [qd]
   exact ⟨h1.1,jI xs ys h1.2 h2⟩
theorem ym {b:Bd} (h:lvB b):qd [b]:=by rw [qd];exact ⟨h,by rw [qd];trivial⟩
theorem rep_len {F:Nat->Prop} {w:World} {e:TypeId} {a:Option Addr} {c:Nat} {xs ys:List Ty} (h:Rep F w (.sl e 1 (xs++ys).length (qQ (xs++ys))) (.slice a (xs++ys).length c)) :
 Rep F w (.sl e 1 (xs++ys).length (qQ (xs++ys))) (.slice a (xs.length+ys.length) c):=by
 have e:xs.length+ys.length=(xs++ys).length:=by simp
 rw [e];exact h
theorem but_drew {m:Nat->Prop} {w w':World} (h:Below w.drew.heap.size w.drew w'):But m w w':=⟨h.os,h.tape,h.output,h.size,fun i hi _=>h.block i hi⟩
theorem ui {m:Nat->Prop} {w w':World} (h:But m w.drew w'):But m w w':=⟨h.os,h.tape,h.output,h.size,h.block⟩
theorem uF (x:Int) (h1 : -2000<=x) (h2:x<=1000000):IntKind.i64.wrap x=x:=by
 simp [IntKind.wrap,IntKind.bits,IntKind.signed];omega
theorem wrap_sub (z:Int) (p:Nat) (h1:0<z) (h2:z<=1000) (h3:p<2):IntKind.i64.wrap (z-1-(p:Int))=z-1-p:=uF _ (by omega) (by omega)
theorem sub_le {z:Int} {p d:Nat} (h2:z<=((d+1:Nat):Int)):z-1-(p:Int)<=d:=by omega
theorem sub_lo {z:Int} {p:Nat} (h1:0<z) (h3:p<2) : -1000<=z-1-(p:Int):=by omega
theorem reps_past {B B':Nat} {w:World} {o:Obj} {ds:List DV} {vs:List Value} (hB:B'<=B) (h:zD (B<=·) w ds vs):zD (B'<=·) (w.alloc o) ds vs :=
 (Rep.keep fun _ _ hi hx=>⟨gX hB hi,zG hx⟩).2 _ _ h
set_option maxRecDepth 100000 in
theorem yi (rd d:Nat) (hd:d<=100) (ih:∀ d',d=d'+1->DrawB rd d'):DrawB rd d:=by
 intro z hand F hv w P hz hzl hP hr hh hF eO
 have IH:=gZ ih;clear ih
 have gH:=hr.lt
 have CST:=gZ (cst_pos d)
 have BND:=gZ (bnd_pos d)
 have nU:kW (w.alloc (.cells #[str [],.int .i64 0,.slice none 0 0,.slice none 0 0] 64)) rd P:=hr.alloc _
 have nW:kY w.heap.size 0 (.slice none 0 0) (.slice none 0 0) (w.alloc (.cells #[str [],.int .i64 0,.slice none 0 0,.slice none 0 0] 64)):=kJ _ _
 have nG:But (· = rd) w (w.alloc (.cells #[str [],.int .i64 0,.slice none 0 0,.slice none 0 0] 64)):=(But.refl _ _).alloc _
 obtain ⟨a0,k0,e,_,_,hat⟩:=zM eO
 subst e
 have HAT:=gZ hat;have ly:=gZ eO;have HF:=gZ hF;have HH:=gZ hh
 have gC:hand.length<=10000:=by have:=hh.2;omega
 clear hat eO hF hh hr
 by_cases rz:z<=0
 ·go_enter Tryz.func58,Tryz.ntmps58
  have H0:=gZ (gK nU (gK nW nG))
  have fu:=H0.out.1.lt
  clear nU nW nG
  go_wp2_with fail
  obtain ⟨ez,dN,dA⟩:=H0.out
  refine (xL rd (P) (.slice (some ⟨w.heap.size+1,0,none⟩) 5 5) kI _ (ez.alloc (.cells (kI.map str).toArray 9)) (uH.newAt fu kI 5 rfl _ (w.heap.size+1) (by simp)) (by decide) (by decide) (by omega)).mono ?_
  rintro en w2 ⟨s,hs,rfl,gP,gd⟩
  obtain ⟨c,rfl⟩:=pg hs
  clear hs
  have g9:kY w.heap.size 0 (.slice none 0 0) (.slice none 0 0) w2:=kY.but (by unfold kY;exact zG dN) gP (show ¬ w.heap.size=rd by omega)
  have bE:=(dA.alloc (.cells (kI.map str).toArray 9)).trans gP
  obtain ⟨r0,r1,r2,r3,rl,rf⟩:=g9.cells
  have fB:=rf 0;have nR:=rf 1;have nN:=rf 2;have nM:=rf 3;clear rf
  have HQ:=gZ (gK g9 (gK bE gd));clear g9 bE gd gP dN dA ez
  go_wp2_with fail
  obtain ⟨g9,bE,gd⟩:=HQ.out
  obtain ⟨W,hW,s0,s1,s2,s3,gG,bW,dJ⟩:=g9.storeB (str [c]) (.int .i64 0) (.slice none 0 0) (.slice none 0 0)
  rw [<- hW]
  refine bodyPost_ret (v:=.agg #[str [c],.int .i64 0,.slice none 0 0,.slice none 0 0]) (by simp [results,Tryz.results58,go_sem,s0,s1,s2,s3]) rfl ?_
  exact ⟨.leaf c,[c],0,none,0,0,none,0,0,rfl,gG _ _ bE (gQ _),(dJ _ _ gH gd).mono (by have:=CST.out;omega),by simp [zm],by simp [lvB],by simp only [zP];exact BND.out,ye c⟩
 have hP2:P+2<=1099511627776:=by have:=CST.out;omega
 by_cases rn:hand.length=0
 ·have iK:((hand.length:Int) == 0)=true:=by rw [beq_iff_eq];omega
  go_enter Tryz.func58,Tryz.ntmps58
  have H0:=gZ (gK nU (gK nW nG))
  have fu:=H0.out.1.lt
  clear nU nW nG
  go_wp2_with fail
  obtain ⟨ez,dN,dA⟩:=H0.out
  refine (xL rd (P) (.slice (some ⟨w.heap.size+1,0,none⟩) 5 5) kI _ (ez.alloc (.cells (kI.map str).toArray 9)) (uH.newAt fu kI 5 rfl _ (w.heap.size+1) (by simp)) (by decide) (by decide) (by omega)).mono ?_
  rintro en w2 ⟨s,hs,rfl,gP,gd⟩
  obtain ⟨c,rfl⟩:=pg hs
  clear hs
  have g9:kY w.heap.size 0 (.slice none 0 0) (.slice none 0 0) w2:=kY.but (by unfold kY;exact zG dN) gP (show ¬ w.heap.size=rd by omega)
  have bE:=(dA.alloc (.cells (kI.map str).toArray 9)).trans gP
  obtain ⟨r0,r1,r2,r3,rl,rf⟩:=g9.cells
  have fB:=rf 0;have nR:=rf 1;have nN:=rf 2;have nM:=rf 3;clear rf
  have HQ:=gZ (gK g9 (gK bE gd));clear g9 bE gd gP dN dA ez
  go_wp2_with fail
  obtain ⟨g9,bE,gd⟩:=HQ.out
  obtain ⟨W,hW,s0,s1,s2,s3,gG,bW,dJ⟩:=g9.storeB (str [c]) (.int .i64 0) (.slice none 0 0) (.slice none 0 0)
  rw [<- hW]
  refine bodyPost_ret (v:=.agg #[str [c],.int .i64 0,.slice none 0 0,.slice none 0 0]) (by simp [results,Tryz.results58,go_sem,s0,s1,s2,s3]) rfl ?_
  exact ⟨.leaf c,[c],0,none,0,0,none,0,0,rfl,gG _ _ bE (gQ _),(dJ _ _ gH gd).mono (by have:=CST.out;omega),by simp [zm],by simp [lvB],by simp only [zP];exact BND.out,ye c⟩
 have iK:((hand.length:Int) == 0)=false:=by rw [beq_eq_false_iff_ne];omega
 go_enter Tryz.func58,Tryz.ntmps58
 go_wp2_with fail
 refine (qR rd P 5 _ nU (by omega) (by omega) (by omega)).mono ?_
 rintro en w1 ⟨p1,rfl,fO,gW,gp⟩
 have nX:=nW.but gW (show ¬ w.heap.size=rd by omega)
 have fG:=nG.trans gW
 by_cases aq:p1=0
 ·subst aq
  have H0:=gZ (gK gp (gK nX fG))
  have fu:=H0.out.1.lt
  clear gp nX fG
  go_wp2_with fail
  obtain ⟨ez,dN,dA⟩:=H0.out
  refine (xL rd (P+1) (.slice (some ⟨w1.heap.size,0,none⟩) 5 5) kI _ (ez.alloc (.cells (kI.map str).toArray 9)) (uH.newAt fu kI 5 rfl _ (w1.heap.size) (by simp)) (by decide) (by decide) (by omega)).mono ?_
  rintro en w2 ⟨s,hs,rfl,gP,gd⟩
  obtain ⟨c,rfl⟩:=pg hs
  clear hs
  have g9:kY w.heap.size 0 (.slice none 0 0) (.slice none 0 0) w2:=kY.but (by unfold kY;exact zG dN) gP (show ¬ w.heap.size=rd by omega)
  have bE:=(dA.alloc (.cells (kI.map str).toArray 9)).trans gP
  obtain ⟨r0,r1,r2,r3,rl,rf⟩:=g9.cells
  have fB:=rf 0;have nR:=rf 1;have nN:=rf 2;have nM:=rf 3;clear rf
  have HQ:=gZ (gK g9 (gK bE gd));clear g9 bE gd gP dN dA ez
  go_wp2_with fail
  obtain ⟨g9,bE,gd⟩:=HQ.out
  obtain ⟨W,hW,s0,s1,s2,s3,gG,bW,dJ⟩:=g9.storeB (str [c]) (.int .i64 0) (.slice none 0 0) (.slice none 0 0)
  rw [<- hW]
  refine bodyPost_ret (v:=.agg #[str [c],.int .i64 0,.slice none 0 0,.slice none 0 0]) (by simp [results,Tryz.results58,go_sem,s0,s1,s2,s3]) rfl ?_
  exact ⟨.leaf c,[c],0,none,0,0,none,0,0,rfl,gG _ _ bE (gQ _),(dJ _ _ gH gd).mono (by have:=CST.out;omega),by simp [zm],by simp [lvB],by simp only [zP];exact BND.out,ye c⟩
 have hp0':((p1:Int) == 0)=false:=by rw [beq_eq_false_iff_ne];omega
 obtain ⟨d',tL⟩:∃ d',d=d'+1:=⟨d-1,by omega⟩
 have hih:=IH.out d' tL
 subst tL
 have IHD:=gZ hih;clear hih
 have hcs:cst (d'+1)=5+17*cst d':=rfl
 have hbs:bnd (d'+1)=1+17*bnd d':=rfl
 go_wp2_with fail
 refine (qR rd (P+1) hand.length w1 gp (by omega) (by omega) (by omega)).mono ?_
 rintro en w2 ⟨v,rfl,hv,gP,gd⟩
 have cr:=nX.but gP (show ¬ w.heap.size=rd by omega)
 have dj:=fG.trans gP
 obtain ⟨bl,ol,u,dv,ea,hFl,c_,m9,ic,eI⟩:=HAT.out v hv
 rw [uy,Option.map_eq_some_iff] at m9
 obtain ⟨t,ht,rfl⟩:=m9
 obtain ⟨sa,sk,rfl⟩:=kq eI
 have dd:=eI
 rw [qj] at dd
 obtain ⟨_,_,est,_,_,gt⟩:=zM dd
 simp only [Value.slice.injEq] at est
 obtain ⟨rfl,_,rfl⟩:=est
 subst ea
 have hta:t.args.length<=15:=by
  have h1:=HH.out.1 t (List.mem_of_getElem? ht)
  have h2:=kw t
  have:=kn t.args;omega
 have HT:=gZ ht;have mX:=gZ gt
 have hblr:=HF.out bl hFl
 have z1:=gW.size
 rw [zK] at z1
 have z2:=gP.size
 have fz:w.heap.size<w2.heap.size:=by omega
 have hrdo:rd<w2.heap.size:=by omega
 have gl:KidsD w rd w2.heap.size (w2.heap.size+1) v (P+2) d' hand t 0 (w2.alloc (.cells #[str [],.int .i64 v,.slice none 0 0,.slice none 0 0] 64)):=by
  refine ⟨[],[],.slice none 0 0,0,⟨rfl,rfl,⟨_,_,rfl⟩,⟨_,_,rfl⟩,dj.alloc _,by unfold kY;exact zG cr,kJ _ _,World.ownsRow_nil _ _ _ _,World.ownsRow_nil _ _ _ _,fun g h=>by simp [Value.ownBlock] at h,fun g h=>by simp [Value.ownBlock] at h,zI.2 rfl,zI.2 rfl,by simp⟩,rfl,by simp [z_,kP],by simp [qd],by simp [zW],?_⟩
  have:=gd.alloc (.cells #[str [],.int .i64 v,.slice none 0 0,.slice none 0 0] 64)
  simpa using this
 have bU:w2.heap.size≠rd:=by omega
 have ZZ1:=gZ (uF (z-1) (by omega) (by omega))
 have zz2:z-1<=d':=by omega
 have zz3 : -1000<=z-1:=by omega
 have zz4:z<=1000:=by omega
 have zz0:0<z:=by omega
 have h04:0<4:=by omega
 have fN:(v:Int)<(hand.length:Int):=by omega
 clear ht gt dd cr dj gP gW nX fG nW nG gp gd z1 z2 nU
 go_wp2_with fail
 go_loopw [9] (fun i wr=>∃ k:Nat,k<=t.args.length/\i=.int .i64 k/\KidsD w rd w2.heap.size (w2.heap.size+1) v (P+2) d' hand t k wr) (fun i _=>t.args.length-(intOf i).toNat)
 case atStart=>exact ⟨0,Nat.zero_le _,rfl,gl⟩
 case round =>
  clear gl
  obtain ⟨k,hk,rfl,pk,kv,ks,nk,hN,cV,hfk,fw,eA,dH⟩:=hrel
  have gg:=hN.but
  obtain ⟨ka,kc,eks⟩:=hN.ksl
  subst eks
  have e0:=kZ gg hblr ic
  have HN:=gZ hN;have HFK:=gZ hfk;have HLK:=gZ fw;have HPK:=gZ cV
  obtain ⟨q0,q1,q2,q3,ql,qf⟩:=hN.out.cells
  have eZ:=qf 2;clear qf
  have hnk:nk<=15:=by have:=hN.hnk;omega
  have dU:nk+1<=maxLen:=by unfold maxLen;omega
  have b8:(nk+1)*72<=140737488355328:=by omega
  have hk15:k*cst d'<=15*cst d':=Nat.mul_le_mul_right _ (by omega)
  have hQ:(P+2+k*cst d')+cst d'<=1099511627776:=by omega
  clear hfk fw hN cV
  by_cases fx:k<t.args.length
  ·obtain ⟨ba,oa,uk,dk,esa,hFa,hba,n_,nZ,rx⟩:=mX.out k fx
   subst esa
   rw [uy,Option.map_eq_some_iff] at n_
   obtain ⟨tk,cO,rfl⟩:=n_
   obtain ⟨ua,uc,rfl⟩:=kq rx
   have hbar:=HF.out ba hFa
   have e1:=kZ gg hbar nZ
   have fA:Rep F wr.drew (jx tk) (.slice ua tk.args.length uc):=(Rep.but gg (fun b hb=>⟨HF.out b hb,hb⟩) rx).drew
   have dV:=(Rep.but gg (fun b hb=>⟨HF.out b hb,hb⟩) ly.out).drew
   have n6:kj d' (hand++tk.args):=HH.out.next HT.out (List.mem_of_getElem? cO)
   have fw:Lim (hand.length+tk.args.length):=by have:=n6.2;simp at this;show _<=_;omega
   have HTK:=gZ cO
   have hF5:∀ g,(F g\/wr.drew.heap.size<=g)->g≠rd:=fun g hg=>by
    rcases hg with h | h
    ·exact HF.out g h
    ·have h2:wr.heap.size<=g:=h
     omega
   have C1:=gZ (pC F hand tk _ _ wr.drew dV fA fw)
   have aS:=dH.drew
   have C2:=gZ (fun a5 c5 w5 (h5:Below wr.drew.heap.size wr.drew w5) (bj:Rep (fun k=>F k\/wr.drew.heap.size<=k) w5 (.sl 61 1 (hand++tk.args).length (qQ (hand++tk.args))) (.slice a5 (hand++tk.args).length c5)) =>
    IHD.out (z-1) (hand++tk.args) (fun k=>F k\/wr.drew.heap.size<=k) (.slice a5 (hand.length+tk.args.length) c5) w5 (P+2+k*cst d') zz2 zz3 hQ (aS.below h5) n6 hF5 (rep_len bj))
   have OWN:=gZ (fun w5 w6 (h5:But (· = rd) wr w5) (h6:But (· = rd) w5 w6)=>own_thru HN.out.ownK (fun g hg=>by have:=(HN.out.blkK g hg).1;omega) h5 h6)
   have NB:=gZ (show ¬ (Value.slice ka nk kc).ownBlock=some w2.heap.size from fun e=>by have:=(HN.out.blkK _ e).1;omega)
   have hlt9':(k:Int)<(t.args.length:Int):=by omega
   clear cO nZ rx fA dV n6 fw hF5 dH aS
   have zz1:=ZZ1.out
   go_wp2_with fail
   go_region_law (first
    | (refine kK (by rfl) _ _ _ (by rfl) 64 (.agg #[str [],.int .i64 0,.slice none 0 0,.slice none 0 0]) 4 72 Tryz.underlying62 Tryz.infoN rfl h04 (.slice ka nk kc) nk kv (by rfl) (dK.out.alloc _) _ 1 [str s6,.int .i64 v6,.slice a2 n2 k2,.slice a3 n3 k3] (by rfl) (zN.lit4 #[str s6,.int .i64 v6,.slice a2 n2 k2,.slice a3 n3 k3] rfl (by simp [str,Value.oneCell']) _ rfl) dU b8 ?_;intro a' c' w7 g8 gD gL;have ib:=yd gD NB.out t8;have n9:=yh gD NB.out mF fC)
    | (go_simp;go_at_call 58;refine (C2.out _ _ _ gR bj).mono ?_;rintro tw w6 ⟨b,s6,v6,a2,n2,k2,a3,n3,k3,rfl,gB,dF,sX,eU,bh,b7⟩;have t8:=kZ gB bU q25;have mF:=gY s8 gB.size;have fC:=vy gB bU s8 qf25;have dK:=gZ (OWN.out _ _ g5 gB))
    | (go_simp;go_at_call 97;refine C1.out.mono ?_;rintro en5 w5 ⟨a5,c5,rfl,gR,bj⟩;have g5:But (· = rd) wr w5:=but_drew gR;have q25:=kZ g5 bU q2;have s8:=gY ql g5.size;have qf25:=vy g5 bU ql eZ))
   all_goals
    clear zz1
    have hA:=HN.out.kid gH (Nat.lt_succ_self _) fz ((g5.trans gB).alloc _) (reps_past g5.size b7) g8 gD gL
    have cG:kW (w7.setCell ⟨w2.heap.size,2,none⟩ (.slice a' (nk+1) c')) rd (P+2+(k+1)*cst d'):=by
     refine kW.mono (kW.but (m:=fun i=>i=w2.heap.size\/(Value.slice ka nk kc).ownBlock=some i) (dF.alloc (.cells #[str s6,.int .i64 v6,.slice a2 n2 k2,.slice a3 n3 k3] 64)) (But.setCell (gD.weak fun i _ h=>.inr h) (.inl (.inl rfl)) _) ?_) (by rw [Nat.succ_mul];omega)
     intro i hi h
     rcases h with h | h
     ·omega
     ·have:=(HN.out.blkK _ h).1;omega
    have ik:z_ (kP hand (t.args.take (k+1))) (pk++[b]):=by
     rw [pT HTK.out]
     exact uZ _ _ _ _ HFK.out ⟨_,_,rfl,sX,by rw [z_]⟩
    have dg:zW (pk++[b])<=(k+1)*bnd d':=by rw [kQ,Nat.succ_mul];simp only [zW];omega
    have d8:Hid (KidsD w rd w2.heap.size (w2.heap.size+1) v (P+2) d' hand t (k+1) (w7.setCell ⟨w2.heap.size,2,none⟩ (.slice a' (nk+1) c'))) :=
     ⟨pk++[b],_,_,_,hA,by simp [HPK.out],ik,jI _ _ HLK.out (ym eU),dg,cG⟩
    clear hA cG ik dg sX eU bh b7 g8 gD gL dF bj
    go_wp2_with fail
    go_roundw
    case rel=>exact ⟨k+1,by omega,by go_num,d8.out⟩
    case measure=>simp [intOf];omega
  ·obtain rfl:k=t.args.length:=by omega
   have ri:¬ ((t.args.length:Int)<(t.args.length:Int)):=by omega
   have HFA:Hid (z_ (kP hand t.args) pk):=by have:=HFK.out;rwa [List.take_length] at this
   have HSK:=gZ eA
   have dB:YesD w rd w2.heap.size (w2.heap.size+1) v (P+2+t.args.length*cst d') d' hand pk kv (.slice ka nk kc) nk 0 wr :=
    ⟨[],[],.slice none 0 0,0,HN.out,rfl,by simp,by simp [qd],by simp [zW],by simpa using dH⟩
   have HHS:Hid (kj d' hand):=by have:=HH.out.same;rw [List.append_nil] at this;exact this
   clear dH eA HFK fx gg
   go_wp2_with fail
   clear HN q0 q1 q2 q3 ql eZ e0 ri
   go_loopw [10] (fun i wr=>∃ k:Nat,k<=2/\i=.int .i64 k/\YesD w rd w2.heap.size (w2.heap.size+1) v (P+2+t.args.length*cst d') d' hand pk kv (.slice ka nk kc) nk k wr) (fun i _=>2-(intOf i).toNat)
   case atStart=>exact ⟨0,by omega,rfl,dB⟩
   case round =>
    clear dB
    obtain ⟨k,hk,rfl,py,yv,ys,ny,hN,mx,sK,ef,fR,dh⟩:=hrel
    have gg:=hN.but
    obtain ⟨ya,yc,eys⟩:=hN.ysl
    subst eys
    have HN:=gZ hN;have HFY:=gZ sK;have lr:=gZ ef;have lx:=gZ mx;have HSY:=gZ fR
    obtain ⟨q0,q1,q2,q3,ql,qf⟩:=hN.out.cells
    have nS:=qf 3;clear qf
    have hny:ny<=2:=by have:=hN.hny;omega
    have dU:ny+1<=maxLen:=by unfold maxLen;omega
    have b8:(ny+1)*72<=140737488355328:=by omega
    have hk2c:k*(1+cst d')<=2*(1+cst d'):=Nat.mul_le_mul_right _ (by omega)
    have hQ1:P+2+t.args.length*cst d'+k*(1+cst d')<=1099511627776:=by omega
    clear sK ef mx fR
    by_cases nf:k<2
    ·have hk1c:k*(1+cst d')<=1*(1+cst d'):=Nat.mul_le_mul_right _ (by omega)
     have hQ2:P+2+t.args.length*cst d'+k*(1+cst d')+1+cst d'<=1099511627776:=by omega
     have hrw:=Rep.but gg (fun b hb=>⟨HF.out b hb,hb⟩) ly.out
     have C1:=gZ (qR rd (P+2+t.args.length*cst d'+k*(1+cst d')) 2 wr.drew dh.drew (by omega) (by omega) hQ1)
     have C2:=gZ (fun w5 (h5:But (· = rd) wr w5) (p5:Nat) (dm:p5<2) (bj:kW w5 rd (P+2+t.args.length*cst d'+k*(1+cst d')+1)) =>
      IHD.out (z-1-(p5:Int)) hand F (.slice (some ⟨bl,ol,none⟩) hand.length k0) w5 (P+2+t.args.length*cst d'+k*(1+cst d')+1) (sub_le hz) (sub_lo zz0 dm) hQ2 bj HHS.out HF.out (Rep.but h5 (fun b hb=>⟨HF.out b hb,hb⟩) hrw))
     have OWN:=gZ (fun w5 w6 (h5:But (· = rd) wr w5) (h6:But (· = rd) w5 w6)=>own_thru HN.out.ownY (fun g hg=>by have:=HN.out.blkY g hg;omega) h5 h6)
     have NB:=gZ (show ¬ (Value.slice ya ny yc).ownBlock=some w2.heap.size from fun e=>by have:=HN.out.blkY _ e;omega)
     have hlt10':(k:Int)<2:=by omega
     clear hrw dh hN gg q2
     have zz1:=ZZ1.out
     go_wp2_with fail
     go_region_law (first
      | (refine kK (by rfl) _ _ _ (by rfl) 64 (.agg #[str [],.int .i64 0,.slice none 0 0,.slice none 0 0]) 4 72 Tryz.underlying62 Tryz.infoN rfl h04 (.slice ya ny yc) ny yv (by rfl) (dK.out.alloc _) _ 1 [str s6,.int .i64 v6,.slice a2 n2 k2,.slice a3 n3 k3] (by rfl) (zN.lit4 #[str s6,.int .i64 v6,.slice a2 n2 k2,.slice a3 n3 k3] rfl (by simp [str,Value.oneCell']) _ rfl) dU b8 ?_;intro a' c' w7 g8 gD gL;have ib:=yd gD NB.out q36;have n9:=yh gD NB.out mF qf36)
      | (go_simp;go_at_call 58;refine (C2.out _ g5 _ dm bj).mono ?_;rintro tw w6 ⟨b,s6,v6,a2,n2,k2,a3,n3,k3,rfl,gB,dF,sX,eU,bh,b7⟩;have q36:=kZ gB bU q35;have mF:=gY s8 gB.size;have qf36:=vy gB bU s8 qf35;have dK:=gZ (OWN.out _ _ g5 gB))
      | (go_simp;go_at_call 48;refine C1.out.mono ?_;rintro en5 w5 ⟨p5,rfl,dm,gR,bj⟩;have g5:But (· = rd) wr w5:=ui gR;have q35:=kZ g5 bU q3;have s8:=gY ql g5.size;have qf35:=vy g5 bU ql nS;have zz5:=wrap_sub z p5 zz0 zz4 dm))
     all_goals
      clear zz1 zz5
      have hA:=HN.out.yes gH (Nat.lt_succ_self _) fz ((g5.trans gB).alloc _) (reps_past g5.size b7) g8 gD gL
      have cG:kW (w7.setCell ⟨w2.heap.size,3,none⟩ (.slice a' (ny+1) c')) rd (P+2+t.args.length*cst d'+(k+1)*(1+cst d')):=by
       refine kW.mono (kW.but (m:=fun i=>i=w2.heap.size\/(Value.slice ya ny yc).ownBlock=some i) (dF.alloc (.cells #[str s6,.int .i64 v6,.slice a2 n2 k2,.slice a3 n3 k3] 64)) (But.setCell (gD.weak fun i _ h=>.inr h) (.inl (.inl rfl)) _) ?_) (by rw [Nat.succ_mul];omega)
       intro i hi h
       rcases h with h | h
       ·omega
       ·have:=HN.out.blkY _ h;omega
      have iO:∀ x∈py++[b],zm hand x:=by
       intro x hx
       rcases List.mem_append.1 hx with h | h
       ·exact HFY.out x h
       ·simp at h;subst h;exact sX
      have dg:zW (py++[b])<=(k+1)*bnd d':=by have:=HSY.out;rw [kQ,Nat.succ_mul];simp only [zW];omega
      have d8:Hid (YesD w rd w2.heap.size (w2.heap.size+1) v (P+2+t.args.length*cst d') d' hand pk kv (.slice ka nk kc) nk (k+1) (w7.setCell ⟨w2.heap.size,3,none⟩ (.slice a' (ny+1) c'))) :=
       ⟨py++[b],_,_,_,hA,by simp [lx.out],iO,jI _ _ lr.out (ym eU),dg,cG⟩
      clear hA cG iO dg sX eU bh b7 g8 gD gL dF bj
      go_wp2_with fail
      go_roundw
      case rel=>exact ⟨k+1,by omega,by go_num,d8.out⟩
      case measure=>simp [intOf];omega
    ·obtain rfl:k=2:=by omega
     obtain ⟨r0,r1,r2,r3,rl,rf⟩:=hN.res.cells
     have fB:=rf 0;have nR:=rf 1;have nN:=rf 2;have nM:=rf 3;clear rf
     have lu:=gZ dh
     clear dh hN gg
     go_wp2_with fail
     have hN:=HN.out
     obtain ⟨W,hW,s0,s1,s2,s3,gG,bW,dJ⟩:=hN.res.storeB (str []) (.int .i64 v) (.slice ka nk kc) (.slice ya ny yc)
     rw [<- hW]
     refine bodyPost_ret (v:=.agg #[str [],.int .i64 v,.slice ka nk kc,.slice ya ny yc]) (by simp [results,Tryz.results58,go_sem,s0,s1,s2,s3]) rfl ?_
     have mx:=lx.out
     obtain ⟨y1,y2,rfl⟩:∃ y1 y2,py=[y1,y2]:=by
      match py,mx with
      | [a,b],_=>exact ⟨a,b,rfl⟩
     have ef:=lr.out
     rw [qd,qd] at ef
     have fR:=HSY.out
     have eA:=HSK.out
     simp only [zW] at fR
     have hb15:t.args.length*bnd d'<=15*bnd d':=Nat.mul_le_mul_right _ (by omega)
     have fq:=hN.hnk
     have fk:ny=2:=hN.hny
     subst fk
     refine ⟨.ask v pk y1 y2,[],v,ka,nk,kc,ya,2,yc,rfl,gG _ _ hN.but (gQ _),(dJ _ _ gH lu.out).mono (by omega),?_,?_,?_,?_⟩
     ·rw [zm];exact ⟨t,HT.out,HFA.out,HFY.out y1 (by simp),HFY.out y2 (by simp)⟩
     ·rw [lvB];exact ⟨by omega,HLK.out,ef.1,ef.2.1⟩
     ·simp only [zP];omega
     ·rw [xK]
      refine zU.2 ⟨_,_,rfl,zf.2 rfl,zU.2 ⟨_,_,rfl,zf.2 rfl,zU.2 ⟨_,_,rfl,?_,zU.2 ⟨_,_,rfl,?_,zI.2 rfl⟩⟩⟩⟩
      ·rw [<- fq]
       refine (hN.ownK.keep fun g o hg ho=>bW g o (by have:=(hN.blkK g hg).1;omega) ho).rep (fun g hg=>by have:=(hN.blkK g hg).1;omega) ?_
       exact (Rep.keep fun x o hx ho=>⟨by have:=hx.1;omega,bW x o (by have:=hx.1;omega) ho⟩).2 _ _ hN.repK
      ·refine (hN.ownY.keep fun g o hg ho=>bW g o (by have:=hN.blkY g hg;omega) ho).rep (fun g hg=>by have:=hN.blkY g hg;omega) ?_
       exact (Rep.keep fun x o hx ho=>⟨by have:=hx.1;omega,bW x o (by have:=hx.1;omega) ho⟩).2 _ _ hN.repY
theorem xn (rd d:Nat) (hd:d<=100):DrawB rd d:=by
 induction d with
 | zero=>exact yi rd 0 hd (fun d' h=>by omega)
 | succ d ih=>exact yi rd (d+1) hd (fun d' h=>by rw [<- Nat.succ.inj h];exact ih (by omega))
def Row8 (w:World) (a:Option Addr) (len cap:Nat) (zs:List Int):Prop :=
 (a=none/\len=0/\cap=0/\zs=[]) \/
 ∃ x,a=some x/\len<=cap/\cap<=maxLen/\zs.length=cap/\(∀ i,i<zs.length->w.cell? (x.add i)=some (.int .u8 (zs.getD i 0)))/\∀ n∈zs,(Lit.int .u8 n).wf=true
theorem Row8.le {w:World} {a:Option Addr} {len cap:Nat} {zs:List Int} (h:Row8 w a len cap zs):len<=cap:=by
 rcases h with ⟨_,rfl,rfl,_⟩ | ⟨x,_,h,_⟩
 ·exact gQ _
 ·exact h
theorem Row8.bytes {w:World} {a:Option Addr} {len cap:Nat} {zs:List Int} (h:Row8 w a len cap zs) (n:Nat) (hn:n<=len) :
 n=0\/∃ b o,a=some ⟨b,o,none⟩/\b<w.heap.size/\∀ k,k<n->∃ x:Nat,x<256/\w.cell? ⟨b,o+k,none⟩=some (.int .u8 x):=by
 rcases Nat.eq_zero_or_pos n with h0 | h0
 ·exact .inl h0
 right
 rcases h with ⟨_,rfl,_,_⟩ | ⟨x,rfl,hl,_,hz,hc,hw⟩
 ·omega
 obtain ⟨b,o,sp⟩:=x
 have h1:=hc 0 (by omega)
 have hsp:sp=none:=by
  cases sp with
  | none=>rfl
  | some q=>simp [World.cell?,Addr.add] at h1;split at h1 <;> simp_all
 subst hsp
 have e6:∀ i,(⟨b,o,none⟩:Addr).add i=⟨b,o+i,none⟩:=fun i=>by
  unfold Addr.add;split <;> simp_all
 have h2:=gJ w _ h1
 refine ⟨b,o,rfl,by rw [e6] at h2;exact h2,fun k hk=>?_⟩
 have hkz:k<zs.length:=by omega
 have h3:=hc k hkz
 rw [e6] at h3
 have hm:zs.getD k 0∈zs:=by
  rw [List.getD_eq_getElem?_getD,List.getElem?_eq_getElem hkz];exact List.getElem_mem hkz
 have hwf:=hw _ hm
 clear hm
 generalize zs.getD k 0=z at *
 have hb:0<=z/\z<256:=by
  simp [Lit.wf,IntKind.min,IntKind.max,IntKind.bits,IntKind.signed] at hwf
  omega
 refine ⟨z.toNat,by omega,?_⟩
 rw [h3,Int.toNat_of_nonneg hb.1]
theorem l6Open_any (a:Option Addr) (len cap:Nat) (zs:List Int) (w:World) (h:Row8 w a len cap zs) (hl:len<=1048576) :
 Calls Tryz.prog 28 #[.slice a len cap] w fun en w'=>en=.returned (.pointer (some ⟨w.heap.size,0,none⟩))/\Below w.heap.size w w'/\kW w' w.heap.size 0/\w.heap.size<w'.heap.size:=by
 have fg:=h.le
 have H:=gZ h;clear h
 by_cases h2:2000<len
 ·have h2':(2000:Int)<(len:Int):=by omega
  have h3:(2000:Int)<=(cap:Int):=by omega
  obtain ⟨b,o,ea,hb,hk⟩:=(H.out.bytes 2000 (by omega)).resolve_left (by omega)
  subst ea
  have HK:=gZ hk;clear hk
  go_enter Tryz.func28,Tryz.ntmps28
  go_wp2_with fail
  go_ret
  refine ⟨rfl,(gV _ _).alloc (gQ _) _,?_,by simp⟩
  refine ⟨_,2000,_,0,kJ _ _,gQ _,gQ _,.inr ⟨b,o,rfl,hb,fun k hk=>?_⟩⟩
  obtain ⟨x,hx,hc⟩:=HK.out k hk
  exact ⟨x,hx,zV hc⟩
 ·have h2':¬ (2000:Int)<(len:Int):=by omega
  go_enter Tryz.func28,Tryz.ntmps28
  go_wp2_with fail
  go_ret
  refine ⟨rfl,(gV _ _).alloc (gQ _) _,?_,by simp⟩
  refine ⟨_,len,_,0,kJ _ _,gQ _,by omega,?_⟩
  rcases H.out.bytes len (gQ _) with h0 | ⟨b,o,ea,hb,hk⟩
  ·exact .inl h0
  ·refine .inr ⟨b,o,ea,hb,fun k mi=>?_⟩
   obtain ⟨x,hx,hc⟩:=hk k mi
   exact ⟨x,hx,zV hc⟩
theorem type_ok {s:Bs} (h:s∈qz):(zQ s).2=true/\s.length<=100:=by
 simp only [qz,List.mem_cons,List.not_mem_nil,or_false] at h
 rcases h with rfl | rfl | rfl | rfl | rfl | rfl | rfl | rfl <;> exact ⟨by decide,by decide⟩
theorem wrap_one (p:Nat) (h:p<3):IntKind.i64.wrap (1+(p:Int))=1+p:=uF _ (by omega) (by omega)
theorem sum_le (p:Nat) (h:p<3):(1:Int)+(p:Int)<=((3:Nat):Int):=by omega
theorem sum_lo (p:Nat):(-1000:Int)<=(1:Int)+(p:Int):=by omega
theorem cst3:cst 3=6448:=rfl
def StratD (rd Q:Nat) (s:Bs) (w:World) (en:Ending) (w':World):Prop :=
 ∃ b:Bd,en=.returned (str (kT b))/\But (· = rd) w w'/\kW w' rd Q/\zm (zQ s).1.args b/\lvB b/\zP b<=5220
set_option maxRecDepth 100000 in
theorem wH (rd P:Nat) (s:Bs) (hsl:s.length<=100) (hh:kj 3 (zQ s).1.args) (w:World) (h:kW w rd P) (hP:P+6500<=1099511627776) :
 Calls Tryz.prog 55 #[.pointer (some ⟨rd,0,none⟩),str s] w (StratD rd (P+6449) s w):=by
 have gH:=h.lt
 have H:=gZ h;have HH:=gZ hh
 clear h hh
 go_enter Tryz.func55,Tryz.ntmps55
 go_wp2_with fail
 refine (pD s (show _<=_ by omega) w).mono ?_
 rintro en w1 ⟨tv,rfl,gW,ry⟩
 obtain ⟨ta,tc,etv⟩:=kq ry
 subst etv
 have gp:=H.out.below (gW.mono (gQ _))
 rw [qj] at ry
 generalize hT:(zQ s).1=t at *
 have z1:=gW.size
 have hcT:(w1.alloc (.cells #[.slice ta t.args.length tc] 61)).cell? ⟨w1.heap.size,0,none⟩=some (.slice ta t.args.length tc):=by simp
 have gN:w1.heap.size≠rd:=by omega
 have hF:∀ k,w.heap.size<=k->k≠rd:=fun k hk=>by omega
 have fJ:Rep (w.heap.size<=·) (w1.alloc (.cells #[.slice ta t.args.length tc] 61)) (.sl 61 1 t.args.length (qQ t.args)) (.slice ta t.args.length tc):=(Rep.keep fun b o h ho=>⟨h,zG ho⟩).1 _ _ ry
 have aT:=gp.alloc (.cells #[.slice ta t.args.length tc] 61)
 have C1:=gZ (qR rd P 3 _ aT.drew (by omega) (by omega) (by omega))
 have C2:=gZ (fun w5 (h5:But (· = rd) (w1.alloc (.cells #[.slice ta t.args.length tc] 61)) w5) (p5:Nat) (dm:p5<3) (bj:kW w5 rd (P+1)) =>
  xn rd 3 (by omega) (1+(p5:Int)) t.args (w.heap.size<=·) (.slice ta t.args.length tc) w5 (P+1) (sum_le p5 dm) (sum_lo p5) (by rw [cst3];omega) bj HH.out hF (Rep.but h5 (fun b hb=>⟨hF b hb,hb⟩) fJ))
 have bY:=gZ gW
 have HTT:=gZ hT
 clear hT ry fJ aT gp gW hF
 go_wp2_with fail
 go_region_held3 (fun w'=>w'.cell? ⟨w1.heap.size,0,none⟩=some (.slice ta t.args.length tc))
  (first
   | exact hcT
   | exact hcL
   | exact hcB
   | exact hcP
   | go_keep)
  (first
   | (go_at_call 57;refine (yE 5220 b bh (by omega) eU _ w6 _ _ _ _ b7).mono ?_;rintro en7 w7 ⟨rfl,gD⟩;have hcL:=(gD.cell (gJ w6 ⟨w1.heap.size,0,none⟩ hcB)).trans hcB)
   | (go_at_call 58;refine (C2.out _ g5 _ dm bj).mono ?_;rintro tw w6 ⟨b,s6,v6,a2,n2,k2,a3,n3,k3,rfl,gB,dF,sX,eU,bh,b7⟩;have hcB:=kZ gB gN hcP)
   | (go_at_call 48;refine C1.out.mono ?_;rintro en5 w5 ⟨p5,rfl,dm,gR,bj⟩;have g5:=ui gR;have hcP:=kZ g5 gN hcT;have zz:=wrap_one p5 dm))
 go_wp2_with fail
 go_ret
 have cT:But (· = rd) w (w1.alloc (.cells #[.slice ta t.args.length tc] 61)):=(But.ofBelow bY.out).alloc _
 refine ⟨b,rfl,((cT.trans g5).trans gB).trans (But.ofBelow gD),(dF.below gD).mono (by rw [cst3];omega),?_,eU,bh⟩
 rw [HTT.out];exact sX
theorem hand3_of_ok {s:Bs} (gy:(zQ s).2=true):kj 3 (zQ s).1.args:=by
 have:=y9 (jT gy)
 exact ⟨this.1,by have:=this.2;omega⟩
theorem jy (rd P:Nat) (s:Bs) (hs:s∈qz) (w:World) (h:kW w rd P) (hP:P+6500<=1099511627776) :
 Calls Tryz.prog 55 #[.pointer (some ⟨rd,0,none⟩),str s] w (StratD rd (P+6449) s w) :=
 wH rd P s (type_ok hs).2 (hand3_of_ok (type_ok hs).1) w h hP
def Given (rd Q:Nat) (w:World) (en:Ending) (w':World):Prop :=
 ∃ s text:Bs,en=.returned (.tuple #[str s,str text])/\s.length<=100/\text.length<=100000/\But (· = rd) w w'/\kW w' rd Q
theorem odd_len {s:Bs} (h:s∈qz++uO):s.length<=100:=by
 simp only [qz,uO,List.mem_append,List.mem_cons,List.not_mem_nil,or_false] at h
 rcases h with (rfl | rfl | rfl | rfl | rfl | rfl | rfl | rfl) | (rfl | rfl | rfl | rfl | rfl | rfl | rfl) <;> decide
theorem bad_len {s:Bs} (h:s∈ug):s.length<=100:=by
 simp only [ug,List.mem_cons,List.not_mem_nil,or_false] at h
 rcases h with rfl | rfl | rfl | rfl | rfl | rfl | rfl | rfl <;> decide
set_option maxRecDepth 100000 in
theorem l91Given_any (rd P:Nat) (w:World) (h:kW w rd P) (hP:P+7000<=1099511627776) :
 Calls Tryz.prog 37 #[.pointer (some ⟨rd,0,none⟩)] w (Given rd (P+6500) w):=by
 go_enter Tryz.func37,Tryz.ntmps37
 go_wp2_with fail
 refine (vV rd P w h (by omega)).mono ?_
 rintro en w1 ⟨s,hs,rfl,gW,gp⟩
 have HS:=gZ hs;clear hs h
 go_wp2_with fail
 refine (qR rd (P+1) 16 w1 gp (by omega) (by omega) (by omega)).mono ?_
 rintro en w2 ⟨v,rfl,hv,gP,gd⟩
 have gz:=gW.trans gP
 by_cases mG:v=0
 ·subst mG
  clear gp gW gP
  go_wp2_with fail
  refine (l91Odd_any rd (P+2) w2 gd (by omega)).mono ?_
  rintro en w3 ⟨s3,bS,rfl,gF,mj⟩
  have HS3:=gZ bS;clear bS gd
  have hlt3:=mj.lt
  go_wp2_with fail
  refine (xL rd (P+2+2) (.slice (some ⟨w3.heap.size,0,none⟩) 8 8) ug _ (mj.alloc (.cells (ug.map str).toArray 9)) (uH.newAt hlt3 ug 8 rfl _ (w3.heap.size) rfl) (by decide) (by decide) (by omega)).mono ?_
  rintro en w4 ⟨s4,bm,rfl,gS,fV⟩
  have HS4:=gZ bm;clear bm
  go_wp2_with fail
  refine bodyPost_ret (v:=.tuple #[str s3,str s4]) (by simp [results,Tryz.results37,go_sem]) rfl ?_
  exact ⟨s3,s4,rfl,odd_len HS3.out,gX (bad_len HS4.out) (by omega),(gz.trans gF).trans (((But.refl _ w3).alloc _).trans gS),fV.mono (by omega)⟩
 ·have cI:((v:Int) == 0)=false:=by rw [beq_eq_false_iff_ne];omega
  clear gp gW gP
  go_wp2_with fail
  refine (jy rd (P+2) s HS.out w2 gd (by omega)).mono ?_
  rintro en w3 ⟨b,rfl,gF,mj,hf,gj,bG⟩
  have gC:=kx b gj
  clear hf
  go_wp2_with fail
  refine bodyPost_ret (v:=.tuple #[str s,str (kT b)]) (by simp [results,Tryz.results37,go_sem]) rfl ?_
  exact ⟨s,kT b,rfl,(type_ok HS.out).2,by omega,gz.trans gF,mj.mono (by omega)⟩
theorem but_new {rd:Nat} {w w1 w2:World} (h1:Below w.heap.size w w1) (cJ:w.heap.size<=rd) (h2:But (· = rd) w1 w2):Below w.heap.size w w2 :=
 h1.trans (h2.toBelow h1.size fun i hi e=>by omega)
theorem strat_len {rd Q:Nat} {s:Bs} {w w':World} {en:Ending} (h:StratD rd Q s w en w'):∃ m:Bs,en=.returned (str m)/\m.length<=100000/\But (· = rd) w w'/\kW w' rd Q:=by
 obtain ⟨b,rfl,h1,h2,h3,h4,h5⟩:=h
 have:=kx b h4
 exact ⟨_,rfl,by omega,h1,h2⟩

theorem zip_maps (u:Pl):(u.map (·.1)).zip (u.map (·.2))=u:=by
 induction u with
 | nil=>rfl
 | cons x u ih=>rw [List.map_cons,List.map_cons,List.zip_cons_cons,ih]
theorem specStrat_ok {s text:Bs} {b:Bd} (h:zX s text=some b):(zQ s).2=true:=by
 unfold zX at h
 by_cases hq:(zQ s).2=false\/2000<text.length
 ·rw [if_pos hq] at h;simp at h
 ·cases hz:(zQ s).2 with
  | true=>rfl
  | false=>exact absurd (Or.inl hz) hq
theorem follow_in {s text:Bs} {b:Bd} {u:Pl} (h:zX s text=some b) (hu:InPl (zQ s).1 b u):jO s text (u.map (·.1)) (u.map (·.2))=true:=by
 unfold jO
 rw [h]
 simp only
 unfold vJ qo
 rw [zip_maps,specStrat_ok h,hu.lg,decide_eq_true hu.fo]
 unfold jE
 have hv:=hu.ok
 unfold zS at hv
 rw [Bool.and_eq_true] at hv
 rw [zip_maps,hv.2]
 simp only [List.length_map,decide_eq_true (qD hu.ok)]
 simp
theorem jJ.ms {F:Nat->Prop} {w:World} {u:Pl} {x:Value} (h:jJ F w u x):vH F w (u.map (·.1)) x:=by
 unfold vH
 unfold jJ at h
 rw [List.length_map,List.map_map]
 exact h
theorem jQ.ps {F:Nat->Prop} {w:World} {u:Pl} {x:Value} (h:jQ F w u x):vG F w (u.map (·.2)) x:=by
 unfold vG
 unfold jQ at h
 rw [List.length_map,List.map_map]
 exact h
theorem jd.slice' {w:World} {L:List Pl} {v:Value} {us:List (Value×Value)} (h:jd w L v us):∃ a c,v=.slice a L.length c:=by
 obtain ⟨a,c,e⟩:=h.own.slice
 rw [h.length] at e
 exact ⟨a,c,e⟩
theorem pv (n:Nat) (s:Value) (xs:List Value) (w:World) (h:zN 1 s n xs w) (hn:Lim n) :
 Calls Tryz.prog 99 #[s] w fun en w' =>
  ∃ a c,en=.returned (.slice a n c)/\Own w' 55 1 (.slice a n c) n xs/\Below w.heap.size w w'/\(∀ g,(Value.slice a n c).ownBlock=some g->w.heap.size<=g):=by
 have hl:=hn.le
 obtain ⟨a,c,e⟩:=h.slice
 subst e
 cases a with
 | none =>
   have h0:n=0/\c=0:=by
    obtain ⟨_,_,⟨a',c',e,_⟩ | ⟨e,h0⟩⟩:=h
    ·simp at e
    ·simp at e;exact e
   obtain ⟨rfl,rfl⟩:=h0
   have hx:xs=[]:=List.eq_nil_of_length_eq_zero (by simpa using h.1)
   subst hx
   have q:=fun w=>Lib.run_eql_slice_nil (P:=Tryz.prog) w 103 55 none 0 0 0 0 Tryz.underlying103
   go_enter Tryz.func99,Tryz.ntmps99
   go_wp2_with fail
   go_ret
   exact ⟨none,0,rfl,World.ownsRow_nil _ _ _ _,gV _ _,fun g h=>by simp [Value.ownBlock] at h⟩
 | some a =>
   have q:=fun w=>Lib.run_eql_slice_nil (P:=Tryz.prog) w 103 55 (some a) n c 0 0 Tryz.underlying103
   go_enter Tryz.func99,Tryz.ntmps99
   go_wp2_with (at_builtin;refine zB rfl _ _ 103 rfl 55 (.pointer none) 1 8 Tryz.underlying103 Tryz.infoB rfl (by decide) _ 0 [] rfl ?c1 _ n xs rfl ?c2 ?c3 ?c4 ?_)
   case c1=>exact Own.lit #[] 0 (by decide) rfl
   case c2=>exact h.keep fun _ _ h=>zV h
   case c3=>unfold maxLen;omega
   case c4=>omega
   intro a' c' w' ho hb hg
   go_wp2_with fail
   go_ret
   refine ⟨a',c',rfl,ho,((gV w.heap.size w).alloc (gQ _) _).trans (hb.toBelow (by simp) (fun i hi e=>by simp [Value.ownBlock] at e;omega)),fun g h=>?_⟩
   rcases hg g h with h | h
   ·simp [Value.ownBlock] at h;omega
   ·omega
def xg (F:Nat->Prop) (w:World) (b:Bd) (en:Ending) (w':World):Prop :=
 ∃ v,en=.returned v/\Below w.heap.size w w'/\Rep (fun k=>F k\/w.heap.size<=k) w' (.sl 55 1 (zj b).length (jP (zj b))) v
theorem parts_leaf (F:Nat->Prop) (w:World) (c:UInt8) (v:Value) (h:Rep F w (ke (.leaf c)) v) :
 Calls Tryz.prog 62 #[v] w (xg F w (.leaf c)):=by
 obtain ⟨a,e⟩:=kV h
 subst e
 go_enter Tryz.func62,Tryz.ntmps62
 go_wp2_with fail
 refine (vY F w c _ h).mono ?_
 rintro en w' ⟨rfl,e⟩
 subst e
 go_wp2_with fail
 go_ret
 exact ⟨_,rfl,gV _ _,qB.2 ⟨rfl,none,0,rfl,gQ _,fun _=>rfl,.inl rfl⟩⟩
theorem but_below {w wc w6:World} {o:Obj} {v:Value} (hbb:Below w.heap.size w wc) (gB:But (fun b=>v.ownBlock=some b) (wc.alloc o) w6)
 (dR:∀ g,v.ownBlock=some g->w.heap.size<=g):Below w.heap.size w w6:=by
 refine (hbb.alloc hbb.size _).trans (gB.toBelow ?_ ?_)
 ·have:=hbb.size
  show w.heap.size<=(wc.heap.push o).size
  rw [Array.size_push];omega
 ·intro i hi e
  have h:w.heap.size<=i:=dR i e
  omega
theorem but_below2 {w wc w6:World} {v:Value} (hbb:Below w.heap.size w wc) (gB:But (fun b=>v.ownBlock=some b) wc w6)
 (dR:∀ g,v.ownBlock=some g->w.heap.size<=g):Below w.heap.size w w6:=by
 refine hbb.trans (gB.toBelow hbb.size ?_)
 intro i hi e
 have h:w.heap.size<=i:=dR i e
 omega
theorem own_1 {w wc:World} {o:Obj} {v v':Value} (hbb:Below w.heap.size w wc) (dR:∀ g,v.ownBlock=some g->w.heap.size<=g)
 (hg:∀ g,v'.ownBlock=some g->v.ownBlock=some g\/g=(wc.alloc o).heap.size):∀ g,v'.ownBlock=some g->w.heap.size<=g:=by
 intro g h
 rcases hg g h with h | h
 ·exact dR g h
 ·have:=hbb.size
  rw [h,zK];omega
theorem own_2 {w wc:World} {v v':Value} (hbb:Below w.heap.size w wc) (dR:∀ g,v.ownBlock=some g->w.heap.size<=g)
 (hg:∀ g,v'.ownBlock=some g->v.ownBlock=some g\/g=wc.heap.size):∀ g,v'.ownBlock=some g->w.heap.size<=g:=by
 intro g h
 rcases hg g h with h | h
 ·exact dR g h
 ·have:=hbb.size
  rw [h];omega
theorem own_ad {w:World} {o:Obj} {v:Value} (h:∀ g,v.ownBlock=some g->(w.alloc o).drew.heap.size<=g):∀ g,v.ownBlock=some g->w.heap.size<=g:=by
 intro g hg
 have:=h g hg
 have h2:(w.alloc o).drew.heap.size=w.heap.size+1:=zK w o
 omega
set_option maxRecDepth 100000 in
theorem parts_ask (F:Nat->Prop) (w:World) (v:Nat) (ss:List Bd) (y n:Bd) (p:Value) (h:Rep F w (ke (.ask v ss y n)) p) (hn:Lim (ss.length+2)) :
 Calls Tryz.prog 62 #[p] w (xg F w (.ask v ss y n)):=by
 obtain ⟨b,sl,yv,nv,e,hFb,hc,hsl,hy,hnn⟩:=vp h
 subst e
 obtain ⟨xs,hxs,bp⟩:=zN.ofRep hsl (oneCell_encBs _)
 obtain ⟨sa,sc,esl⟩:=bp.slice
 subst esl
 obtain ⟨ya,ey⟩:=kV hy
 obtain ⟨na,ena⟩:=kV hnn
 subst ey;subst ena
 have c2:w.cell? ⟨b,2,none⟩=some (.slice sa ss.length sc):=by simp [World.cell?,hc]
 have c3:w.cell? ⟨b,3,none⟩=some (.pointer (some ⟨ya,0,none⟩)):=by simp [World.cell?,hc]
 have c4:w.cell? ⟨b,4,none⟩=some (.pointer (some ⟨na,0,none⟩)):=by simp [World.cell?,hc]
 have lb:=zZ hc
 have hl:=hn.le
 clear hc
 go_enter Tryz.func62,Tryz.ntmps62
 go_wp2_with fail
 refine (yF F w v ss y n _ h).mono ?_
 rintro en w' ⟨rfl,e⟩
 obtain rfl:w=w':=e.symm
 go_wp2_with fail
 have iX:Lim ss.length:=hn.mono (by omega)
 have hm:ss.length+2<=maxLen:=by unfold maxLen;omega
 have b8:(ss.length+2)*8<=140737488355328:=by omega
 have h01:0<1:=by omega
 have ep:∀ u∈(#[.pointer (some ⟨ya,0,none⟩),.pointer (some ⟨na,0,none⟩)]:Array Value).toList,u.oneCell'=true:=by simp [Value.oneCell']
 have HO:=gZ ep;clear ep
 go_region_held3 (fun w'=>w'.cell? ⟨b,2,none⟩=some (.slice sa ss.length sc)/\w'.cell? ⟨b,3,none⟩=some (.pointer (some ⟨ya,0,none⟩))/\w'.cell? ⟨b,4,none⟩=some (.pointer (some ⟨na,0,none⟩)))
  (first
   | exact ⟨(cM.cell lb).trans c2,(cM.cell lb).trans c3,(cM.cell lb).trans c4⟩
   | exact ⟨(hbb.cell lb).trans c2,(hbb.cell lb).trans c3,(hbb.cell lb).trans c4⟩
   | go_keep)
  (first
   | (go_at_call 99;refine (pv ss.length _ xs _ bp.drew iX).mono ?_;rintro en wc ⟨ac,kc,rfl,rh,bF,sY⟩;have hbb:Below w.heap.size w wc:=(gV w.heap.size w).drew.trans bF;have dR:∀ g,(Value.slice ac ss.length kc).ownBlock=some g->w.heap.size<=g:=sY)
   | (go_at_call 99;refine (pv ss.length _ xs _ (bp.alloc _).drew iX).mono ?_;rintro en wc ⟨ac,kc,rfl,rh,bF,sY⟩;have hlit:=(zN.lits #[.pointer (some ⟨ya,0,none⟩),.pointer (some ⟨na,0,none⟩)] 2 rfl HO.out _ rfl).drew.below bF;have hbb:Below w.heap.size w wc:=below_ad bF;have dR:=own_ad sY)
   | (refine kK (by rfl) _ _ _ (by rfl) 55 (.pointer none) 1 8 Tryz.underlying103 Tryz.infoB rfl h01 (.slice ac ss.length kc) ss.length xs (by rfl) rh _ 2 [.pointer (some ⟨ya,0,none⟩),.pointer (some ⟨na,0,none⟩)] (by rfl) hlit hm b8 ?_;intro a' c' w6 cq gB gf;have cM:Below w.heap.size w w6:=but_below2 hbb gB dR;have hFg:=own_2 hbb dR gf)
   | (refine kK (by rfl) _ _ _ (by rfl) 55 (.pointer none) 1 8 Tryz.underlying103 Tryz.infoB rfl h01 (.slice ac ss.length kc) ss.length xs (by rfl) (rh.alloc _) _ 2 [.pointer (some ⟨ya,0,none⟩),.pointer (some ⟨na,0,none⟩)] (by rfl) (zN.lits #[.pointer (some ⟨ya,0,none⟩),.pointer (some ⟨na,0,none⟩)] 2 rfl HO.out _ rfl) hm b8 ?_;intro a' c' w6 cq gB gf;have cM:Below w.heap.size w w6:=but_below hbb gB dR;have hFg:=own_1 hbb dR gf))
 all_goals
  go_wp2_with fail
  go_ret
  refine ⟨_,rfl,cM,?_⟩
  have:(zj (.ask v ss y n)).length=ss.length+2:=by simp [zj]
  rw [this]
  refine cq.rep (fun g h=>.inr (hFg g h)) ?_
  show zD _ _ (jP (ss++[y,n])) _
  rw [xQ]
  refine zD.append (zD.below cM (fun _ h=>.inl h) hxs) ?_
  exact zU.2 ⟨_,_,rfl,Rep.below cM (fun _ h=>.inl h) hy,zD.one (Rep.below cM (fun _ h=>.inl h) hnn)⟩
theorem parts_any (F:Nat->Prop) (w:World) (b:Bd) (v:Value) (h:Rep F w (ke b) v) (hn:Lim (zP b)) :
 Calls Tryz.prog 62 #[v] w (xg F w b):=by
 cases b with
 | leaf c=>exact parts_leaf F w c v h
 | ask u ss y n=>exact parts_ask F w u ss y n v h (hn.mono (by
  have:=zp ss;have:=kX y;have:=kX n;simp [zP];omega))
end Go.Proofs.YtfedjhgaeikjmaaGreatDoor
namespace Go.Proofs.YtfedjhgaeikjmaaGreatDoor
open Go.RowKit Go.Shelf
attribute [local go_sem] Oper.semAt_some
end Go.Proofs.YtfedjhgaeikjmaaGreatDoor
namespace Go.Proofs.YtfedjhgaeikjmaaGreatDoor
open Go.RowKit



theorem Rep.drewN {F:Nat->Prop} {w:World} {d:DV} {v:Value} (h:Rep F w d v) (n:Nat):Rep F (w.drewN n) d v:=(Rep.keep (w:=w) (w':=w.drewN n) fun _ _ hf ho=>⟨hf,ho⟩).1 _ _ h
theorem pu {F:Nat->Prop} {w:World} {b:Bd} {v:Value} (h:Rep F w (ke b) v) :
 ∃ a0,v=.pointer (some ⟨a0,0,none⟩)/\w.cell? ⟨a0,0,none⟩=some (str (zH b))/\w.cell? ⟨a0,1,none⟩=some (.int .i64 (kf b:Nat)):=by
 cases b with
 | leaf c =>
   obtain ⟨a,sl,rfl,_,hc,_⟩:=um h
   exact ⟨a,rfl,by simp [World.cell?,hc,zH],by simp [World.cell?,hc,kf]⟩
 | ask lv ss y n =>
   obtain ⟨a,sl,yv,nv,rfl,_,hc,_⟩:=vp h
   exact ⟨a,rfl,by simp [World.cell?,hc,zH],by simp [World.cell?,hc,kf]⟩
theorem yM (F:Nat->Prop) (w:World) (b:Bd) (v:Value) (h:Rep F w (ke b) v) :
 Calls Tryz.prog 61 #[v] w fun en w'=>en=.returned (.bool (pM b))/\w'=w:=by
 cases b with
 | leaf c=>exact vY F w c v h
 | ask lv ss y n=>exact yF F w lv ss y n v h
theorem isList_is (F:Nat->Prop) (w:World) (b:Bd) (v:Value) (h:Rep F w (ke b) v) (x:Bool) (hx:Hid (pM b=x)) :
 Calls Tryz.prog 61 #[v] w fun en w'=>en=.returned (.bool x)/\w'=w:=by
 rw [<- hx.out];exact yM F w b v h
def xq (b:Bd):Prop:=∀ (c:Bd) (hand:List Ty) (F:Nat->Prop) (w:World) (v u:Value),Lim (zP c)->zm hand b->zm hand c->Rep F w (ke b) v->Rep F w (ke c) u ->
 Calls Tryz.prog 30 #[v,u] w fun en w'=>en=.returned (.bool (zk b c))/\Below w.heap.size w w'
set_option maxRecDepth 100000 in
theorem below_step (b:Bd) (hl:Lim (zP b)) (ih:∀ t,zP t<zP b->xq t):xq b:=by
 intro c hand F w v u hlc fb fc hv hu
 have IH:=gZ ih;clear ih
 have bC:=hl.le
 have hlc':=hlc.le
 have ci:=qN b
 have ce:=qN c
 have hlenb:=zp (zj b)
 have hlenc:=zp (zj c)
 obtain ⟨a0,e,p0,p1⟩:=pu hv
 subst e
 obtain ⟨b0,e,q0,q1⟩:=pu hu
 subst e
 by_cases ga:zH b=[117]
 ·have HB:=gZ (belowB_u (c:=c) ga)
  have hd:(zH b == [117])=true:=by rw [beq_iff_eq];exact ga
  clear ga ci ce
  go_enter Tryz.func30,Tryz.ntmps30
  go_wp2_with fail
  go_ret
  exact ⟨kB HB.out.symm,gV _ _⟩
 have hd:(zH b == [117])=false:=by rw [beq_eq_false_iff_ne];exact ga
 by_cases ha:zH b=zH c
 rotate_left
 ·have HB:=gZ (wQ ga ha)
  have hd2:(zH b == zH c)=false:=by rw [beq_eq_false_iff_ne];exact ha
  have HV:=gZ hv
  clear ga ci ce ha
  go_enter Tryz.func30,Tryz.ntmps30
  go_wp2_with fail
  go_quiet (first | (go_at_call 61;exact (yM F _ b _ (HV.out.drewN _)).mono fun _ _ ⟨he,hm⟩=>⟨he,_,hm⟩))
  go_wp2_with fail
  go_ret
  exact ⟨kB HB.out.symm,kU (gV _ _) _⟩
 have hd2:(zH b == zH c)=true:=by rw [beq_iff_eq];exact ha
 by_cases gj:kf b=kf c
 rotate_left
 ·have hi:pM b=true:=by
   cases hi:pM b with
   | true=>rfl
   | false=>exact absurd (lv_leaf ha hi) gj
  have HB:=gZ (belowB_lv ha gj)
  have hd3:(((kf b:Nat):Int) == ((kf c:Nat):Int))=false:=by rw [beq_eq_false_iff_ne];omega
  have HV:=gZ hv
  clear ga ci ce ha gj
  go_enter Tryz.func30,Tryz.ntmps30
  go_wp2_with fail
  go_quiet (first | (go_at_call 61;exact (yM F _ b _ (HV.out.drewN _)).mono fun _ _ ⟨he,hm⟩=>⟨he,_,hm⟩))
  go_wp2_with fail
  go_ret
  exact ⟨kB HB.out.symm,kU (gV _ _) _⟩
 have hd3:(((kf b:Nat):Int) != ((kf c:Nat):Int))=false:=by rw [gj];simp
 obtain ⟨hs,gb,gc⟩:=fit_lengths fb fc ha gj
 have tC:(zj b).length=(zj c).length:=(qq _ _ gb).symm.trans (qq _ _ gc)
 have HB:=gZ (xW fb fc ha gj)
 have GB:=gZ gb;have GC:=gZ gc
 have HV:=gZ hv;have HU:=gZ hu
 have gq:(zj b).length<=16777216:=by omega
 have bR:(zj c).length<=16777216:=by omega
 have HS:=gZ ci;have HSC:=gZ ce
 have HL:=gZ tC
 clear ga ci ce ha gj gb gc hv hu fb fc tC
 cases hi:pM b
 all_goals
  have HI:=gZ hi;clear hi
  go_enter Tryz.func30,Tryz.ntmps30
  go_wp2_with fail
  go_quiet (first | (go_at_call 61;exact (isList_is F _ b _ (HV.out.drewN _) _ HI).mono fun _ _ ⟨he,hm⟩=>⟨he,_,hm⟩))
  clear hd hd2 hd3
  have dq:Below w.heap.size w (w.drewN nq):=kU (gV _ _) _
  have HV1:=gZ (HV.out.drewN nq);have HU1:=gZ (HU.out.drewN nq);clear HV HU
  go_wp2_with fail
  refine (parts_any F _ c _ HU1.out hlc).mono ?_
  rintro en w1 ⟨pc,rfl,gW,br⟩
  obtain ⟨ca,cc,e,_,_,hatc⟩:=zM br
  subst e
  have cI:=Rep.below gW (fun _ h=>h) HV1.out
  go_wp2_with fail
  refine (parts_any F _ b _ cI hl).mono ?_
  rintro en w2 ⟨pb,rfl,gP,cS⟩
  have az:=Rep.below (F':=fun k=>F k\/w.heap.size<=k) gP (fun _ h=>h) br
  obtain ⟨ba,bc,e,_,_,lY⟩:=zM cS
  subst e
  obtain ⟨ca',cc',e,_,_,rJ⟩:=zM az
  simp only [Value.slice.injEq,true_and] at e
  obtain ⟨rfl,rfl⟩:=e
  have gz:=zzT gW gP
  have eB:=dq.trans gz
  have ATB:=gZ lY;have ATC:=gZ rJ
  clear lY hatc rJ br az cS cI
  go_wp2_with fail
  rw [<- HL.out]
  go_loopw [42] (fun i wr=>∃ k:Nat,k<=(zj b).length/\i=.int .i64 k/\qx (zj b) (zj c) k/\Below w2.heap.size w2 wr) (fun i _=>(zj b).length-(intOf i).toNat)
  case atStart=>exact ⟨0,Nat.zero_le _,rfl,qx.zero _ _,gV _ _⟩
  case round =>
   rename_i wr
   obtain ⟨k,hk,rfl,fQ,hb⟩:=hrel
   have TO:=gZ fQ;clear fQ
   by_cases gH:k<(zj b).length
   ·obtain ⟨xb,ob,ub,db,eb,_,hbb,hdb,hub,dE⟩:=ATB.out k gH
    obtain ⟨xc,oc,uc,dc,ec,_,bF,hdc,huc,fL⟩:=ATC.out k (by rw [<- HL.out];exact gH)
    subst eb;subst ec
    rw [encBs_at,Option.map_eq_some_iff] at hdb hdc
    obtain ⟨tb,eV,rfl⟩:=hdb
    obtain ⟨tc,eJ,rfl⟩:=hdc
    obtain ⟨pb0,eu⟩:=kV dE
    subst eu
    obtain ⟨pc0,eu⟩:=kV fL
    subst eu
    have sE:wr.cell? ⟨xb,ob+k,none⟩=some (.pointer (some ⟨pb0,0,none⟩)):=by rw [hb.cell hbb];exact hub
    have hcc:wr.cell? ⟨xc,oc+k,none⟩=some (.pointer (some ⟨pc0,0,none⟩)):=by rw [hb.cell bF];exact huc
    have dD:=Rep.below (F':=fun _=>True) hb (fun _ _=>trivial) dE
    have dC:=Rep.below (F':=fun _=>True) hb (fun _ _=>trivial) fL
    obtain ⟨h1,n7,rH⟩:=qa _ _ GB.out k tb eV
    obtain ⟨h2,ff,rG⟩:=qa _ _ GC.out k tc eJ
    rw [n7] at ff;simp only [Option.some.injEq] at ff;subst ff
    have ge:=kR eV
    have g7:=z9 (zj b) (k+1)
    have bS:=kR eJ
    have bm:=z9 (zj c) (k+1)
    have bf:=HS.out
    have bh:=HSC.out
    have C:=gZ (IH.out tb (by omega) tc h1 _ wr _ _ (show zP tc<=_ by omega) rH rG dD dC)
    have rN:=gZ eV;have rM:=gZ eJ
    have bA:(k:Int)<((zj b).length:Int):=by omega
    have iP:(k:Int)<((zj c).length:Int):=by rw [<- HL.out];exact bA
    clear ge g7 bS bm bf bh rH rG n7 eV eJ hub huc dE fL dD dC
    go_wp2_with fail
    refine C.out.mono ?_
    rintro en w3 ⟨rfl,gF⟩
    have gS:=zzT hb gF
    cases hq:zk tb tc with
    | false =>
      have HN:=gZ (px HL.out rN.out rM.out hq);clear hq
      go_wp2_with fail
      go_ret
      exact ⟨kB (by rw [HB.out,HN.out]),zzT eB gS⟩
    | true =>
      have TO':=gZ (TO.out.next rN.out rM.out hq);clear hq
      go_wp2_with fail
      go_roundw
      case rel=>exact ⟨k+1,by omega,by go_num,TO'.out,gS⟩
      case measure=>simp [intOf];omega
   ·obtain rfl:k=(zj b).length:=by omega
    go_wp2_with fail
    go_ret
    exact ⟨kB (by rw [HB.out,TO.out.all HL.out]),zzT eB hb⟩
theorem below_any (n:Nat):∀ b,zP b<=n->Lim n->xq b:=by
 induction n with
 | zero=>intro b h _;have:=kX b;omega
 | succ n ih=>exact fun b h hn=>below_step b (hn.mono h) (fun t h'=>ih t (by omega) (hn.mono (by omega)))
def qF (x y:Option Bd):Bool:=match x,y with
 | some a,some b=>zk a b
 | _,_=>false
theorem uU (y:Option Bd):qF none y=false:=by cases y <;> rfl
theorem yV (x:Option Bd):qF x none=false:=by cases x <;> rfl
theorem rdTS_some {s text:Bs} {t:Ty} {b:Bd} (hq:uD s text=some (t,b)):zX s text=some b/\zm (zQ s).1.args b/\zP b<=200:=by
 have h3:=rdTS_size hq
 rw [vm,Option.map_eq_some_iff] at hq
 obtain ⟨b',h,e⟩:=hq
 simp at e;obtain ⟨rfl,rfl⟩:=e
 exact ⟨h,vD h,h3⟩
theorem rdTS_none {s text:Bs} (hq:uD s text=none):zX s text=none:=by
 rw [vm,Option.map_eq_none_iff] at hq;exact hq
theorem yJ (s x y:Bs) (hs:Lim s.length) (hx:Lim x.length) (hy:Lim y.length) (w:World) (hg:qE w) :
 Calls Tryz.prog 9 #[str s,str x,str y] w fun en w'=>en=.returned (.bool (qF (zX s x) (zX s y)))/\Below w.heap.size w w':=by
 go_enter Tryz.func9,Tryz.ntmps9
 go_wp2_with fail
 refine (jr s x w hg hs hx).mono ?_
 rintro en w1 ⟨kv,bv,rfl,gW,gq,gx⟩
 have n8:=hg.below gW
 go_wp2_with fail
 refine (jr s y w1 n8 hs hy).mono ?_
 rintro en w2 ⟨kv2,bv2,rfl,gP,bR,bJ⟩
 have gz:=zzT gW gP
 cases hq:uD s x with
 | none =>
   obtain rfl:=gq hq
   have HQ:=gZ (rdTS_none hq)
   cases g6:uD s y with
   | none =>
     obtain rfl:=bR g6
     clear hq g6 gq bR gx bJ
     go_wp2_with fail
     go_ret
     exact ⟨kB (by rw [HQ.out,uU]),gz⟩
   | some z =>
     obtain ⟨t,b⟩:=z
     obtain ⟨_,gd⟩:=bJ t b g6
     obtain ⟨ab,eb⟩:=kV gd
     subst eb
     clear hq g6 gq bR gx bJ
     go_wp2_with fail
     go_ret
     exact ⟨kB (by rw [HQ.out,uU]),gz⟩
 | some z =>
   obtain ⟨t1,b1⟩:=z
   obtain ⟨_,gp⟩:=gx t1 b1 hq
   have mu:=Rep.below (F':=fun _=>True) gP (fun _ _=>trivial) gp
   obtain ⟨ab,eb⟩:=kV gp
   subst eb
   have sf:=gZ (rdTS_some hq)
   cases g6:uD s y with
   | none =>
     obtain rfl:=bR g6
     have HQ:=gZ (rdTS_none g6)
     clear hq g6 gq bR gx bJ
     go_wp2_with fail
     go_ret
     exact ⟨kB (by rw [HQ.out,yV]),gz⟩
   | some z =>
     obtain ⟨t2,b2⟩:=z
     obtain ⟨_,gd⟩:=bJ t2 b2 g6
     have aA:=Rep.below (F':=fun _=>True) (gV _ _) (fun _ _=>trivial) gd
     obtain ⟨ab2,eb⟩:=kV gd
     subst eb
     have dW:=gZ (rdTS_some g6)
     have C:=gZ (below_any (zP b1) b1 (gQ _) (show _<=_ by have:=sf.out.2.2;omega) b2 _ _ w2 _ _ (show _<=_ by have:=dW.out.2.2;omega) sf.out.2.1 dW.out.2.1 mu aA)
     clear hq g6 gq bR gx bJ gp gd mu aA
     go_wp2_with fail
     refine C.out.mono ?_
     rintro en w3 ⟨rfl,gF⟩
     go_wp2_with fail
     go_ret
     exact ⟨kB (by rw [sf.out.1,dW.out.1];rfl),zzT gz gF⟩
theorem pw:∀ {xs bs:List Bd} {k:Nat} {a:Bd},zt xs bs=true->xs[k]? = some a->∃ b,bs[k]? = some b/\zk a b=true
 | [],_,_,_,_,h=>by simp at h
 | _::_,[],_,_,h,_=>by simp [zt] at h
 | a::xs,b::bs,0,c,h,hc=>by
   simp only [zt,Bool.and_eq_true] at h
   simp at hc;subst hc
   exact ⟨b,rfl,h.1⟩
 | a::xs,b::bs,k+1,c,h,hc=>by
   simp only [zt,Bool.and_eq_true] at h
   obtain ⟨d,h1,h2⟩:=pw (k:=k) h.2 (by simpa using hc)
   exact ⟨d,by simpa using h1,h2⟩
def simS (s s':St):Prop:=zk s.1 s'.1=true/\s.2=s'.2
theorem told_sim {s s':St} {x:Bs×Int} (h:simS s s') (ht:jm s=some x):jm s'=some x:=by
 obtain ⟨b,r⟩:=s
 obtain ⟨b',r'⟩:=s'
 obtain ⟨h1,h2⟩:=h
 obtain rfl:r=r':=h2
 cases b with
 | leaf c=>cases b' with
   | leaf d =>
     simp only [zk,Bool.or_eq_true,beq_iff_eq] at h1
     rcases h1 with h | h
     ·subst h;simp [jm] at ht
     ·subst h;exact ht
   | ask v ss y n =>
     simp only [zk,beq_iff_eq] at h1
     subst h1;simp [jm] at ht
 | ask v ss y n=>cases b' with
   | leaf d=>simp [zk] at h1
   | ask v' ss' y' n' =>
     simp only [zk,Bool.and_eq_true,beq_iff_eq] at h1
     obtain ⟨rfl,_⟩:=h1
     exact ht
theorem step_sim {t:Ty} {s s' r:St} {m:Bs} {k:Nat} (h:simS s s') (ht:vL t s m k=some r):∃ r',vL t s' m k=some r'/\simS r r':=by
 obtain ⟨b,q⟩:=s
 obtain ⟨b',q'⟩:=s'
 obtain ⟨h1,h2⟩:=h
 obtain rfl:q=q':=h2
 cases b with
 | leaf c=>simp [vL] at ht
 | ask v ss y n=>cases b' with
   | leaf d=>simp [zk] at h1
   | ask v' ss' y' n' =>
     simp only [zk,Bool.and_eq_true,beq_iff_eq] at h1
     obtain ⟨rfl,hs,hy,hn⟩:=h1
     cases m with
     | nil=>simp [vL] at ht
     | cons c p =>
       simp only [vL] at ht ⊢
       by_cases hc:c=113
       ·rw [if_pos hc] at ht ⊢
        rw [Option.map_eq_some_iff] at ht
        obtain ⟨d,hd,rfl⟩:=ht
        obtain ⟨d',tL,c_⟩:=pw hs hd
        rw [tL]
        exact ⟨_,rfl,c_,rfl⟩
       ·rw [if_neg hc] at ht ⊢
        obtain rfl:=Option.some.inj ht
        refine ⟨_,rfl,?_,rfl⟩
        show zk (if c=102 then n else y) (if c=102 then n' else y')=true
        split
        ·exact hn
        ·exact hy
theorem pK {t:Ty} {b c:Bd} {v:Pl} (h:zk b c=true):∀ (f n:Nat) (s:St),qc t b v f n=some s->∃ s',qc t c v f n=some s'/\simS s s'
 | 0,n,s,hp=>by simp [qc] at hp
 | f+1,n,s,hp=>by
   rw [qc] at hp ⊢
   by_cases hn:n<=1
   ·rw [if_pos hn] at hp ⊢
    obtain rfl:=Option.some.inj hp
    exact ⟨_,rfl,h,rfl⟩
   ·rw [if_neg hn] at hp ⊢
    cases hv:v[n-1]? with
    | none=>rw [hv] at hp;simp at hp
    | some x =>
      rw [hv] at hp
      simp only at hp ⊢
      rw [Option.bind_eq_some_iff] at hp
      obtain ⟨s0,h0,h1⟩:=hp
      obtain ⟨s0',h2,h3⟩:=pK h f x.2.toNat s0 h0
      obtain ⟨r',h4,h5⟩:=step_sim h3 h1
      exact ⟨r',by rw [h2,Option.bind_some,h4],h5⟩
theorem follows_sim {t:Ty} {b c:Bd} {v:Pl} (h:zk b c=true) {n:Nat} (hn:n<=v.length) (hf:zi t b v n):zi t c v n:=fun i hi ho=>by
 have h1:=hf i hi ho
 rw [List.getElem?_eq_getElem (show i<v.length by omega)] at h1 ⊢
 unfold kt at h1 ⊢
 rw [Option.bind_eq_some_iff] at h1
 obtain ⟨s,h2,h3⟩:=h1
 obtain ⟨s',h4,h5⟩:=pK h _ _ _ h2
 show (qZ t c v i).bind jm=_
 unfold qZ
 rw [h4,Option.bind_some]
 exact told_sim h5 h3
mutual
theorem vP:∀ (b c:Bd),zk b c=true->zk c b=true->b=c
 | .leaf c,.leaf d,h,h'=>by
   simp only [zk,Bool.or_eq_true,beq_iff_eq] at h h'
   rcases h with h | h
   ·rcases h' with h' | h'
    ·rw [h,h']
    ·rw [h']
   ·rw [h]
 | .leaf c,.ask v ss y n,_,h'=>by simp [zk] at h'
 | .ask v ss y n,.leaf c,h,_=>by simp [zk] at h
 | .ask v ss y n,.ask v' ss' y' n',h,h'=>by
   simp only [zk,Bool.and_eq_true,beq_iff_eq] at h h'
   rw [h.1,xX ss ss' h.2.1 h'.2.1,vP y y' h.2.2.1 h'.2.2.1,vP n n' h.2.2.2 h'.2.2.2]
theorem xX:∀ (xs ys:List Bd),zt xs ys=true->zt ys xs=true->xs=ys
 | [],[],_,_=>rfl
 | [],y::ys,_,h=>by simp [zt] at h
 | x::xs,[],h,_=>by simp [zt] at h
 | x::xs,y::ys,h,h'=>by
   simp only [zt,Bool.and_eq_true] at h h'
   rw [vP x y h.1 h'.1,xX xs ys h.2 h'.2]
end
mutual
theorem vW:∀ b:Bd,zk b b=true
 | .leaf c=>by simp [zk]
 | .ask v ss y n=>by simp [zk,xY ss,vW y,vW n]
theorem xY:∀ bs:List Bd,zt bs bs=true
 | []=>rfl
 | b::bs=>by simp [zt,vW b,xY bs]
end
theorem below_plays {s a b:Bs} (h:qF (zX s a) (zX s b)=true) {n:Int} {L:List Pl} (hL:kL s a n=some L) (i:Nat) (u:Pl) (hu:L[i]? = some u):jO s b (u.map (·.1)) (u.map (·.2))=true:=by
 obtain ⟨x,hx,h0,h8,rfl,cE⟩:=ve hL
 have hg:=(kN hx).1
 rw [hx] at h
 cases hy:zX s b with
 | none=>rw [hy] at h;simp [qF] at h
 | some y =>
   rw [hy] at h
   obtain ⟨h1,h2,h3⟩:=pY hg.atoms hg.fit hg.wf ((n.toNat+1) / 2) (by omega) u (List.mem_of_getElem? hu)
   exact follow_in hy ⟨h1.ok,h1.lg,follows_sim h (gQ _) h1.fo⟩
theorem below_back {s a b:Bs} (h:qF (zX s a) (zX s b)=true):qF (zX s b) (zX s a)=decide (a=b):=by
 cases hx:zX s a with
 | none=>rw [hx] at h;cases hy:zX s b <;> rw [hy] at h <;> simp [qF] at h
 | some x=>cases hy:zX s b with
   | none=>rw [hx,hy] at h;simp [qF] at h
   | some y =>
     rw [hx,hy] at h
     have h:zk x y=true:=h
     show zk y x=_
     cases hz:zk y x with
     | true =>
       have e:=vP x y h hz
       have h1:=(kN hx).2
       have h2:=(kN hy).2
       exact (decide_eq_true (by rw [h1,h2,e])).symm
     | false =>
       refine (decide_eq_false fun e=>?_).symm
       subst e
       rw [hx] at hy
       obtain rfl:=Option.some.inj hy
       rw [vW] at hz
       exact absurd hz (by decide)
structure wY (F:Nat->Prop) (w:World) (rd rb nb:Nat) (no:Obj) (ob Z:Nat) (v:Int) (wr:World) (pk py:List Bd) (kv yv:List Value) (ks:Value) (nk:Nat) (ys:Value) (ny:Nat):Prop where
 hnk:nk=pk.length
 hny:ny=py.length
 ksl:∃ a c,ks=.slice a nk c
 ysl:∃ a c,ys=.slice a ny c
 but:But (· = rd) w wr
 res:kY rb 0 (.slice none 0 0) (.slice none 0 0) wr
 out:kY ob v ks ys wr
 ownK:Own wr 64 4 ks nk kv
 ownY:Own wr 64 4 ys ny yv
 blkK:∀ g,ks.ownBlock=some g->Z<=g/\ys.ownBlock≠some g
 blkY:∀ g,ys.ownBlock=some g->Z<=g
 repK:zD (fun b=>(F b\/Z<=b)/\ks.ownBlock≠some b/\ys.ownBlock≠some b) wr (kH pk) kv
 repY:zD (fun b=>(F b\/Z<=b)/\ks.ownBlock≠some b/\ys.ownBlock≠some b) wr (kH py) yv
 z:Z<=wr.heap.size
 old:∀ k,F k->k<w.heap.size/\k≠rd
 rbl:(w.heap.size<=rb/\rb<ob)/\(w.heap.size<=nb/\nb<ob)
 nbx:wr.heap[nb]? = some no
theorem wY.kid {F:Nat->Prop} {w:World} {rd rb nb:Nat} {no:Obj} {ob Z:Nat} {v:Int} {wr:World} {pk py:List Bd} {kv yv:List Value} {ks ys:Value} {nk ny:Nat}
 (h:wY F w rd rb nb no ob Z v wr pk py kv yv ks nk ys ny) (cJ:rd<w.heap.size) (fY:ob<Z) (aG:w.heap.size<ob) {W w7:World} {b:Bd} {cs:List Value} {a':Option Addr} {c':Nat}
 (gB:But (· = rd) wr W) (hcs:zD (fun k=>F k\/wr.heap.size<=k) W (kF b) cs) (gM:Own w7 64 4 (.slice a' (nk+1) c') (nk+1) (kv++cs)) (gD:But (fun i=>ks.ownBlock=some i) W w7)
 (gL:∀ g,(Value.slice a' (nk+1) c').ownBlock=some g->ks.ownBlock=some g\/g=W.heap.size) :
 wY F w rd rb nb no ob Z v (w7.setCell ⟨ob,2,none⟩ (.slice a' (nk+1) c')) (pk++[b]) py (kv++cs) yv (.slice a' (nk+1) c') (nk+1) ys ny:=by
 have z6:=gB.size
 have dE:=h.rbl
 have z7:=gD.size
 have zr:=h.z
 have zb:=h.but.size
 have keep:∀ i x,wr.heap[i]? = some x->ks.ownBlock≠some i->i≠ob->i≠rd->(w7.setCell ⟨ob,2,none⟩ (.slice a' (nk+1) c')).heap[i]? = some x:=by
  intro i x hx h1 h2 h3
  have:=zZ hx
  rw [gU _ _ _ _ (by simpa using h2),gD.block i (by omega) h1,gB.block i this h3];exact hx
 have gr:∀ i x,W.heap[i]? = some x->ks.ownBlock≠some i->i≠ob->(w7.setCell ⟨ob,2,none⟩ (.slice a' (nk+1) c')).heap[i]? = some x:=by
  intro i x hx h1 h2
  have:=zZ hx
  rw [gU _ _ _ _ (by simpa using h2),gD.block i (by omega) h1];exact hx
 have FO:∀ i,F i\/Z<=i->i≠ob/\i≠rd:=fun i hi=>by
  rcases hi with hi | hi
  ·have:=h.old i hi;omega
  ·omega
 have ltK:∀ g,ks.ownBlock=some g->g<wr.heap.size:=fun g hg=>h.ownK.lt hg
 have ltY:∀ g,ys.ownBlock=some g->g<wr.heap.size:=fun g hg=>h.ownY.lt hg
 have nK:∀ i,i<Z->ks.ownBlock≠some i:=fun i hi e=>by have:=(h.blkK i e).1;omega
 have newg:∀ g,(Value.slice a' (nk+1) c').ownBlock=some g->Z<=g:=fun g hg=>by
  rcases gL g hg with e | e
  ·exact (h.blkK g e).1
  ·omega
 refine ⟨by simp [h.hnk],h.hny,⟨_,_,rfl⟩,h.ysl,?_,?_,?_,?_,?_,?_,h.blkY,?_,?_,by simp [World.setCell];omega,h.old,h.rbl,?_⟩
 ·refine But.setCell ?_ (.inr (show w.heap.size<=ob by omega)) _
  exact (h.but.trans gB).trans' gD (fun i hi e=>absurd e (nK i (by omega)))
 ·exact keep _ _ h.res (nK _ (by omega)) (by omega) (by omega)
 ·have h1:kY ob v ks ys w7:=by
   unfold kY;rw [gD.block ob (by omega) (nK _ fY),gB.block ob (by omega) (show ¬ ob=rd by omega)];exact h.out
  exact h1.put2
 ·exact gM.keep fun g o hg ho=>by rw [gU _ _ _ _ (by have:=newg g hg;simp;omega)];exact ho
 ·exact h.ownY.keep fun g o hg ho=>keep g o ho (fun e=>(h.blkK g e).2 hg) (by have:=h.blkY g hg;omega) (by have:=h.blkY g hg;omega)
 ·intro g hg
  refine ⟨newg g hg,fun e=>?_⟩
  rcases gL g hg with e' | e'
  ·exact (h.blkK g e').2 e
  ·have:=ltY g e;omega
 ·rw [k7]
  have h1:=h.repK
  refine zD.append ((Rep.keep fun i x hi hx=>⟨⟨hi.1,fun e=>(gL i e).elim (fun e'=>hi.2.1 e') (fun e'=>by have:=zZ hx;omega),hi.2.2⟩,keep i x hx hi.2.1 (FO i hi.1).1 (FO i hi.1).2⟩).2 _ _ h1) ?_
  ·have e1:kH [b]=kF b:=by simp [kH]
   rw [e1]
   refine (Rep.keep fun i x hi hx=>?_).2 _ _ hcs
   have h2:=zZ hx
   rcases hi with hf | h3
   ·have sW:=(h.old i hf).1
    exact ⟨⟨.inl hf,fun e=>by have:=newg i e;omega,fun e=>by have:=h.blkY i e;omega⟩,gr i x hx (fun e=>by have:=(h.blkK i e).1;omega) (by omega)⟩
   refine ⟨⟨.inr (by omega),fun e=>?_,fun e=>by have:=ltY i e;omega⟩,gr i x hx (fun e=>by have:=ltK i e;omega) (by omega)⟩
   rcases gL i e with e' | e'
   ·have:=ltK i e';omega
   ·omega
 ·exact (Rep.keep fun i x hi hx=>⟨⟨hi.1,fun e=>(gL i e).elim (fun e'=>hi.2.1 e') (fun e'=>by have:=zZ hx;omega),hi.2.2⟩,keep i x hx hi.2.1 (FO i hi.1).1 (FO i hi.1).2⟩).2 _ _ h.repY
 ·exact keep _ _ h.nbx (nK _ (by omega)) (by omega) (by omega)
theorem wY.yes {F:Nat->Prop} {w:World} {rd rb nb:Nat} {no:Obj} {ob Z:Nat} {v:Int} {wr:World} {pk py:List Bd} {kv yv:List Value} {ks ys:Value} {nk ny:Nat}
 (h:wY F w rd rb nb no ob Z v wr pk py kv yv ks nk ys ny) (cJ:rd<w.heap.size) (fY:ob<Z) (aG:w.heap.size<ob) {W w7:World} {b:Bd} {cs:List Value} {a':Option Addr} {c':Nat}
 (gB:But (· = rd) wr W) (hcs:zD (fun k=>F k\/wr.heap.size<=k) W (kF b) cs) (gM:Own w7 64 4 (.slice a' (ny+1) c') (ny+1) (yv++cs)) (gD:But (fun i=>ys.ownBlock=some i) W w7)
 (gL:∀ g,(Value.slice a' (ny+1) c').ownBlock=some g->ys.ownBlock=some g\/g=W.heap.size) :
 wY F w rd rb nb no ob Z v (w7.setCell ⟨ob,3,none⟩ (.slice a' (ny+1) c')) pk (py++[b]) kv (yv++cs) ks nk (.slice a' (ny+1) c') (ny+1):=by
 have z6:=gB.size
 have dE:=h.rbl
 have z7:=gD.size
 have zr:=h.z
 have zb:=h.but.size
 have keep:∀ i x,wr.heap[i]? = some x->ys.ownBlock≠some i->i≠ob->i≠rd->(w7.setCell ⟨ob,3,none⟩ (.slice a' (ny+1) c')).heap[i]? = some x:=by
  intro i x hx h1 h2 h3
  have:=zZ hx
  rw [gU _ _ _ _ (by simpa using h2),gD.block i (by omega) h1,gB.block i this h3];exact hx
 have gr:∀ i x,W.heap[i]? = some x->ys.ownBlock≠some i->i≠ob->(w7.setCell ⟨ob,3,none⟩ (.slice a' (ny+1) c')).heap[i]? = some x:=by
  intro i x hx h1 h2
  have:=zZ hx
  rw [gU _ _ _ _ (by simpa using h2),gD.block i (by omega) h1];exact hx
 have FO:∀ i,F i\/Z<=i->i≠ob/\i≠rd:=fun i hi=>by
  rcases hi with hi | hi
  ·have:=h.old i hi;omega
  ·omega
 have ltK:∀ g,ks.ownBlock=some g->g<wr.heap.size:=fun g hg=>h.ownK.lt hg
 have ltY:∀ g,ys.ownBlock=some g->g<wr.heap.size:=fun g hg=>h.ownY.lt hg
 have nY:∀ i,i<Z->ys.ownBlock≠some i:=fun i hi e=>by have:=h.blkY i e;omega
 have newg:∀ g,(Value.slice a' (ny+1) c').ownBlock=some g->Z<=g:=fun g hg=>by
  rcases gL g hg with e | e
  ·exact h.blkY g e
  ·omega
 refine ⟨h.hnk,by simp [h.hny],h.ksl,⟨_,_,rfl⟩,?_,?_,?_,?_,?_,?_,newg,?_,?_,by simp [World.setCell];omega,h.old,h.rbl,?_⟩
 ·refine But.setCell ?_ (.inr (show w.heap.size<=ob by omega)) _
  exact (h.but.trans gB).trans' gD (fun i hi e=>absurd e (nY i (by omega)))
 ·exact keep _ _ h.res (nY _ (by omega)) (by omega) (by omega)
 ·have h1:kY ob v ks ys w7:=by
   unfold kY;rw [gD.block ob (by omega) (nY _ fY),gB.block ob (by omega) (show ¬ ob=rd by omega)];exact h.out
  exact h1.put3
 ·exact h.ownK.keep fun g o hg ho=>keep g o ho (h.blkK g hg).2 (by have:=(h.blkK g hg).1;omega) (by have:=(h.blkK g hg).1;omega)
 ·exact gM.keep fun g o hg ho=>by rw [gU _ _ _ _ (by have:=newg g hg;simp;omega)];exact ho
 ·intro g hg
  refine ⟨(h.blkK g hg).1,fun e=>?_⟩
  rcases gL g e with e' | e'
  ·exact (h.blkK g hg).2 e'
  ·have:=ltK g hg;omega
 ·exact (Rep.keep fun i x hi hx=>⟨⟨hi.1,hi.2.1,fun e=>(gL i e).elim (fun e'=>hi.2.2 e') (fun e'=>by have:=zZ hx;omega)⟩,keep i x hx hi.2.2 (FO i hi.1).1 (FO i hi.1).2⟩).2 _ _ h.repK
 ·rw [k7]
  refine zD.append ((Rep.keep fun i x hi hx=>⟨⟨hi.1,hi.2.1,fun e=>(gL i e).elim (fun e'=>hi.2.2 e') (fun e'=>by have:=zZ hx;omega)⟩,keep i x hx hi.2.2 (FO i hi.1).1 (FO i hi.1).2⟩).2 _ _ h.repY) ?_
  ·have e1:kH [b]=kF b:=by simp [kH]
   rw [e1]
   refine (Rep.keep fun i x hi hx=>?_).2 _ _ hcs
   have h2:=zZ hx
   rcases hi with hf | h3
   ·have sW:=(h.old i hf).1
    exact ⟨⟨.inl hf,fun e=>by have:=(h.blkK i e).1;omega,fun e=>by have:=newg i e;omega⟩,gr i x hx (fun e=>by have:=h.blkY i e;omega) (by omega)⟩
   refine ⟨⟨.inr (by omega),fun e=>by have:=ltK i e;omega,fun e=>?_⟩,gr i x hx (fun e=>by have:=ltY i e;omega) (by omega)⟩
   rcases gL i e with e' | e'
   ·have:=ltY i e';omega
   ·omega
 ·exact keep _ _ h.nbx (nY _ (by omega)) (by omega) (by omega)
theorem kW.not_str {w:World} {rd P j:Nat} {x:Bs} (h:kW w rd P) (hc:w.cell? ⟨rd,j,none⟩=some (str x)):False:=by
 obtain ⟨a,m,c,p,h1,hp,hm,hcs⟩:=h
 simp only [World.cell?,h1] at hc
 match j,hc with
 | 0,hc=>simp at hc
 | 1,hc=>simp at hc
 | j+2,hc=>simp at hc
theorem AtN.out {F:Nat->Prop} {w:World} {bs:List Bd} {a:Option Addr} {k rd P:Nat} (h:AtN F w bs a k) (hr:kW w rd P):∃ b o s v a2 n2 c2 a3 n3 c3 d,a=some ⟨b,o,none⟩/\b<w.heap.size/\b≠rd/\bs[k]? = some d/\w.cell? ⟨b,o+k*4,none⟩=some (str s)/\w.cell? ⟨b,o+k*4+1,none⟩=some (.int .i64 v) /\
 w.cell? ⟨b,o+k*4+2,none⟩=some (.slice a2 n2 c2)/\w.cell? ⟨b,o+k*4+3,none⟩=some (.slice a3 n3 c3)/\zD F w (kF d) [str s,.int .i64 v,.slice a2 n2 c2,.slice a3 n3 c3]:=by
 obtain ⟨b,o,s,v,a2,n2,c2,a3,n3,c3,d,rfl,hb,hd,h0,h1,h2,h3,dV⟩:=h
 refine ⟨b,o,s,v,a2,n2,c2,a3,n3,c3,d,rfl,hb,fun e=>?_,hd,h0,h1,h2,h3,dV⟩
 rw [e] at h0
 exact hr.not_str h0
def CutD (rd Q:Nat) (F:Nat->Prop) (b:Bd) (w:World) (en:Ending) (w':World):Prop :=
 ∃ (b':Bd) (s:Bs) (v:Int) (a2:Option Addr) (n2 c2:Nat) (a3:Option Addr) (n3 c3:Nat),en=.returned (.agg #[str s,.int .i64 v,.slice a2 n2 c2,.slice a3 n3 c3])/\But (· = rd) w w'/\kW w' rd Q /\
   lvB b'/\zP b'<=zP b/\zD (fun k=>F k\/w.heap.size<=k) w' (kF b') [str s,.int .i64 v,.slice a2 n2 c2,.slice a3 n3 c3]
def CutSaid (rd M:Nat):Prop:=∀ (F:Nat->Prop) (b:Bd) (b0 b1 b2 b3:Value) (w:World) (P:Nat),zP b<=M->zP b<=100000->lvB b->(∀ k,F k->k<w.heap.size/\k≠rd)->kW w rd P->P+2*zP b<=1099511627776 ->
 zD F w (kF b) [b0,b1,b2,b3]->Calls Tryz.prog 59 #[.pointer (some ⟨rd,0,none⟩),.agg #[b0,b1,b2,b3]] w (CutD rd (P+2*zP b) F b w)
def KidsC (F:Nat->Prop) (w:World) (rd rb nb:Nat) (no:Obj) (ob Z v P:Nat) (ss:List Bd) (k:Nat) (wr:World):Prop :=
 ∃ (pk:List Bd) (kv:List Value) (ks:Value) (nk:Nat),wY F w rd rb nb no ob Z v wr pk [] kv [] ks nk (.slice none 0 0) 0/\pk.length=k/\qd pk/\zW pk<=zW (ss.take k)/\kW wr rd (P+2*zW (ss.take k))
def YesC (F:Nat->Prop) (w:World) (rd rb nb:Nat) (no:Obj) (ob Z v P:Nat) (pk:List Bd) (kv:List Value) (ks:Value) (nk:Nat) (ys:List Bd) (k:Nat) (wr:World):Prop :=
 ∃ (py:List Bd) (yv:List Value) (yl:Value) (ny:Nat),wY F w rd rb nb no ob Z v wr pk py kv yv ks nk yl ny/\py.length=k/\qd py/\zW py<=zW (ys.take k)/\kW wr rd (P+2*zW (ys.take k))
theorem reps_more {F:Nat->Prop} {n m:Nat} {w w':World} {ds:List DV} {vs:List Value} (h:zD (fun k=>F k\/n<=k) w ds vs) (hm:m<=n) (hk:∀ (i:Nat) (x:Obj),w.heap[i]? = some x->w'.heap[i]? = some x):zD (fun k=>F k\/m<=k) w' ds vs :=
 (Rep.keep fun i x hi hx=>⟨hi.imp id (fun h=>by omega),hk i x hx⟩).2 _ _ h
set_option maxRecDepth 100000 in
theorem l91Cut_step (rd M:Nat) (ih:CutSaid rd M):CutSaid rd (M+1):=by
 intro F b b0 b1 b2 b3 w P hM lI gj hF hr hP hb
 have gH:=hr.lt
 have bG:=kX b
 have el:=wF hb
 subst el
 obtain ⟨_,a2,c2,a3,c3,e,hkk,hyy⟩:=jb hb
 simp only [List.cons.injEq,and_true] at e
 obtain ⟨rfl,_,rfl,rfl⟩:=e
 obtain ⟨W0,dw,gG,nI,x0,x1⟩:=uV w (.cells #[str (zH b),.int .i64 (kf b:Nat),.slice a2 (zL b).length c2,.slice a3 (ze b).length c3] 64) (.cells #[str [],.int .i64 0,.slice none 0 0,.slice none 0 0] 64)
 have HB:=gZ hb
 have HF:=gZ hF
 have HLV:=gZ gj
 have H0:=gZ (gK dw (gK gG (gK nI (gK x0 x1))))
 have nU:=hr.below gG
 have nG:But (· = rd) w W0:=But.ofBelow gG
 have nW:kY (w.heap.size+1) 0 (.slice none 0 0) (.slice none 0 0) W0:=x1
 obtain ⟨_,_,ek,atk⟩:=xD.of hkk
 simp only [Value.slice.injEq,true_and] at ek
 rw [<- ek.1] at atk
 obtain ⟨_,_,ek2,aty⟩:=xD.of hyy
 simp only [Value.slice.injEq,true_and] at ek2
 rw [<- ek2.1] at aty
 have ATK:=gZ (fun k hk=>(atk k hk).out hr)
 have ATY:=gZ (fun k hk=>(aty k hk).out hr)
 have IH:=gZ ih
 obtain ⟨n0,n1,n2,n3⟩:=zc x0
 clear hb hkk hyy ek ek2 atk aty hr ih dw gG hF
 go_enter Tryz.func59,Tryz.ntmps59
 go_upto_region 1 with (fail)
 rw [H0.out.1]
 go_wp2_with fail
 refine (qR rd P 4 W0 nU (by omega) (by omega) (by omega)).mono ?_
 rintro en w1 ⟨p1,rfl,fO,gW,gp⟩
 have fG:=nG.trans gW
 have nX:=nW.but gW (show ¬ w.heap.size+1=rd by omega)
 have nF:w1.heap[w.heap.size]? = some (.cells #[str (zH b),.int .i64 (kf b:Nat),.slice a2 (zL b).length c2,.slice a3 (ze b).length c3] 64 (0,0)):=(gW.block _ (zZ H0.out.2.2.2.1) (show ¬ w.heap.size=rd by omega)).trans H0.out.2.2.2.1
 clear nG nW nU n0 n1 n2 n3 x0 x1
 by_cases dP:p1=0\/∃ c,b=.leaf c
 ·have key:∀ (c:UInt8),b=.leaf c->(zH b == [])=false/\(zH b != [])=true:=fun c e=>by subst e;exact ⟨rfl,rfl⟩
  obtain ⟨n0,n1,n2,n3⟩:=zc nF
  have hD:p1=0\/p1≠0/\(zH b == [])=false/\(zH b != [])=true/\(zH b).isEmpty=false:=by
   rcases dP with h | ⟨c,e⟩
   ·exact .inl h
   ·by_cases h:p1=0
    ·exact .inl h
    ·subst e;exact .inr ⟨h,rfl,rfl,rfl⟩
  clear key dP
  rcases hD with hp | ⟨hp,hq1,g6,hq3⟩
  all_goals
   have aO:((p1:Int) == 0)=decide (p1=0):=by
    by_cases h:p1=0
    ·subst h;rfl
    ·rw [decide_eq_false h,beq_eq_false_iff_ne];omega
   first
    | rw [decide_eq_true hp] at aO
    | rw [decide_eq_false hp] at aO
   clear hp
   have H1:=gZ (gK fG (gK nX nF))
   clear fG nX nF gW
   go_wp2_with fail
   refine (qR rd (P+1) 3 w1 gp (by omega) (by omega) (by omega)).mono ?_
   rintro en w2 ⟨p2,rfl,tG,gP,gd⟩
   have dj:=H1.out.1.trans gP
   have cr:=H1.out.2.1.but gP (show ¬ w.heap.size+1=rd by omega)
   have x02:=(gP.block _ (zZ H1.out.2.2) (show ¬ w.heap.size=rd by omega)).trans H1.out.2.2
   obtain ⟨r0,r1,r2,r3,rl,rf⟩:=cr.cells
   have fB:=rf 0;have nR:=rf 1;have nN:=rf 2;have nM:=rf 3;clear rf
   obtain ⟨m0,m1,m2,m3⟩:=zc x02
   have HQ:=gZ (gK cr (gK dj gd))
   clear cr dj gd gP x02 n0 n1 n2 n3
   by_cases hq0:p2=0
   ·subst hq0
    go_wp2_with fail
    obtain ⟨cr,dj,gd⟩:=HQ.out
    obtain ⟨W,hW,s0,s1,s2,s3,gG,bW,dJ⟩:=cr.storeB (str [117]) (.int .i64 0) (.slice none 0 0) (.slice none 0 0)
    rw [<- hW]
    refine bodyPost_ret (v:=.agg #[str [117],.int .i64 0,.slice none 0 0,.slice none 0 0]) (by simp [results,Tryz.results59,go_sem,s0,s1,s2,s3]) rfl ?_
    exact ⟨.leaf 117,[117],0,none,0,0,none,0,0,rfl,gG _ _ dj (by omega),(dJ _ _ (by omega) gd).mono (by omega),by simp [lvB],by simp only [zP];omega,ye 117⟩
   ·have hq1':((p2:Int) == 0)=false:=by rw [beq_eq_false_iff_ne];omega
    go_wp2_with fail
    obtain ⟨cr,dj,gd⟩:=HQ.out
    obtain ⟨W,hW,s0,s1,s2,s3,gG,bW,dJ⟩:=cr.storeB (str (zH b)) (.int .i64 (kf b:Nat)) (.slice a2 (zL b).length c2) (.slice a3 (ze b).length c3)
    rw [<- hW]
    refine bodyPost_ret (v:=.agg #[str (zH b),.int .i64 (kf b:Nat),.slice a2 (zL b).length c2,.slice a3 (ze b).length c3]) (by simp [results,Tryz.results59,go_sem,s0,s1,s2,s3]) rfl ?_
    refine ⟨b,_,_,_,_,_,_,_,_,rfl,gG _ _ dj (by omega),(dJ _ _ (by omega) gd).mono (by omega),HLV.out,gQ _,?_⟩
    exact zD.but (gG _ _ dj (by omega)) (fun k hk=>⟨(HF.out k hk).2,.inl hk⟩) HB.out
 ·obtain ⟨v,ss,y,n,rfl⟩:∃ v ss y n,b=.ask v ss y n:=by
   cases b with
   | leaf c=>exact absurd (.inr ⟨c,rfl⟩) dP
   | ask v ss y n=>exact ⟨v,ss,y,n,rfl⟩
  have aq:((p1:Int) == 0)=false:=by rw [beq_eq_false_iff_ne];intro h;exact dP (.inl (by omega))
  simp only [zH,kf,zL,ze] at nF ATK ATY HB H0 ⊢
  have hs:zP (.ask v ss y n)=1+(zW ss+(zP y+zP n)):=by simp only [zP]
  rw [hs] at hM lI hP
  rw [lvB] at gj
  obtain ⟨fh,hl2,iM,iF⟩:=gj
  have HLK:=gZ hl2
  have lr:Hid (qd [y,n]):=by rw [qd,qd,qd];exact ⟨iM,iF,trivial⟩
  obtain ⟨ys,aV⟩:=zzM ([y,n])
  have aJ:zW ys=zP y+zP n:=by rw [aV];simp [zW]
  have hyl:ys.length=2:=by rw [aV];rfl
  have hssl:=zp ss
  rw [<- aV] at lr ATY
  have HYS:=gZ aV
  have fH:=gZ hs
  have HYZ:=gZ aJ
  have th:=gZ fh
  obtain ⟨n0,n1,n2,n3⟩:=zc nF
  simp only [List.length_cons,List.length_nil,Nat.zero_add,Nat.reduceAdd] at n3 nF HB H0 ⊢
  have hob0:w.heap.size+2<=w1.heap.size:=by have h1:=gW.size;have h2:=H0.out.2.2.1;omega
  have gl:KidsC F w rd (w.heap.size+1) w.heap.size (.cells #[str [],.int .i64 (v:Nat),.slice a2 ss.length c2,.slice a3 2 c3] 64 (0,0)) w1.heap.size (w1.heap.size+1) v (P+1) ss 0 (w1.alloc (.cells #[str [],.int .i64 (v:Nat),.slice none 0 0,.slice none 0 0] 64)):=by
   refine ⟨[],[],.slice none 0 0,0,⟨rfl,rfl,⟨_,_,rfl⟩,⟨_,_,rfl⟩,fG.alloc _,by unfold kY;exact zG nX,kJ _ _,World.ownsRow_nil _ _ _ _,World.ownsRow_nil _ _ _ _,fun g h=>by simp [Value.ownBlock] at h,fun g h=>by simp [Value.ownBlock] at h,zI.2 rfl,zI.2 rfl,by simp,HF.out,⟨by omega,by omega⟩,zG nF⟩,rfl,by simp [qd],by simp [zW],?_⟩
   have:=gp.alloc (.cells #[str [],.int .i64 (v:Nat),.slice none 0 0,.slice none 0 0] 64)
   simpa [zW] using this
  have bU:w1.heap.size≠rd:=by omega
  have fz:w.heap.size<w1.heap.size:=by omega
  clear hs aV dP gW fG nX gp nF fh hl2 iM iF bG aJ
  go_wp2_with fail
  clear n0 n1 n2 n3
  go_loopw [6] (fun i wr=>∃ k:Nat,k<=ss.length/\i=.int .i64 k/\KidsC F w rd (w.heap.size+1) w.heap.size (.cells #[str [],.int .i64 (v:Nat),.slice a2 ss.length c2,.slice a3 2 c3] 64 (0,0)) w1.heap.size (w1.heap.size+1) v (P+1) ss k wr) (fun i _=>ss.length-(intOf i).toNat)
  case atStart=>exact ⟨0,Nat.zero_le _,rfl,gl⟩
  case round =>
   clear gl
   rename_i wr
   obtain ⟨k,hk,rfl,pk,kv,ks,nk,hN,cV,fw,eA,dH⟩:=hrel
   obtain ⟨ka,kc,eks⟩:=hN.ksl
   subst eks
   have HN:=gZ hN;have l5:=gZ fw;have HPK:=gZ cV
   obtain ⟨q0,q1,q2,q3,ql,qf⟩:=hN.out.cells
   have eZ:=qf 2;clear qf
   obtain ⟨m0,m1,m2,m3⟩:=zc hN.nbx
   have hnk:nk<=ss.length:=by have:=hN.hnk;omega
   have dU:nk+1<=maxLen:=by unfold maxLen;omega
   have b8:(nk+1)*72<=140737488355328:=by omega
   clear cV fw
   by_cases fx:k<ss.length
   ·obtain ⟨kb,ko,s1,v1,p4,m4,d4,p5,m5,d5,sb,ek,hkw,bL,hs,z0,z1,z2,z3,cQ⟩:=ATK.out k (by first | exact fx | omega)
    subst ek
    have bA:(k:Int)<((ss.length:Int)):=by omega
    have rO:=kZ hN.but bL z0
    have s9:=kZ hN.but bL z1
    have t9:=kZ hN.but bL z2
    have t7:=kZ hN.but bL z3
    have de:=yC (List.mem_of_getElem? hs)
    have cO:=kR hs
    have htl:=z9 ss (k+1)
    have hmm:=hM
    have CC:=gZ (IH.out F sb _ _ _ _ wr.drew (P+1+2*zW (ss.take k)) (by omega) (by omega) (yr _ HLK.out k sb hs) (fun i hi=>⟨gY (HF.out i hi).1 hN.but.size,(HF.out i hi).2⟩) dH.drew (by omega) (zD.but hN.but (fun i hi=>⟨(HF.out i hi).2,hi⟩) cQ).drew)
    have NB:=gZ (show ¬ (Value.slice ka nk kc).ownBlock=some w1.heap.size from fun e=>by have:=hN.blkK _ e;have:=this.1;omega)
    have SX:Hid (∀ w',But (fun i=>i=rd\/(Value.slice ka nk kc).ownBlock=some i) wr w'->w'.cell? ⟨w1.heap.size,2,none⟩=some (.slice ka nk kc)/\w'.cell? ⟨w.heap.size,2,none⟩=some (.slice (some ⟨kb,ko,none⟩) ss.length c2)/\w'.cell? ⟨kb,ko+k*4,none⟩=some (str s1)/\w'.cell? ⟨kb,ko+k*4+1,none⟩=some (.int .i64 v1)/\w'.cell? ⟨kb,ko+k*4+2,none⟩=some (.slice p4 m4 d4)/\w'.cell? ⟨kb,ko+k*4+3,none⟩=some (.slice p5 m5 d5)):=by
     show ∀ w',_->_
     intro w' gu
     have key:∀ {p:Addr} {u:Value},p.block<w1.heap.size+1->p.block≠rd->wr.cell? p=some u->w'.cell? p=some u:=fun hp hd hu=>(gu.cell (gJ wr _ hu) (fun e=>by
      rcases e with e | e
      ·exact hd e
      ·have:=hN.blkK _ e;have:=this.1;omega)).trans hu
     exact ⟨key (show w1.heap.size<_ by omega) bU q2,key (show w.heap.size<_ by omega) (show w.heap.size≠rd by omega) m2,key (show kb<_ by omega) bL rO,key (show kb<_ by omega) bL s9,key (show kb<_ by omega) bL t9,key (show kb<_ by omega) bL t7⟩
    have rR:=gZ cO
    clear cQ hs z0 z1 z2 z3 q0 q1 rO s9 t9 t7 q3 de hN m0 m1 m3
    go_wp2_with fail
    clear m2
    refine wp_region_noPanic ?_
    refine zl (fun w'=>But (fun i=>i=rd\/(Value.slice ka nk kc).ownBlock=some i) wr w') (fun i=>i == 12) (by kernel_rfl) ?_
    have gT:(fun w'=>But (fun i=>i=rd\/(Value.slice ka nk kc).ownBlock=some i) wr w') wr.drew:=(But.refl _ wr).drew
    refine tk [0,1,2,3,4,5,6,7] gT ?_
    (intro d hd;simp [tkD] at hd;subst hd;simp only [tks,pQ,pZ,pS])
    iterate 8 (refine ⟨?_,?_,?_⟩;rotate_left;· (intro oi ho;simp at ho;subst ho;refine Or.inl ⟨by rfl,fun w' gI=>?_⟩;obtain ⟨e0,e1,e2,e3,e4,e5⟩:=SX.out w' gI;go_simp;try with_reducible rfl))
    (refine on 8 ?_;intro o ho K' hK;simp at ho;subst ho;go_simp)
    go_at_call 59
    (with_reducible refine CC.out.mono ?_)
    rintro tw w6 ⟨b6,s6,v6,f1,u1,d1,f2,u2,d2,rfl,hU,dF,eU,bh,b7⟩
    have gB:But (· = rd) wr w6:=ui hU
    have t8:=kZ gB bU q2
    have mF:=gY ql gB.size
    have fC:=vy gB bU ql eZ
    have dK:Own w6 64 4 (.slice ka nk kc) nk kv:=HN.out.ownK.keep fun g o hg ho=>by rw [gB.block g (zZ ho) (show ¬ g=rd from fun e=>by have:=HN.out.blkK g hg;have:=this.1;omega)];exact ho
    have H6:=gZ (gK gB (gK dF (gK eU (gK bh b7))));clear gB hU dF eU bh b7
    (refine hK.out _ _ (fun _=>H6.out.1.weak fun i _ h=>.inl h) ?_;clear hK K';try simp only [pQ,pN,pZ,pS])
    (refine on 9 ?_;intro o ho K' hK;simp at ho;subst ho;go_simp)
    (refine hK.out _ _ (fun _=>(H6.out.1.weak fun i _ h=>.inl h).alloc _) ?_;clear hK K';try simp only [pQ,pN,pZ,pS])
    (refine on 10 ?_;intro o ho K' hK;simp at ho;subst ho)
    refine kK (by rfl) _ _ _ (by rfl) 64 (.agg #[str [],.int .i64 0,.slice none 0 0,.slice none 0 0]) 4 72 Tryz.underlying62 Tryz.infoN rfl (by decide) (.slice ka nk kc) nk kv (by rfl) (dK.alloc _) _ 1 [str s6,.int .i64 v6,.slice f1 u1 d1,.slice f2 u2 d2] (by rfl) (zN.lit4 #[str s6,.int .i64 v6,.slice f1 u1 d1,.slice f2 u2 d2] rfl (by simp [str,Value.oneCell']) _ rfl) dU b8 ?_
    intro a' c' w7 g8 gD gL
    (refine hK.out _ _ (fun _=>((H6.out.1.weak fun i _ h=>.inl h).alloc _).trans (gD.weak fun i _ h=>.inr h)) ?_;clear hK K';try simp only [pQ,pN,pZ,pS])
    have ib:=yd gD NB.out t8
    have n9:=yh gD NB.out mF fC
    (refine on 11 ?_;intro o ho K' hK;simp at ho;subst ho;go_simp)
    (refine hK.out _ _ (fun _=>((H6.out.1.weak fun i _ h=>.inl h).alloc _).trans (gD.weak fun i _ h=>.inr h)) ?_;clear hK K';try simp only [pQ,pN,pZ,pS])
    (refine on 12 ?_;intro o ho K' hK;simp at ho;subst ho;go_simp)
    (refine hK.out _ _ (fun h=>by simp at h) ?_;clear hK K';try simp only [pQ,pN,pZ,pS])
    refine zo (by kernel_rfl) (NoPanic.normal ?_) _
    have hA:=HN.out.kid gH (Nat.lt_succ_self _) fz (H6.out.1.alloc (.cells #[str s6,.int .i64 v6,.slice f1 u1 d1,.slice f2 u2 d2] 64)) (reps_more H6.out.2.2.2.2 (gQ _) (fun i x hx=>zG hx)) g8 gD gL
    have cG:kW (w7.setCell ⟨w1.heap.size,2,none⟩ (.slice a' (nk+1) c')) rd (P+1+2*zW (ss.take (k+1))):=by
     refine kW.mono (kW.but (m:=fun i=>i=w1.heap.size\/(Value.slice ka nk kc).ownBlock=some i) (H6.out.2.1.alloc (.cells #[str s6,.int .i64 v6,.slice f1 u1 d1,.slice f2 u2 d2] 64)) (But.setCell (gD.weak fun i _ h=>.inr h) (.inl (.inl rfl)) _) ?_) (by rw [rR.out];omega)
     intro i hi h
     rcases h with h | h
     ·omega
     ·have:=HN.out.blkK _ h;have:=this.1;omega
    have dg:zW (pk++[b6])<=zW (ss.take (k+1)):=by have:=H6.out.2.2.2.1;rw [kQ,rR.out];simp only [zW];omega
    have d8:Hid (KidsC F w rd (w.heap.size+1) w.heap.size (.cells #[str [],.int .i64 (v:Nat),.slice (some ⟨kb,ko,none⟩) ss.length c2,.slice a3 2 c3] 64 (0,0)) w1.heap.size (w1.heap.size+1) v (P+1) ss (k+1) (w7.setCell ⟨w1.heap.size,2,none⟩ (.slice a' (nk+1) c'))) :=
     ⟨pk++[b6],_,_,_,hA,by simp [HPK.out],jI _ _ l5.out (ym H6.out.2.2.1),dg,cG⟩
    clear hA cG dg g8 gD gL eA dH dK ib n9 gT
    go_wp2_with fail
    go_roundw
    case rel=>exact ⟨k+1,by omega,by go_num,d8.out⟩
    case measure=>simp [intOf];omega
   ·obtain rfl:k=ss.length:=by omega
    have ri:¬ ((ss.length:Int)<(ss.length:Int)):=by omega
    rw [List.take_length] at eA dH
    have HSK:=gZ eA
    have dB:YesC F w rd (w.heap.size+1) w.heap.size (.cells #[str [],.int .i64 (v:Nat),.slice a2 ss.length c2,.slice a3 2 c3] 64 (0,0)) w1.heap.size (w1.heap.size+1) v (P+1+2*zW ss) pk kv (.slice ka nk kc) nk ys 0 wr :=
     ⟨[],[],.slice none 0 0,0,HN.out,rfl,by simp [qd],by simp [zW],by simpa [zW] using dH⟩
    clear dH eA fx HN
    go_wp2_with fail
    clear q2 ql eZ ri m0 m1 m2 m3
    go_loopw [7] (fun i wr=>∃ k:Nat,k<=2/\i=.int .i64 k/\YesC F w rd (w.heap.size+1) w.heap.size (.cells #[str [],.int .i64 (v:Nat),.slice a2 ss.length c2,.slice a3 2 c3] 64 (0,0)) w1.heap.size (w1.heap.size+1) v (P+1+2*zW ss) pk kv (.slice ka nk kc) nk ys k wr) (fun i _=>2-(intOf i).toNat)
    case atStart=>exact ⟨0,by omega,rfl,dB⟩
    case round =>
     clear dB
     rename_i wr
     obtain ⟨k,hk,rfl,py,yv,yl,ny,hN,mx,ef,fR,dh⟩:=hrel
     obtain ⟨ya,yc,eys⟩:=hN.ysl
     subst eys
     have HN:=gZ hN;have lh:=gZ ef;have lx:=gZ mx
     obtain ⟨q0,q1,q2,q3,ql,qf⟩:=hN.out.cells
     have eZ:=qf 3;clear qf
     obtain ⟨m0,m1,m2,m3⟩:=zc hN.nbx
     have hnk:ny<=2:=by have:=hN.hny;omega
     have dU:ny+1<=maxLen:=by unfold maxLen;omega
     have b8:(ny+1)*72<=140737488355328:=by omega
     clear mx ef
     by_cases nf:k<2
     ·obtain ⟨kb,ko,s1,v1,p4,m4,d4,p5,m5,d5,sb,ek,hkw,bL,hs,z0,z1,z2,z3,cQ⟩:=ATY.out k (by first | exact nf | omega)
      subst ek
      have bA:(k:Int)<(2):=by omega
      have rO:=kZ hN.but bL z0
      have s9:=kZ hN.but bL z1
      have t9:=kZ hN.but bL z2
      have t7:=kZ hN.but bL z3
      have de:=yC (List.mem_of_getElem? hs)
      have cO:=kR hs
      have htl:=z9 ys (k+1)
      have hyz:=HYZ.out;have hmm:=hM
      have CC:=gZ (IH.out F sb _ _ _ _ wr.drew (P+1+2*zW ss+2*zW (ys.take k)) (by omega) (by omega) (yr _ lr.out k sb hs) (fun i hi=>⟨gY (HF.out i hi).1 hN.but.size,(HF.out i hi).2⟩) dh.drew (by omega) (zD.but hN.but (fun i hi=>⟨(HF.out i hi).2,hi⟩) cQ).drew)
      have NB:=gZ (show ¬ (Value.slice ya ny yc).ownBlock=some w1.heap.size from fun e=>by have:=hN.blkY _ e;omega)
      have SX:Hid (∀ w',But (fun i=>i=rd\/(Value.slice ya ny yc).ownBlock=some i) wr w'->w'.cell? ⟨w1.heap.size,3,none⟩=some (.slice ya ny yc)/\w'.cell? ⟨w.heap.size,3,none⟩=some (.slice (some ⟨kb,ko,none⟩) 2 c3)/\w'.cell? ⟨kb,ko+k*4,none⟩=some (str s1)/\w'.cell? ⟨kb,ko+k*4+1,none⟩=some (.int .i64 v1)/\w'.cell? ⟨kb,ko+k*4+2,none⟩=some (.slice p4 m4 d4)/\w'.cell? ⟨kb,ko+k*4+3,none⟩=some (.slice p5 m5 d5)):=by
       show ∀ w',_->_
       intro w' gu
       have key:∀ {p:Addr} {u:Value},p.block<w1.heap.size+1->p.block≠rd->wr.cell? p=some u->w'.cell? p=some u:=fun hp hd hu=>(gu.cell (gJ wr _ hu) (fun e=>by
        rcases e with e | e
        ·exact hd e
        ·have:=hN.blkY _ e;omega)).trans hu
       exact ⟨key (show w1.heap.size<_ by omega) bU q3,key (show w.heap.size<_ by omega) (show w.heap.size≠rd by omega) m3,key (show kb<_ by omega) bL rO,key (show kb<_ by omega) bL s9,key (show kb<_ by omega) bL t9,key (show kb<_ by omega) bL t7⟩
      have rR:=gZ cO
      clear cQ hs z0 z1 z2 z3 q0 q1 rO s9 t9 t7 q2 de hN m0 m1 m2
      go_wp2_with fail
      clear m3
      refine wp_region_noPanic ?_
      refine zl (fun w'=>But (fun i=>i=rd\/(Value.slice ya ny yc).ownBlock=some i) wr w') (fun i=>i == 12) (by kernel_rfl) ?_
      have gT:(fun w'=>But (fun i=>i=rd\/(Value.slice ya ny yc).ownBlock=some i) wr w') wr.drew:=(But.refl _ wr).drew
      refine tk [0,1,2,3,4,5,6,7] gT ?_
      (intro d hd;simp [tkD] at hd;subst hd;simp only [tks,pQ,pZ,pS])
      iterate 8 (refine ⟨?_,?_,?_⟩;rotate_left;· (intro oi ho;simp at ho;subst ho;refine Or.inl ⟨by rfl,fun w' gI=>?_⟩;obtain ⟨e0,e1,e2,e3,e4,e5⟩:=SX.out w' gI;go_simp;try with_reducible rfl))
      (refine on 8 ?_;intro o ho K' hK;simp at ho;subst ho;go_simp)
      go_at_call 59
      (with_reducible refine CC.out.mono ?_)
      rintro tw w6 ⟨b6,s6,v6,f1,u1,d1,f2,u2,d2,rfl,hU,dF,eU,bh,b7⟩
      have gB:But (· = rd) wr w6:=ui hU
      have t8:=kZ gB bU q3
      have mF:=gY ql gB.size
      have fC:=vy gB bU ql eZ
      have dK:Own w6 64 4 (.slice ya ny yc) ny yv:=HN.out.ownY.keep fun g o hg ho=>by rw [gB.block g (zZ ho) (show ¬ g=rd from fun e=>by have:=HN.out.blkY g hg;omega)];exact ho
      have H6:=gZ (gK gB (gK dF (gK eU (gK bh b7))));clear gB hU dF eU bh b7
      (refine hK.out _ _ (fun _=>H6.out.1.weak fun i _ h=>.inl h) ?_;clear hK K';try simp only [pQ,pN,pZ,pS])
      (refine on 9 ?_;intro o ho K' hK;simp at ho;subst ho;go_simp)
      (refine hK.out _ _ (fun _=>(H6.out.1.weak fun i _ h=>.inl h).alloc _) ?_;clear hK K';try simp only [pQ,pN,pZ,pS])
      (refine on 10 ?_;intro o ho K' hK;simp at ho;subst ho)
      refine kK (by rfl) _ _ _ (by rfl) 64 (.agg #[str [],.int .i64 0,.slice none 0 0,.slice none 0 0]) 4 72 Tryz.underlying62 Tryz.infoN rfl (by decide) (.slice ya ny yc) ny yv (by rfl) (dK.alloc _) _ 1 [str s6,.int .i64 v6,.slice f1 u1 d1,.slice f2 u2 d2] (by rfl) (zN.lit4 #[str s6,.int .i64 v6,.slice f1 u1 d1,.slice f2 u2 d2] rfl (by simp [str,Value.oneCell']) _ rfl) dU b8 ?_
      intro a' c' w7 g8 gD gL
      (refine hK.out _ _ (fun _=>((H6.out.1.weak fun i _ h=>.inl h).alloc _).trans (gD.weak fun i _ h=>.inr h)) ?_;clear hK K';try simp only [pQ,pN,pZ,pS])
      have ib:=yd gD NB.out t8
      have n9:=yh gD NB.out mF fC
      (refine on 11 ?_;intro o ho K' hK;simp at ho;subst ho;go_simp)
      (refine hK.out _ _ (fun _=>((H6.out.1.weak fun i _ h=>.inl h).alloc _).trans (gD.weak fun i _ h=>.inr h)) ?_;clear hK K';try simp only [pQ,pN,pZ,pS])
      (refine on 12 ?_;intro o ho K' hK;simp at ho;subst ho;go_simp)
      (refine hK.out _ _ (fun h=>by simp at h) ?_;clear hK K';try simp only [pQ,pN,pZ,pS])
      refine zo (by kernel_rfl) (NoPanic.normal ?_) _
      have hA:=HN.out.yes gH (Nat.lt_succ_self _) fz (H6.out.1.alloc (.cells #[str s6,.int .i64 v6,.slice f1 u1 d1,.slice f2 u2 d2] 64)) (reps_more H6.out.2.2.2.2 (gQ _) (fun i x hx=>zG hx)) g8 gD gL
      have cG:kW (w7.setCell ⟨w1.heap.size,3,none⟩ (.slice a' (ny+1) c')) rd (P+1+2*zW ss+2*zW (ys.take (k+1))):=by
       refine kW.mono (kW.but (m:=fun i=>i=w1.heap.size\/(Value.slice ya ny yc).ownBlock=some i) (H6.out.2.1.alloc (.cells #[str s6,.int .i64 v6,.slice f1 u1 d1,.slice f2 u2 d2] 64)) (But.setCell (gD.weak fun i _ h=>.inr h) (.inl (.inl rfl)) _) ?_) (by rw [rR.out];omega)
       intro i hi h
       rcases h with h | h
       ·omega
       ·have:=HN.out.blkY _ h;omega
      have dg:zW (py++[b6])<=zW (ys.take (k+1)):=by have:=H6.out.2.2.2.1;rw [kQ,rR.out];simp only [zW];omega
      have d8:Hid (YesC F w rd (w.heap.size+1) w.heap.size (.cells #[str [],.int .i64 (v:Nat),.slice a2 ss.length c2,.slice (some ⟨kb,ko,none⟩) 2 c3] 64 (0,0)) w1.heap.size (w1.heap.size+1) v (P+1+2*zW ss) pk kv (.slice ka nk kc) nk ys (k+1) (w7.setCell ⟨w1.heap.size,3,none⟩ (.slice a' (ny+1) c'))) :=
       ⟨py++[b6],_,_,_,hA,by simp [lx.out],jI _ _ lh.out (ym H6.out.2.2.1),dg,cG⟩
      clear hA cG dg g8 gD gL fR dh dK ib n9 gT
      go_wp2_with fail
      go_roundw
      case rel=>exact ⟨k+1,by omega,by go_num,d8.out⟩
      case measure=>simp [intOf];omega
     ·obtain rfl:k=2:=by omega
      obtain ⟨r0,r1,r2,r3,rl,rf⟩:=HN.out.res.cells
      have fB:=rf 0;have nR:=rf 1;have nN:=rf 2;have nM:=rf 3;clear rf
      obtain ⟨o0,o1,o2,o3,_,_⟩:=HN.out.out.cells
      have lu:=gZ dh
      have HSY:=gZ fR
      clear dh fR
      go_wp2_with fail
      have hN:=HN.out
      obtain ⟨W,hW,s0,s1,s2,s3,gG,bW,dJ⟩:=hN.res.storeB (str []) (.int .i64 v) (.slice ka nk kc) (.slice ya ny yc)
      rw [<- hW]
      refine bodyPost_ret (v:=.agg #[str [],.int .i64 v,.slice ka nk kc,.slice ya ny yc]) (by simp [results,Tryz.results59,go_sem,s0,s1,s2,s3]) rfl ?_
      have mx:=lx.out
      obtain ⟨y1,y2,rfl⟩:∃ y1 y2,py=[y1,y2]:=by
       match py,mx with
       | [a,b],_=>exact ⟨a,b,rfl⟩
      have ef:=lh.out
      rw [qd,qd] at ef
      have fR:=HSY.out
      have eA:=HSK.out
      rw [List.take_of_length_le (by omega),HYZ.out] at fR
      have dh:=lu.out
      rw [List.take_of_length_le (by omega),HYZ.out] at dh
      simp only [zW] at fR
      have fq:=hN.hnk
      have fk:ny=2:=hN.hny
      subst fk
      have c_:=hN.rbl
      refine ⟨.ask v pk y1 y2,[],v,ka,nk,kc,ya,2,yc,rfl,gG _ _ hN.but (by omega),(dJ _ _ (by omega) dh).mono (by rw [fH.out];omega),?_,?_,?_⟩
      ·rw [lvB];exact ⟨th.out,l5.out,ef.1,ef.2.1⟩
      ·rw [fH.out];simp only [zP];omega
      ·have eD:∀ i x,i≠w.heap.size+1->wr.heap[i]? = some x->W.heap[i]? = some x:=bW
       have gN:∀ i,F i\/w1.heap.size+1<=i->i≠w.heap.size+1:=fun i h=>by
        rcases h with h | h
        ·have:=(hN.old i h).1;omega
        ·omega
       rw [xK]
       refine zU.2 ⟨_,_,rfl,zf.2 rfl,zU.2 ⟨_,_,rfl,zf.2 rfl,zU.2 ⟨_,_,rfl,?_,zU.2 ⟨_,_,rfl,?_,zI.2 rfl⟩⟩⟩⟩
       ·rw [<- fq]
        refine (hN.ownK.keep fun g o hg ho=>eD g o (by have:=(hN.blkK g hg).1;omega) ho).rep (fun g hg=>.inr (by have:=(hN.blkK g hg).1;omega)) ?_
        exact (Rep.keep fun x o hx ho=>⟨hx.1.imp id (fun h=>by omega),eD x o (gN x hx.1) ho⟩).2 _ _ hN.repK
       ·refine (hN.ownY.keep fun g o hg ho=>eD g o (by have:=hN.blkY g hg;omega) ho).rep (fun g hg=>.inr (by have:=hN.blkY g hg;omega)) ?_
        exact (Rep.keep fun x o hx ho=>⟨hx.1.imp id (fun h=>by omega),eD x o (gN x hx.1) ho⟩).2 _ _ hN.repY
theorem l91Cut_any (rd M:Nat):CutSaid rd M:=by
 induction M with
 | zero=>exact fun F b b0 b1 b2 b3 w P h=>by have:=kX b;omega
 | succ M ih=>exact l91Cut_step rd M ih
end Go.Proofs.YtfedjhgaeikjmaaGreatDoor

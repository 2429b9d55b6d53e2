/- Walks of functions that the statement reaches, and plain words. No conditions. -/
import Derived.Deep.RegionLaw
import Derived.Test.YtdfkiicodfbibaaGreatDoorQ13
set_option linter.unusedVariables false
set_option linter.unusedSimpArgs false
set_option maxHeartbeats 8000000
namespace Go.Proofs.YtdfkiicodfbibaaGreatDoor
open Go.RowKit
theorem NewN.storeB {ob:Nat} {v:Int} {ks ys:Value} {w:World} (h:NewN ob v ks ys w) (u0 u1 u2 u3:Value) :
 ∃ W,W=((((w.setCell ⟨ob,0,none⟩ u0).setCell ⟨ob,1,none⟩ u1).setCell ⟨ob,2,none⟩ u2).setCell ⟨ob,3,none⟩ u3) /\
   W.cell? ⟨ob,0,none⟩=some u0/\W.cell? ⟨ob,1,none⟩=some u1/\W.cell? ⟨ob,2,none⟩=some u2/\W.cell? ⟨ob,3,none⟩=some u3 /\
   (∀ (m:Nat->Prop) w0,But m w0 w->w0.heap.size<=ob->But m w0 W)/\(∀ i x,i≠ob->w.heap[i]? = some x->W.heap[i]? = some x)/\(∀ rd P,rd<ob->RdAt w rd P->RdAt W rd P):=by
 obtain ⟨W,hW,s0,s1,s2,s3,_,hk⟩:=h.store u0 u1 u2 u3
 have hB:∀ (m:Nat->Prop) w0,But m w0 w->(m ob\/w0.heap.size<=ob)->But m w0 W:=by
  intro m w0 hb ho
  rw [hW]
  exact ((((hb.setCell (p:=⟨ob,0,none⟩) ho _).setCell (p:=⟨ob,1,none⟩) ho _).setCell (p:=⟨ob,2,none⟩) ho _).setCell (p:=⟨ob,3,none⟩) ho _)
 refine ⟨W,hW,s0,s1,s2,s3,fun m w0 hb ho=>hB m w0 hb (.inr ho),hk,fun rd P hlt hr=>?_⟩
 exact hr.but (hB (· = ob) w (But.refl _ _) (.inl rfl)) (fun i hi e=>by omega)
structure NodeD (w:World) (rd ob Z:Nat) (v:Int) (wr:World) (pk py:List Bd) (kv yv:List Value) (ks:Value) (nk:Nat) (ys:Value) (ny:Nat):Prop where
 hnk:nk=pk.length
 hny:ny=py.length
 ksl:∃ a c,ks=.slice a nk c
 ysl:∃ a c,ys=.slice a ny c
 but:But (· = rd) w wr
 res:NewN w.heap.size 0 (.slice none 0 0) (.slice none 0 0) wr
 out:NewN ob v ks ys wr
 ownK:Own wr 81 4 ks nk kv
 ownY:Own wr 81 4 ys ny yv
 blkK:∀ g,ks.ownBlock=some g->Z<=g/\ys.ownBlock≠some g
 blkY:∀ g,ys.ownBlock=some g->Z<=g
 repK:Reps (fun b=>Z<=b/\ks.ownBlock≠some b/\ys.ownBlock≠some b) wr (encNs pk) kv
 repY:Reps (fun b=>Z<=b/\ks.ownBlock≠some b/\ys.ownBlock≠some b) wr (encNs py) yv
 z:Z<=wr.heap.size
theorem NodeD.kid {w:World} {rd ob Z:Nat} {v:Int} {wr:World} {pk py:List Bd} {kv yv:List Value} {ks ys:Value} {nk ny:Nat}
 (h:NodeD w rd ob Z v wr pk py kv yv ks nk ys ny) (hrd:rd<w.heap.size) (hob:ob<Z) (hwo:w.heap.size<ob) {W w7:World} {b:Bd} {cs:List Value} {a':Option Addr} {c':Nat}
 (hb6:But (· = rd) wr W) (hcs:Reps (wr.heap.size<=·) W (encN b) cs) (hown:Own w7 81 4 (.slice a' (nk+1) c') (nk+1) (kv++cs)) (hb7:But (fun i=>ks.ownBlock=some i) W w7)
 (hg7:∀ g,(Value.slice a' (nk+1) c').ownBlock=some g->ks.ownBlock=some g\/g=W.heap.size) :
 NodeD w rd ob Z v (w7.setCell ⟨ob,2,none⟩ (.slice a' (nk+1) c')) (pk++[b]) py (kv++cs) yv (.slice a' (nk+1) c') (nk+1) ys ny:=by
 have z6:=hb6.size
 have z7:=hb7.size
 have zr:=h.z
 have zb:=h.but.size
 have keep:∀ i x,wr.heap[i]? = some x->ks.ownBlock≠some i->i≠ob->i≠rd->(w7.setCell ⟨ob,2,none⟩ (.slice a' (nk+1) c')).heap[i]? = some x:=by
  intro i x hx h1 h2 h3
  have:=lt_of_heap hx
  rw [Below.heap_setCell _ _ _ _ (by simpa using h2),hb7.block i (by omega) h1,hb6.block i this h3];exact hx
 have keep6:∀ i x,W.heap[i]? = some x->ks.ownBlock≠some i->i≠ob->(w7.setCell ⟨ob,2,none⟩ (.slice a' (nk+1) c')).heap[i]? = some x:=by
  intro i x hx h1 h2
  have:=lt_of_heap hx
  rw [Below.heap_setCell _ _ _ _ (by simpa using h2),hb7.block i (by omega) h1];exact hx
 have ltK:∀ g,ks.ownBlock=some g->g<wr.heap.size:=fun g hg=>h.ownK.lt hg
 have ltY:∀ g,ys.ownBlock=some g->g<wr.heap.size:=fun g hg=>h.ownY.lt hg
 have nK:∀ i,i<Z->ks.ownBlock≠some i:=fun i hi e=>by have:=(h.blkK i e).1;omega
 have newg:∀ g,(Value.slice a' (nk+1) c').ownBlock=some g->Z<=g:=fun g hg=>by
  rcases hg7 g hg with e | e
  ·exact (h.blkK g e).1
  ·omega
 refine ⟨by simp [h.hnk],h.hny,⟨_,_,rfl⟩,h.ysl,?_,?_,?_,?_,?_,?_,h.blkY,?_,?_,by simp [World.setCell];omega⟩
 ·refine But.setCell ?_ (.inr (show w.heap.size<=ob by omega)) _
  exact (h.but.trans hb6).trans' hb7 (fun i hi e=>absurd e (nK i (by omega)))
 ·exact keep _ _ h.res (nK _ (by omega)) (by omega) (by omega)
 ·have h1:NewN ob v ks ys w7:=by
   unfold NewN;rw [hb7.block ob (by omega) (nK _ hob),hb6.block ob (by omega) (show ¬ ob=rd by omega)];exact h.out
  exact h1.put2
 ·exact hown.keep fun g o hg ho=>by rw [Below.heap_setCell _ _ _ _ (by have:=newg g hg;simp;omega)];exact ho
 ·exact h.ownY.keep fun g o hg ho=>keep g o ho (fun e=>(h.blkK g e).2 hg) (by have:=h.blkY g hg;omega) (by have:=h.blkY g hg;omega)
 ·intro g hg
  refine ⟨newg g hg,fun e=>?_⟩
  rcases hg7 g hg with e' | e'
  ·exact (h.blkK g e').2 e
  ·have:=ltY g e;omega
 ·rw [encNs_append]
  have h1:=h.repK
  refine Reps.append ((Rep.keep fun i x hi hx=>⟨⟨hi.1,fun e=>(hg7 i e).elim (fun e'=>hi.2.1 e') (fun e'=>by have:=lt_of_heap hx;omega),hi.2.2⟩,keep i x hx hi.2.1 (by have:=hi.1;omega) (by have:=hi.1;omega)⟩).2 _ _ h1) ?_
  ·have e1:encNs [b]=encN b:=by simp [encNs]
   rw [e1]
   refine (Rep.keep fun i x hi hx=>?_).2 _ _ hcs
   have h2:=lt_of_heap hx
   have h3:wr.heap.size<=i:=hi
   refine ⟨⟨by omega,fun e=>?_,fun e=>by have:=ltY i e;omega⟩,keep6 i x hx (fun e=>by have:=ltK i e;omega) (by omega)⟩
   rcases hg7 i e with e' | e'
   ·have:=ltK i e';omega
   ·omega
 ·exact (Rep.keep fun i x hi hx=>⟨⟨hi.1,fun e=>(hg7 i e).elim (fun e'=>hi.2.1 e') (fun e'=>by have:=lt_of_heap hx;omega),hi.2.2⟩,keep i x hx hi.2.1 (by have:=hi.1;omega) (by have:=hi.1;omega)⟩).2 _ _ h.repY
theorem NodeD.yes {w:World} {rd ob Z:Nat} {v:Int} {wr:World} {pk py:List Bd} {kv yv:List Value} {ks ys:Value} {nk ny:Nat}
 (h:NodeD w rd ob Z v wr pk py kv yv ks nk ys ny) (hrd:rd<w.heap.size) (hob:ob<Z) (hwo:w.heap.size<ob) {W w7:World} {b:Bd} {cs:List Value} {a':Option Addr} {c':Nat}
 (hb6:But (· = rd) wr W) (hcs:Reps (wr.heap.size<=·) W (encN b) cs) (hown:Own w7 81 4 (.slice a' (ny+1) c') (ny+1) (yv++cs)) (hb7:But (fun i=>ys.ownBlock=some i) W w7)
 (hg7:∀ g,(Value.slice a' (ny+1) c').ownBlock=some g->ys.ownBlock=some g\/g=W.heap.size) :
 NodeD w rd ob Z v (w7.setCell ⟨ob,3,none⟩ (.slice a' (ny+1) c')) pk (py++[b]) kv (yv++cs) ks nk (.slice a' (ny+1) c') (ny+1):=by
 have z6:=hb6.size
 have z7:=hb7.size
 have zr:=h.z
 have zb:=h.but.size
 have keep:∀ i x,wr.heap[i]? = some x->ys.ownBlock≠some i->i≠ob->i≠rd->(w7.setCell ⟨ob,3,none⟩ (.slice a' (ny+1) c')).heap[i]? = some x:=by
  intro i x hx h1 h2 h3
  have:=lt_of_heap hx
  rw [Below.heap_setCell _ _ _ _ (by simpa using h2),hb7.block i (by omega) h1,hb6.block i this h3];exact hx
 have keep6:∀ i x,W.heap[i]? = some x->ys.ownBlock≠some i->i≠ob->(w7.setCell ⟨ob,3,none⟩ (.slice a' (ny+1) c')).heap[i]? = some x:=by
  intro i x hx h1 h2
  have:=lt_of_heap hx
  rw [Below.heap_setCell _ _ _ _ (by simpa using h2),hb7.block i (by omega) h1];exact hx
 have ltK:∀ g,ks.ownBlock=some g->g<wr.heap.size:=fun g hg=>h.ownK.lt hg
 have ltY:∀ g,ys.ownBlock=some g->g<wr.heap.size:=fun g hg=>h.ownY.lt hg
 have nY:∀ i,i<Z->ys.ownBlock≠some i:=fun i hi e=>by have:=h.blkY i e;omega
 have newg:∀ g,(Value.slice a' (ny+1) c').ownBlock=some g->Z<=g:=fun g hg=>by
  rcases hg7 g hg with e | e
  ·exact h.blkY g e
  ·omega
 refine ⟨h.hnk,by simp [h.hny],h.ksl,⟨_,_,rfl⟩,?_,?_,?_,?_,?_,?_,newg,?_,?_,by simp [World.setCell];omega⟩
 ·refine But.setCell ?_ (.inr (show w.heap.size<=ob by omega)) _
  exact (h.but.trans hb6).trans' hb7 (fun i hi e=>absurd e (nY i (by omega)))
 ·exact keep _ _ h.res (nY _ (by omega)) (by omega) (by omega)
 ·have h1:NewN ob v ks ys w7:=by
   unfold NewN;rw [hb7.block ob (by omega) (nY _ hob),hb6.block ob (by omega) (show ¬ ob=rd by omega)];exact h.out
  exact h1.put3
 ·exact h.ownK.keep fun g o hg ho=>keep g o ho (h.blkK g hg).2 (by have:=(h.blkK g hg).1;omega) (by have:=(h.blkK g hg).1;omega)
 ·exact hown.keep fun g o hg ho=>by rw [Below.heap_setCell _ _ _ _ (by have:=newg g hg;simp;omega)];exact ho
 ·intro g hg
  refine ⟨(h.blkK g hg).1,fun e=>?_⟩
  rcases hg7 g e with e' | e'
  ·exact (h.blkK g hg).2 e'
  ·have:=ltK g hg;omega
 ·exact (Rep.keep fun i x hi hx=>⟨⟨hi.1,hi.2.1,fun e=>(hg7 i e).elim (fun e'=>hi.2.2 e') (fun e'=>by have:=lt_of_heap hx;omega)⟩,keep i x hx hi.2.2 (by have:=hi.1;omega) (by have:=hi.1;omega)⟩).2 _ _ h.repK
 ·rw [encNs_append]
  refine Reps.append ((Rep.keep fun i x hi hx=>⟨⟨hi.1,hi.2.1,fun e=>(hg7 i e).elim (fun e'=>hi.2.2 e') (fun e'=>by have:=lt_of_heap hx;omega)⟩,keep i x hx hi.2.2 (by have:=hi.1;omega) (by have:=hi.1;omega)⟩).2 _ _ h.repY) ?_
  ·have e1:encNs [b]=encN b:=by simp [encNs]
   rw [e1]
   refine (Rep.keep fun i x hi hx=>?_).2 _ _ hcs
   have h2:=lt_of_heap hx
   have h3:wr.heap.size<=i:=hi
   refine ⟨⟨by omega,fun e=>by have:=ltK i e;omega,fun e=>?_⟩,keep6 i x hx (fun e=>by have:=ltY i e;omega) (by omega)⟩
   rcases hg7 i e with e' | e'
   ·have:=ltY i e';omega
   ·omega
def cst:Nat->Nat
 | 0=>1
 | d+1=>5+17*cst d
def bnd:Nat->Nat
 | 0=>1
 | d+1=>1+17*bnd d
theorem cst_pos (d:Nat):2<=cst d\/d=0/\cst d=1:=by cases d <;> simp [cst];omega
theorem bnd_pos (d:Nat):1<=bnd d:=by cases d <;> simp [bnd]
theorem atom_one {s:Bs} (h:s∈atomTexts):∃ c,s=[c]:=by
 simp only [atomTexts,List.mem_cons,List.not_mem_nil,or_false] at h
 rcases h with rfl | rfl | rfl | rfl | rfl <;> exact ⟨_,rfl⟩
def BodyD (rd Q d:Nat) (hand:List Ty) (w:World) (en:Ending) (w':World):Prop :=
 ∃ (b:Bd) (s:Bs) (v:Int) (a2:Option Addr) (n2 c2:Nat) (a3:Option Addr) (n3 c3:Nat),en=.returned (.agg #[str s,.int .i64 v,.slice a2 n2 c2,.slice a3 n3 c3])/\But (· = rd) w w'/\RdAt w' rd Q /\
   fitB hand b/\lvB b/\sizeB b<=bnd d/\Reps (w.heap.size<=·) w' (encN b) [str s,.int .i64 v,.slice a2 n2 c2,.slice a3 n3 c3]
def DrawB (rd d:Nat):Prop:=∀ (z:Int) (hand:List Ty) (F:Nat->Prop) (hv:Value) (w:World) (P:Nat),z<=d->-1000<=z->P+cst d<=1099511627776->RdAt w rd P->HandOk d hand->(∀ k,F k->k≠rd) ->
 Rep F w (.sl 78 1 hand.length (encSs hand)) hv ->
 Calls Tryz.prog 101 #[.pointer (some ⟨rd,0,none⟩),hv,.int .i64 z] w (BodyD rd (P+cst d) d hand w)
theorem StrSl.newAt {w:World} {rd:Nat} (hrd:rd<w.heap.size) (xs:List Bs) (n:Nat) (hn:n=xs.length) (e:TypeId) (g:Nat) (hg:g=w.heap.size):StrSl (w.alloc (.cells (xs.map str).toArray e)) rd (.slice (some ⟨g,0,none⟩) n n) xs:=by
 subst hg;exact StrSl.new hrd xs n hn e
theorem leaf_rep {F:Nat->Prop} {w:World} (c:UInt8):Reps F w (encN (.leaf c)) [str [c],.int .i64 0,.slice none 0 0,.slice none 0 0]:=by
 rw [encN]
 have h0:Rep F w (.sl 81 4 0 []) (.slice none 0 0):=Rep_sl.2 ⟨rfl,none,0,rfl,Nat.le_refl _,fun _=>rfl,.inl rfl⟩
 exact Reps_cons.2 ⟨_,_,rfl,Rep_val.2 rfl,Reps_cons.2 ⟨_,_,rfl,Rep_val.2 rfl,Reps_cons.2 ⟨_,_,rfl,h0,Reps_cons.2 ⟨_,_,rfl,h0,Reps_nil.2 rfl⟩⟩⟩⟩
def KidsD (w:World) (rd ob Z v P d:Nat) (hand:List Ty) (t:Ty) (k:Nat) (wr:World):Prop :=
 ∃ (pk:List Bd) (kv:List Value) (ks:Value) (nk:Nat),NodeD w rd ob Z v wr pk [] kv [] ks nk (.slice none 0 0) 0/\pk.length=k/\fitBs (hands hand (t.args.take k)) pk/\lvBs pk/\sizeBs pk<=k*bnd d/\RdAt wr rd (P+k*cst d)
def YesD (w:World) (rd ob Z v P d:Nat) (hand:List Ty) (pk:List Bd) (kv:List Value) (ks:Value) (nk:Nat) (k:Nat) (wr:World):Prop :=
 ∃ (py:List Bd) (yv:List Value) (ys:Value) (ny:Nat),NodeD w rd ob Z v wr pk py kv yv ks nk ys ny/\py.length=k/\(∀ b∈py,fitB hand b)/\lvBs py/\sizeBs py<=k*bnd d/\RdAt wr rd (P+k*(1+cst d))
theorem lvBs_append:∀ (xs ys:List Bd),lvBs xs->lvBs ys->lvBs (xs++ys)
 | [],ys,_,h=>by simpa using h
 | x::xs,ys,h1,h2=>by
   rw [lvBs] at h1
   simp only [List.cons_append]
   rw [lvBs]
   exact ⟨h1.1,lvBs_append xs ys h1.2 h2⟩
theorem lvBs_one {b:Bd} (h:lvB b):lvBs [b]:=by rw [lvBs];exact ⟨h,by rw [lvBs];trivial⟩
theorem rep_len {F:Nat->Prop} {w:World} {e:TypeId} {a:Option Addr} {c:Nat} {xs ys:List Ty} (h:Rep F w (.sl e 1 (xs++ys).length (encSs (xs++ys))) (.slice a (xs++ys).length c)) :
 Rep F w (.sl e 1 (xs++ys).length (encSs (xs++ys))) (.slice a (xs.length+ys.length) c):=by
 have e:xs.length+ys.length=(xs++ys).length:=by simp
 rw [e];exact h
theorem but_drew {m:Nat->Prop} {w w':World} (h:Below w.drew.heap.size w.drew w'):But m w w':=⟨h.os,h.tape,h.output,h.size,fun i hi _=>h.block i hi⟩
theorem but_drew2 {m:Nat->Prop} {w w':World} (h:But m w.drew w'):But m w w':=⟨h.os,h.tape,h.output,h.size,h.block⟩
theorem wrap_small (x:Int) (h1 : -2000<=x) (h2:x<=1000000):IntKind.i64.wrap x=x:=by
 simp [IntKind.wrap,IntKind.bits,IntKind.signed];omega
theorem wrap_sub (z:Int) (p:Nat) (h1:0<z) (h2:z<=1000) (h3:p<2):IntKind.i64.wrap (z-1-(p:Int))=z-1-p:=wrap_small _ (by omega) (by omega)
theorem sub_le {z:Int} {p d:Nat} (h2:z<=((d+1:Nat):Int)):z-1-(p:Int)<=d:=by omega
theorem sub_lo {z:Int} {p:Nat} (h1:0<z) (h3:p<2) : -1000<=z-1-(p:Int):=by omega
theorem reps_past {B B':Nat} {w:World} {o:Obj} {ds:List DV} {vs:List Value} (hB:B'<=B) (h:Reps (B<=·) w ds vs):Reps (B'<=·) (w.alloc o) ds vs :=
 (Rep.keep fun _ _ hi hx=>⟨Nat.le_trans hB hi,heap_past hx⟩).2 _ _ h
set_option maxRecDepth 100000 in
theorem l91Body_step (rd d:Nat) (hd:d<=100) (ih:∀ d',d=d'+1->DrawB rd d'):DrawB rd d:=by
 intro z hand F hv w P hz hzl hP hr hh hF hrep
 have IH:=Lib.hid ih;clear ih
 have hlt:=hr.lt
 have CST:=Lib.hid (cst_pos d)
 have BND:=Lib.hid (bnd_pos d)
 have hR0:RdAt (w.alloc (.cells #[str [],.int .i64 0,.slice none 0 0,.slice none 0 0] 81)) rd P:=hr.alloc _
 have hN0:NewN w.heap.size 0 (.slice none 0 0) (.slice none 0 0) (w.alloc (.cells #[str [],.int .i64 0,.slice none 0 0,.slice none 0 0] 81)):=heap_new _ _
 have hB0:But (· = rd) w (w.alloc (.cells #[str [],.int .i64 0,.slice none 0 0,.slice none 0 0] 81)):=(But.refl _ _).alloc _
 obtain ⟨a0,k0,e,_,_,hat⟩:=Rep_sl1_open hrep
 subst e
 have HAT:=Lib.hid hat;have HREP:=Lib.hid hrep;have HF:=Lib.hid hF;have HH:=Lib.hid hh
 have hlen:hand.length<=10000:=by have:=hh.2;omega
 clear hat hrep hF hh hr
 by_cases hz0:z<=0
 ·go_enter Tryz.func101,Tryz.ntmps101
  have H0:=Lib.hid (And.intro hR0 (And.intro hN0 hB0))
  have hltA:=H0.out.1.lt
  clear hR0 hN0 hB0
  go_wp2_with fail
  obtain ⟨hr0,hnr0,hbt0⟩:=H0.out
  refine (of_any rd (P) (.slice (some ⟨w.heap.size+1,0,none⟩) 5 5) atomTexts _ (hr0.alloc (.cells (atomTexts.map str).toArray 9)) (StrSl.newAt hltA atomTexts 5 rfl _ (w.heap.size+1) (by simp)) (by decide) (by decide) (by omega)).mono ?_
  rintro en w2 ⟨s,hs,rfl,hb2,hr2⟩
  obtain ⟨c,rfl⟩:=atom_one hs
  clear hs
  have hnr2:NewN w.heap.size 0 (.slice none 0 0) (.slice none 0 0) w2:=NewN.but (by unfold NewN;exact heap_past hnr0) hb2 (show ¬ w.heap.size=rd by omega)
  have hbt2:=(hbt0.alloc (.cells (atomTexts.map str).toArray 9)).trans hb2
  obtain ⟨r0,r1,r2,r3,rl,rf⟩:=hnr2.cells
  have rf0:=rf 0;have rf1:=rf 1;have rf2:=rf 2;have rf3:=rf 3;clear rf
  have HQ:=Lib.hid (And.intro hnr2 (And.intro hbt2 hr2));clear hnr2 hbt2 hr2 hb2 hnr0 hbt0 hr0
  go_wp2_with fail
  obtain ⟨hnr2,hbt2,hr2⟩:=HQ.out
  obtain ⟨W,hW,s0,s1,s2,s3,hbW,hkW,hrW⟩:=hnr2.storeB (str [c]) (.int .i64 0) (.slice none 0 0) (.slice none 0 0)
  rw [<- hW]
  refine bodyPost_ret (v:=.agg #[str [c],.int .i64 0,.slice none 0 0,.slice none 0 0]) (by simp [results,Tryz.results101,go_sem,s0,s1,s2,s3]) rfl ?_
  exact ⟨.leaf c,[c],0,none,0,0,none,0,0,rfl,hbW _ _ hbt2 (Nat.le_refl _),(hrW _ _ hlt hr2).mono (by have:=CST.out;omega),by simp [fitB],by simp [lvB],by simp only [sizeB];exact BND.out,leaf_rep c⟩
 have hP2:P+2<=1099511627776:=by have:=CST.out;omega
 by_cases hnil:hand.length=0
 ·have hnil':((hand.length:Int) == 0)=true:=by rw [beq_iff_eq];omega
  go_enter Tryz.func101,Tryz.ntmps101
  have H0:=Lib.hid (And.intro hR0 (And.intro hN0 hB0))
  have hltA:=H0.out.1.lt
  clear hR0 hN0 hB0
  go_wp2_with fail
  obtain ⟨hr0,hnr0,hbt0⟩:=H0.out
  refine (of_any rd (P) (.slice (some ⟨w.heap.size+1,0,none⟩) 5 5) atomTexts _ (hr0.alloc (.cells (atomTexts.map str).toArray 9)) (StrSl.newAt hltA atomTexts 5 rfl _ (w.heap.size+1) (by simp)) (by decide) (by decide) (by omega)).mono ?_
  rintro en w2 ⟨s,hs,rfl,hb2,hr2⟩
  obtain ⟨c,rfl⟩:=atom_one hs
  clear hs
  have hnr2:NewN w.heap.size 0 (.slice none 0 0) (.slice none 0 0) w2:=NewN.but (by unfold NewN;exact heap_past hnr0) hb2 (show ¬ w.heap.size=rd by omega)
  have hbt2:=(hbt0.alloc (.cells (atomTexts.map str).toArray 9)).trans hb2
  obtain ⟨r0,r1,r2,r3,rl,rf⟩:=hnr2.cells
  have rf0:=rf 0;have rf1:=rf 1;have rf2:=rf 2;have rf3:=rf 3;clear rf
  have HQ:=Lib.hid (And.intro hnr2 (And.intro hbt2 hr2));clear hnr2 hbt2 hr2 hb2 hnr0 hbt0 hr0
  go_wp2_with fail
  obtain ⟨hnr2,hbt2,hr2⟩:=HQ.out
  obtain ⟨W,hW,s0,s1,s2,s3,hbW,hkW,hrW⟩:=hnr2.storeB (str [c]) (.int .i64 0) (.slice none 0 0) (.slice none 0 0)
  rw [<- hW]
  refine bodyPost_ret (v:=.agg #[str [c],.int .i64 0,.slice none 0 0,.slice none 0 0]) (by simp [results,Tryz.results101,go_sem,s0,s1,s2,s3]) rfl ?_
  exact ⟨.leaf c,[c],0,none,0,0,none,0,0,rfl,hbW _ _ hbt2 (Nat.le_refl _),(hrW _ _ hlt hr2).mono (by have:=CST.out;omega),by simp [fitB],by simp [lvB],by simp only [sizeB];exact BND.out,leaf_rep c⟩
 have hnil':((hand.length:Int) == 0)=false:=by rw [beq_eq_false_iff_ne];omega
 go_enter Tryz.func101,Tryz.ntmps101
 go_wp2_with fail
 refine (pick_any rd P 5 _ hR0 (by omega) (by omega) (by omega)).mono ?_
 rintro en w1 ⟨p1,rfl,hp1,hb1,hr1⟩
 have hN1:=hN0.but hb1 (show ¬ w.heap.size=rd by omega)
 have hB1:=hB0.trans hb1
 by_cases hp0:p1=0
 ·subst hp0
  have H0:=Lib.hid (And.intro hr1 (And.intro hN1 hB1))
  have hltA:=H0.out.1.lt
  clear hr1 hN1 hB1
  go_wp2_with fail
  obtain ⟨hr0,hnr0,hbt0⟩:=H0.out
  refine (of_any rd (P+1) (.slice (some ⟨w1.heap.size,0,none⟩) 5 5) atomTexts _ (hr0.alloc (.cells (atomTexts.map str).toArray 9)) (StrSl.newAt hltA atomTexts 5 rfl _ (w1.heap.size) (by simp)) (by decide) (by decide) (by omega)).mono ?_
  rintro en w2 ⟨s,hs,rfl,hb2,hr2⟩
  obtain ⟨c,rfl⟩:=atom_one hs
  clear hs
  have hnr2:NewN w.heap.size 0 (.slice none 0 0) (.slice none 0 0) w2:=NewN.but (by unfold NewN;exact heap_past hnr0) hb2 (show ¬ w.heap.size=rd by omega)
  have hbt2:=(hbt0.alloc (.cells (atomTexts.map str).toArray 9)).trans hb2
  obtain ⟨r0,r1,r2,r3,rl,rf⟩:=hnr2.cells
  have rf0:=rf 0;have rf1:=rf 1;have rf2:=rf 2;have rf3:=rf 3;clear rf
  have HQ:=Lib.hid (And.intro hnr2 (And.intro hbt2 hr2));clear hnr2 hbt2 hr2 hb2 hnr0 hbt0 hr0
  go_wp2_with fail
  obtain ⟨hnr2,hbt2,hr2⟩:=HQ.out
  obtain ⟨W,hW,s0,s1,s2,s3,hbW,hkW,hrW⟩:=hnr2.storeB (str [c]) (.int .i64 0) (.slice none 0 0) (.slice none 0 0)
  rw [<- hW]
  refine bodyPost_ret (v:=.agg #[str [c],.int .i64 0,.slice none 0 0,.slice none 0 0]) (by simp [results,Tryz.results101,go_sem,s0,s1,s2,s3]) rfl ?_
  exact ⟨.leaf c,[c],0,none,0,0,none,0,0,rfl,hbW _ _ hbt2 (Nat.le_refl _),(hrW _ _ hlt hr2).mono (by have:=CST.out;omega),by simp [fitB],by simp [lvB],by simp only [sizeB];exact BND.out,leaf_rep c⟩
 have hp0':((p1:Int) == 0)=false:=by rw [beq_eq_false_iff_ne];omega
 obtain ⟨d',hd'⟩:∃ d',d=d'+1:=⟨d-1,by omega⟩
 have hih:=IH.out d' hd'
 subst hd'
 have IHD:=Lib.hid hih;clear hih
 have hcs:cst (d'+1)=5+17*cst d':=rfl
 have hbs:bnd (d'+1)=1+17*bnd d':=rfl
 go_wp2_with fail
 refine (pick_any rd (P+1) hand.length w1 hr1 (by omega) (by omega) (by omega)).mono ?_
 rintro en w2 ⟨v,rfl,hv,hb2,hr2⟩
 have hN2:=hN1.but hb2 (show ¬ w.heap.size=rd by omega)
 have hB2:=hB1.trans hb2
 obtain ⟨bl,ol,u,dv,ea,hFl,hbl,hdv,hcl2,hru⟩:=HAT.out v hv
 rw [encSs_at,Option.map_eq_some_iff] at hdv
 obtain ⟨t,ht,rfl⟩:=hdv
 obtain ⟨sa,sk,rfl⟩:=encS_slice hru
 have hru':=hru
 rw [encS_eq] at hru'
 obtain ⟨_,_,est,_,_,hats⟩:=Rep_sl1_open hru'
 simp only [Value.slice.injEq] at est
 obtain ⟨rfl,_,rfl⟩:=est
 subst ea
 have hta:t.args.length<=15:=by
  have h1:=HH.out.1 t (List.mem_of_getElem? ht)
  have h2:=atomsT_mk t
  have:=length_le_atomsTs t.args;omega
 have HT:=Lib.hid ht;have HATS:=Lib.hid hats
 have hblr:=HF.out bl hFl
 have z1:=hb1.size
 rw [size_alloc] at z1
 have z2:=hb2.size
 have hobw:w.heap.size<w2.heap.size:=by omega
 have hrdo:rd<w2.heap.size:=by omega
 have hrel0:KidsD w rd w2.heap.size (w2.heap.size+1) v (P+2) d' hand t 0 (w2.alloc (.cells #[str [],.int .i64 v,.slice none 0 0,.slice none 0 0] 81)):=by
  refine ⟨[],[],.slice none 0 0,0,⟨rfl,rfl,⟨_,_,rfl⟩,⟨_,_,rfl⟩,hB2.alloc _,by unfold NewN;exact heap_past hN2,heap_new _ _,World.ownsRow_nil _ _ _ _,World.ownsRow_nil _ _ _ _,fun g h=>by simp [Value.ownBlock] at h,fun g h=>by simp [Value.ownBlock] at h,Reps_nil.2 rfl,Reps_nil.2 rfl,by simp⟩,rfl,by simp [fitBs,hands],by simp [lvBs],by simp [sizeBs],?_⟩
  have:=hr2.alloc (.cells #[str [],.int .i64 v,.slice none 0 0,.slice none 0 0] 81)
  simpa using this
 have hne2:w2.heap.size≠rd:=by omega
 have ZZ1:=Lib.hid (wrap_small (z-1) (by omega) (by omega))
 have zz2:z-1<=d':=by omega
 have zz3 : -1000<=z-1:=by omega
 have zz4:z<=1000:=by omega
 have zz0:0<z:=by omega
 have h04:0<4:=by omega
 have hv':(v:Int)<(hand.length:Int):=by omega
 clear ht hats hru' hN2 hB2 hb2 hb1 hN1 hB1 hN0 hB0 hr1 hr2 z1 z2 hR0
 go_wp2_with fail
 go_loopw [9] (fun i wr=>∃ k:Nat,k<=t.args.length/\i=.int .i64 k/\KidsD w rd w2.heap.size (w2.heap.size+1) v (P+2) d' hand t k wr) (fun i _=>t.args.length-(intOf i).toNat)
 case atStart=>exact ⟨0,Nat.zero_le _,rfl,hrel0⟩
 case round =>
  clear hrel0
  obtain ⟨k,hk,rfl,pk,kv,ks,nk,hN,hpk,hfk,hlk,hsk,hrk⟩:=hrel
  have hbut:=hN.but
  obtain ⟨ka,kc,eks⟩:=hN.ksl
  subst eks
  have e0:=but_cell hbut hblr hcl2
  have HN:=Lib.hid hN;have HFK:=Lib.hid hfk;have HLK:=Lib.hid hlk;have HPK:=Lib.hid hpk
  obtain ⟨q0,q1,q2,q3,ql,qf⟩:=hN.out.cells
  have qf2:=qf 2;clear qf
  have hnk:nk<=15:=by have:=hN.hnk;omega
  have hm1:nk+1<=maxLen:=by unfold maxLen;omega
  have hby:(nk+1)*72<=140737488355328:=by omega
  have hk15:k*cst d'<=15*cst d':=Nat.mul_le_mul_right _ (by omega)
  have hQ:(P+2+k*cst d')+cst d'<=1099511627776:=by omega
  clear hfk hlk hN hpk
  by_cases hlt9:k<t.args.length
  ·obtain ⟨ba,oa,uk,dk,esa,hFa,hba,hdk,hck,hrk2⟩:=HATS.out k hlt9
   subst esa
   rw [encSs_at,Option.map_eq_some_iff] at hdk
   obtain ⟨tk,htk,rfl⟩:=hdk
   obtain ⟨ua,uc,rfl⟩:=encS_slice hrk2
   have hbar:=HF.out ba hFa
   have e1:=but_cell hbut hbar hck
   have hrk':Rep F wr.drew (encS tk) (.slice ua tk.args.length uc):=(Rep.but hbut (fun b hb=>⟨HF.out b hb,hb⟩) hrk2).drew
   have hr':=(Rep.but hbut (fun b hb=>⟨HF.out b hb,hb⟩) HREP.out).drew
   have hhk:HandOk d' (hand++tk.args):=HH.out.next HT.out (List.mem_of_getElem? htk)
   have hlk:Lim (hand.length+tk.args.length):=by have:=hhk.2;simp at this;show _<=_;omega
   have HTK:=Lib.hid htk
   have hF5:∀ g,(F g\/wr.drew.heap.size<=g)->g≠rd:=fun g hg=>by
    rcases hg with h | h
    ·exact HF.out g h
    ·have h2:wr.heap.size<=g:=h
     omega
   have C1:=Lib.hid (l3Hand_any F hand tk _ _ wr.drew hr' hrk' hlk)
   have hrkd:=hrk.drew
   have C2:=Lib.hid (fun a5 c5 w5 (h5:Below wr.drew.heap.size wr.drew w5) (hr5:Rep (fun k=>F k\/wr.drew.heap.size<=k) w5 (.sl 78 1 (hand++tk.args).length (encSs (hand++tk.args))) (.slice a5 (hand++tk.args).length c5)) =>
    IHD.out (z-1) (hand++tk.args) (fun k=>F k\/wr.drew.heap.size<=k) (.slice a5 (hand.length+tk.args.length) c5) w5 (P+2+k*cst d') zz2 zz3 hQ (hrkd.below h5) hhk hF5 (rep_len hr5))
   have OWN:=Lib.hid (fun w5 w6 (h5:But (· = rd) wr w5) (h6:But (· = rd) w5 w6)=>own_thru HN.out.ownK (fun g hg=>by have:=(HN.out.blkK g hg).1;omega) h5 h6)
   have NB:=Lib.hid (show ¬ (Value.slice ka nk kc).ownBlock=some w2.heap.size from fun e=>by have:=(HN.out.blkK _ e).1;omega)
   have hlt9':(k:Int)<(t.args.length:Int):=by omega
   clear htk hck hrk2 hrk' hr' hhk hlk hF5 hrk hrkd
   have zz1:=ZZ1.out
   go_wp2_with fail
   go_region_law (first
    | (refine step_append_gen (by rfl) _ _ _ (by rfl) 81 (.agg #[str [],.int .i64 0,.slice none 0 0,.slice none 0 0]) 4 72 Tryz.underlying79 Tryz.infoN rfl h04 (.slice ka nk kc) nk kv (by rfl) (OWN6.out.alloc _) _ 1 [str s6,.int .i64 v6,.slice a2 n2 k2,.slice a3 n3 k3] (by rfl) (SrcSl.lit4 #[str s6,.int .i64 v6,.slice a2 n2 k2,.slice a3 n3 k3] rfl (by simp [str,Value.oneCell']) _ rfl) hm1 hby ?_;intro a' c' w7 ho7 hb7 hg7;have hc7:=out_cell hb7 NB.out q26;have hf7:=out_free hb7 NB.out ql6 qf26)
    | (go_simp;go_at_call 101;refine (C2.out _ _ _ hb5 hr5).mono ?_;rintro en6 w6 ⟨b,s6,v6,a2,n2,k2,a3,n3,k3,rfl,hb6,hr6,hf6,hl6,hs6,hc6⟩;have q26:=but_cell hb6 hne2 q25;have ql6:=Nat.lt_of_lt_of_le ql5 hb6.size;have qf26:=but_free hb6 hne2 ql5 qf25;have OWN6:=Lib.hid (OWN.out _ _ hbt5 hb6))
    | (go_simp;go_at_call 155;refine C1.out.mono ?_;rintro en5 w5 ⟨a5,c5,rfl,hb5,hr5⟩;have hbt5:But (· = rd) wr w5:=but_drew hb5;have q25:=but_cell hbt5 hne2 q2;have ql5:=Nat.lt_of_lt_of_le ql hbt5.size;have qf25:=but_free hbt5 hne2 ql qf2))
   all_goals
    clear zz1
    have hA:=HN.out.kid hlt (Nat.lt_succ_self _) hobw ((hbt5.trans hb6).alloc _) (reps_past hbt5.size hc6) ho7 hb7 hg7
    have hrd7:RdAt (w7.setCell ⟨w2.heap.size,2,none⟩ (.slice a' (nk+1) c')) rd (P+2+(k+1)*cst d'):=by
     refine RdAt.mono (RdAt.but (m:=fun i=>i=w2.heap.size\/(Value.slice ka nk kc).ownBlock=some i) (hr6.alloc (.cells #[str s6,.int .i64 v6,.slice a2 n2 k2,.slice a3 n3 k3] 81)) (But.setCell (hb7.weak fun i _ h=>.inr h) (.inl (.inl rfl)) _) ?_) (by rw [Nat.succ_mul];omega)
     intro i hi h
     rcases h with h | h
     ·omega
     ·have:=(HN.out.blkK _ h).1;omega
    have hfk':fitBs (hands hand (t.args.take (k+1))) (pk++[b]):=by
     rw [hands_take HTK.out]
     exact fitBs_append _ _ _ _ HFK.out ⟨_,_,rfl,hf6,by rw [fitBs]⟩
    have hs7:sizeBs (pk++[b])<=(k+1)*bnd d':=by rw [sizeBs_append,Nat.succ_mul];simp only [sizeBs];omega
    have HREL:Hid (KidsD w rd w2.heap.size (w2.heap.size+1) v (P+2) d' hand t (k+1) (w7.setCell ⟨w2.heap.size,2,none⟩ (.slice a' (nk+1) c'))) :=
     ⟨pk++[b],_,_,_,hA,by simp [HPK.out],hfk',lvBs_append _ _ HLK.out (lvBs_one hl6),hs7,hrd7⟩
    clear hA hrd7 hfk' hs7 hf6 hl6 hs6 hc6 ho7 hb7 hg7 hr6 hr5
    go_wp2_with fail
    go_roundw
    case rel=>exact ⟨k+1,by omega,by go_num,HREL.out⟩
    case measure=>simp [intOf];omega
  ·obtain rfl:k=t.args.length:=by omega
   have hnlt:¬ ((t.args.length:Int)<(t.args.length:Int)):=by omega
   have HFA:Hid (fitBs (hands hand t.args) pk):=by have:=HFK.out;rwa [List.take_length] at this
   have HSK:=Lib.hid hsk
   have hrel2:YesD w rd w2.heap.size (w2.heap.size+1) v (P+2+t.args.length*cst d') d' hand pk kv (.slice ka nk kc) nk 0 wr :=
    ⟨[],[],.slice none 0 0,0,HN.out,rfl,by simp,by simp [lvBs],by simp [sizeBs],by simpa using hrk⟩
   have HHS:Hid (HandOk d' hand):=by have:=HH.out.same;rw [List.append_nil] at this;exact this
   clear hrk hsk HFK hlt9 hbut
   go_wp2_with fail
   clear HN q0 q1 q2 q3 ql qf2 e0 hnlt
   go_loopw [10] (fun i wr=>∃ k:Nat,k<=2/\i=.int .i64 k/\YesD w rd w2.heap.size (w2.heap.size+1) v (P+2+t.args.length*cst d') d' hand pk kv (.slice ka nk kc) nk k wr) (fun i _=>2-(intOf i).toNat)
   case atStart=>exact ⟨0,by omega,rfl,hrel2⟩
   case round =>
    clear hrel2
    obtain ⟨k,hk,rfl,py,yv,ys,ny,hN,hpy,hfy,hly,hsy,hry⟩:=hrel
    have hbut:=hN.but
    obtain ⟨ya,yc,eys⟩:=hN.ysl
    subst eys
    have HN:=Lib.hid hN;have HFY:=Lib.hid hfy;have HLY:=Lib.hid hly;have HPY:=Lib.hid hpy;have HSY:=Lib.hid hsy
    obtain ⟨q0,q1,q2,q3,ql,qf⟩:=hN.out.cells
    have qf3:=qf 3;clear qf
    have hny:ny<=2:=by have:=hN.hny;omega
    have hm1:ny+1<=maxLen:=by unfold maxLen;omega
    have hby:(ny+1)*72<=140737488355328:=by omega
    have hk2c:k*(1+cst d')<=2*(1+cst d'):=Nat.mul_le_mul_right _ (by omega)
    have hQ1:P+2+t.args.length*cst d'+k*(1+cst d')<=1099511627776:=by omega
    clear hfy hly hpy hsy
    by_cases hlt10:k<2
    ·have hk1c:k*(1+cst d')<=1*(1+cst d'):=Nat.mul_le_mul_right _ (by omega)
     have hQ2:P+2+t.args.length*cst d'+k*(1+cst d')+1+cst d'<=1099511627776:=by omega
     have hrw:=Rep.but hbut (fun b hb=>⟨HF.out b hb,hb⟩) HREP.out
     have C1:=Lib.hid (pick_any rd (P+2+t.args.length*cst d'+k*(1+cst d')) 2 wr.drew hry.drew (by omega) (by omega) hQ1)
     have C2:=Lib.hid (fun w5 (h5:But (· = rd) wr w5) (p5:Nat) (hp5:p5<2) (hr5:RdAt w5 rd (P+2+t.args.length*cst d'+k*(1+cst d')+1)) =>
      IHD.out (z-1-(p5:Int)) hand F (.slice (some ⟨bl,ol,none⟩) hand.length k0) w5 (P+2+t.args.length*cst d'+k*(1+cst d')+1) (sub_le hz) (sub_lo zz0 hp5) hQ2 hr5 HHS.out HF.out (Rep.but h5 (fun b hb=>⟨HF.out b hb,hb⟩) hrw))
     have OWN:=Lib.hid (fun w5 w6 (h5:But (· = rd) wr w5) (h6:But (· = rd) w5 w6)=>own_thru HN.out.ownY (fun g hg=>by have:=HN.out.blkY g hg;omega) h5 h6)
     have NB:=Lib.hid (show ¬ (Value.slice ya ny yc).ownBlock=some w2.heap.size from fun e=>by have:=HN.out.blkY _ e;omega)
     have hlt10':(k:Int)<2:=by omega
     clear hrw hry hN hbut q2
     have zz1:=ZZ1.out
     go_wp2_with fail
     go_region_law (first
      | (refine step_append_gen (by rfl) _ _ _ (by rfl) 81 (.agg #[str [],.int .i64 0,.slice none 0 0,.slice none 0 0]) 4 72 Tryz.underlying79 Tryz.infoN rfl h04 (.slice ya ny yc) ny yv (by rfl) (OWN6.out.alloc _) _ 1 [str s6,.int .i64 v6,.slice a2 n2 k2,.slice a3 n3 k3] (by rfl) (SrcSl.lit4 #[str s6,.int .i64 v6,.slice a2 n2 k2,.slice a3 n3 k3] rfl (by simp [str,Value.oneCell']) _ rfl) hm1 hby ?_;intro a' c' w7 ho7 hb7 hg7;have hc7:=out_cell hb7 NB.out q36;have hf7:=out_free hb7 NB.out ql6 qf36)
      | (go_simp;go_at_call 101;refine (C2.out _ hbt5 _ hp5 hr5).mono ?_;rintro en6 w6 ⟨b,s6,v6,a2,n2,k2,a3,n3,k3,rfl,hb6,hr6,hf6,hl6,hs6,hc6⟩;have q36:=but_cell hb6 hne2 q35;have ql6:=Nat.lt_of_lt_of_le ql5 hb6.size;have qf36:=but_free hb6 hne2 ql5 qf35;have OWN6:=Lib.hid (OWN.out _ _ hbt5 hb6))
      | (go_simp;go_at_call 83;refine C1.out.mono ?_;rintro en5 w5 ⟨p5,rfl,hp5,hb5,hr5⟩;have hbt5:But (· = rd) wr w5:=but_drew2 hb5;have q35:=but_cell hbt5 hne2 q3;have ql5:=Nat.lt_of_lt_of_le ql hbt5.size;have qf35:=but_free hbt5 hne2 ql qf3;have zz5:=wrap_sub z p5 zz0 zz4 hp5))
     all_goals
      clear zz1 zz5
      have hA:=HN.out.yes hlt (Nat.lt_succ_self _) hobw ((hbt5.trans hb6).alloc _) (reps_past hbt5.size hc6) ho7 hb7 hg7
      have hrd7:RdAt (w7.setCell ⟨w2.heap.size,3,none⟩ (.slice a' (ny+1) c')) rd (P+2+t.args.length*cst d'+(k+1)*(1+cst d')):=by
       refine RdAt.mono (RdAt.but (m:=fun i=>i=w2.heap.size\/(Value.slice ya ny yc).ownBlock=some i) (hr6.alloc (.cells #[str s6,.int .i64 v6,.slice a2 n2 k2,.slice a3 n3 k3] 81)) (But.setCell (hb7.weak fun i _ h=>.inr h) (.inl (.inl rfl)) _) ?_) (by rw [Nat.succ_mul];omega)
       intro i hi h
       rcases h with h | h
       ·omega
       ·have:=HN.out.blkY _ h;omega
      have hfy':∀ x∈py++[b],fitB hand x:=by
       intro x hx
       rcases List.mem_append.1 hx with h | h
       ·exact HFY.out x h
       ·simp at h;subst h;exact hf6
      have hs7:sizeBs (py++[b])<=(k+1)*bnd d':=by have:=HSY.out;rw [sizeBs_append,Nat.succ_mul];simp only [sizeBs];omega
      have HREL:Hid (YesD w rd w2.heap.size (w2.heap.size+1) v (P+2+t.args.length*cst d') d' hand pk kv (.slice ka nk kc) nk (k+1) (w7.setCell ⟨w2.heap.size,3,none⟩ (.slice a' (ny+1) c'))) :=
       ⟨py++[b],_,_,_,hA,by simp [HPY.out],hfy',lvBs_append _ _ HLY.out (lvBs_one hl6),hs7,hrd7⟩
      clear hA hrd7 hfy' hs7 hf6 hl6 hs6 hc6 ho7 hb7 hg7 hr6 hr5
      go_wp2_with fail
      go_roundw
      case rel=>exact ⟨k+1,by omega,by go_num,HREL.out⟩
      case measure=>simp [intOf];omega
    ·obtain rfl:k=2:=by omega
     obtain ⟨r0,r1,r2,r3,rl,rf⟩:=hN.res.cells
     have rf0:=rf 0;have rf1:=rf 1;have rf2:=rf 2;have rf3:=rf 3;clear rf
     have HRY:=Lib.hid hry
     clear hry hN hbut
     go_wp2_with fail
     have hN:=HN.out
     obtain ⟨W,hW,s0,s1,s2,s3,hbW,hkW,hrW⟩:=hN.res.storeB (str []) (.int .i64 v) (.slice ka nk kc) (.slice ya ny yc)
     rw [<- hW]
     refine bodyPost_ret (v:=.agg #[str [],.int .i64 v,.slice ka nk kc,.slice ya ny yc]) (by simp [results,Tryz.results101,go_sem,s0,s1,s2,s3]) rfl ?_
     have hpy:=HPY.out
     obtain ⟨y1,y2,rfl⟩:∃ y1 y2,py=[y1,y2]:=by
      match py,hpy with
      | [a,b],_=>exact ⟨a,b,rfl⟩
     have hly:=HLY.out
     rw [lvBs,lvBs] at hly
     have hsy:=HSY.out
     have hsk:=HSK.out
     simp only [sizeBs] at hsy
     have hb15:t.args.length*bnd d'<=15*bnd d':=Nat.mul_le_mul_right _ (by omega)
     have hnk':=hN.hnk
     have hny':ny=2:=hN.hny
     subst hny'
     refine ⟨.ask v pk y1 y2,[],v,ka,nk,kc,ya,2,yc,rfl,hbW _ _ hN.but (Nat.le_refl _),(hrW _ _ hlt HRY.out).mono (by omega),?_,?_,?_,?_⟩
     ·rw [fitB];exact ⟨t,HT.out,HFA.out,HFY.out y1 (by simp),HFY.out y2 (by simp)⟩
     ·rw [lvB];exact ⟨by omega,HLK.out,hly.1,hly.2.1⟩
     ·simp only [sizeB];omega
     ·rw [encN_ask]
      refine Reps_cons.2 ⟨_,_,rfl,Rep_val.2 rfl,Reps_cons.2 ⟨_,_,rfl,Rep_val.2 rfl,Reps_cons.2 ⟨_,_,rfl,?_,Reps_cons.2 ⟨_,_,rfl,?_,Reps_nil.2 rfl⟩⟩⟩⟩
      ·rw [<- hnk']
       refine (hN.ownK.keep fun g o hg ho=>hkW g o (by have:=(hN.blkK g hg).1;omega) ho).rep (fun g hg=>by have:=(hN.blkK g hg).1;omega) ?_
       exact (Rep.keep fun x o hx ho=>⟨by have:=hx.1;omega,hkW x o (by have:=hx.1;omega) ho⟩).2 _ _ hN.repK
      ·refine (hN.ownY.keep fun g o hg ho=>hkW g o (by have:=hN.blkY g hg;omega) ho).rep (fun g hg=>by have:=hN.blkY g hg;omega) ?_
       exact (Rep.keep fun x o hx ho=>⟨by have:=hx.1;omega,hkW x o (by have:=hx.1;omega) ho⟩).2 _ _ hN.repY
theorem l91Body_any (rd d:Nat) (hd:d<=100):DrawB rd d:=by
 induction d with
 | zero=>exact l91Body_step rd 0 hd (fun d' h=>by omega)
 | succ d ih=>exact l91Body_step rd (d+1) hd (fun d' h=>by rw [<- Nat.succ.inj h];exact ih (by omega))
def Row8 (w:World) (a:Option Addr) (len cap:Nat) (zs:List Int):Prop :=
 (a=none/\len=0/\cap=0/\zs=[]) \/
 ∃ x,a=some x/\len<=cap/\cap<=maxLen/\zs.length=cap/\(∀ i,i<zs.length->w.cell? (x.add i)=some (.int .u8 (zs.getD i 0)))/\∀ n∈zs,(Lit.int .u8 n).wf=true
theorem Row8.le {w:World} {a:Option Addr} {len cap:Nat} {zs:List Int} (h:Row8 w a len cap zs):len<=cap:=by
 rcases h with ⟨_,rfl,rfl,_⟩ | ⟨x,_,h,_⟩
 ·exact Nat.le_refl _
 ·exact h
theorem Row8.bytes {w:World} {a:Option Addr} {len cap:Nat} {zs:List Int} (h:Row8 w a len cap zs) (n:Nat) (hn:n<=len) :
 n=0\/∃ b o,a=some ⟨b,o,none⟩/\b<w.heap.size/\∀ k,k<n->∃ x:Nat,x<256/\w.cell? ⟨b,o+k,none⟩=some (.int .u8 x):=by
 rcases Nat.eq_zero_or_pos n with h0 | h0
 ·exact .inl h0
 right
 rcases h with ⟨_,rfl,_,_⟩ | ⟨x,rfl,hl,_,hz,hc,hw⟩
 ·omega
 obtain ⟨b,o,sp⟩:=x
 have h1:=hc 0 (by omega)
 have hsp:sp=none:=by
  cases sp with
  | none=>rfl
  | some q=>simp [World.cell?,Addr.add] at h1;split at h1 <;> simp_all
 subst hsp
 have hadd:∀ i,(⟨b,o,none⟩:Addr).add i=⟨b,o+i,none⟩:=fun i=>by
  unfold Addr.add;split <;> simp_all
 have h2:=World.block_lt_of_cell? w _ h1
 refine ⟨b,o,rfl,by rw [hadd] at h2;exact h2,fun k hk=>?_⟩
 have hkz:k<zs.length:=by omega
 have h3:=hc k hkz
 rw [hadd] at h3
 have hm:zs.getD k 0∈zs:=by
  rw [List.getD_eq_getElem?_getD,List.getElem?_eq_getElem hkz];exact List.getElem_mem hkz
 have hwf:=hw _ hm
 clear hm
 generalize zs.getD k 0=z at *
 have hb:0<=z/\z<256:=by
  simp [Lit.wf,IntKind.min,IntKind.max,IntKind.bits,IntKind.signed] at hwf
  omega
 refine ⟨z.toNat,by omega,?_⟩
 rw [h3,Int.toNat_of_nonneg hb.1]
theorem l6Open_any (a:Option Addr) (len cap:Nat) (zs:List Int) (w:World) (h:Row8 w a len cap zs) (hl:len<=1048576) :
 Calls Tryz.prog 50 #[.slice a len cap] w fun en w'=>en=.returned (.pointer (some ⟨w.heap.size,0,none⟩))/\Below w.heap.size w w'/\RdAt w' w.heap.size 0/\w.heap.size<w'.heap.size:=by
 have hle:=h.le
 have H:=Lib.hid h;clear h
 by_cases h2:2000<len
 ·have h2':(2000:Int)<(len:Int):=by omega
  have h3:(2000:Int)<=(cap:Int):=by omega
  obtain ⟨b,o,ea,hb,hk⟩:=(H.out.bytes 2000 (by omega)).resolve_left (by omega)
  subst ea
  have HK:=Lib.hid hk;clear hk
  go_enter Tryz.func50,Tryz.ntmps50
  go_wp2_with fail
  go_ret
  refine ⟨rfl,(Below.refl _ _).alloc (Nat.le_refl _) _,?_,by simp⟩
  refine ⟨_,2000,_,0,heap_new _ _,Nat.le_refl _,Nat.le_refl _,.inr ⟨b,o,rfl,hb,fun k hk=>?_⟩⟩
  obtain ⟨x,hx,hc⟩:=HK.out k hk
  exact ⟨x,hx,cell_alloc hc⟩
 ·have h2':¬ (2000:Int)<(len:Int):=by omega
  go_enter Tryz.func50,Tryz.ntmps50
  go_wp2_with fail
  go_ret
  refine ⟨rfl,(Below.refl _ _).alloc (Nat.le_refl _) _,?_,by simp⟩
  refine ⟨_,len,_,0,heap_new _ _,Nat.le_refl _,by omega,?_⟩
  rcases H.out.bytes len (Nat.le_refl _) with h0 | ⟨b,o,ea,hb,hk⟩
  ·exact .inl h0
  ·refine .inr ⟨b,o,ea,hb,fun k hk'=>?_⟩
   obtain ⟨x,hx,hc⟩:=hk k hk'
   exact ⟨x,hx,cell_alloc hc⟩
theorem type_ok {s:Bs} (h:s∈typeTexts):(specType s).2=true/\s.length<=100:=by
 simp only [typeTexts,List.mem_cons,List.not_mem_nil,or_false] at h
 rcases h with rfl | rfl | rfl | rfl | rfl | rfl | rfl | rfl <;> exact ⟨by decide,by decide⟩
theorem wrap_one (p:Nat) (h:p<3):IntKind.i64.wrap (1+(p:Int))=1+p:=wrap_small _ (by omega) (by omega)
theorem sum_le (p:Nat) (h:p<3):(1:Int)+(p:Int)<=((3:Nat):Int):=by omega
theorem sum_lo (p:Nat):(-1000:Int)<=(1:Int)+(p:Int):=by omega
theorem cst3:cst 3=6448:=rfl
def StratD (rd Q:Nat) (s:Bs) (w:World) (en:Ending) (w':World):Prop :=
 ∃ b:Bd,en=.returned (str (textB b))/\But (· = rd) w w'/\RdAt w' rd Q/\fitB (specType s).1.args b/\lvB b/\sizeB b<=5220
set_option maxRecDepth 100000 in
theorem l91Strategy_gen (rd P:Nat) (s:Bs) (hsl:s.length<=100) (hh:HandOk 3 (specType s).1.args) (w:World) (h:RdAt w rd P) (hP:P+6500<=1099511627776) :
 Calls Tryz.prog 98 #[.pointer (some ⟨rd,0,none⟩),str s] w (StratD rd (P+6449) s w):=by
 have hlt:=h.lt
 have H:=Lib.hid h;have HH:=Lib.hid hh
 clear h hh
 go_enter Tryz.func98,Tryz.ntmps98
 go_wp2_with fail
 refine (l1Type_any s (show _<=_ by omega) w).mono ?_
 rintro en w1 ⟨tv,rfl,hb1,hrt⟩
 obtain ⟨ta,tc,etv⟩:=encS_slice hrt
 subst etv
 have hr1:=H.out.below (hb1.mono (Nat.le_refl _))
 rw [encS_eq] at hrt
 generalize hT:(specType s).1=t at *
 have z1:=hb1.size
 have hcT:(w1.alloc (.cells #[.slice ta t.args.length tc] 78)).cell? ⟨w1.heap.size,0,none⟩=some (.slice ta t.args.length tc):=by simp
 have hne:w1.heap.size≠rd:=by omega
 have hF:∀ k,w.heap.size<=k->k≠rd:=fun k hk=>by omega
 have hrA:Rep (w.heap.size<=·) (w1.alloc (.cells #[.slice ta t.args.length tc] 78)) (.sl 78 1 t.args.length (encSs t.args)) (.slice ta t.args.length tc):=(Rep.keep fun b o h ho=>⟨h,heap_past ho⟩).1 _ _ hrt
 have hrdA:=hr1.alloc (.cells #[.slice ta t.args.length tc] 78)
 have C1:=Lib.hid (pick_any rd P 3 _ hrdA.drew (by omega) (by omega) (by omega))
 have C2:=Lib.hid (fun w5 (h5:But (· = rd) (w1.alloc (.cells #[.slice ta t.args.length tc] 78)) w5) (p5:Nat) (hp5:p5<3) (hr5:RdAt w5 rd (P+1)) =>
  l91Body_any rd 3 (by omega) (1+(p5:Int)) t.args (w.heap.size<=·) (.slice ta t.args.length tc) w5 (P+1) (sum_le p5 hp5) (sum_lo p5) (by rw [cst3];omega) hr5 HH.out hF (Rep.but h5 (fun b hb=>⟨hF b hb,hb⟩) hrA))
 have HB1:=Lib.hid hb1
 have HTT:=Lib.hid hT
 clear hT hrt hrA hrdA hr1 hb1 hF
 go_wp2_with fail
 go_region_held3 (fun w'=>w'.cell? ⟨w1.heap.size,0,none⟩=some (.slice ta t.args.length tc))
  (first
   | exact hcT
   | exact hcL
   | exact hcB
   | exact hcP
   | go_keep)
  (first
   | (go_at_call 100;refine (l3Text_any 5220 b hs6 (by omega) hl6 _ w6 _ _ _ _ hc6).mono ?_;rintro en7 w7 ⟨rfl,hb7⟩;have hcL:=(hb7.cell (World.block_lt_of_cell? w6 ⟨w1.heap.size,0,none⟩ hcB)).trans hcB)
   | (go_at_call 101;refine (C2.out _ hbt5 _ hp5 hr5).mono ?_;rintro en6 w6 ⟨b,s6,v6,a2,n2,k2,a3,n3,k3,rfl,hb6,hr6,hf6,hl6,hs6,hc6⟩;have hcB:=but_cell hb6 hne hcP)
   | (go_at_call 83;refine C1.out.mono ?_;rintro en5 w5 ⟨p5,rfl,hp5,hb5,hr5⟩;have hbt5:=but_drew2 hb5;have hcP:=but_cell hbt5 hne hcT;have zz:=wrap_one p5 hp5))
 go_wp2_with fail
 go_ret
 have hbA:But (· = rd) w (w1.alloc (.cells #[.slice ta t.args.length tc] 78)):=(But.ofBelow HB1.out).alloc _
 refine ⟨b,rfl,((hbA.trans hbt5).trans hb6).trans (But.ofBelow hb7),(hr6.below hb7).mono (by rw [cst3];omega),?_,hl6,hs6⟩
 rw [HTT.out];exact hf6
theorem hand3_of_ok {s:Bs} (hok:(specType s).2=true):HandOk 3 (specType s).1.args:=by
 have:=hand_of_type (specType_ok hok)
 exact ⟨this.1,by have:=this.2;omega⟩
theorem l91Strategy_any (rd P:Nat) (s:Bs) (hs:s∈typeTexts) (w:World) (h:RdAt w rd P) (hP:P+6500<=1099511627776) :
 Calls Tryz.prog 98 #[.pointer (some ⟨rd,0,none⟩),str s] w (StratD rd (P+6449) s w) :=
 l91Strategy_gen rd P s (type_ok hs).2 (hand3_of_ok (type_ok hs).1) w h hP
def Given (rd Q:Nat) (w:World) (en:Ending) (w':World):Prop :=
 ∃ s text:Bs,en=.returned (.tuple #[str s,str text])/\s.length<=100/\text.length<=100000/\But (· = rd) w w'/\RdAt w' rd Q
theorem odd_len {s:Bs} (h:s∈typeTexts++oddTexts):s.length<=100:=by
 simp only [typeTexts,oddTexts,List.mem_append,List.mem_cons,List.not_mem_nil,or_false] at h
 rcases h with (rfl | rfl | rfl | rfl | rfl | rfl | rfl | rfl) | (rfl | rfl | rfl | rfl | rfl | rfl | rfl) <;> decide
theorem bad_len {s:Bs} (h:s∈badTexts):s.length<=100:=by
 simp only [badTexts,List.mem_cons,List.not_mem_nil,or_false] at h
 rcases h with rfl | rfl | rfl | rfl | rfl | rfl | rfl | rfl <;> decide
set_option maxRecDepth 100000 in
theorem l91Given_any (rd P:Nat) (w:World) (h:RdAt w rd P) (hP:P+7000<=1099511627776) :
 Calls Tryz.prog 67 #[.pointer (some ⟨rd,0,none⟩)] w (Given rd (P+6500) w):=by
 go_enter Tryz.func67,Tryz.ntmps67
 go_wp2_with fail
 refine (l91Type_any rd P w h (by omega)).mono ?_
 rintro en w1 ⟨s,hs,rfl,hb1,hr1⟩
 have HS:=Lib.hid hs;clear hs h
 go_wp2_with fail
 refine (pick_any rd (P+1) 16 w1 hr1 (by omega) (by omega) (by omega)).mono ?_
 rintro en w2 ⟨v,rfl,hv,hb2,hr2⟩
 have hb12:=hb1.trans hb2
 by_cases hv0:v=0
 ·subst hv0
  clear hr1 hb1 hb2
  go_wp2_with fail
  refine (l91Odd_any rd (P+2) w2 hr2 (by omega)).mono ?_
  rintro en w3 ⟨s3,hs3,rfl,hb3,hr3⟩
  have HS3:=Lib.hid hs3;clear hs3 hr2
  have hlt3:=hr3.lt
  go_wp2_with fail
  refine (of_any rd (P+2+2) (.slice (some ⟨w3.heap.size,0,none⟩) 8 8) badTexts _ (hr3.alloc (.cells (badTexts.map str).toArray 9)) (StrSl.newAt hlt3 badTexts 8 rfl _ (w3.heap.size) rfl) (by decide) (by decide) (by omega)).mono ?_
  rintro en w4 ⟨s4,hs4,rfl,hb4,hr4⟩
  have HS4:=Lib.hid hs4;clear hs4
  go_wp2_with fail
  refine bodyPost_ret (v:=.tuple #[str s3,str s4]) (by simp [results,Tryz.results67,go_sem]) rfl ?_
  exact ⟨s3,s4,rfl,odd_len HS3.out,Nat.le_trans (bad_len HS4.out) (by omega),(hb12.trans hb3).trans (((But.refl _ w3).alloc _).trans hb4),hr4.mono (by omega)⟩
 ·have hv1:((v:Int) == 0)=false:=by rw [beq_eq_false_iff_ne];omega
  clear hr1 hb1 hb2
  go_wp2_with fail
  refine (l91Strategy_any rd (P+2) s HS.out w2 hr2 (by omega)).mono ?_
  rintro en w3 ⟨b,rfl,hb3,hr3,hf,hlv,hsz⟩
  have hlen:=textB_length b hlv
  clear hf
  go_wp2_with fail
  refine bodyPost_ret (v:=.tuple #[str s,str (textB b)]) (by simp [results,Tryz.results67,go_sem]) rfl ?_
  exact ⟨s,textB b,rfl,(type_ok HS.out).2,by omega,hb12.trans hb3,hr3.mono (by omega)⟩
theorem but_new {rd:Nat} {w w1 w2:World} (h1:Below w.heap.size w w1) (hrd:w.heap.size<=rd) (h2:But (· = rd) w1 w2):Below w.heap.size w w2 :=
 h1.trans (h2.toBelow h1.size fun i hi e=>by omega)
theorem drawPlays_any (a:Option Addr) (len cap:Nat) (zs:List Int) (w:World) (h:Row8 w a len cap zs) (hl:len<=1048576) :
 Calls Tryz.prog 33 #[.slice a len cap] w fun en w'=>∃ (s text:Bs) (n:Int),en=.returned (.tuple #[str s,str text,.int .i64 n])/\s.length<=100/\text.length<=100000/\-100<=n/\n<=100/\Below w.heap.size w w':=by
 go_enter Tryz.func33,Tryz.ntmps33
 go_wp2_with fail
 refine (l6Open_any a len cap zs w h hl).mono ?_
 rintro en w1 ⟨rfl,hb1,hr1,_⟩
 clear h
 go_wp2_with fail
 refine (l91Given_any w.heap.size 0 w1 hr1 (by omega)).mono ?_
 rintro en w2 ⟨s,text,rfl,hs,ht,hb2,hr2⟩
 have HB2:=Lib.hid (but_new hb1 (Nat.le_refl _) hb2)
 clear hb1 hr1 hb2
 go_wp2_with fail
 refine (pick_any w.heap.size _ 7 w2 hr2 (by omega) (by omega) (by omega)).mono ?_
 rintro en w3 ⟨v,rfl,hv,hb3,hr3⟩
 have HB3:=Lib.hid (but_new HB2.out (Nat.le_refl _) hb3)
 clear hr2 hb3
 go_wp2_with fail
 refine (pick_any w.heap.size _ 20 w3 hr3 (by omega) (by omega) (by omega)).mono ?_
 rintro en w4 ⟨u,rfl,hu,hb4,hr4⟩
 have HB4:=Lib.hid (but_new HB3.out (Nat.le_refl _) hb4)
 obtain ⟨k,hk⟩:∃ k:Nat,(u:Int).tdiv 19=(k:Int):=⟨u / 19,by rw [Int.tdiv_eq_ediv_of_nonneg (by omega)];omega⟩
 have hk1:k<=1:=by rw [Int.tdiv_eq_ediv_of_nonneg (by omega)] at hk;omega
 have w1':IntKind.i64.wrap ((k:Int)*8)=(k:Int)*8:=wrap_low _ (by omega) (by omega)
 have w2':IntKind.i64.wrap ((v:Int)-(k:Int)*8)=(v:Int)-(k:Int)*8:=wrap_low _ (by omega) (by omega)
 clear hr3 hb4 hr4
 go_wp2_with fail
 refine bodyPost_ret (v:=.tuple #[str s,str text,.int .i64 ((v:Int)-(k:Int)*8)]) (by simp [results,Tryz.results33,go_sem]) rfl ?_
 exact ⟨s,text,_,rfl,hs,ht,by omega,by omega,HB4.out⟩
theorem zip_maps (u:Pl):(u.map (·.1)).zip (u.map (·.2))=u:=by
 induction u with
 | nil=>rfl
 | cons x u ih=>rw [List.map_cons,List.map_cons,List.zip_cons_cons,ih]
theorem specStrat_ok {s text:Bs} {b:Bd} (h:specStrat s text=some b):(specType s).2=true:=by
 unfold specStrat at h
 by_cases hq:(specType s).2=false\/2000<text.length
 ·rw [if_pos hq] at h;simp at h
 ·cases hz:(specType s).2 with
  | true=>rfl
  | false=>exact absurd (Or.inl hz) hq
theorem follow_in {s text:Bs} {b:Bd} {u:Pl} (h:specStrat s text=some b) (hu:InPl (specType s).1 b u):followOk s text (u.map (·.1)) (u.map (·.2))=true:=by
 unfold followOk
 rw [h]
 simp only
 unfold legalOk playOk
 rw [zip_maps,specStrat_ok h,hu.lg,decide_eq_true hu.fo]
 unfold validIn
 have hv:=hu.ok
 unfold validPl at hv
 rw [Bool.and_eq_true] at hv
 rw [zip_maps,hv.2]
 simp only [List.length_map,decide_eq_true (valid_len hu.ok)]
 simp
theorem out_sorted {t:Ty} {b:Bd} (h15:atomsT t<=15) (hf:fitB t.args b) (hw:wfB b):∀ r,r<=20->∀ (i j:Nat) (u u':Pl),i<j->(outAt t b r)[i]? = some u->(outAt t b r)[j]? = some u'->u.length<=u'.length
 | 0,_,i,j,u,u',hij,hi,hj=>by
   have h1:=(List.getElem?_eq_some_iff.1 hj).1
   have h2:(outAt t b 0).length=1:=rfl
   omega
 | r+1,hr,i,j,u,u',hij,hi,hj=>by
   rw [outAt] at hi hj
   rcases Nat.lt_or_ge j (outAt t b r).length with h | h
   ·rw [List.getElem?_append_left h] at hj
    rw [List.getElem?_append_left (by omega)] at hi
    exact out_sorted h15 hf hw r (by omega) i j u u' hij hi hj
   ·rw [List.getElem?_append_right h] at hj
    have h2:=(last_in h15 hf hw r (by omega) u' (List.mem_of_getElem? hj)).2
    rcases Nat.lt_or_ge i (outAt t b r).length with h' | h'
    ·rw [List.getElem?_append_left h'] at hi
     have h1:=(out_in h15 hf hw r (by omega) u (List.mem_of_getElem? hi)).2.1
     omega
    ·rw [List.getElem?_append_right h'] at hi
     have h1:=(last_in h15 hf hw r (by omega) u (List.mem_of_getElem? hi)).2
     omega
theorem outAt_pos (t:Ty) (b:Bd) (r:Nat):0<(outAt t b r).length:=by
 have:=outAt_mono t b (Nat.zero_le r)
 have h2:(outAt t b 0).length=1:=rfl
 omega
theorem plays_each {s text:Bs} {n:Int} {L:List Pl} (h:playsOf s text n=some L):0<L.length/\∀ (i:Nat) (u:Pl),L[i]? = some u->followOk s text (u.map (·.1)) (u.map (·.2))=true/\(u.length:Int)<=n/\(u.length=0\/u.length % 2=1)/\∀ (j:Nat) (u':Pl),j<i->L[j]? = some u'->u'.length<=u.length:=by
 obtain ⟨b,hb,h0,h8,rfl,h300⟩:=playsOf_some h
 have hg:=(specStrat_good hb).1
 refine ⟨outAt_pos _ _ _,fun i u hu=>?_⟩
 obtain ⟨h1,h2,h3⟩:=out_in hg.atoms hg.fit hg.wf ((n.toNat+1) / 2) (by omega) u (List.mem_of_getElem? hu)
 exact ⟨follow_in hb h1,by omega,h3,fun j u' hj hu'=>out_sorted hg.atoms hg.fit hg.wf _ (by omega) j i u' u hj hu' hu⟩
theorem MvRep.ms {F:Nat->Prop} {w:World} {u:Pl} {x:Value} (h:MvRep F w u x):MsRep F w (u.map (·.1)) x:=by
 unfold MsRep
 unfold MvRep at h
 rw [List.length_map,List.map_map]
 exact h
theorem PtRep.ps {F:Nat->Prop} {w:World} {u:Pl} {x:Value} (h:PtRep F w u x):PsRep F w (u.map (·.2)) x:=by
 unfold PsRep
 unfold PtRep at h
 rw [List.length_map,List.map_map]
 exact h
theorem PlsAt.slice' {w:World} {L:List Pl} {v:Value} {us:List (Value×Value)} (h:PlsAt w L v us):∃ a c,v=.slice a L.length c:=by
 obtain ⟨a,c,e⟩:=h.own.slice
 rw [h.length] at e
 exact ⟨a,c,e⟩
set_option maxRecDepth 100000 in
theorem fnPlays_any (a0:Option Addr) (len cap:Nat) (zs:List Int) (w:World) (h8:Row8 w a0 len cap zs) (hg:Glob w) :
 Calls Tryz.prog 8 #[.slice a0 len cap] w fun en w'=>en=.returned (.bool true)/\Below w.heap.size w w':=by
 by_cases hl:1048576<len
 ·have hl':(1048576:Int)<(len:Int):=by omega
  go_enter Tryz.func8,Tryz.ntmps8
  go_wp2_with fail
  go_ret
  exact ⟨rfl,Below.refl _ _⟩
 have hl':¬ (1048576:Int)<(len:Int):=by omega
 have CD:=Lib.hid (drawPlays_any a0 len cap zs w h8 (by omega))
 have HG:=Lib.hid hg
 clear h8 hg hl
 go_enter Tryz.func8,Tryz.ntmps8
 go_wp2_with fail
 (with_reducible refine CD.out.mono ?_)
 rintro en w1 ⟨s,text,n,rfl,hs,ht,hn1,hn2,hb1⟩
 have HB1:=Lib.hid hb1
 have ls:Lim s.length:=show _<=_ by omega
 have lt:Lim text.length:=show _<=_ by omega
 have CI:=Lib.hid ((implStrategyPlays_any s text n w1 (HG.out.below hb1) ls lt).mono fun _ _ h=>h.views)
 have CS:=Lib.hid (fun (y:World)=>(specStrategyPlays_any s text n y ls lt).mono fun _ _ h=>h.views)
 have CF:=Lib.hid (fun (y:World) (hy:Below w.heap.size w y) (u:Pl) (mv pt:Value) (hp:PlayAt y u mv pt) (hll:∀ x∈u,Lim x.1.length)=>implStrategyFollows_any (fun _=>True) s text mv pt (u.map (·.1)) (u.map (·.2)) y (HG.out.below hy) ls lt (hp.mv fun _ _=>trivial).1.ms (hp.mv fun _ _=>trivial).2.ps (fun x hx=>by
  obtain ⟨z,hz,rfl⟩:=List.mem_map.1 hx
  exact hll z hz))
 have HE:=Lib.hid (fun L (h:playsOf s text n=some L)=>plays_each h)
 have HLIM:=Lib.hid (fun L (h:playsOf s text n=some L) u (hu:u∈L)=>show ∀ x∈u,Lim x.1.length from by
  obtain ⟨b,hb,h0,h8,rfl,h300⟩:=playsOf_some h
  have hg:=(specStrat_good hb).1
  exact legPl_lim hg.atoms (out_in hg.atoms hg.fit hg.wf _ (by omega) u hu).1.ok)
 obtain ⟨hL,hl⟩:=playsOf_bound s text n
 generalize playsOf s text n=o at *
 unfold PlsPost at CI CS
 have CE:=Lib.hid (fun v v' us us' x h h'=>samePlays_any (o.getD []) v v' us us' x h h' (by omega) (fun l h=>by have:=hl l h;omega))
 clear hs ht hb1 CD ls lt hl
 cases o with
 | none =>
   go_wp2_with fail
   (with_reducible refine CI.out.mono ?_)
   rintro en w2 ⟨v1,us1,rfl,hb2,hp2,_⟩
   change PlsAt w2 [] v1 us1 at hp2
   obtain ⟨a1,c1,e1⟩:=PlsAt.slice' hp2
   change v1=.slice a1 0 c1 at e1
   subst e1
   have H2:=Lib.hid (And.intro hb2 hp2)
   have CS2:=Lib.hid (CS.out w2)
   clear hb2 hp2 CI CS
   go_wp2_with fail
   (with_reducible refine CS2.out.mono ?_)
   rintro en w3 ⟨v2,us2,rfl,hb3,hp3,_⟩
   change PlsAt w3 [] v2 us2 at hp3
   obtain ⟨a2,c2,e2⟩:=PlsAt.slice' hp3
   change v2=.slice a2 0 c2 at e2
   subst e2
   have H3:=Lib.hid (And.intro (zzT H2.out.1 hb3) (And.intro (PlsG.below H2.out.2 hb3) hp3))
   have C4:=Lib.hid (CE.out _ _ _ _ w3 H3.out.2.1 H3.out.2.2)
   have C5:=Lib.hid (fun (y:World) (hy:Below w3.heap.size w3 y)=>CE.out _ _ _ _ y (PlsG.below H3.out.2.1 hy) (PlsG.below H3.out.2.2 hy))
   clear hb3 hp3 CS2
   go_wp2_with fail
   (with_reducible refine C4.out.mono ?_)
   rintro en w4 ⟨rfl,hb4⟩
   have H4:=Lib.hid hb4
   have C6:=Lib.hid (C5.out w4 hb4)
   clear hb4 C4 C5
   go_wp2_with fail
   (with_reducible refine C6.out.mono ?_)
   rintro en w5 ⟨rfl,hb5⟩
   have HF:=Lib.hid (HB1.out.trans ((H3.out.1.trans ((zzT H4.out hb5).mono H3.out.1.size)).mono HB1.out.size))
   clear hb5 C6
   go_wp2_with fail
   go_ret
   exact ⟨rfl,HF.out⟩
 | some L =>
   obtain ⟨hpos,heach⟩:=HE.out L rfl
   have HEA:=Lib.hid heach
   have HLM:=Lib.hid (HLIM.out L rfl)
   obtain ⟨n1,hn1'⟩:∃ n1,L.length=n1:=⟨_,rfl⟩
   have hpos':0<n1:=by omega
   have hposI:(0:Int)<(n1:Int):=by omega
   have hn300:n1<=300:=by have:(Option.getD (some L) []).length<=300:=hL;rw [Option.getD_some] at this;omega
   have HN:=Lib.hid hn1'
   clear HE HLIM heach hL hn1' hpos
   go_wp2_with fail
   (with_reducible refine CI.out.mono ?_)
   rintro en w2 ⟨v1,us1,rfl,hb2,hp2,_⟩
   rw [Option.getD_some] at hp2
   obtain ⟨a1,c1,e1⟩:=PlsAt.slice' hp2
   rw [HN.out] at e1
   subst e1
   have H2:=Lib.hid (And.intro hb2 hp2)
   have CS2:=Lib.hid (CS.out w2)
   clear hb2 hp2 CI CS
   go_wp2_with fail
   (with_reducible refine CS2.out.mono ?_)
   rintro en w3 ⟨v2,us2,rfl,hb3,hp3,_⟩
   rw [Option.getD_some] at hp3
   obtain ⟨a2,c2,e2⟩:=PlsAt.slice' hp3
   rw [HN.out] at e2
   subst e2
   have H3:=Lib.hid (And.intro (zzT H2.out.1 hb3) (And.intro (PlsG.below H2.out.2 hb3) hp3))
   have C4:=Lib.hid (CE.out _ _ _ _ w3 H3.out.2.1 H3.out.2.2)
   clear hb3 hp3 CS2
   go_wp2_with fail
   (with_reducible refine C4.out.mono ?_)
   rintro en w4 ⟨rfl,hb4⟩
   have hpR:PlsAt w4 L (.slice a1 n1 c1) us1:=PlsG.below H3.out.2.1 hb4
   have H4:=Lib.hid (And.intro (HB1.out.trans ((zzT H3.out.1 hb4).mono HB1.out.size)) (show RdR 0 L a1 n1 c1 us1 w4 from ⟨HN.out,by rw [hpR.length,HN.out],by have h:=hpR.own;rwa [hpR.length,HN.out] at h,fun i u l hu hl=>hpR.play hu hl,fun _ _=>Nat.zero_le _⟩))
   clear hb4 C4 CE hpR
   go_wp2_with fail
   go_loopw [10] (fun x wr=>∃ (i:Nat) (wz:World),wz=wr/\i<=n1/\x=.int .i64 i/\Below w4.heap.size w4 wz) (fun x _=>n1-(intOf x).toNat)
   case atStart=>exact ⟨0,_,rfl,Nat.zero_le _,rfl,Below.refl _ _⟩
   case round =>
    obtain ⟨i,wr,rfl,hi,rfl,hB⟩:=hrel
    have HB:=Lib.hid hB
    have hR:=H4.out.2.below hB
    clear hB
    by_cases hit:i<n1
    ·have hiI:(i:Int)<(n1:Int):=by omega
     obtain ⟨u,l,hu,hl,hpl⟩:=hR.at hit
     obtain ⟨g,rfl,k1,k2⟩:=hR.cells hu
     obtain ⟨lv,lc,e1⟩:=hpl.1.slice
     obtain ⟨lp,ld,e2⟩:=hpl.2.slice
     rw [e1] at k1 hpl;rw [e2] at k2 hpl
     obtain ⟨hfo,hkn,hodd,hmono⟩:=HEA.out i l hl
     have CF1:=CF.out wr (zzT H4.out.1 HB.out) l _ _ hpl (HLM.out l (List.mem_of_getElem? hl))
     rw [hfo] at CF1
     have CF1:=Lib.hid CF1
     obtain ⟨k,hk⟩:=zzN (l.length)
     rw [hk] at k1 k2 CF1 hkn hodd hmono
     have hknI:¬ n<(k:Int):=by omega
     clear hu hl hpl e1 e2 hfo hk hkn
     rcases hodd with hk0 | hk1
     ·have hz0:¬ (0:Int)<(k:Int):=by omega
      clear hk0
      cases i with
      | zero =>
        have hi0:¬ (0:Int)<((0:Nat):Int):=by omega
        go_wp2_with fail
        (with_reducible refine CF1.out.mono ?_)
        rintro en x4 ⟨rfl,hb4⟩
        have KX:=(fun (a:Addr) (u:Value) (h:wr.cell? a=some u)=>(hb4.cell (World.block_lt_of_cell? _ _ h)).trans h)
        have k1':=KX _ _ k1
        have HB4:=Lib.hid (zzT HB.out hb4)
        clear hb4 KX CF1
        go_wp2_with fail
        go_roundw
        case rel=>exact ⟨1,_,rfl,by omega,by go_num,HB4.out⟩
        case measure=>simp [intOf];omega
      | succ q =>
        have hi0:(0:Int)<((q+1:Nat):Int):=by omega
        have hi0':(0:Int)<(q:Int)+1:=by omega
        obtain ⟨u',l',hu',hl',hpl'⟩:=hR.at (i:=q) (by omega)
        obtain ⟨g',eg',k3,k4⟩:=hR.cells hu'
        simp only [Option.some.injEq,Addr.mk.injEq,and_true] at eg'
        obtain rfl:=eg'
        obtain ⟨lv',lc',e3⟩:=hpl'.1.slice
        rw [e3] at k3
        have hle:=hmono q l' (by omega) hl'
        obtain ⟨k',hk'⟩:∃ k',l'.length=k':=⟨_,rfl⟩
        rw [hk'] at k3 hle
        have hleI:¬ (k:Int)<(k':Int):=by omega
        have hwq:IntKind.i64.wrap (((q+1:Nat):Int)-1)=(q:Int):=by rw [wrap_low _ (by omega) (by omega)];omega
        have hwq':IntKind.i64.wrap ((q:Int)+1-1)=(q:Int):=by rw [wrap_low _ (by omega) (by omega)];omega
        have hqI:(q:Int)<(n1:Int):=by omega
        clear hu' hl' hpl' e3 hk' hle k4 hR
        go_wp2_with fail
        (with_reducible refine CF1.out.mono ?_)
        rintro en x4 ⟨rfl,hb4⟩
        have KX:=(fun (a:Addr) (u:Value) (h:wr.cell? a=some u)=>(hb4.cell (World.block_lt_of_cell? _ _ h)).trans h)
        have k1':=KX _ _ k1
        have k3':=KX _ _ k3
        have HB4:=Lib.hid (zzT HB.out hb4)
        clear hb4 KX CF1
        go_wp2_with fail
        go_roundw
        case rel=>exact ⟨q+1+1,_,rfl,by omega,by go_num,HB4.out⟩
        case measure=>simp [intOf];omega
     ·have hz0:(0:Int)<(k:Int):=by omega
      have hmd:(k:Int).tmod 2=1:=by rw [Int.tmod_eq_emod_of_nonneg (by omega)];omega
      have hmd2:(k:Int) % 2=1:=by omega
      clear hk1
      cases i with
      | zero =>
        have hi0:¬ (0:Int)<((0:Nat):Int):=by omega
        go_wp2_with fail
        (with_reducible refine CF1.out.mono ?_)
        rintro en x4 ⟨rfl,hb4⟩
        have KX:=(fun (a:Addr) (u:Value) (h:wr.cell? a=some u)=>(hb4.cell (World.block_lt_of_cell? _ _ h)).trans h)
        have k1':=KX _ _ k1
        have HB4:=Lib.hid (zzT HB.out hb4)
        clear hb4 KX CF1
        go_wp2_with fail
        go_roundw
        case rel=>exact ⟨1,_,rfl,by omega,by go_num,HB4.out⟩
        case measure=>simp [intOf];omega
      | succ q =>
        have hi0:(0:Int)<((q+1:Nat):Int):=by omega
        have hi0':(0:Int)<(q:Int)+1:=by omega
        obtain ⟨u',l',hu',hl',hpl'⟩:=hR.at (i:=q) (by omega)
        obtain ⟨g',eg',k3,k4⟩:=hR.cells hu'
        simp only [Option.some.injEq,Addr.mk.injEq,and_true] at eg'
        obtain rfl:=eg'
        obtain ⟨lv',lc',e3⟩:=hpl'.1.slice
        rw [e3] at k3
        have hle:=hmono q l' (by omega) hl'
        obtain ⟨k',hk'⟩:∃ k',l'.length=k':=⟨_,rfl⟩
        rw [hk'] at k3 hle
        have hleI:¬ (k:Int)<(k':Int):=by omega
        have hwq:IntKind.i64.wrap (((q+1:Nat):Int)-1)=(q:Int):=by rw [wrap_low _ (by omega) (by omega)];omega
        have hwq':IntKind.i64.wrap ((q:Int)+1-1)=(q:Int):=by rw [wrap_low _ (by omega) (by omega)];omega
        have hqI:(q:Int)<(n1:Int):=by omega
        clear hu' hl' hpl' e3 hk' hle k4 hR
        go_wp2_with fail
        (with_reducible refine CF1.out.mono ?_)
        rintro en x4 ⟨rfl,hb4⟩
        have KX:=(fun (a:Addr) (u:Value) (h:wr.cell? a=some u)=>(hb4.cell (World.block_lt_of_cell? _ _ h)).trans h)
        have k1':=KX _ _ k1
        have k3':=KX _ _ k3
        have HB4:=Lib.hid (zzT HB.out hb4)
        clear hb4 KX CF1
        go_wp2_with fail
        go_roundw
        case rel=>exact ⟨q+1+1,_,rfl,by omega,by go_num,HB4.out⟩
        case measure=>simp [intOf];omega
    ·have hiI:¬ (i:Int)<(n1:Int):=by omega
     have HF:=Lib.hid (zzT H4.out.1 HB.out)
     go_wp2_with fail
     go_ret
     exact ⟨rfl,HF.out⟩
end Go.Proofs.YtdfkiicodfbibaaGreatDoor

import Derived.Test.YtllmjhbopmkpoaaGreatDoorD4
import Derived.Test.YtllmjhbopmkpoaaGreatDoorD2
import Derived.Test.YtllmjhbopmkpoaaGreatDoorT6
import Derived.Deep.RegionLaw
/- A node that is drawn: its block, its lists, round by round. -/
namespace Go.Proofs.YtllmjhbopmkpoaaGreatDoor
open Go.RowKit
theorem NewN.storeB {ob:Nat} {v:Int} {ks ys:Value} {w:World} (h:NewN ob v ks ys w) (u0 u1 u2 u3:Value) :
 ∃ W,W=((((w.setCell ⟨ob,0,none⟩ u0).setCell ⟨ob,1,none⟩ u1).setCell ⟨ob,2,none⟩ u2).setCell ⟨ob,3,none⟩ u3) ∧
   W.cell? ⟨ob,0,none⟩=some u0∧W.cell? ⟨ob,1,none⟩=some u1∧W.cell? ⟨ob,2,none⟩=some u2∧W.cell? ⟨ob,3,none⟩=some u3 ∧
   (∀ (m:Nat→Prop) w0,But m w0 w→w0.heap.size≤ob→But m w0 W)∧(∀ i x,i≠ob→w.heap[i]? = some x→W.heap[i]? = some x)∧(∀ rd P,rd<ob→RdAt w rd P→RdAt W rd P):=by
 obtain ⟨W,hW,s0,s1,s2,s3,_,hk⟩:=h.store u0 u1 u2 u3
 have hB:∀ (m:Nat→Prop) w0,But m w0 w→(m ob∨w0.heap.size≤ob)→But m w0 W:=by
  intro m w0 hb ho
  rw [hW]
  exact ((((hb.setCell (p:=⟨ob,0,none⟩) ho _).setCell (p:=⟨ob,1,none⟩) ho _).setCell (p:=⟨ob,2,none⟩) ho _).setCell (p:=⟨ob,3,none⟩) ho _)
 refine ⟨W,hW,s0,s1,s2,s3,fun m w0 hb ho=>hB m w0 hb (.inr ho),hk,fun rd P hlt hr=>?_⟩
 exact hr.but (hB (· = ob) w (But.refl _ _) (.inl rfl)) (fun i hi e=>by omega)
structure NodeD (w:World) (rd ob Z:Nat) (v:Int) (wr:World) (pk py:List Bd) (kv yv:List Value) (ks:Value) (nk:Nat) (ys:Value) (ny:Nat):Prop where
 hnk:nk=pk.length
 hny:ny=py.length
 ksl:∃ a c,ks=.slice a nk c
 ysl:∃ a c,ys=.slice a ny c
 but:But (· = rd) w wr
 res:NewN w.heap.size 0 (.slice none 0 0) (.slice none 0 0) wr
 out:NewN ob v ks ys wr
 ownK:Own wr 51 4 ks nk kv
 ownY:Own wr 51 4 ys ny yv
 blkK:∀ g,ks.ownBlock=some g→Z≤g∧ys.ownBlock≠some g
 blkY:∀ g,ys.ownBlock=some g→Z≤g
 repK:Reps (fun b=>Z≤b∧ks.ownBlock≠some b∧ys.ownBlock≠some b) wr (encNs pk) kv
 repY:Reps (fun b=>Z≤b∧ks.ownBlock≠some b∧ys.ownBlock≠some b) wr (encNs py) yv
 z:Z≤wr.heap.size
theorem NodeD.kid {w:World} {rd ob Z:Nat} {v:Int} {wr:World} {pk py:List Bd} {kv yv:List Value} {ks ys:Value} {nk ny:Nat}
 (h:NodeD w rd ob Z v wr pk py kv yv ks nk ys ny) (hrd:rd<w.heap.size) (hob:ob<Z) (hwo:w.heap.size<ob) {W w7:World} {b:Bd} {cs:List Value} {a':Option Addr} {c':Nat}
 (hb6:But (· = rd) wr W) (hcs:Reps (wr.heap.size≤·) W (encN b) cs) (hown:Own w7 51 4 (.slice a' (nk+1) c') (nk+1) (kv++cs)) (hb7:But (fun i=>ks.ownBlock=some i) W w7)
 (hg7:∀ g,(Value.slice a' (nk+1) c').ownBlock=some g→ks.ownBlock=some g∨g=W.heap.size) :
 NodeD w rd ob Z v (w7.setCell ⟨ob,2,none⟩ (.slice a' (nk+1) c')) (pk++[b]) py (kv++cs) yv (.slice a' (nk+1) c') (nk+1) ys ny:=by
 have z6:=hb6.size
 have z7:=hb7.size
 have zr:=h.z
 have zb:=h.but.size
 have keep:∀ i x,wr.heap[i]? = some x→ks.ownBlock≠some i→i≠ob→i≠rd→(w7.setCell ⟨ob,2,none⟩ (.slice a' (nk+1) c')).heap[i]? = some x:=by
  intro i x hx h1 h2 h3
  have:=lt_of_heap hx
  rw [Below.heap_setCell _ _ _ _ (by simpa using h2),hb7.block i (by omega) h1,hb6.block i this h3];exact hx
 have keep6:∀ i x,W.heap[i]? = some x→ks.ownBlock≠some i→i≠ob→(w7.setCell ⟨ob,2,none⟩ (.slice a' (nk+1) c')).heap[i]? = some x:=by
  intro i x hx h1 h2
  have:=lt_of_heap hx
  rw [Below.heap_setCell _ _ _ _ (by simpa using h2),hb7.block i (by omega) h1];exact hx
 have ltK:∀ g,ks.ownBlock=some g→g<wr.heap.size:=fun g hg=>h.ownK.lt hg
 have ltY:∀ g,ys.ownBlock=some g→g<wr.heap.size:=fun g hg=>h.ownY.lt hg
 have nK:∀ i,i<Z→ks.ownBlock≠some i:=fun i hi e=>by have:=(h.blkK i e).1;omega
 have newg:∀ g,(Value.slice a' (nk+1) c').ownBlock=some g→Z≤g:=fun g hg=>by
  rcases hg7 g hg with e | e
  ·exact (h.blkK g e).1
  ·omega
 refine ⟨by simp [h.hnk],h.hny,⟨_,_,rfl⟩,h.ysl,?_,?_,?_,?_,?_,?_,h.blkY,?_,?_,by simp [World.setCell];omega⟩
 ·refine But.setCell ?_ (.inr (show w.heap.size≤ob by omega)) _
  exact (h.but.trans hb6).trans' hb7 (fun i hi e=>absurd e (nK i (by omega)))
 ·exact keep _ _ h.res (nK _ (by omega)) (by omega) (by omega)
 ·have h1:NewN ob v ks ys w7:=by
   unfold NewN;rw [hb7.block ob (by omega) (nK _ hob),hb6.block ob (by omega) (show ¬ ob=rd by omega)];exact h.out
  exact h1.put2
 ·exact hown.keep fun g o hg ho=>by rw [Below.heap_setCell _ _ _ _ (by have:=newg g hg;simp;omega)];exact ho
 ·exact h.ownY.keep fun g o hg ho=>keep g o ho (fun e=>(h.blkK g e).2 hg) (by have:=h.blkY g hg;omega) (by have:=h.blkY g hg;omega)
 ·intro g hg
  refine ⟨newg g hg,fun e=>?_⟩
  rcases hg7 g hg with e' | e'
  ·exact (h.blkK g e').2 e
  ·have:=ltY g e;omega
 ·rw [encNs_append]
  have h1:=h.repK
  refine Reps.append ((Rep.keep fun i x hi hx=>⟨⟨hi.1,fun e=>(hg7 i e).elim (fun e'=>hi.2.1 e') (fun e'=>by have:=lt_of_heap hx;omega),hi.2.2⟩,keep i x hx hi.2.1 (by have:=hi.1;omega) (by have:=hi.1;omega)⟩).2 _ _ h1) ?_
  ·have e1:encNs [b]=encN b:=by simp [encNs]
   rw [e1]
   refine (Rep.keep fun i x hi hx=>?_).2 _ _ hcs
   have h2:=lt_of_heap hx
   have h3:wr.heap.size≤i:=hi
   refine ⟨⟨by omega,fun e=>?_,fun e=>by have:=ltY i e;omega⟩,keep6 i x hx (fun e=>by have:=ltK i e;omega) (by omega)⟩
   rcases hg7 i e with e' | e'
   ·have:=ltK i e';omega
   ·omega
 ·exact (Rep.keep fun i x hi hx=>⟨⟨hi.1,fun e=>(hg7 i e).elim (fun e'=>hi.2.1 e') (fun e'=>by have:=lt_of_heap hx;omega),hi.2.2⟩,keep i x hx hi.2.1 (by have:=hi.1;omega) (by have:=hi.1;omega)⟩).2 _ _ h.repY
theorem NodeD.yes {w:World} {rd ob Z:Nat} {v:Int} {wr:World} {pk py:List Bd} {kv yv:List Value} {ks ys:Value} {nk ny:Nat}
 (h:NodeD w rd ob Z v wr pk py kv yv ks nk ys ny) (hrd:rd<w.heap.size) (hob:ob<Z) (hwo:w.heap.size<ob) {W w7:World} {b:Bd} {cs:List Value} {a':Option Addr} {c':Nat}
 (hb6:But (· = rd) wr W) (hcs:Reps (wr.heap.size≤·) W (encN b) cs) (hown:Own w7 51 4 (.slice a' (ny+1) c') (ny+1) (yv++cs)) (hb7:But (fun i=>ys.ownBlock=some i) W w7)
 (hg7:∀ g,(Value.slice a' (ny+1) c').ownBlock=some g→ys.ownBlock=some g∨g=W.heap.size) :
 NodeD w rd ob Z v (w7.setCell ⟨ob,3,none⟩ (.slice a' (ny+1) c')) pk (py++[b]) kv (yv++cs) ks nk (.slice a' (ny+1) c') (ny+1):=by
 have z6:=hb6.size
 have z7:=hb7.size
 have zr:=h.z
 have zb:=h.but.size
 have keep:∀ i x,wr.heap[i]? = some x→ys.ownBlock≠some i→i≠ob→i≠rd→(w7.setCell ⟨ob,3,none⟩ (.slice a' (ny+1) c')).heap[i]? = some x:=by
  intro i x hx h1 h2 h3
  have:=lt_of_heap hx
  rw [Below.heap_setCell _ _ _ _ (by simpa using h2),hb7.block i (by omega) h1,hb6.block i this h3];exact hx
 have keep6:∀ i x,W.heap[i]? = some x→ys.ownBlock≠some i→i≠ob→(w7.setCell ⟨ob,3,none⟩ (.slice a' (ny+1) c')).heap[i]? = some x:=by
  intro i x hx h1 h2
  have:=lt_of_heap hx
  rw [Below.heap_setCell _ _ _ _ (by simpa using h2),hb7.block i (by omega) h1];exact hx
 have ltK:∀ g,ks.ownBlock=some g→g<wr.heap.size:=fun g hg=>h.ownK.lt hg
 have ltY:∀ g,ys.ownBlock=some g→g<wr.heap.size:=fun g hg=>h.ownY.lt hg
 have nY:∀ i,i<Z→ys.ownBlock≠some i:=fun i hi e=>by have:=h.blkY i e;omega
 have newg:∀ g,(Value.slice a' (ny+1) c').ownBlock=some g→Z≤g:=fun g hg=>by
  rcases hg7 g hg with e | e
  ·exact h.blkY g e
  ·omega
 refine ⟨h.hnk,by simp [h.hny],h.ksl,⟨_,_,rfl⟩,?_,?_,?_,?_,?_,?_,newg,?_,?_,by simp [World.setCell];omega⟩
 ·refine But.setCell ?_ (.inr (show w.heap.size≤ob by omega)) _
  exact (h.but.trans hb6).trans' hb7 (fun i hi e=>absurd e (nY i (by omega)))
 ·exact keep _ _ h.res (nY _ (by omega)) (by omega) (by omega)
 ·have h1:NewN ob v ks ys w7:=by
   unfold NewN;rw [hb7.block ob (by omega) (nY _ hob),hb6.block ob (by omega) (show ¬ ob=rd by omega)];exact h.out
  exact h1.put3
 ·exact h.ownK.keep fun g o hg ho=>keep g o ho (h.blkK g hg).2 (by have:=(h.blkK g hg).1;omega) (by have:=(h.blkK g hg).1;omega)
 ·exact hown.keep fun g o hg ho=>by rw [Below.heap_setCell _ _ _ _ (by have:=newg g hg;simp;omega)];exact ho
 ·intro g hg
  refine ⟨(h.blkK g hg).1,fun e=>?_⟩
  rcases hg7 g e with e' | e'
  ·exact (h.blkK g hg).2 e'
  ·have:=ltK g hg;omega
 ·exact (Rep.keep fun i x hi hx=>⟨⟨hi.1,hi.2.1,fun e=>(hg7 i e).elim (fun e'=>hi.2.2 e') (fun e'=>by have:=lt_of_heap hx;omega)⟩,keep i x hx hi.2.2 (by have:=hi.1;omega) (by have:=hi.1;omega)⟩).2 _ _ h.repK
 ·rw [encNs_append]
  refine Reps.append ((Rep.keep fun i x hi hx=>⟨⟨hi.1,hi.2.1,fun e=>(hg7 i e).elim (fun e'=>hi.2.2 e') (fun e'=>by have:=lt_of_heap hx;omega)⟩,keep i x hx hi.2.2 (by have:=hi.1;omega) (by have:=hi.1;omega)⟩).2 _ _ h.repY) ?_
  ·have e1:encNs [b]=encN b:=by simp [encNs]
   rw [e1]
   refine (Rep.keep fun i x hi hx=>?_).2 _ _ hcs
   have h2:=lt_of_heap hx
   have h3:wr.heap.size≤i:=hi
   refine ⟨⟨by omega,fun e=>by have:=ltK i e;omega,fun e=>?_⟩,keep6 i x hx (fun e=>by have:=ltY i e;omega) (by omega)⟩
   rcases hg7 i e with e' | e'
   ·have:=ltY i e';omega
   ·omega
end Go.Proofs.YtllmjhbopmkpoaaGreatDoor
namespace Go.Proofs.YtllmjhbopmkpoaaGreatDoor
open Go.RowKit
def cst:Nat→Nat
 | 0=>1
 | d+1=>5+17*cst d
def bnd:Nat→Nat
 | 0=>1
 | d+1=>1+17*bnd d
theorem cst_pos (d:Nat):2≤cst d∨d=0∧cst d=1:=by cases d <;> simp [cst];omega
theorem bnd_pos (d:Nat):1≤bnd d:=by cases d <;> simp [bnd]
theorem atom_one {s:Bs} (h:s∈atomTexts):∃ c,s=[c]:=by
 simp only [atomTexts,List.mem_cons,List.not_mem_nil,or_false] at h
 rcases h with rfl | rfl | rfl | rfl | rfl <;> exact ⟨_,rfl⟩
def BodyD (rd Q d:Nat) (hand:List Ty) (w:World) (en:Ending) (w':World):Prop :=
 ∃ (b:Bd) (s:Bs) (v:Int) (a2:Option Addr) (n2 c2:Nat) (a3:Option Addr) (n3 c3:Nat),en=.returned (.agg #[str s,.int .i64 v,.slice a2 n2 c2,.slice a3 n3 c3])∧But (· = rd) w w'∧RdAt w' rd Q ∧
   fitB hand b∧lvB b∧sizeB b≤bnd d∧Reps (w.heap.size≤·) w' (encN b) [str s,.int .i64 v,.slice a2 n2 c2,.slice a3 n3 c3]
def DrawB (rd d:Nat):Prop:=∀ (z:Int) (hand:List Ty) (F:Nat→Prop) (hv:Value) (w:World) (P:Nat),z≤d→-1000≤z→P+cst d≤1099511627776→RdAt w rd P→HandOk d hand→(∀ k,F k→k≠rd) →
 Rep F w (.sl 46 1 hand.length (encSs hand)) hv →
 Calls Tryz.prog 37 #[.pointer (some ⟨rd,0,none⟩),hv,.int .i64 z] w (BodyD rd (P+cst d) d hand w)
theorem StrSl.newAt {w:World} {rd:Nat} (hrd:rd<w.heap.size) (xs:List Bs) (n:Nat) (hn:n=xs.length) (e:TypeId) (g:Nat) (hg:g=w.heap.size):StrSl (w.alloc (.cells (xs.map str).toArray e)) rd (.slice (some ⟨g,0,none⟩) n n) xs:=by
 subst hg;exact StrSl.new hrd xs n hn e
theorem leaf_rep {F:Nat→Prop} {w:World} (c:UInt8):Reps F w (encN (.leaf c)) [str [c],.int .i64 0,.slice none 0 0,.slice none 0 0]:=by
 rw [encN]
 have h0:Rep F w (.sl 51 4 0 []) (.slice none 0 0):=Rep_sl.2 ⟨rfl,none,0,rfl,Nat.le_refl _,fun _=>rfl,.inl rfl⟩
 exact Reps_cons.2 ⟨_,_,rfl,Rep_val.2 rfl,Reps_cons.2 ⟨_,_,rfl,Rep_val.2 rfl,Reps_cons.2 ⟨_,_,rfl,h0,Reps_cons.2 ⟨_,_,rfl,h0,Reps_nil.2 rfl⟩⟩⟩⟩
def KidsD (w:World) (rd ob Z v P d:Nat) (hand:List Ty) (t:Ty) (k:Nat) (wr:World):Prop :=
 ∃ (pk:List Bd) (kv:List Value) (ks:Value) (nk:Nat),NodeD w rd ob Z v wr pk [] kv [] ks nk (.slice none 0 0) 0∧pk.length=k∧fitBs (hands hand (t.args.take k)) pk∧lvBs pk∧sizeBs pk≤k*bnd d∧RdAt wr rd (P+k*cst d)
def YesD (w:World) (rd ob Z v P d:Nat) (hand:List Ty) (pk:List Bd) (kv:List Value) (ks:Value) (nk:Nat) (k:Nat) (wr:World):Prop :=
 ∃ (py:List Bd) (yv:List Value) (ys:Value) (ny:Nat),NodeD w rd ob Z v wr pk py kv yv ks nk ys ny∧py.length=k∧(∀ b∈py,fitB hand b)∧lvBs py∧sizeBs py≤k*bnd d∧RdAt wr rd (P+k*(1+cst d))
theorem lvBs_append:∀ (xs ys:List Bd),lvBs xs→lvBs ys→lvBs (xs++ys)
 | [],ys,_,h=>by simpa using h
 | x::xs,ys,h1,h2=>by
   rw [lvBs] at h1
   simp only [List.cons_append]
   rw [lvBs]
   exact ⟨h1.1,lvBs_append xs ys h1.2 h2⟩
theorem lvBs_one {b:Bd} (h:lvB b):lvBs [b]:=by rw [lvBs];exact ⟨h,by rw [lvBs];trivial⟩
theorem rep_len {F:Nat→Prop} {w:World} {e:TypeId} {a:Option Addr} {c:Nat} {xs ys:List Ty} (h:Rep F w (.sl e 1 (xs++ys).length (encSs (xs++ys))) (.slice a (xs++ys).length c)) :
 Rep F w (.sl e 1 (xs++ys).length (encSs (xs++ys))) (.slice a (xs.length+ys.length) c):=by
 have e:xs.length+ys.length=(xs++ys).length:=by simp
 rw [e];exact h
theorem but_drew {m:Nat→Prop} {w w':World} (h:Below w.drew.heap.size w.drew w'):But m w w':=⟨h.os,h.tape,h.output,h.size,fun i hi _=>h.block i hi⟩
theorem but_drew2 {m:Nat→Prop} {w w':World} (h:But m w.drew w'):But m w w':=⟨h.os,h.tape,h.output,h.size,h.block⟩
theorem wrap_small (x:Int) (h1 : -2000≤x) (h2:x≤1000000):IntKind.i64.wrap x=x:=by
 simp [IntKind.wrap,IntKind.bits,IntKind.signed];omega
theorem wrap_sub (z:Int) (p:Nat) (h1:0<z) (h2:z≤1000) (h3:p<2):IntKind.i64.wrap (z-1-(p:Int))=z-1-p:=wrap_small _ (by omega) (by omega)
theorem sub_le {z:Int} {p d:Nat} (h2:z≤((d+1:Nat):Int)):z-1-(p:Int)≤d:=by omega
theorem sub_lo {z:Int} {p:Nat} (h1:0<z) (h3:p<2) : -1000≤z-1-(p:Int):=by omega
theorem reps_past {B B':Nat} {w:World} {o:Obj} {ds:List DV} {vs:List Value} (hB:B'≤B) (h:Reps (B≤·) w ds vs):Reps (B'≤·) (w.alloc o) ds vs :=
 (Rep.keep fun _ _ hi hx=>⟨Nat.le_trans hB hi,heap_past hx⟩).2 _ _ h
set_option maxRecDepth 100000 in
set_option maxHeartbeats 8000000 in
theorem l91Body_step (rd d:Nat) (hd:d≤100) (ih:∀ d',d=d'+1→DrawB rd d'):DrawB rd d:=by
 intro z hand F hv w P hz hzl hP hr hh hF hrep
 have IH:=Lib.hid ih;clear ih
 have hlt:=hr.lt
 have CST:=Lib.hid (cst_pos d)
 have BND:=Lib.hid (bnd_pos d)
 have hR0:RdAt (w.alloc (.cells #[str [],.int .i64 0,.slice none 0 0,.slice none 0 0] 51)) rd P:=hr.alloc _
 have hN0:NewN w.heap.size 0 (.slice none 0 0) (.slice none 0 0) (w.alloc (.cells #[str [],.int .i64 0,.slice none 0 0,.slice none 0 0] 51)):=heap_new _ _
 have hB0:But (· = rd) w (w.alloc (.cells #[str [],.int .i64 0,.slice none 0 0,.slice none 0 0] 51)):=(But.refl _ _).alloc _
 obtain ⟨a0,k0,e,_,_,hat⟩:=Rep_sl1_open hrep
 subst e
 have HAT:=Lib.hid hat;have HREP:=Lib.hid hrep;have HF:=Lib.hid hF;have HH:=Lib.hid hh
 have hlen:hand.length≤10000:=by have:=hh.2;omega
 clear hat hrep hF hh hr
 by_cases hz0:z≤0
 ·go_enter Tryz.func37,Tryz.ntmps37
  have H0:=Lib.hid (And.intro hR0 (And.intro hN0 hB0))
  have hltA:=H0.out.1.lt
  clear hR0 hN0 hB0
  go_wp2_with fail
  obtain ⟨hr0,hnr0,hbt0⟩:=H0.out
  refine (of_any rd (P) (.slice (some ⟨w.heap.size+1,0,none⟩) 5 5) atomTexts _ (hr0.alloc (.cells (atomTexts.map str).toArray 9)) (StrSl.newAt hltA atomTexts 5 rfl _ (w.heap.size+1) (by simp)) (by decide) (by decide) (by omega)).mono ?_
  rintro en w2 ⟨s,hs,rfl,hb2,hr2⟩
  obtain ⟨c,rfl⟩:=atom_one hs
  clear hs
  have hnr2:NewN w.heap.size 0 (.slice none 0 0) (.slice none 0 0) w2:=NewN.but (by unfold NewN;exact heap_past hnr0) hb2 (show ¬ w.heap.size=rd by omega)
  have hbt2:=(hbt0.alloc (.cells (atomTexts.map str).toArray 9)).trans hb2
  obtain ⟨r0,r1,r2,r3,rl,rf⟩:=hnr2.cells
  have rf0:=rf 0;have rf1:=rf 1;have rf2:=rf 2;have rf3:=rf 3;clear rf
  have HQ:=Lib.hid (And.intro hnr2 (And.intro hbt2 hr2));clear hnr2 hbt2 hr2 hb2 hnr0 hbt0 hr0
  go_wp2_with fail
  obtain ⟨hnr2,hbt2,hr2⟩:=HQ.out
  obtain ⟨W,hW,s0,s1,s2,s3,hbW,hkW,hrW⟩:=hnr2.storeB (str [c]) (.int .i64 0) (.slice none 0 0) (.slice none 0 0)
  rw [← hW]
  refine bodyPost_ret (v:=.agg #[str [c],.int .i64 0,.slice none 0 0,.slice none 0 0]) (by simp [results,Tryz.results37,go_sem,s0,s1,s2,s3]) rfl ?_
  exact ⟨.leaf c,[c],0,none,0,0,none,0,0,rfl,hbW _ _ hbt2 (Nat.le_refl _),(hrW _ _ hlt hr2).mono (by have:=CST.out;omega),by simp [fitB],by simp [lvB],by simp only [sizeB];exact BND.out,leaf_rep c⟩
 have hP2:P+2≤1099511627776:=by have:=CST.out;omega
 by_cases hnil:hand.length=0
 ·have hnil':((hand.length:Int) == 0)=true:=by rw [beq_iff_eq];omega
  go_enter Tryz.func37,Tryz.ntmps37
  have H0:=Lib.hid (And.intro hR0 (And.intro hN0 hB0))
  have hltA:=H0.out.1.lt
  clear hR0 hN0 hB0
  go_wp2_with fail
  obtain ⟨hr0,hnr0,hbt0⟩:=H0.out
  refine (of_any rd (P) (.slice (some ⟨w.heap.size+1,0,none⟩) 5 5) atomTexts _ (hr0.alloc (.cells (atomTexts.map str).toArray 9)) (StrSl.newAt hltA atomTexts 5 rfl _ (w.heap.size+1) (by simp)) (by decide) (by decide) (by omega)).mono ?_
  rintro en w2 ⟨s,hs,rfl,hb2,hr2⟩
  obtain ⟨c,rfl⟩:=atom_one hs
  clear hs
  have hnr2:NewN w.heap.size 0 (.slice none 0 0) (.slice none 0 0) w2:=NewN.but (by unfold NewN;exact heap_past hnr0) hb2 (show ¬ w.heap.size=rd by omega)
  have hbt2:=(hbt0.alloc (.cells (atomTexts.map str).toArray 9)).trans hb2
  obtain ⟨r0,r1,r2,r3,rl,rf⟩:=hnr2.cells
  have rf0:=rf 0;have rf1:=rf 1;have rf2:=rf 2;have rf3:=rf 3;clear rf
  have HQ:=Lib.hid (And.intro hnr2 (And.intro hbt2 hr2));clear hnr2 hbt2 hr2 hb2 hnr0 hbt0 hr0
  go_wp2_with fail
  obtain ⟨hnr2,hbt2,hr2⟩:=HQ.out
  obtain ⟨W,hW,s0,s1,s2,s3,hbW,hkW,hrW⟩:=hnr2.storeB (str [c]) (.int .i64 0) (.slice none 0 0) (.slice none 0 0)
  rw [← hW]
  refine bodyPost_ret (v:=.agg #[str [c],.int .i64 0,.slice none 0 0,.slice none 0 0]) (by simp [results,Tryz.results37,go_sem,s0,s1,s2,s3]) rfl ?_
  exact ⟨.leaf c,[c],0,none,0,0,none,0,0,rfl,hbW _ _ hbt2 (Nat.le_refl _),(hrW _ _ hlt hr2).mono (by have:=CST.out;omega),by simp [fitB],by simp [lvB],by simp only [sizeB];exact BND.out,leaf_rep c⟩
 have hnil':((hand.length:Int) == 0)=false:=by rw [beq_eq_false_iff_ne];omega
 go_enter Tryz.func37,Tryz.ntmps37
 go_wp2_with fail
 refine (pick_any rd P 5 _ hR0 (by omega) (by omega) (by omega)).mono ?_
 rintro en w1 ⟨p1,rfl,hp1,hb1,hr1⟩
 have hN1:=hN0.but hb1 (show ¬ w.heap.size=rd by omega)
 have hB1:=hB0.trans hb1
 by_cases hp0:p1=0
 ·subst hp0
  have H0:=Lib.hid (And.intro hr1 (And.intro hN1 hB1))
  have hltA:=H0.out.1.lt
  clear hr1 hN1 hB1
  go_wp2_with fail
  obtain ⟨hr0,hnr0,hbt0⟩:=H0.out
  refine (of_any rd (P+1) (.slice (some ⟨w1.heap.size,0,none⟩) 5 5) atomTexts _ (hr0.alloc (.cells (atomTexts.map str).toArray 9)) (StrSl.newAt hltA atomTexts 5 rfl _ (w1.heap.size) (by simp)) (by decide) (by decide) (by omega)).mono ?_
  rintro en w2 ⟨s,hs,rfl,hb2,hr2⟩
  obtain ⟨c,rfl⟩:=atom_one hs
  clear hs
  have hnr2:NewN w.heap.size 0 (.slice none 0 0) (.slice none 0 0) w2:=NewN.but (by unfold NewN;exact heap_past hnr0) hb2 (show ¬ w.heap.size=rd by omega)
  have hbt2:=(hbt0.alloc (.cells (atomTexts.map str).toArray 9)).trans hb2
  obtain ⟨r0,r1,r2,r3,rl,rf⟩:=hnr2.cells
  have rf0:=rf 0;have rf1:=rf 1;have rf2:=rf 2;have rf3:=rf 3;clear rf
  have HQ:=Lib.hid (And.intro hnr2 (And.intro hbt2 hr2));clear hnr2 hbt2 hr2 hb2 hnr0 hbt0 hr0
  go_wp2_with fail
  obtain ⟨hnr2,hbt2,hr2⟩:=HQ.out
  obtain ⟨W,hW,s0,s1,s2,s3,hbW,hkW,hrW⟩:=hnr2.storeB (str [c]) (.int .i64 0) (.slice none 0 0) (.slice none 0 0)
  rw [← hW]
  refine bodyPost_ret (v:=.agg #[str [c],.int .i64 0,.slice none 0 0,.slice none 0 0]) (by simp [results,Tryz.results37,go_sem,s0,s1,s2,s3]) rfl ?_
  exact ⟨.leaf c,[c],0,none,0,0,none,0,0,rfl,hbW _ _ hbt2 (Nat.le_refl _),(hrW _ _ hlt hr2).mono (by have:=CST.out;omega),by simp [fitB],by simp [lvB],by simp only [sizeB];exact BND.out,leaf_rep c⟩
 have hp0':((p1:Int) == 0)=false:=by rw [beq_eq_false_iff_ne];omega
 obtain ⟨d',hd'⟩:∃ d',d=d'+1:=⟨d-1,by omega⟩
 have hih:=IH.out d' hd'
 subst hd'
 have IHD:=Lib.hid hih;clear hih
 have hcs:cst (d'+1)=5+17*cst d':=rfl
 have hbs:bnd (d'+1)=1+17*bnd d':=rfl
 go_wp2_with fail
 refine (pick_any rd (P+1) hand.length w1 hr1 (by omega) (by omega) (by omega)).mono ?_
 rintro en w2 ⟨v,rfl,hv,hb2,hr2⟩
 have hN2:=hN1.but hb2 (show ¬ w.heap.size=rd by omega)
 have hB2:=hB1.trans hb2
 obtain ⟨bl,ol,u,dv,ea,hFl,hbl,hdv,hcl2,hru⟩:=HAT.out v hv
 rw [encSs_at,Option.map_eq_some_iff] at hdv
 obtain ⟨t,ht,rfl⟩:=hdv
 obtain ⟨sa,sk,rfl⟩:=encS_slice hru
 have hru':=hru
 rw [encS_eq] at hru'
 obtain ⟨_,_,est,_,_,hats⟩:=Rep_sl1_open hru'
 simp only [Value.slice.injEq] at est
 obtain ⟨rfl,_,rfl⟩:=est
 subst ea
 have hta:t.args.length≤15:=by
  have h1:=HH.out.1 t (List.mem_of_getElem? ht)
  have h2:=atomsT_mk t
  have:=length_le_atomsTs t.args;omega
 have HT:=Lib.hid ht;have HATS:=Lib.hid hats
 have hblr:=HF.out bl hFl
 have z1:=hb1.size
 rw [size_alloc] at z1
 have z2:=hb2.size
 have hobw:w.heap.size<w2.heap.size:=by omega
 have hrdo:rd<w2.heap.size:=by omega
 have hrel0:KidsD w rd w2.heap.size (w2.heap.size+1) v (P+2) d' hand t 0 (w2.alloc (.cells #[str [],.int .i64 v,.slice none 0 0,.slice none 0 0] 51)):=by
  refine ⟨[],[],.slice none 0 0,0,⟨rfl,rfl,⟨_,_,rfl⟩,⟨_,_,rfl⟩,hB2.alloc _,by unfold NewN;exact heap_past hN2,heap_new _ _,World.ownsRow_nil _ _ _ _,World.ownsRow_nil _ _ _ _,fun g h=>by simp [Value.ownBlock] at h,fun g h=>by simp [Value.ownBlock] at h,Reps_nil.2 rfl,Reps_nil.2 rfl,by simp⟩,rfl,by simp [fitBs,hands],by simp [lvBs],by simp [sizeBs],?_⟩
  have:=hr2.alloc (.cells #[str [],.int .i64 v,.slice none 0 0,.slice none 0 0] 51)
  simpa using this
 have hne2:w2.heap.size≠rd:=by omega
 have ZZ1:=Lib.hid (wrap_small (z-1) (by omega) (by omega))
 have zz2:z-1≤d':=by omega
 have zz3 : -1000≤z-1:=by omega
 have zz4:z≤1000:=by omega
 have zz0:0<z:=by omega
 have h04:0<4:=by omega
 have hv':(v:Int)<(hand.length:Int):=by omega
 clear ht hats hru' hN2 hB2 hb2 hb1 hN1 hB1 hN0 hB0 hr1 hr2 z1 z2 hR0
 go_wp2_with fail
 go_loopw [9] (fun i wr=>∃ k:Nat,k≤t.args.length∧i=.int .i64 k∧KidsD w rd w2.heap.size (w2.heap.size+1) v (P+2) d' hand t k wr) (fun i _=>t.args.length-(intOf i).toNat)
 case atStart=>exact ⟨0,Nat.zero_le _,rfl,hrel0⟩
 case round =>
  clear hrel0
  obtain ⟨k,hk,rfl,pk,kv,ks,nk,hN,hpk,hfk,hlk,hsk,hrk⟩:=hrel
  have hbut:=hN.but
  obtain ⟨ka,kc,eks⟩:=hN.ksl
  subst eks
  have e0:=but_cell hbut hblr hcl2
  have HN:=Lib.hid hN;have HFK:=Lib.hid hfk;have HLK:=Lib.hid hlk;have HPK:=Lib.hid hpk
  obtain ⟨q0,q1,q2,q3,ql,qf⟩:=hN.out.cells
  have qf2:=qf 2;clear qf
  have hnk:nk≤15:=by have:=hN.hnk;omega
  have hm1:nk+1≤maxLen:=by unfold maxLen;omega
  have hby:(nk+1)*72≤140737488355328:=by omega
  have hk15:k*cst d'≤15*cst d':=Nat.mul_le_mul_right _ (by omega)
  have hQ:(P+2+k*cst d')+cst d'≤1099511627776:=by omega
  clear hfk hlk hN hpk
  by_cases hlt9:k<t.args.length
  ·obtain ⟨ba,oa,uk,dk,esa,hFa,hba,hdk,hck,hrk2⟩:=HATS.out k hlt9
   subst esa
   rw [encSs_at,Option.map_eq_some_iff] at hdk
   obtain ⟨tk,htk,rfl⟩:=hdk
   obtain ⟨ua,uc,rfl⟩:=encS_slice hrk2
   have hbar:=HF.out ba hFa
   have e1:=but_cell hbut hbar hck
   have hrk':Rep F wr.drew (encS tk) (.slice ua tk.args.length uc):=(Rep.but hbut (fun b hb=>⟨HF.out b hb,hb⟩) hrk2).drew
   have hr':=(Rep.but hbut (fun b hb=>⟨HF.out b hb,hb⟩) HREP.out).drew
   have hhk:HandOk d' (hand++tk.args):=HH.out.next HT.out (List.mem_of_getElem? htk)
   have hlk:Lim (hand.length+tk.args.length):=by have:=hhk.2;simp at this;show _≤_;omega
   have HTK:=Lib.hid htk
   have hF5:∀ g,(F g∨wr.drew.heap.size≤g)→g≠rd:=fun g hg=>by
    rcases hg with h | h
    ·exact HF.out g h
    ·have h2:wr.heap.size≤g:=h
     omega
   have C1:=Lib.hid (l3Hand_any F hand tk _ _ wr.drew hr' hrk' hlk)
   have hrkd:=hrk.drew
   have C2:=Lib.hid (fun a5 c5 w5 (h5:Below wr.drew.heap.size wr.drew w5) (hr5:Rep (fun k=>F k∨wr.drew.heap.size≤k) w5 (.sl 46 1 (hand++tk.args).length (encSs (hand++tk.args))) (.slice a5 (hand++tk.args).length c5)) =>
    IHD.out (z-1) (hand++tk.args) (fun k=>F k∨wr.drew.heap.size≤k) (.slice a5 (hand.length+tk.args.length) c5) w5 (P+2+k*cst d') zz2 zz3 hQ (hrkd.below h5) hhk hF5 (rep_len hr5))
   have OWN:=Lib.hid (fun w5 w6 (h5:But (· = rd) wr w5) (h6:But (· = rd) w5 w6)=>own_thru HN.out.ownK (fun g hg=>by have:=(HN.out.blkK g hg).1;omega) h5 h6)
   have NB:=Lib.hid (show ¬ (Value.slice ka nk kc).ownBlock=some w2.heap.size from fun e=>by have:=(HN.out.blkK _ e).1;omega)
   have hlt9':(k:Int)<(t.args.length:Int):=by omega
   clear htk hck hrk2 hrk' hr' hhk hlk hF5 hrk hrkd
   have zz1:=ZZ1.out
   go_wp2_with fail
   go_region_law (first
    | (refine step_append_gen (by rfl) _ _ _ (by rfl) 51 (.agg #[str [],.int .i64 0,.slice none 0 0,.slice none 0 0]) 4 72 Tryz.underlying49 Tryz.infoN rfl h04 (.slice ka nk kc) nk kv (by rfl) (OWN6.out.alloc _) _ 1 [str s6,.int .i64 v6,.slice a2 n2 k2,.slice a3 n3 k3] (by rfl) (SrcSl.lit4 #[str s6,.int .i64 v6,.slice a2 n2 k2,.slice a3 n3 k3] rfl (by simp [str,Value.oneCell']) _ rfl) hm1 hby ?_;intro a' c' w7 ho7 hb7 hg7;have hc7:=out_cell hb7 NB.out q26;have hf7:=out_free hb7 NB.out ql6 qf26)
    | (go_simp;go_at_call 37;refine (C2.out _ _ _ hb5 hr5).mono ?_;rintro en6 w6 ⟨b,s6,v6,a2,n2,k2,a3,n3,k3,rfl,hb6,hr6,hf6,hl6,hs6,hc6⟩;have q26:=but_cell hb6 hne2 q25;have ql6:=Nat.lt_of_lt_of_le ql5 hb6.size;have qf26:=but_free hb6 hne2 ql5 qf25;have OWN6:=Lib.hid (OWN.out _ _ hbt5 hb6))
    | (go_simp;go_at_call 73;refine C1.out.mono ?_;rintro en5 w5 ⟨a5,c5,rfl,hb5,hr5⟩;have hbt5:But (· = rd) wr w5:=but_drew hb5;have q25:=but_cell hbt5 hne2 q2;have ql5:=Nat.lt_of_lt_of_le ql hbt5.size;have qf25:=but_free hbt5 hne2 ql qf2))
   all_goals
    clear zz1
    have hA:=HN.out.kid hlt (Nat.lt_succ_self _) hobw ((hbt5.trans hb6).alloc _) (reps_past hbt5.size hc6) ho7 hb7 hg7
    have hrd7:RdAt (w7.setCell ⟨w2.heap.size,2,none⟩ (.slice a' (nk+1) c')) rd (P+2+(k+1)*cst d'):=by
     refine RdAt.mono (RdAt.but (m:=fun i=>i=w2.heap.size∨(Value.slice ka nk kc).ownBlock=some i) (hr6.alloc (.cells #[str s6,.int .i64 v6,.slice a2 n2 k2,.slice a3 n3 k3] 51)) (But.setCell (hb7.weak fun i _ h=>.inr h) (.inl (.inl rfl)) _) ?_) (by rw [Nat.succ_mul];omega)
     intro i hi h
     rcases h with h | h
     ·omega
     ·have:=(HN.out.blkK _ h).1;omega
    have hfk':fitBs (hands hand (t.args.take (k+1))) (pk++[b]):=by
     rw [hands_take HTK.out]
     exact fitBs_append _ _ _ _ HFK.out ⟨_,_,rfl,hf6,by rw [fitBs]⟩
    have hs7:sizeBs (pk++[b])≤(k+1)*bnd d':=by rw [sizeBs_append,Nat.succ_mul];simp only [sizeBs];omega
    have HREL:Hid (KidsD w rd w2.heap.size (w2.heap.size+1) v (P+2) d' hand t (k+1) (w7.setCell ⟨w2.heap.size,2,none⟩ (.slice a' (nk+1) c'))) :=
     ⟨pk++[b],_,_,_,hA,by simp [HPK.out],hfk',lvBs_append _ _ HLK.out (lvBs_one hl6),hs7,hrd7⟩
    clear hA hrd7 hfk' hs7 hf6 hl6 hs6 hc6 ho7 hb7 hg7 hr6 hr5
    go_wp2_with fail
    go_roundw
    case rel=>exact ⟨k+1,by omega,by go_num,HREL.out⟩
    case measure=>simp [intOf];omega
  ·obtain rfl:k=t.args.length:=by omega
   have hnlt:¬ ((t.args.length:Int)<(t.args.length:Int)):=by omega
   have HFA:Hid (fitBs (hands hand t.args) pk):=by have:=HFK.out;rwa [List.take_length] at this
   have HSK:=Lib.hid hsk
   have hrel2:YesD w rd w2.heap.size (w2.heap.size+1) v (P+2+t.args.length*cst d') d' hand pk kv (.slice ka nk kc) nk 0 wr :=
    ⟨[],[],.slice none 0 0,0,HN.out,rfl,by simp,by simp [lvBs],by simp [sizeBs],by simpa using hrk⟩
   have HHS:Hid (HandOk d' hand):=by have:=HH.out.same;rw [List.append_nil] at this;exact this
   clear hrk hsk HFK hlt9 hbut
   go_wp2_with fail
   clear HN q0 q1 q2 q3 ql qf2 e0 hnlt
   go_loopw [10] (fun i wr=>∃ k:Nat,k≤2∧i=.int .i64 k∧YesD w rd w2.heap.size (w2.heap.size+1) v (P+2+t.args.length*cst d') d' hand pk kv (.slice ka nk kc) nk k wr) (fun i _=>2-(intOf i).toNat)
   case atStart=>exact ⟨0,by omega,rfl,hrel2⟩
   case round =>
    clear hrel2
    obtain ⟨k,hk,rfl,py,yv,ys,ny,hN,hpy,hfy,hly,hsy,hry⟩:=hrel
    have hbut:=hN.but
    obtain ⟨ya,yc,eys⟩:=hN.ysl
    subst eys
    have HN:=Lib.hid hN;have HFY:=Lib.hid hfy;have HLY:=Lib.hid hly;have HPY:=Lib.hid hpy;have HSY:=Lib.hid hsy
    obtain ⟨q0,q1,q2,q3,ql,qf⟩:=hN.out.cells
    have qf3:=qf 3;clear qf
    have hny:ny≤2:=by have:=hN.hny;omega
    have hm1:ny+1≤maxLen:=by unfold maxLen;omega
    have hby:(ny+1)*72≤140737488355328:=by omega
    have hk2c:k*(1+cst d')≤2*(1+cst d'):=Nat.mul_le_mul_right _ (by omega)
    have hQ1:P+2+t.args.length*cst d'+k*(1+cst d')≤1099511627776:=by omega
    clear hfy hly hpy hsy
    by_cases hlt10:k<2
    ·have hk1c:k*(1+cst d')≤1*(1+cst d'):=Nat.mul_le_mul_right _ (by omega)
     have hQ2:P+2+t.args.length*cst d'+k*(1+cst d')+1+cst d'≤1099511627776:=by omega
     have hrw:=Rep.but hbut (fun b hb=>⟨HF.out b hb,hb⟩) HREP.out
     have C1:=Lib.hid (pick_any rd (P+2+t.args.length*cst d'+k*(1+cst d')) 2 wr.drew hry.drew (by omega) (by omega) hQ1)
     have C2:=Lib.hid (fun w5 (h5:But (· = rd) wr w5) (p5:Nat) (hp5:p5<2) (hr5:RdAt w5 rd (P+2+t.args.length*cst d'+k*(1+cst d')+1)) =>
      IHD.out (z-1-(p5:Int)) hand F (.slice (some ⟨bl,ol,none⟩) hand.length k0) w5 (P+2+t.args.length*cst d'+k*(1+cst d')+1) (sub_le hz) (sub_lo zz0 hp5) hQ2 hr5 HHS.out HF.out (Rep.but h5 (fun b hb=>⟨HF.out b hb,hb⟩) hrw))
     have OWN:=Lib.hid (fun w5 w6 (h5:But (· = rd) wr w5) (h6:But (· = rd) w5 w6)=>own_thru HN.out.ownY (fun g hg=>by have:=HN.out.blkY g hg;omega) h5 h6)
     have NB:=Lib.hid (show ¬ (Value.slice ya ny yc).ownBlock=some w2.heap.size from fun e=>by have:=HN.out.blkY _ e;omega)
     have hlt10':(k:Int)<2:=by omega
     clear hrw hry hN hbut q2
     have zz1:=ZZ1.out
     go_wp2_with fail
     go_region_law (first
      | (refine step_append_gen (by rfl) _ _ _ (by rfl) 51 (.agg #[str [],.int .i64 0,.slice none 0 0,.slice none 0 0]) 4 72 Tryz.underlying49 Tryz.infoN rfl h04 (.slice ya ny yc) ny yv (by rfl) (OWN6.out.alloc _) _ 1 [str s6,.int .i64 v6,.slice a2 n2 k2,.slice a3 n3 k3] (by rfl) (SrcSl.lit4 #[str s6,.int .i64 v6,.slice a2 n2 k2,.slice a3 n3 k3] rfl (by simp [str,Value.oneCell']) _ rfl) hm1 hby ?_;intro a' c' w7 ho7 hb7 hg7;have hc7:=out_cell hb7 NB.out q36;have hf7:=out_free hb7 NB.out ql6 qf36)
      | (go_simp;go_at_call 37;refine (C2.out _ hbt5 _ hp5 hr5).mono ?_;rintro en6 w6 ⟨b,s6,v6,a2,n2,k2,a3,n3,k3,rfl,hb6,hr6,hf6,hl6,hs6,hc6⟩;have q36:=but_cell hb6 hne2 q35;have ql6:=Nat.lt_of_lt_of_le ql5 hb6.size;have qf36:=but_free hb6 hne2 ql5 qf35;have OWN6:=Lib.hid (OWN.out _ _ hbt5 hb6))
      | (go_simp;go_at_call 21;refine C1.out.mono ?_;rintro en5 w5 ⟨p5,rfl,hp5,hb5,hr5⟩;have hbt5:But (· = rd) wr w5:=but_drew2 hb5;have q35:=but_cell hbt5 hne2 q3;have ql5:=Nat.lt_of_lt_of_le ql hbt5.size;have qf35:=but_free hbt5 hne2 ql qf3;have zz5:=wrap_sub z p5 zz0 zz4 hp5))
     all_goals
      clear zz1 zz5
      have hA:=HN.out.yes hlt (Nat.lt_succ_self _) hobw ((hbt5.trans hb6).alloc _) (reps_past hbt5.size hc6) ho7 hb7 hg7
      have hrd7:RdAt (w7.setCell ⟨w2.heap.size,3,none⟩ (.slice a' (ny+1) c')) rd (P+2+t.args.length*cst d'+(k+1)*(1+cst d')):=by
       refine RdAt.mono (RdAt.but (m:=fun i=>i=w2.heap.size∨(Value.slice ya ny yc).ownBlock=some i) (hr6.alloc (.cells #[str s6,.int .i64 v6,.slice a2 n2 k2,.slice a3 n3 k3] 51)) (But.setCell (hb7.weak fun i _ h=>.inr h) (.inl (.inl rfl)) _) ?_) (by rw [Nat.succ_mul];omega)
       intro i hi h
       rcases h with h | h
       ·omega
       ·have:=HN.out.blkY _ h;omega
      have hfy':∀ x∈py++[b],fitB hand x:=by
       intro x hx
       rcases List.mem_append.1 hx with h | h
       ·exact HFY.out x h
       ·simp at h;subst h;exact hf6
      have hs7:sizeBs (py++[b])≤(k+1)*bnd d':=by have:=HSY.out;rw [sizeBs_append,Nat.succ_mul];simp only [sizeBs];omega
      have HREL:Hid (YesD w rd w2.heap.size (w2.heap.size+1) v (P+2+t.args.length*cst d') d' hand pk kv (.slice ka nk kc) nk (k+1) (w7.setCell ⟨w2.heap.size,3,none⟩ (.slice a' (ny+1) c'))) :=
       ⟨py++[b],_,_,_,hA,by simp [HPY.out],hfy',lvBs_append _ _ HLY.out (lvBs_one hl6),hs7,hrd7⟩
      clear hA hrd7 hfy' hs7 hf6 hl6 hs6 hc6 ho7 hb7 hg7 hr6 hr5
      go_wp2_with fail
      go_roundw
      case rel=>exact ⟨k+1,by omega,by go_num,HREL.out⟩
      case measure=>simp [intOf];omega
    ·obtain rfl:k=2:=by omega
     obtain ⟨r0,r1,r2,r3,rl,rf⟩:=hN.res.cells
     have rf0:=rf 0;have rf1:=rf 1;have rf2:=rf 2;have rf3:=rf 3;clear rf
     have HRY:=Lib.hid hry
     clear hry hN hbut
     go_wp2_with fail
     have hN:=HN.out
     obtain ⟨W,hW,s0,s1,s2,s3,hbW,hkW,hrW⟩:=hN.res.storeB (str []) (.int .i64 v) (.slice ka nk kc) (.slice ya ny yc)
     rw [← hW]
     refine bodyPost_ret (v:=.agg #[str [],.int .i64 v,.slice ka nk kc,.slice ya ny yc]) (by simp [results,Tryz.results37,go_sem,s0,s1,s2,s3]) rfl ?_
     have hpy:=HPY.out
     obtain ⟨y1,y2,rfl⟩:∃ y1 y2,py=[y1,y2]:=by
      match py,hpy with
      | [a,b],_=>exact ⟨a,b,rfl⟩
     have hly:=HLY.out
     rw [lvBs,lvBs] at hly
     have hsy:=HSY.out
     have hsk:=HSK.out
     simp only [sizeBs] at hsy
     have hb15:t.args.length*bnd d'≤15*bnd d':=Nat.mul_le_mul_right _ (by omega)
     have hnk':=hN.hnk
     have hny':ny=2:=hN.hny
     subst hny'
     refine ⟨.ask v pk y1 y2,[],v,ka,nk,kc,ya,2,yc,rfl,hbW _ _ hN.but (Nat.le_refl _),(hrW _ _ hlt HRY.out).mono (by omega),?_,?_,?_,?_⟩
     ·rw [fitB];exact ⟨t,HT.out,HFA.out,HFY.out y1 (by simp),HFY.out y2 (by simp)⟩
     ·rw [lvB];exact ⟨by omega,HLK.out,hly.1,hly.2.1⟩
     ·simp only [sizeB];omega
     ·rw [encN_ask]
      refine Reps_cons.2 ⟨_,_,rfl,Rep_val.2 rfl,Reps_cons.2 ⟨_,_,rfl,Rep_val.2 rfl,Reps_cons.2 ⟨_,_,rfl,?_,Reps_cons.2 ⟨_,_,rfl,?_,Reps_nil.2 rfl⟩⟩⟩⟩
      ·rw [← hnk']
       refine (hN.ownK.keep fun g o hg ho=>hkW g o (by have:=(hN.blkK g hg).1;omega) ho).rep (fun g hg=>by have:=(hN.blkK g hg).1;omega) ?_
       exact (Rep.keep fun x o hx ho=>⟨by have:=hx.1;omega,hkW x o (by have:=hx.1;omega) ho⟩).2 _ _ hN.repK
      ·refine (hN.ownY.keep fun g o hg ho=>hkW g o (by have:=hN.blkY g hg;omega) ho).rep (fun g hg=>by have:=hN.blkY g hg;omega) ?_
       exact (Rep.keep fun x o hx ho=>⟨by have:=hx.1;omega,hkW x o (by have:=hx.1;omega) ho⟩).2 _ _ hN.repY
theorem l91Body_any (rd d:Nat) (hd:d≤100):DrawB rd d:=by
 induction d with
 | zero=>exact l91Body_step rd 0 hd (fun d' h=>by omega)
 | succ d ih=>exact l91Body_step rd (d+1) hd (fun d' h=>by rw [← Nat.succ.inj h];exact ih (by omega))
end Go.Proofs.YtllmjhbopmkpoaaGreatDoor

/- Walks of functions that the statement reaches, and plain words. No conditions. -/
import Derived.Deep.RegionLaw
import Derived.Test.YtfedjhgaeikjmaaGreatDoorQ11
set_option linter.unusedVariables false
set_option linter.unusedSimpArgs false
set_option maxHeartbeats 16000000
namespace Go.Proofs.YtfedjhgaeikjmaaGreatDoor
open Go.RowKit
theorem kM.storeB {ob:Nat} {v:Int} {ks ys:Value} {w:World} (h:kM ob v ks ys w) (u0 u1 u2 u3:Value) :
 ∃ W,W=((((w.setCell ⟨ob,0,none⟩ u0).setCell ⟨ob,1,none⟩ u1).setCell ⟨ob,2,none⟩ u2).setCell ⟨ob,3,none⟩ u3) /\
   W.cell? ⟨ob,0,none⟩=some u0/\W.cell? ⟨ob,1,none⟩=some u1/\W.cell? ⟨ob,2,none⟩=some u2/\W.cell? ⟨ob,3,none⟩=some u3 /\
   (∀ (m:Nat->Prop) w0,But m w0 w->w0.heap.size<=ob->But m w0 W)/\(∀ i x,i≠ob->w.heap[i]? = some x->W.heap[i]? = some x)/\(∀ rd P,rd<ob->kg w rd P->kg W rd P):=by
 obtain ⟨W,hW,s0,s1,s2,s3,_,hk⟩:=h.store u0 u1 u2 u3
 have hB:∀ (m:Nat->Prop) w0,But m w0 w->(m ob\/w0.heap.size<=ob)->But m w0 W:=by
  intro m w0 hb ho
  rw [hW]
  exact ((((hb.setCell (p:=⟨ob,0,none⟩) ho _).setCell (p:=⟨ob,1,none⟩) ho _).setCell (p:=⟨ob,2,none⟩) ho _).setCell (p:=⟨ob,3,none⟩) ho _)
 refine ⟨W,hW,s0,s1,s2,s3,fun m w0 hb ho=>hB m w0 hb (.inr ho),hk,fun rd P cQ hr=>?_⟩
 exact hr.but (hB (· = ob) w (But.refl _ _) (.inl rfl)) (fun i hi e=>by omega)
structure pI (w:World) (rd ob Z:Nat) (v:Int) (wr:World) (pk py:List Bd) (kv yv:List Value) (ks:Value) (nk:Nat) (ys:Value) (ny:Nat):Prop where
 hnk:nk=pk.length
 hny:ny=py.length
 ksl:∃ a c,ks=.slice a nk c
 ysl:∃ a c,ys=.slice a ny c
 but:But (· = rd) w wr
 res:kM w.heap.size 0 (.slice none 0 0) (.slice none 0 0) wr
 out:kM ob v ks ys wr
 ownK:Own wr 64 4 ks nk kv
 ownY:Own wr 64 4 ys ny yv
 blkK:∀ g,ks.ownBlock=some g->Z<=g/\ys.ownBlock≠some g
 blkY:∀ g,ys.ownBlock=some g->Z<=g
 repK:zv (fun b=>Z<=b/\ks.ownBlock≠some b/\ys.ownBlock≠some b) wr (kS pk) kv
 repY:zv (fun b=>Z<=b/\ks.ownBlock≠some b/\ys.ownBlock≠some b) wr (kS py) yv
 z:Z<=wr.heap.size
theorem pI.kid {w:World} {rd ob Z:Nat} {v:Int} {wr:World} {pk py:List Bd} {kv yv:List Value} {ks ys:Value} {nk ny:Nat}
 (h:pI w rd ob Z v wr pk py kv yv ks nk ys ny) (fK:rd<w.heap.size) (oN:ob<Z) (hwo:w.heap.size<ob) {W w7:World} {b:Bd} {cs:List Value} {a':Option Addr} {c':Nat}
 (cI:But (· = rd) wr W) (hcs:zv (wr.heap.size<=·) W (qZ b) cs) (cL:Own w7 64 4 (.slice a' (nk+1) c') (nk+1) (kv++cs)) (cP:But (fun i=>ks.ownBlock=some i) W w7)
 (ch:∀ g,(Value.slice a' (nk+1) c').ownBlock=some g->ks.ownBlock=some g\/g=W.heap.size) :
 pI w rd ob Z v (w7.setCell ⟨ob,2,none⟩ (.slice a' (nk+1) c')) (pk++[b]) py (kv++cs) yv (.slice a' (nk+1) c') (nk+1) ys ny:=by
 have z6:=cI.size
 have z7:=cP.size
 have zr:=h.z
 have zb:=h.but.size
 have keep:∀ i x,wr.heap[i]? = some x->ks.ownBlock≠some i->i≠ob->i≠rd->(w7.setCell ⟨ob,2,none⟩ (.slice a' (nk+1) c')).heap[i]? = some x:=by
  intro i x hx h1 h2 h3
  have:=zZ hx
  rw [bf _ _ _ _ (by simpa using h2),cP.block i (by omega) h1,cI.block i this h3];exact hx
 have fw:∀ i x,W.heap[i]? = some x->ks.ownBlock≠some i->i≠ob->(w7.setCell ⟨ob,2,none⟩ (.slice a' (nk+1) c')).heap[i]? = some x:=by
  intro i x hx h1 h2
  have:=zZ hx
  rw [bf _ _ _ _ (by simpa using h2),cP.block i (by omega) h1];exact hx
 have ltK:∀ g,ks.ownBlock=some g->g<wr.heap.size:=fun g hg=>h.ownK.lt hg
 have ltY:∀ g,ys.ownBlock=some g->g<wr.heap.size:=fun g hg=>h.ownY.lt hg
 have nK:∀ i,i<Z->ks.ownBlock≠some i:=fun i hi e=>by have:=(h.blkK i e).1;omega
 have newg:∀ g,(Value.slice a' (nk+1) c').ownBlock=some g->Z<=g:=fun g hg=>by
  rcases ch g hg with e | e
  ·exact (h.blkK g e).1
  ·omega
 refine ⟨by simp [h.hnk],h.hny,⟨_,_,rfl⟩,h.ysl,?_,?_,?_,?_,?_,?_,h.blkY,?_,?_,by simp [World.setCell];omega⟩
 ·refine But.setCell ?_ (.inr (show w.heap.size<=ob by omega)) _
  exact (h.but.trans cI).trans' cP (fun i hi e=>absurd e (nK i (by omega)))
 ·exact keep _ _ h.res (nK _ (by omega)) (by omega) (by omega)
 ·have h1:kM ob v ks ys w7:=by
   unfold kM;rw [cP.block ob (by omega) (nK _ oN),cI.block ob (by omega) (show ¬ ob=rd by omega)];exact h.out
  exact h1.put2
 ·exact cL.keep fun g o hg ho=>by rw [bf _ _ _ _ (by have:=newg g hg;simp;omega)];exact ho
 ·exact h.ownY.keep fun g o hg ho=>keep g o ho (fun e=>(h.blkK g e).2 hg) (by have:=h.blkY g hg;omega) (by have:=h.blkY g hg;omega)
 ·intro g hg
  refine ⟨newg g hg,fun e=>?_⟩
  rcases ch g hg with e' | e'
  ·exact (h.blkK g e').2 e
  ·have:=ltY g e;omega
 ·rw [jH]
  have h1:=h.repK
  refine zv.append ((Rep.keep fun i x hi hx=>⟨⟨hi.1,fun e=>(ch i e).elim (fun e'=>hi.2.1 e') (fun e'=>by have:=zZ hx;omega),hi.2.2⟩,keep i x hx hi.2.1 (by have:=hi.1;omega) (by have:=hi.1;omega)⟩).2 _ _ h1) ?_
  ·have e1:kS [b]=qZ b:=by simp [kS]
   rw [e1]
   refine (Rep.keep fun i x hi hx=>?_).2 _ _ hcs
   have h2:=zZ hx
   have h3:wr.heap.size<=i:=hi
   refine ⟨⟨by omega,fun e=>?_,fun e=>by have:=ltY i e;omega⟩,fw i x hx (fun e=>by have:=ltK i e;omega) (by omega)⟩
   rcases ch i e with e' | e'
   ·have:=ltK i e';omega
   ·omega
 ·exact (Rep.keep fun i x hi hx=>⟨⟨hi.1,fun e=>(ch i e).elim (fun e'=>hi.2.1 e') (fun e'=>by have:=zZ hx;omega),hi.2.2⟩,keep i x hx hi.2.1 (by have:=hi.1;omega) (by have:=hi.1;omega)⟩).2 _ _ h.repY
theorem pI.yes {w:World} {rd ob Z:Nat} {v:Int} {wr:World} {pk py:List Bd} {kv yv:List Value} {ks ys:Value} {nk ny:Nat}
 (h:pI w rd ob Z v wr pk py kv yv ks nk ys ny) (fK:rd<w.heap.size) (oN:ob<Z) (hwo:w.heap.size<ob) {W w7:World} {b:Bd} {cs:List Value} {a':Option Addr} {c':Nat}
 (cI:But (· = rd) wr W) (hcs:zv (wr.heap.size<=·) W (qZ b) cs) (cL:Own w7 64 4 (.slice a' (ny+1) c') (ny+1) (yv++cs)) (cP:But (fun i=>ys.ownBlock=some i) W w7)
 (ch:∀ g,(Value.slice a' (ny+1) c').ownBlock=some g->ys.ownBlock=some g\/g=W.heap.size) :
 pI w rd ob Z v (w7.setCell ⟨ob,3,none⟩ (.slice a' (ny+1) c')) pk (py++[b]) kv (yv++cs) ks nk (.slice a' (ny+1) c') (ny+1):=by
 have z6:=cI.size
 have z7:=cP.size
 have zr:=h.z
 have zb:=h.but.size
 have keep:∀ i x,wr.heap[i]? = some x->ys.ownBlock≠some i->i≠ob->i≠rd->(w7.setCell ⟨ob,3,none⟩ (.slice a' (ny+1) c')).heap[i]? = some x:=by
  intro i x hx h1 h2 h3
  have:=zZ hx
  rw [bf _ _ _ _ (by simpa using h2),cP.block i (by omega) h1,cI.block i this h3];exact hx
 have fw:∀ i x,W.heap[i]? = some x->ys.ownBlock≠some i->i≠ob->(w7.setCell ⟨ob,3,none⟩ (.slice a' (ny+1) c')).heap[i]? = some x:=by
  intro i x hx h1 h2
  have:=zZ hx
  rw [bf _ _ _ _ (by simpa using h2),cP.block i (by omega) h1];exact hx
 have ltK:∀ g,ks.ownBlock=some g->g<wr.heap.size:=fun g hg=>h.ownK.lt hg
 have ltY:∀ g,ys.ownBlock=some g->g<wr.heap.size:=fun g hg=>h.ownY.lt hg
 have nY:∀ i,i<Z->ys.ownBlock≠some i:=fun i hi e=>by have:=h.blkY i e;omega
 have newg:∀ g,(Value.slice a' (ny+1) c').ownBlock=some g->Z<=g:=fun g hg=>by
  rcases ch g hg with e | e
  ·exact h.blkY g e
  ·omega
 refine ⟨h.hnk,by simp [h.hny],h.ksl,⟨_,_,rfl⟩,?_,?_,?_,?_,?_,?_,newg,?_,?_,by simp [World.setCell];omega⟩
 ·refine But.setCell ?_ (.inr (show w.heap.size<=ob by omega)) _
  exact (h.but.trans cI).trans' cP (fun i hi e=>absurd e (nY i (by omega)))
 ·exact keep _ _ h.res (nY _ (by omega)) (by omega) (by omega)
 ·have h1:kM ob v ks ys w7:=by
   unfold kM;rw [cP.block ob (by omega) (nY _ oN),cI.block ob (by omega) (show ¬ ob=rd by omega)];exact h.out
  exact h1.put3
 ·exact h.ownK.keep fun g o hg ho=>keep g o ho (h.blkK g hg).2 (by have:=(h.blkK g hg).1;omega) (by have:=(h.blkK g hg).1;omega)
 ·exact cL.keep fun g o hg ho=>by rw [bf _ _ _ _ (by have:=newg g hg;simp;omega)];exact ho
 ·intro g hg
  refine ⟨(h.blkK g hg).1,fun e=>?_⟩
  rcases ch g e with e' | e'
  ·exact (h.blkK g hg).2 e'
  ·have:=ltK g hg;omega
 ·exact (Rep.keep fun i x hi hx=>⟨⟨hi.1,hi.2.1,fun e=>(ch i e).elim (fun e'=>hi.2.2 e') (fun e'=>by have:=zZ hx;omega)⟩,keep i x hx hi.2.2 (by have:=hi.1;omega) (by have:=hi.1;omega)⟩).2 _ _ h.repK
 ·rw [jH]
  refine zv.append ((Rep.keep fun i x hi hx=>⟨⟨hi.1,hi.2.1,fun e=>(ch i e).elim (fun e'=>hi.2.2 e') (fun e'=>by have:=zZ hx;omega)⟩,keep i x hx hi.2.2 (by have:=hi.1;omega) (by have:=hi.1;omega)⟩).2 _ _ h.repY) ?_
  ·have e1:kS [b]=qZ b:=by simp [kS]
   rw [e1]
   refine (Rep.keep fun i x hi hx=>?_).2 _ _ hcs
   have h2:=zZ hx
   have h3:wr.heap.size<=i:=hi
   refine ⟨⟨by omega,fun e=>by have:=ltK i e;omega,fun e=>?_⟩,fw i x hx (fun e=>by have:=ltY i e;omega) (by omega)⟩
   rcases ch i e with e' | e'
   ·have:=ltY i e';omega
   ·omega
def cst:Nat->Nat
 | 0=>1
 | d+1=>5+17*cst d
def bnd:Nat->Nat
 | 0=>1
 | d+1=>1+17*bnd d
theorem cst_pos (d:Nat):2<=cst d\/d=0/\cst d=1:=by cases d <;> simp [cst];omega
theorem bnd_pos (d:Nat):1<=bnd d:=by cases d <;> simp [bnd]
theorem bC {s:Bs} (h:s∈ki):∃ c,s=[c]:=by
 simp only [ki,List.mem_cons,List.not_mem_nil,or_false] at h
 rcases h with rfl | rfl | rfl | rfl | rfl <;> exact ⟨_,rfl⟩
def BodyD (rd Q d:Nat) (hand:List Ty) (w:World) (en:Ending) (w':World):Prop :=
 ∃ (b:Bd) (s:Bs) (v:Int) (a2:Option Addr) (n2 c2:Nat) (a3:Option Addr) (n3 c3:Nat),en=.returned (.agg #[str s,.int .i64 v,.slice a2 n2 c2,.slice a3 n3 c3])/\But (· = rd) w w'/\kg w' rd Q /\
   kE hand b/\lvB b/\zg b<=bnd d/\zv (w.heap.size<=·) w' (qZ b) [str s,.int .i64 v,.slice a2 n2 c2,.slice a3 n3 c3]
def DrawB (rd d:Nat):Prop:=∀ (z:Int) (hand:List Ty) (F:Nat->Prop) (hv:Value) (w:World) (P:Nat),z<=d->-1000<=z->P+cst d<=1099511627776->kg w rd P->qK d hand->(∀ k,F k->k≠rd) ->
 Rep F w (.sl 61 1 hand.length (qr hand)) hv ->
 Calls Tryz.prog 58 #[.pointer (some ⟨rd,0,none⟩),hv,.int .i64 z] w (BodyD rd (P+cst d) d hand w)
theorem ut.newAt {w:World} {rd:Nat} (fK:rd<w.heap.size) (xs:List Bs) (n:Nat) (hn:n=xs.length) (e:TypeId) (g:Nat) (hg:g=w.heap.size):ut (w.alloc (.cells (xs.map str).toArray e)) rd (.slice (some ⟨g,0,none⟩) n n) xs:=by
 subst hg;exact ut.new fK xs n hn e
theorem g9 {F:Nat->Prop} {w:World} (c:UInt8):zv F w (qZ (.leaf c)) [str [c],.int .i64 0,.slice none 0 0,.slice none 0 0]:=by
 rw [qZ]
 have h0:Rep F w (.sl 64 4 0 []) (.slice none 0 0):=qu.2 ⟨rfl,none,0,rfl,bw _,fun _=>rfl,.inl rfl⟩
 exact zG.2 ⟨_,_,rfl,z8.2 rfl,zG.2 ⟨_,_,rfl,z8.2 rfl,zG.2 ⟨_,_,rfl,h0,zG.2 ⟨_,_,rfl,h0,zm.2 rfl⟩⟩⟩⟩
def KidsD (w:World) (rd ob Z v P d:Nat) (hand:List Ty) (t:Ty) (k:Nat) (wr:World):Prop :=
 ∃ (pk:List Bd) (kv:List Value) (ks:Value) (nk:Nat),pI w rd ob Z v wr pk [] kv [] ks nk (.slice none 0 0) 0/\pk.length=k/\km (kC hand (t.args.take k)) pk/\uG pk/\zL pk<=k*bnd d/\kg wr rd (P+k*cst d)
def YesD (w:World) (rd ob Z v P d:Nat) (hand:List Ty) (pk:List Bd) (kv:List Value) (ks:Value) (nk:Nat) (k:Nat) (wr:World):Prop :=
 ∃ (py:List Bd) (yv:List Value) (ys:Value) (ny:Nat),pI w rd ob Z v wr pk py kv yv ks nk ys ny/\py.length=k/\(∀ b∈py,kE hand b)/\uG py/\zL py<=k*bnd d/\kg wr rd (P+k*(1+cst d))
theorem yB:∀ (xs ys:List Bd),uG xs->uG ys->uG (xs++ys)
 | [],ys,_,h=>by simpa using h
 | x::xs,ys,h1,h2=>by
   rw [uG] at h1
   simp only [List.cons_append]
   rw [uG]
   exact ⟨h1.1,yB xs ys h1.2 h2⟩
theorem lvBs_one {b:Bd} (h:lvB b):uG [b]:=by rw [uG];exact ⟨h,by rw [uG];trivial⟩
theorem rep_len {F:Nat->Prop} {w:World} {e:TypeId} {a:Option Addr} {c:Nat} {xs ys:List Ty} (h:Rep F w (.sl e 1 (xs++ys).length (qr (xs++ys))) (.slice a (xs++ys).length c)) :
 Rep F w (.sl e 1 (xs++ys).length (qr (xs++ys))) (.slice a (xs.length+ys.length) c):=by
 have e:xs.length+ys.length=(xs++ys).length:=by simp
 rw [e];exact h
theorem but_drew {m:Nat->Prop} {w w':World} (h:Below w.drew.heap.size w.drew w'):But m w w':=⟨h.os,h.tape,h.output,h.size,fun i hi _=>h.block i hi⟩
theorem but_drew2 {m:Nat->Prop} {w w':World} (h:But m w.drew w'):But m w w':=⟨h.os,h.tape,h.output,h.size,h.block⟩
theorem u_ (x:Int) (h1 : -2000<=x) (h2:x<=1000000):IntKind.i64.wrap x=x:=by
 simp [IntKind.wrap,IntKind.bits,IntKind.signed];omega
theorem wrap_sub (z:Int) (p:Nat) (h1:0<z) (h2:z<=1000) (h3:p<2):IntKind.i64.wrap (z-1-(p:Int))=z-1-p:=u_ _ (by omega) (by omega)
theorem sub_le {z:Int} {p d:Nat} (h2:z<=((d+1:Nat):Int)):z-1-(p:Int)<=d:=by omega
theorem sub_lo {z:Int} {p:Nat} (h1:0<z) (h3:p<2) : -1000<=z-1-(p:Int):=by omega
theorem reps_past {B B':Nat} {w:World} {o:Obj} {ds:List DV} {vs:List Value} (hB:B'<=B) (h:zv (B<=·) w ds vs):zv (B'<=·) (w.alloc o) ds vs :=
 (Rep.keep fun _ _ hi hx=>⟨br hB hi,zD hx⟩).2 _ _ h
set_option maxRecDepth 100000 in
theorem xi (rd d:Nat) (hd:d<=100) (ih:∀ d',d=d'+1->DrawB rd d'):DrawB rd d:=by
 intro z hand F hv w P hz hzl hP hr hh hF fd
 have IH:=bz ih;clear ih
 have cQ:=hr.lt
 have CST:=bz (cst_pos d)
 have BND:=bz (bnd_pos d)
 have Cm:kg (w.alloc (.cells #[str [],.int .i64 0,.slice none 0 0,.slice none 0 0] 64)) rd P:=hr.alloc _
 have np:kM w.heap.size 0 (.slice none 0 0) (.slice none 0 0) (w.alloc (.cells #[str [],.int .i64 0,.slice none 0 0,.slice none 0 0] 64)):=zR _ _
 have Cp:But (· = rd) w (w.alloc (.cells #[str [],.int .i64 0,.slice none 0 0,.slice none 0 0] 64)):=(But.refl _ _).alloc _
 obtain ⟨a0,k0,e,_,_,hat⟩:=zI fd
 subst e
 have Cw:=bz hat;have lr:=bz fd;have HF:=bz hF;have HH:=bz hh
 have cU:hand.length<=10000:=by have:=hh.2;omega
 clear hat fd hF hh hr
 by_cases mN:z<=0
 ·go_enter Tryz.func58,Tryz.ntmps58
  have H0:=bz (bj Cm (bj np Cp))
  have t6:=H0.out.1.lt
  clear Cm np Cp
  go_wp2_with fail
  obtain ⟨lU,nT,nj⟩:=H0.out
  refine (wh rd (P) (.slice (some ⟨w.heap.size+1,0,none⟩) 5 5) ki _ (lU.alloc (.cells (ki.map str).toArray 9)) (ut.newAt t6 ki 5 rfl _ (w.heap.size+1) (by simp)) (by decide) (by decide) (by omega)).mono ?_
  rintro en w2 ⟨s,hs,rfl,cK,de⟩
  obtain ⟨c,rfl⟩:=bC hs
  clear hs
  have di:kM w.heap.size 0 (.slice none 0 0) (.slice none 0 0) w2:=kM.but (by unfold kM;exact zD nT) cK (show ¬ w.heap.size=rd by omega)
  have eL:=(nj.alloc (.cells (ki.map str).toArray 9)).trans cK
  obtain ⟨r0,r1,r2,r3,rl,rf⟩:=di.cells
  have s5:=rf 0;have ig:=rf 1;have BH:=rf 2;have BG:=rf 3;clear rf
  have HQ:=bz (bj di (bj eL de));clear di eL de cK nT nj lU
  go_wp2_with fail
  obtain ⟨di,eL,de⟩:=HQ.out
  obtain ⟨W,hW,s0,s1,s2,s3,b9,dl,Au⟩:=di.storeB (str [c]) (.int .i64 0) (.slice none 0 0) (.slice none 0 0)
  rw [<- hW]
  refine bodyPost_ret (v:=.agg #[str [c],.int .i64 0,.slice none 0 0,.slice none 0 0]) (by simp [results,Tryz.results58,go_sem,s0,s1,s2,s3]) rfl ?_
  exact ⟨.leaf c,[c],0,none,0,0,none,0,0,rfl,b9 _ _ eL (bw _),(Au _ _ cQ de).mono (by have:=CST.out;omega),by simp [kE],by simp [lvB],by simp only [zg];exact BND.out,g9 c⟩
 have hP2:P+2<=1099511627776:=by have:=CST.out;omega
 by_cases AH:hand.length=0
 ·have D1:((hand.length:Int) == 0)=true:=by rw [beq_iff_eq];omega
  go_enter Tryz.func58,Tryz.ntmps58
  have H0:=bz (bj Cm (bj np Cp))
  have t6:=H0.out.1.lt
  clear Cm np Cp
  go_wp2_with fail
  obtain ⟨lU,nT,nj⟩:=H0.out
  refine (wh rd (P) (.slice (some ⟨w.heap.size+1,0,none⟩) 5 5) ki _ (lU.alloc (.cells (ki.map str).toArray 9)) (ut.newAt t6 ki 5 rfl _ (w.heap.size+1) (by simp)) (by decide) (by decide) (by omega)).mono ?_
  rintro en w2 ⟨s,hs,rfl,cK,de⟩
  obtain ⟨c,rfl⟩:=bC hs
  clear hs
  have di:kM w.heap.size 0 (.slice none 0 0) (.slice none 0 0) w2:=kM.but (by unfold kM;exact zD nT) cK (show ¬ w.heap.size=rd by omega)
  have eL:=(nj.alloc (.cells (ki.map str).toArray 9)).trans cK
  obtain ⟨r0,r1,r2,r3,rl,rf⟩:=di.cells
  have s5:=rf 0;have ig:=rf 1;have BH:=rf 2;have BG:=rf 3;clear rf
  have HQ:=bz (bj di (bj eL de));clear di eL de cK nT nj lU
  go_wp2_with fail
  obtain ⟨di,eL,de⟩:=HQ.out
  obtain ⟨W,hW,s0,s1,s2,s3,b9,dl,Au⟩:=di.storeB (str [c]) (.int .i64 0) (.slice none 0 0) (.slice none 0 0)
  rw [<- hW]
  refine bodyPost_ret (v:=.agg #[str [c],.int .i64 0,.slice none 0 0,.slice none 0 0]) (by simp [results,Tryz.results58,go_sem,s0,s1,s2,s3]) rfl ?_
  exact ⟨.leaf c,[c],0,none,0,0,none,0,0,rfl,b9 _ _ eL (bw _),(Au _ _ cQ de).mono (by have:=CST.out;omega),by simp [kE],by simp [lvB],by simp only [zg];exact BND.out,g9 c⟩
 have D1:((hand.length:Int) == 0)=false:=by rw [beq_eq_false_iff_ne];omega
 go_enter Tryz.func58,Tryz.ntmps58
 go_wp2_with fail
 refine (qd rd P 5 _ Cm (by omega) (by omega) (by omega)).mono ?_
 rintro en w1 ⟨p1,rfl,rC,bi,dj⟩
 have hN1:=np.but bi (show ¬ w.heap.size=rd by omega)
 have rX:=Cp.trans bi
 by_cases iM:p1=0
 ·subst iM
  have H0:=bz (bj dj (bj hN1 rX))
  have t6:=H0.out.1.lt
  clear dj hN1 rX
  go_wp2_with fail
  obtain ⟨lU,nT,nj⟩:=H0.out
  refine (wh rd (P+1) (.slice (some ⟨w1.heap.size,0,none⟩) 5 5) ki _ (lU.alloc (.cells (ki.map str).toArray 9)) (ut.newAt t6 ki 5 rfl _ (w1.heap.size) (by simp)) (by decide) (by decide) (by omega)).mono ?_
  rintro en w2 ⟨s,hs,rfl,cK,de⟩
  obtain ⟨c,rfl⟩:=bC hs
  clear hs
  have di:kM w.heap.size 0 (.slice none 0 0) (.slice none 0 0) w2:=kM.but (by unfold kM;exact zD nT) cK (show ¬ w.heap.size=rd by omega)
  have eL:=(nj.alloc (.cells (ki.map str).toArray 9)).trans cK
  obtain ⟨r0,r1,r2,r3,rl,rf⟩:=di.cells
  have s5:=rf 0;have ig:=rf 1;have BH:=rf 2;have BG:=rf 3;clear rf
  have HQ:=bz (bj di (bj eL de));clear di eL de cK nT nj lU
  go_wp2_with fail
  obtain ⟨di,eL,de⟩:=HQ.out
  obtain ⟨W,hW,s0,s1,s2,s3,b9,dl,Au⟩:=di.storeB (str [c]) (.int .i64 0) (.slice none 0 0) (.slice none 0 0)
  rw [<- hW]
  refine bodyPost_ret (v:=.agg #[str [c],.int .i64 0,.slice none 0 0,.slice none 0 0]) (by simp [results,Tryz.results58,go_sem,s0,s1,s2,s3]) rfl ?_
  exact ⟨.leaf c,[c],0,none,0,0,none,0,0,rfl,b9 _ _ eL (bw _),(Au _ _ cQ de).mono (by have:=CST.out;omega),by simp [kE],by simp [lvB],by simp only [zg];exact BND.out,g9 c⟩
 have hp0':((p1:Int) == 0)=false:=by rw [beq_eq_false_iff_ne];omega
 obtain ⟨d',hd'⟩:∃ d',d=d'+1:=⟨d-1,by omega⟩
 have hih:=IH.out d' hd'
 subst hd'
 have IHD:=bz hih;clear hih
 have hcs:cst (d'+1)=5+17*cst d':=rfl
 have hbs:bnd (d'+1)=1+17*bnd d':=rfl
 go_wp2_with fail
 refine (qd rd (P+1) hand.length w1 dj (by omega) (by omega) (by omega)).mono ?_
 rintro en w2 ⟨v,rfl,hv,cK,de⟩
 have ot:=hN1.but cK (show ¬ w.heap.size=rd by omega)
 have hB2:=rX.trans cK
 obtain ⟨bl,ol,u,dv,ea,hFl,eD,lT,EJ,nN⟩:=Cw.out v hv
 rw [vx,Option.map_eq_some_iff] at lT
 obtain ⟨t,ht,rfl⟩:=lT
 obtain ⟨sa,sk,rfl⟩:=zp nN
 have rH:=nN
 rw [qn] at rH
 obtain ⟨_,_,est,_,_,cO⟩:=zI rH
 simp only [Value.slice.injEq] at est
 obtain ⟨rfl,_,rfl⟩:=est
 subst ea
 have BZ:t.args.length<=15:=by
  have h1:=HH.out.1 t (List.mem_of_getElem? ht)
  have h2:=qE t
  have:=qi t.args;omega
 have HT:=bz ht;have iW:=bz cO
 have hblr:=HF.out bl hFl
 have z1:=bi.size
 rw [zK] at z1
 have z2:=cK.size
 have DP:w.heap.size<w2.heap.size:=by omega
 have hrdo:rd<w2.heap.size:=by omega
 have eF:KidsD w rd w2.heap.size (w2.heap.size+1) v (P+2) d' hand t 0 (w2.alloc (.cells #[str [],.int .i64 v,.slice none 0 0,.slice none 0 0] 64)):=by
  refine ⟨[],[],.slice none 0 0,0,⟨rfl,rfl,⟨_,_,rfl⟩,⟨_,_,rfl⟩,hB2.alloc _,by unfold kM;exact zD ot,zR _ _,World.ownsRow_nil _ _ _ _,World.ownsRow_nil _ _ _ _,fun g h=>by simp [Value.ownBlock] at h,fun g h=>by simp [Value.ownBlock] at h,zm.2 rfl,zm.2 rfl,by simp⟩,rfl,by simp [km,kC],by simp [uG],by simp [zL],?_⟩
  have:=de.alloc (.cells #[str [],.int .i64 v,.slice none 0 0,.slice none 0 0] 64)
  simpa using this
 have nA:w2.heap.size≠rd:=by omega
 have ZZ1:=bz (u_ (z-1) (by omega) (by omega))
 have zz2:z-1<=d':=by omega
 have zz3 : -1000<=z-1:=by omega
 have zz4:z<=1000:=by omega
 have zz0:0<z:=by omega
 have h04:0<4:=by omega
 have mr:(v:Int)<(hand.length:Int):=by omega
 clear ht cO rH ot hB2 cK bi hN1 rX np Cp dj de z1 z2 Cm
 go_wp2_with fail
 go_loopw [9] (fun i wr=>∃ k:Nat,k<=t.args.length/\i=.int .i64 k/\KidsD w rd w2.heap.size (w2.heap.size+1) v (P+2) d' hand t k wr) (fun i _=>t.args.length-(intOf i).toNat)
 case atStart=>exact ⟨0,Nat.zero_le _,rfl,eF⟩
 case round =>
  clear eF
  obtain ⟨k,hk,rfl,pk,kv,ks,nk,hN,dN,hfk,r_,Aq,tO⟩:=hrel
  have dM:=hN.but
  obtain ⟨ka,kc,eks⟩:=hN.ksl
  subst eks
  have e0:=vZ dM hblr EJ
  have HN:=bz hN;have HFK:=bz hfk;have HLK:=bz r_;have HPK:=bz dN
  obtain ⟨q0,q1,q2,q3,ql,qf⟩:=hN.out.cells
  have im:=qf 2;clear qf
  have hnk:nk<=15:=by have:=hN.hnk;omega
  have mn:nk+1<=maxLen:=by unfold maxLen;omega
  have nH:(nk+1)*72<=140737488355328:=by omega
  have hk15:k*cst d'<=15*cst d':=Nat.mul_le_mul_right _ (by omega)
  have hQ:(P+2+k*cst d')+cst d'<=1099511627776:=by omega
  clear hfk r_ hN dN
  by_cases Ee:k<t.args.length
  ·obtain ⟨ba,oa,uk,dk,esa,hFa,hba,oy,lA,As⟩:=iW.out k Ee
   subst esa
   rw [vx,Option.map_eq_some_iff] at oy
   obtain ⟨tk,mV,rfl⟩:=oy
   obtain ⟨ua,uc,rfl⟩:=zp As
   have hbar:=HF.out ba hFa
   have e1:=vZ dM hbar lA
   have tI:Rep F wr.drew (qP tk) (.slice ua tk.args.length uc):=(Rep.but dM (fun b hb=>⟨HF.out b hb,hb⟩) As).drew
   have mS:=(Rep.but dM (fun b hb=>⟨HF.out b hb,hb⟩) lr.out).drew
   have ov:qK d' (hand++tk.args):=HH.out.next HT.out (List.mem_of_getElem? mV)
   have r_:Lim (hand.length+tk.args.length):=by have:=ov.2;simp at this;show _<=_;omega
   have Ct:=bz mV
   have hF5:∀ g,(F g\/wr.drew.heap.size<=g)->g≠rd:=fun g hg=>by
    rcases hg with h | h
    ·exact HF.out g h
    ·have h2:wr.heap.size<=g:=h
     omega
   have C1:=bz (hU F hand tk _ _ wr.drew mS tI r_)
   have DD:=tO.drew
   have C2:=bz (fun a5 c5 w5 (h5:Below wr.drew.heap.size wr.drew w5) (mG:Rep (fun k=>F k\/wr.drew.heap.size<=k) w5 (.sl 61 1 (hand++tk.args).length (qr (hand++tk.args))) (.slice a5 (hand++tk.args).length c5)) =>
    IHD.out (z-1) (hand++tk.args) (fun k=>F k\/wr.drew.heap.size<=k) (.slice a5 (hand.length+tk.args.length) c5) w5 (P+2+k*cst d') zz2 zz3 hQ (DD.below h5) ov hF5 (rep_len mG))
   have OWN:=bz (fun w5 w6 (h5:But (· = rd) wr w5) (h6:But (· = rd) w5 w6)=>own_thru HN.out.ownK (fun g hg=>by have:=(HN.out.blkK g hg).1;omega) h5 h6)
   have NB:=bz (show ¬ (Value.slice ka nk kc).ownBlock=some w2.heap.size from fun e=>by have:=(HN.out.blkK _ e).1;omega)
   have hlt9':(k:Int)<(t.args.length:Int):=by omega
   clear mV lA As tI mS ov r_ hF5 tO DD
   have zz1:=ZZ1.out
   go_wp2_with fail
   go_region_law (first
    | (refine zq (by rfl) _ _ _ (by rfl) 64 (.agg #[str [],.int .i64 0,.slice none 0 0,.slice none 0 0]) 4 72 Tryz.underlying62 Tryz.infoN rfl h04 (.slice ka nk kc) nk kv (by rfl) (By.out.alloc _) _ 1 [str s6,.int .i64 v6,.slice a2 n2 k2,.slice a3 n3 k3] (by rfl) (zM.lit4 #[str s6,.int .i64 v6,.slice a2 n2 k2,.slice a3 n3 k3] rfl (by simp [str,Value.oneCell']) _ rfl) mn nH ?_;intro a' c' w7 dO cP ch;have EO:=out_cell cP NB.out q26;have sQ:=out_free cP NB.out Da qf26)
    | (go_simp;go_at_call 58;refine (C2.out _ _ _ cz mG).mono ?_;rintro en6 w6 ⟨b,s6,v6,a2,n2,k2,a3,n3,k3,rfl,cI,Av,iO,oO,sF,m_⟩;have q26:=vZ cI nA q25;have Da:=bm BI cI.size;have qf26:=wW cI nA BI qf25;have By:=bz (OWN.out _ _ dp cI))
    | (go_simp;go_at_call 97;refine C1.out.mono ?_;rintro en5 w5 ⟨a5,c5,rfl,cz,mG⟩;have dp:But (· = rd) wr w5:=but_drew cz;have q25:=vZ dp nA q2;have BI:=bm ql dp.size;have qf25:=wW dp nA ql im))
   all_goals
    clear zz1
    have hA:=HN.out.kid cQ (Nat.lt_succ_self _) DP ((dp.trans cI).alloc _) (reps_past dp.size m_) dO cP ch
    have tq:kg (w7.setCell ⟨w2.heap.size,2,none⟩ (.slice a' (nk+1) c')) rd (P+2+(k+1)*cst d'):=by
     refine kg.mono (kg.but (m:=fun i=>i=w2.heap.size\/(Value.slice ka nk kc).ownBlock=some i) (Av.alloc (.cells #[str s6,.int .i64 v6,.slice a2 n2 k2,.slice a3 n3 k3] 64)) (But.setCell (cP.weak fun i _ h=>.inr h) (.inl (.inl rfl)) _) ?_) (by rw [Nat.succ_mul];omega)
     intro i hi h
     rcases h with h | h
     ·omega
     ·have:=(HN.out.blkK _ h).1;omega
    have Eu:km (kC hand (t.args.take (k+1))) (pk++[b]):=by
     rw [bZ Ct.out]
     exact uu _ _ _ _ HFK.out ⟨_,_,rfl,iO,by rw [km]⟩
    have lZ:zL (pk++[b])<=(k+1)*bnd d':=by rw [kw,Nat.succ_mul];simp only [zL];omega
    have BA:Hid (KidsD w rd w2.heap.size (w2.heap.size+1) v (P+2) d' hand t (k+1) (w7.setCell ⟨w2.heap.size,2,none⟩ (.slice a' (nk+1) c'))) :=
     ⟨pk++[b],_,_,_,hA,by simp [HPK.out],Eu,yB _ _ HLK.out (lvBs_one oO),lZ,tq⟩
    clear hA tq Eu lZ iO oO sF m_ dO cP ch Av mG
    go_wp2_with fail
    go_roundw
    case rel=>exact ⟨k+1,by omega,by go_num,BA.out⟩
    case measure=>simp [intOf];omega
  ·obtain rfl:k=t.args.length:=by omega
   have hnlt:¬ ((t.args.length:Int)<(t.args.length:Int)):=by omega
   have HFA:Hid (km (kC hand t.args) pk):=by have:=HFK.out;rwa [List.take_length] at this
   have HSK:=bz Aq
   have oD:YesD w rd w2.heap.size (w2.heap.size+1) v (P+2+t.args.length*cst d') d' hand pk kv (.slice ka nk kc) nk 0 wr :=
    ⟨[],[],.slice none 0 0,0,HN.out,rfl,by simp,by simp [uG],by simp [zL],by simpa using tO⟩
   have HHS:Hid (qK d' hand):=by have:=HH.out.same;rw [List.append_nil] at this;exact this
   clear tO Aq HFK Ee dM
   go_wp2_with fail
   clear HN q0 q1 q2 q3 ql im e0 hnlt
   go_loopw [10] (fun i wr=>∃ k:Nat,k<=2/\i=.int .i64 k/\YesD w rd w2.heap.size (w2.heap.size+1) v (P+2+t.args.length*cst d') d' hand pk kv (.slice ka nk kc) nk k wr) (fun i _=>2-(intOf i).toNat)
   case atStart=>exact ⟨0,by omega,rfl,oD⟩
   case round =>
    clear oD
    obtain ⟨k,hk,rfl,py,yv,ys,ny,hN,hpy,AS,Cb,hsy,rc⟩:=hrel
    have dM:=hN.but
    obtain ⟨ya,yc,eys⟩:=hN.ysl
    subst eys
    have HN:=bz hN;have HFY:=bz AS;have HLY:=bz Cb;have HPY:=bz hpy;have HSY:=bz hsy
    obtain ⟨q0,q1,q2,q3,ql,qf⟩:=hN.out.cells
    have oV:=qf 3;clear qf
    have hny:ny<=2:=by have:=hN.hny;omega
    have mn:ny+1<=maxLen:=by unfold maxLen;omega
    have nH:(ny+1)*72<=140737488355328:=by omega
    have hk2c:k*(1+cst d')<=2*(1+cst d'):=Nat.mul_le_mul_right _ (by omega)
    have hQ1:P+2+t.args.length*cst d'+k*(1+cst d')<=1099511627776:=by omega
    clear AS Cb hpy hsy
    by_cases hlt10:k<2
    ·have hk1c:k*(1+cst d')<=1*(1+cst d'):=Nat.mul_le_mul_right _ (by omega)
     have hQ2:P+2+t.args.length*cst d'+k*(1+cst d')+1+cst d'<=1099511627776:=by omega
     have Ar:=Rep.but dM (fun b hb=>⟨HF.out b hb,hb⟩) lr.out
     have C1:=bz (qd rd (P+2+t.args.length*cst d'+k*(1+cst d')) 2 wr.drew rc.drew (by omega) (by omega) hQ1)
     have C2:=bz (fun w5 (h5:But (· = rd) wr w5) (p5:Nat) (s8:p5<2) (mG:kg w5 rd (P+2+t.args.length*cst d'+k*(1+cst d')+1)) =>
      IHD.out (z-1-(p5:Int)) hand F (.slice (some ⟨bl,ol,none⟩) hand.length k0) w5 (P+2+t.args.length*cst d'+k*(1+cst d')+1) (sub_le hz) (sub_lo zz0 s8) hQ2 mG HHS.out HF.out (Rep.but h5 (fun b hb=>⟨HF.out b hb,hb⟩) Ar))
     have OWN:=bz (fun w5 w6 (h5:But (· = rd) wr w5) (h6:But (· = rd) w5 w6)=>own_thru HN.out.ownY (fun g hg=>by have:=HN.out.blkY g hg;omega) h5 h6)
     have NB:=bz (show ¬ (Value.slice ya ny yc).ownBlock=some w2.heap.size from fun e=>by have:=HN.out.blkY _ e;omega)
     have hlt10':(k:Int)<2:=by omega
     clear Ar rc hN dM q2
     have zz1:=ZZ1.out
     go_wp2_with fail
     go_region_law (first
      | (refine zq (by rfl) _ _ _ (by rfl) 64 (.agg #[str [],.int .i64 0,.slice none 0 0,.slice none 0 0]) 4 72 Tryz.underlying62 Tryz.infoN rfl h04 (.slice ya ny yc) ny yv (by rfl) (By.out.alloc _) _ 1 [str s6,.int .i64 v6,.slice a2 n2 k2,.slice a3 n3 k3] (by rfl) (zM.lit4 #[str s6,.int .i64 v6,.slice a2 n2 k2,.slice a3 n3 k3] rfl (by simp [str,Value.oneCell']) _ rfl) mn nH ?_;intro a' c' w7 dO cP ch;have EO:=out_cell cP NB.out q36;have sQ:=out_free cP NB.out Da qf36)
      | (go_simp;go_at_call 58;refine (C2.out _ dp _ s8 mG).mono ?_;rintro en6 w6 ⟨b,s6,v6,a2,n2,k2,a3,n3,k3,rfl,cI,Av,iO,oO,sF,m_⟩;have q36:=vZ cI nA q35;have Da:=bm BI cI.size;have qf36:=wW cI nA BI qf35;have By:=bz (OWN.out _ _ dp cI))
      | (go_simp;go_at_call 48;refine C1.out.mono ?_;rintro en5 w5 ⟨p5,rfl,s8,cz,mG⟩;have dp:But (· = rd) wr w5:=but_drew2 cz;have q35:=vZ dp nA q3;have BI:=bm ql dp.size;have qf35:=wW dp nA ql oV;have zz5:=wrap_sub z p5 zz0 zz4 s8))
     all_goals
      clear zz1 zz5
      have hA:=HN.out.yes cQ (Nat.lt_succ_self _) DP ((dp.trans cI).alloc _) (reps_past dp.size m_) dO cP ch
      have tq:kg (w7.setCell ⟨w2.heap.size,3,none⟩ (.slice a' (ny+1) c')) rd (P+2+t.args.length*cst d'+(k+1)*(1+cst d')):=by
       refine kg.mono (kg.but (m:=fun i=>i=w2.heap.size\/(Value.slice ya ny yc).ownBlock=some i) (Av.alloc (.cells #[str s6,.int .i64 v6,.slice a2 n2 k2,.slice a3 n3 k3] 64)) (But.setCell (cP.weak fun i _ h=>.inr h) (.inl (.inl rfl)) _) ?_) (by rw [Nat.succ_mul];omega)
       intro i hi h
       rcases h with h | h
       ·omega
       ·have:=HN.out.blkY _ h;omega
      have Er:∀ x∈py++[b],kE hand x:=by
       intro x hx
       rcases List.mem_append.1 hx with h | h
       ·exact HFY.out x h
       ·simp at h;subst h;exact iO
      have lZ:zL (py++[b])<=(k+1)*bnd d':=by have:=HSY.out;rw [kw,Nat.succ_mul];simp only [zL];omega
      have BA:Hid (YesD w rd w2.heap.size (w2.heap.size+1) v (P+2+t.args.length*cst d') d' hand pk kv (.slice ka nk kc) nk (k+1) (w7.setCell ⟨w2.heap.size,3,none⟩ (.slice a' (ny+1) c'))) :=
       ⟨py++[b],_,_,_,hA,by simp [HPY.out],Er,yB _ _ HLY.out (lvBs_one oO),lZ,tq⟩
      clear hA tq Er lZ iO oO sF m_ dO cP ch Av mG
      go_wp2_with fail
      go_roundw
      case rel=>exact ⟨k+1,by omega,by go_num,BA.out⟩
      case measure=>simp [intOf];omega
    ·obtain rfl:k=2:=by omega
     obtain ⟨r0,r1,r2,r3,rl,rf⟩:=hN.res.cells
     have s5:=rf 0;have ig:=rf 1;have BH:=rf 2;have BG:=rf 3;clear rf
     have HRY:=bz rc
     clear rc hN dM
     go_wp2_with fail
     have hN:=HN.out
     obtain ⟨W,hW,s0,s1,s2,s3,b9,dl,Au⟩:=hN.res.storeB (str []) (.int .i64 v) (.slice ka nk kc) (.slice ya ny yc)
     rw [<- hW]
     refine bodyPost_ret (v:=.agg #[str [],.int .i64 v,.slice ka nk kc,.slice ya ny yc]) (by simp [results,Tryz.results58,go_sem,s0,s1,s2,s3]) rfl ?_
     have hpy:=HPY.out
     obtain ⟨y1,y2,rfl⟩:∃ y1 y2,py=[y1,y2]:=by
      match py,hpy with
      | [a,b],_=>exact ⟨a,b,rfl⟩
     have Cb:=HLY.out
     rw [uG,uG] at Cb
     have hsy:=HSY.out
     have Aq:=HSK.out
     simp only [zL] at hsy
     have hb15:t.args.length*bnd d'<=15*bnd d':=Nat.mul_le_mul_right _ (by omega)
     have AG:=hN.hnk
     have AD:ny=2:=hN.hny
     subst AD
     refine ⟨.ask v pk y1 y2,[],v,ka,nk,kc,ya,2,yc,rfl,b9 _ _ hN.but (bw _),(Au _ _ cQ HRY.out).mono (by omega),?_,?_,?_,?_⟩
     ·rw [kE];exact ⟨t,HT.out,HFA.out,HFY.out y1 (by simp),HFY.out y2 (by simp)⟩
     ·rw [lvB];exact ⟨by omega,HLK.out,Cb.1,Cb.2.1⟩
     ·simp only [zg];omega
     ·rw [bW]
      refine zG.2 ⟨_,_,rfl,z8.2 rfl,zG.2 ⟨_,_,rfl,z8.2 rfl,zG.2 ⟨_,_,rfl,?_,zG.2 ⟨_,_,rfl,?_,zm.2 rfl⟩⟩⟩⟩
      ·rw [<- AG]
       refine (hN.ownK.keep fun g o hg ho=>dl g o (by have:=(hN.blkK g hg).1;omega) ho).rep (fun g hg=>by have:=(hN.blkK g hg).1;omega) ?_
       exact (Rep.keep fun x o hx ho=>⟨by have:=hx.1;omega,dl x o (by have:=hx.1;omega) ho⟩).2 _ _ hN.repK
      ·refine (hN.ownY.keep fun g o hg ho=>dl g o (by have:=hN.blkY g hg;omega) ho).rep (fun g hg=>by have:=hN.blkY g hg;omega) ?_
       exact (Rep.keep fun x o hx ho=>⟨by have:=hx.1;omega,dl x o (by have:=hx.1;omega) ho⟩).2 _ _ hN.repY
theorem l91Body_any (rd d:Nat) (hd:d<=100):DrawB rd d:=by
 induction d with
 | zero=>exact xi rd 0 hd (fun d' h=>by omega)
 | succ d ih=>exact xi rd (d+1) hd (fun d' h=>by rw [<- Nat.succ.inj h];exact ih (by omega))
def Row8 (w:World) (a:Option Addr) (len cap:Nat) (zs:List Int):Prop :=
 (a=none/\len=0/\cap=0/\zs=[]) \/
 ∃ x,a=some x/\len<=cap/\cap<=maxLen/\zs.length=cap/\(∀ i,i<zs.length->w.cell? (x.add i)=some (.int .u8 (zs.getD i 0)))/\∀ n∈zs,(Lit.int .u8 n).wf=true
theorem Row8.le {w:World} {a:Option Addr} {len cap:Nat} {zs:List Int} (h:Row8 w a len cap zs):len<=cap:=by
 rcases h with ⟨_,rfl,rfl,_⟩ | ⟨x,_,h,_⟩
 ·exact bw _
 ·exact h
theorem Row8.bytes {w:World} {a:Option Addr} {len cap:Nat} {zs:List Int} (h:Row8 w a len cap zs) (n:Nat) (hn:n<=len) :
 n=0\/∃ b o,a=some ⟨b,o,none⟩/\b<w.heap.size/\∀ k,k<n->∃ x:Nat,x<256/\w.cell? ⟨b,o+k,none⟩=some (.int .u8 x):=by
 rcases Nat.eq_zero_or_pos n with h0 | h0
 ·exact .inl h0
 right
 rcases h with ⟨_,rfl,_,_⟩ | ⟨x,rfl,hl,_,hz,hc,hw⟩
 ·omega
 obtain ⟨b,o,sp⟩:=x
 have h1:=hc 0 (by omega)
 have rG:sp=none:=by
  cases sp with
  | none=>rfl
  | some q=>simp [World.cell?,Addr.add] at h1;split at h1 <;> simp_all
 subst rG
 have rz:∀ i,(⟨b,o,none⟩:Addr).add i=⟨b,o+i,none⟩:=fun i=>by
  unfold Addr.add;split <;> simp_all
 have h2:=bp w _ h1
 refine ⟨b,o,rfl,by rw [rz] at h2;exact h2,fun k hk=>?_⟩
 have hkz:k<zs.length:=by omega
 have h3:=hc k hkz
 rw [rz] at h3
 have hm:zs.getD k 0∈zs:=by
  rw [List.getD_eq_getElem?_getD,List.getElem?_eq_getElem hkz];exact List.getElem_mem hkz
 have hwf:=hw _ hm
 clear hm
 generalize zs.getD k 0=z at *
 have hb:0<=z/\z<256:=by
  simp [Lit.wf,IntKind.min,IntKind.max,IntKind.bits,IntKind.signed] at hwf
  omega
 refine ⟨z.toNat,by omega,?_⟩
 rw [h3,Int.toNat_of_nonneg hb.1]
theorem l6Open_any (a:Option Addr) (len cap:Nat) (zs:List Int) (w:World) (h:Row8 w a len cap zs) (hl:len<=1048576) :
 Calls Tryz.prog 28 #[.slice a len cap] w fun en w'=>en=.returned (.pointer (some ⟨w.heap.size,0,none⟩))/\Below w.heap.size w w'/\kg w' w.heap.size 0/\w.heap.size<w'.heap.size:=by
 have tQ:=h.le
 have H:=bz h;clear h
 by_cases h2:2000<len
 ·have h2':(2000:Int)<(len:Int):=by omega
  have h3:(2000:Int)<=(cap:Int):=by omega
  obtain ⟨b,o,ea,hb,hk⟩:=(H.out.bytes 2000 (by omega)).resolve_left (by omega)
  subst ea
  have HK:=bz hk;clear hk
  go_enter Tryz.func28,Tryz.ntmps28
  go_wp2_with fail
  go_ret
  refine ⟨rfl,(bh _ _).alloc (bw _) _,?_,by simp⟩
  refine ⟨_,2000,_,0,zR _ _,bw _,bw _,.inr ⟨b,o,rfl,hb,fun k hk=>?_⟩⟩
  obtain ⟨x,hx,hc⟩:=HK.out k hk
  exact ⟨x,hx,zH hc⟩
 ·have h2':¬ (2000:Int)<(len:Int):=by omega
  go_enter Tryz.func28,Tryz.ntmps28
  go_wp2_with fail
  go_ret
  refine ⟨rfl,(bh _ _).alloc (bw _) _,?_,by simp⟩
  refine ⟨_,len,_,0,zR _ _,bw _,by omega,?_⟩
  rcases H.out.bytes len (bw _) with h0 | ⟨b,o,ea,hb,hk⟩
  ·exact .inl h0
  ·refine .inr ⟨b,o,ea,hb,fun k lC=>?_⟩
   obtain ⟨x,hx,hc⟩:=hk k lC
   exact ⟨x,hx,zH hc⟩
theorem xO {s:Bs} (h:s∈jX):(zV s).2=true/\s.length<=100:=by
 simp only [jX,List.mem_cons,List.not_mem_nil,or_false] at h
 rcases h with rfl | rfl | rfl | rfl | rfl | rfl | rfl | rfl <;> exact ⟨by decide,by decide⟩
theorem wrap_one (p:Nat) (h:p<3):IntKind.i64.wrap (1+(p:Int))=1+p:=u_ _ (by omega) (by omega)
theorem sum_le (p:Nat) (h:p<3):(1:Int)+(p:Int)<=((3:Nat):Int):=by omega
theorem sum_lo (p:Nat):(-1000:Int)<=(1:Int)+(p:Int):=by omega
theorem cst3:cst 3=6448:=rfl
def StratD (rd Q:Nat) (s:Bs) (w:World) (en:Ending) (w':World):Prop :=
 ∃ b:Bd,en=.returned (str (qY b))/\But (· = rd) w w'/\kg w' rd Q/\kE (zV s).1.args b/\lvB b/\zg b<=5220
set_option maxRecDepth 100000 in
theorem px (rd P:Nat) (s:Bs) (hsl:s.length<=100) (hh:qK 3 (zV s).1.args) (w:World) (h:kg w rd P) (hP:P+6500<=1099511627776) :
 Calls Tryz.prog 55 #[.pointer (some ⟨rd,0,none⟩),str s] w (StratD rd (P+6449) s w):=by
 have cQ:=h.lt
 have H:=bz h;have HH:=bz hh
 clear h hh
 go_enter Tryz.func55,Tryz.ntmps55
 go_wp2_with fail
 refine (uq s (show _<=_ by omega) w).mono ?_
 rintro en w1 ⟨tv,rfl,bi,rB⟩
 obtain ⟨ta,tc,etv⟩:=zp rB
 subst etv
 have dj:=H.out.below (bi.mono (bw _))
 rw [qn] at rB
 generalize hT:(zV s).1=t at *
 have z1:=bi.size
 have hcT:(w1.alloc (.cells #[.slice ta t.args.length tc] 61)).cell? ⟨w1.heap.size,0,none⟩=some (.slice ta t.args.length tc):=by simp
 have cE:w1.heap.size≠rd:=by omega
 have hF:∀ k,w.heap.size<=k->k≠rd:=fun k hk=>by omega
 have B6:Rep (w.heap.size<=·) (w1.alloc (.cells #[.slice ta t.args.length tc] 61)) (.sl 61 1 t.args.length (qr t.args)) (.slice ta t.args.length tc):=(Rep.keep fun b o h ho=>⟨h,zD ho⟩).1 _ _ rB
 have DE:=dj.alloc (.cells #[.slice ta t.args.length tc] 61)
 have C1:=bz (qd rd P 3 _ DE.drew (by omega) (by omega) (by omega))
 have C2:=bz (fun w5 (h5:But (· = rd) (w1.alloc (.cells #[.slice ta t.args.length tc] 61)) w5) (p5:Nat) (s8:p5<3) (mG:kg w5 rd (P+1)) =>
  l91Body_any rd 3 (by omega) (1+(p5:Int)) t.args (w.heap.size<=·) (.slice ta t.args.length tc) w5 (P+1) (sum_le p5 s8) (sum_lo p5) (by rw [cst3];omega) mG HH.out hF (Rep.but h5 (fun b hb=>⟨hF b hb,hb⟩) B6))
 have co:=bz bi
 have HTT:=bz hT
 clear hT rB B6 DE dj bi hF
 go_wp2_with fail
 go_region_held3 (fun w'=>w'.cell? ⟨w1.heap.size,0,none⟩=some (.slice ta t.args.length tc))
  (first
   | exact hcT
   | exact hcL
   | exact hcB
   | exact hcP
   | go_keep)
  (first
   | (go_at_call 57;refine (l3Text_any 5220 b sF (by omega) oO _ w6 _ _ _ _ m_).mono ?_;rintro en7 w7 ⟨rfl,cP⟩;have hcL:=(cP.cell (bp w6 ⟨w1.heap.size,0,none⟩ hcB)).trans hcB)
   | (go_at_call 58;refine (C2.out _ dp _ s8 mG).mono ?_;rintro en6 w6 ⟨b,s6,v6,a2,n2,k2,a3,n3,k3,rfl,cI,Av,iO,oO,sF,m_⟩;have hcB:=vZ cI cE hcP)
   | (go_at_call 48;refine C1.out.mono ?_;rintro en5 w5 ⟨p5,rfl,s8,cz,mG⟩;have dp:=but_drew2 cz;have hcP:=vZ dp cE hcT;have zz:=wrap_one p5 s8))
 go_wp2_with fail
 go_ret
 have dg:But (· = rd) w (w1.alloc (.cells #[.slice ta t.args.length tc] 61)):=(But.ofBelow co.out).alloc _
 refine ⟨b,rfl,((dg.trans dp).trans cI).trans (But.ofBelow cP),(Av.below cP).mono (by rw [cst3];omega),?_,oO,sF⟩
 rw [HTT.out];exact iO
theorem hand3_of_ok {s:Bs} (cD:(zV s).2=true):qK 3 (zV s).1.args:=by
 have:=wK (j6 cD)
 exact ⟨this.1,by have:=this.2;omega⟩
theorem pw (rd P:Nat) (s:Bs) (hs:s∈jX) (w:World) (h:kg w rd P) (hP:P+6500<=1099511627776) :
 Calls Tryz.prog 55 #[.pointer (some ⟨rd,0,none⟩),str s] w (StratD rd (P+6449) s w) :=
 px rd P s (xO hs).2 (hand3_of_ok (xO hs).1) w h hP
def Given (rd Q:Nat) (w:World) (en:Ending) (w':World):Prop :=
 ∃ s text:Bs,en=.returned (.tuple #[str s,str text])/\s.length<=100/\text.length<=100000/\But (· = rd) w w'/\kg w' rd Q
theorem odd_len {s:Bs} (h:s∈jX++yW):s.length<=100:=by
 simp only [jX,yW,List.mem_append,List.mem_cons,List.not_mem_nil,or_false] at h
 rcases h with (rfl | rfl | rfl | rfl | rfl | rfl | rfl | rfl) | (rfl | rfl | rfl | rfl | rfl | rfl | rfl) <;> decide
theorem bad_len {s:Bs} (h:s∈yA):s.length<=100:=by
 simp only [yA,List.mem_cons,List.not_mem_nil,or_false] at h
 rcases h with rfl | rfl | rfl | rfl | rfl | rfl | rfl | rfl <;> decide
set_option maxRecDepth 100000 in
theorem l91Given_any (rd P:Nat) (w:World) (h:kg w rd P) (hP:P+7000<=1099511627776) :
 Calls Tryz.prog 37 #[.pointer (some ⟨rd,0,none⟩)] w (Given rd (P+6500) w):=by
 go_enter Tryz.func37,Tryz.ntmps37
 go_wp2_with fail
 refine (v5 rd P w h (by omega)).mono ?_
 rintro en w1 ⟨s,hs,rfl,bi,dj⟩
 have HS:=bz hs;clear hs h
 go_wp2_with fail
 refine (qd rd (P+1) 16 w1 dj (by omega) (by omega) (by omega)).mono ?_
 rintro en w2 ⟨v,rfl,hv,cK,de⟩
 have cT:=bi.trans cK
 by_cases nE:v=0
 ·subst nE
  clear dj bi cK
  go_wp2_with fail
  refine (l91Odd_any rd (P+2) w2 de (by omega)).mono ?_
  rintro en w3 ⟨s3,mP,rfl,cH,hr3⟩
  have HS3:=bz mP;clear mP de
  have hlt3:=hr3.lt
  go_wp2_with fail
  refine (wh rd (P+2+2) (.slice (some ⟨w3.heap.size,0,none⟩) 8 8) yA _ (hr3.alloc (.cells (yA.map str).toArray 9)) (ut.newAt hlt3 yA 8 rfl _ (w3.heap.size) rfl) (by decide) (by decide) (by omega)).mono ?_
  rintro en w4 ⟨s4,me,rfl,cm,rr⟩
  have HS4:=bz me;clear me
  go_wp2_with fail
  refine bodyPost_ret (v:=.tuple #[str s3,str s4]) (by simp [results,Tryz.results37,go_sem]) rfl ?_
  exact ⟨s3,s4,rfl,odd_len HS3.out,br (bad_len HS4.out) (by omega),(cT.trans cH).trans (((But.refl _ w3).alloc _).trans cm),rr.mono (by omega)⟩
 ·have mX:((v:Int) == 0)=false:=by rw [beq_eq_false_iff_ne];omega
  clear dj bi cK
  go_wp2_with fail
  refine (pw rd (P+2) s HS.out w2 de (by omega)).mono ?_
  rintro en w3 ⟨b,rfl,cH,hr3,hf,dT,er⟩
  have cU:=qx b dT
  clear hf
  go_wp2_with fail
  refine bodyPost_ret (v:=.tuple #[str s,str (qY b)]) (by simp [results,Tryz.results37,go_sem]) rfl ?_
  exact ⟨s,qY b,rfl,(xO HS.out).2,by omega,cT.trans cH,hr3.mono (by omega)⟩
theorem but_new {rd:Nat} {w w1 w2:World} (h1:Below w.heap.size w w1) (fK:w.heap.size<=rd) (h2:But (· = rd) w1 w2):Below w.heap.size w w2 :=
 h1.trans (h2.toBelow h1.size fun i hi e=>by omega)
theorem jL.cells {w:World} {v:Value} {us:List (Value×Value)} {xs:wC} (h:jL w v us xs) {i:Nat} {u:Value×Value} (hu:us[i]? = some u):∃ g c,v=.slice (some ⟨g,0,none⟩) us.length c/\w.cell? ⟨g,i*2,none⟩=some u.1/\w.cell? ⟨g,i*2+1,none⟩=some u.2:=by
 obtain ⟨h1,h2⟩:=plC_at us i u hu
 obtain ⟨g,c,e,k1⟩:=h.own.at h1
 obtain ⟨g',c',e',k2⟩:=h.own.at h2
 rw [e] at e'
 simp only [Value.slice.injEq,Option.some.injEq,Addr.mk.injEq,true_and] at e'
 obtain ⟨⟨rfl,_⟩,_⟩:=e'
 exact ⟨g,c,e,k1,k2⟩
theorem jL.slice {w:World} {v:Value} {us:List (Value×Value)} {xs:wC} (h:jL w v us xs):∃ a c,v=.slice a us.length c:=h.own.slice
def PlD (B rd Q:Nat) (w:World) (en:Ending) (w':World):Prop :=
 ∃ (l:Pl) (a1:Option Addr) (c1:Nat) (a2:Option Addr) (c2:Nat),en=.returned (.agg #[.slice a1 l.length c1,.slice a2 l.length c2])/\But (· = rd) w w'/\kg w' rd Q/\zE w' l (.slice a1 l.length c1) (.slice a2 l.length c2)/\l.length<=60/\(∀ x∈l,x.1.length<=100) /\
   ∀ g,(Value.slice a1 l.length c1).ownBlock=some g\/(Value.slice a2 l.length c2).ownBlock=some g->B<=g
theorem Own.srcO {w:World} {e:TypeId} {sz n:Nat} {v:Value} {xs:List Value} (h:Own w e sz v n xs) (hc:∀ u∈xs,u.oneCell'=true):zM sz v n xs w:=by
 refine ⟨h.1,hc,?_⟩
 rcases h.2 with ⟨e,h0⟩ | ⟨g,cap,cur,e,_,hg,_,_,_,ht⟩
 ·exact .inr ⟨e,h0⟩
 ·refine .inl ⟨_,cap,e,fun j u hj=>?_⟩
  rw [<- ht,List.getElem?_take] at hj
  split at hj
  ·unfold Addr.add
   split
   ·subst j;simp only [World.cell?,hg];simpa using hj
   ·simp only [World.cell?,hg];simpa using hj
  ·simp at hj
theorem pl_end {w V wz:World} {rd K Q Q':Nat} {l:Pl} {ap aq:Option Addr} {cp cq:Nat} (A6:Below w.heap.size w V) (hK:w.heap.size<=K) (fK:rd<w.heap.size) (hB:But (fun b=>b=rd\/b=K) V wz)
 (hx:wz.heap[w.heap.size]? = some (.cells #[.slice none 0 0,.slice none 0 0] 33 (0,0))) (cG:zE wz l (.slice ap l.length cp) (.slice aq l.length cq)) (hr:kg wz rd Q') (hQ:Q'<=Q) (hl:l.length<=60) (lH:∀ x∈l,x.1.length<=100)
 (hg:∀ g,(Value.slice ap l.length cp).ownBlock=some g\/(Value.slice aq l.length cq).ownBlock=some g->w.heap.size<=g) :
 PlD w.heap.size rd Q w (.returned (.agg #[.slice ap l.length cp,.slice aq l.length cq])) ((wz.setCell ⟨w.heap.size,0,none⟩ (.slice ap l.length cp)).setCell ⟨w.heap.size,1,none⟩ (.slice aq l.length cq)):=by
 have cR:But (fun b=>b=w.heap.size) wz ((wz.setCell ⟨w.heap.size,0,none⟩ (.slice ap l.length cp)).setCell ⟨w.heap.size,1,none⟩ (.slice aq l.length cq)):=((But.refl (fun b=>b=w.heap.size) wz).setCell (p:=⟨w.heap.size,0,none⟩) (.inl rfl) _).setCell (p:=⟨w.heap.size,1,none⟩) (.inl rfl) _
 refine ⟨l,ap,cp,aq,cq,rfl,?_,(hr.but cR (fun i hi=>by omega)).mono hQ,cG.but cR (fun g dR=>cG.notBox hx (by decide) (by decide) g dR),hl,lH,hg⟩
 exact ((But.ofBelow A6).trans' hB (fun i hi hm=>hm.resolve_right (by omega))).trans' cR (fun i hi hm=>by omega)
set_option maxRecDepth 100000 in
theorem xe (rd P:Nat) (s:Bs) (cD:(zV s).2=true) (hs:s.length<=100) (w:World) (h:kg w rd P) (hP:P+1000<=1099511627776) :
 Calls Tryz.prog 85 #[.pointer (some ⟨rd,0,none⟩),str s] w (PlD w.heap.size rd (P+10) w):=by
 have cJ:=(jh cD).2
 have cQ:=h.lt
 obtain ⟨W,hW,b9,hz,b0⟩:=kV w (.cells #[.slice none 0 0,.slice none 0 0] 33)
 have C1:=bz (uq s (show _<=_ by omega) W)
 have HW:=bz (bj hW (bj b9 (bj b0 (h.below b9))))
 have mj:=bz (bj cQ hP)
 obtain ⟨t,hT⟩:=zzN ((zV s).1)
 rw [hT] at cJ
 have HT:=bz hT
 clear hW b9 hz b0 h cD hT cQ
 go_enter Tryz.func85,Tryz.ntmps85
 go_upto_region 1 with (fail)
 rw [HW.out.1]
 go_wp2_with fail
 (with_reducible refine C1.out.mono ?_)
 rintro en w1 ⟨tv,rfl,bi,rB⟩
 rw [HT.out] at rB
 obtain ⟨ta,tc,rfl⟩:=zp rB
 have DA:Rep (· < w1.heap.size) w1 (qP t) (.slice ta t.args.length tc):=(Rep.keep fun b o _ ho=>⟨zZ ho,ho⟩).1 _ _ rB
 obtain ⟨W2,mD,aS,mp,x5⟩:=kV w1 (.cells #[.slice ta t.args.length tc] 61)
 have cT:=zzT bi aS
 have t0:=kF x5
 have ed:Below W2.heap.size W2 (W2.alloc (.cells #[] 9)):=(bh _ _).alloc (bw _) _
 have Ca:Rep (· < w1.heap.size) (W2.alloc (.cells #[] 9)) (qP t) (.slice ta t.args.length tc):=(DA.below aS fun _ h=>h).below ed fun _ h=>h
 have CM:=bz (pM w1.heap.size 15 t [] (.slice ta t.args.length tc) [] (some ⟨W2.heap.size,0,none⟩) 0 0 (W2.alloc (.cells #[] 9)) cJ (bw _) (by simp) (by omega) (by rw [zK];have:=aS.size;omega) Ca (Own.lit #[] 0 (by unfold maxLen;omega) rfl) (fun g hg=>by simp [Value.ownBlock] at hg;have:=aS.size;omega))
 unfold MovQ at CM
 obtain ⟨nm,s9⟩:=zzN ((kW t []).length)
 rw [s9] at CM
 have HNM:=bz s9
 have DZ:nm<=24:=by rw [<- s9];exact xr cJ []
 have HMV:=bz (fun j m (h:(kW t [])[j]? = some m)=>xC cJ (List.mem_of_getElem? h))
 have H2:=bz (bj mD (bj (zzT HW.out.2.1 cT) (bj (HW.out.2.2.2.below cT) (bj ed ((cT.block _ (zZ HW.out.2.2.1)).trans HW.out.2.2.1)))))
 clear bi rB DA mD aS mp x5 cT ed Ca C1 s9 cJ
 go_upto_region 2 with (fail)
 rw [H2.out.1]
 go_wp2_with fail
 (with_reducible refine CM.out.mono ?_)
 rintro en w3 ⟨a3,n3,c3,rfl,iT,cH,AC,Ey⟩
 obtain rfl:n3=nm:=by omega
 have eH:Below W2.heap.size W2 w3:=H2.out.2.2.2.1.trans (cH.toBelow (by rw [zK];omega) fun g hg e=>by simp [Value.ownBlock] at e;omega)
 have mT:Own w3 9 1 (.slice a3 n3 c3) n3 ((kW t []).map str):=by rw [List.nil_append] at AC;exact AC
 have D_:∀ g,(Value.slice a3 n3 c3).ownBlock=some g->W2.heap.size<=g:=fun g hg=>by
  rcases Ey g hg with h | h
  ·simp [Value.ownBlock] at h;omega
  ·rw [zK] at h;omega
 obtain ⟨V,hV⟩:=zzN (((w3.alloc (.cells #[str [113]] 9)).alloc (.cells #[.int .i64 (-1)] 3)).alloc (.cells #[.slice (some ⟨w3.heap.size,0,none⟩) 1 1,.slice (some ⟨w3.heap.size+1,0,none⟩) 1 1] 33))
 have z1:=(bh w3.heap.size w3).alloc (bw _) (.cells #[str [113]] 9)
 have z2:=z1.alloc z1.size (.cells #[.int .i64 (-1)] 3)
 have z3:=z2.alloc z2.size (.cells #[.slice (some ⟨w3.heap.size,0,none⟩) 1 1,.slice (some ⟨w3.heap.size+1,0,none⟩) 1 1] 33)
 have hpV:zE V [([113],-1)] (.slice (some ⟨w3.heap.size,0,none⟩) 1 1) (.slice (some ⟨w3.heap.size+1,0,none⟩) 1 1):=by
  rw [<- hV]
  exact ⟨((Own.litAt #[str [113]] 1 _ rfl (by unfold maxLen;omega) rfl).alloc _).alloc _,(Own.litAt #[.int .i64 (-1)] 1 _ (by rw [zK]) (by unfold maxLen;omega) rfl).alloc _⟩
 have x8:V.heap[w3.heap.size+1+1]? = some (.cells #[.slice (some ⟨w3.heap.size,0,none⟩) 1 1,.slice (some ⟨w3.heap.size+1,0,none⟩) 1 1] 33 (0,0)):=by
  rw [<- hV]
  have:=zR ((w3.alloc (.cells #[str [113]] 9)).alloc (.cells #[.int .i64 (-1)] 3)) (.cells #[.slice (some ⟨w3.heap.size,0,none⟩) 1 1,.slice (some ⟨w3.heap.size+1,0,none⟩) 1 1] 33)
  rwa [zK,zK] at this
 have lz:Below w3.heap.size w3 V:=by rw [<- hV];exact z3
 have lq:=zzT eH lz
 have EY:=zzT H2.out.2.1 lq
 have CP:=bz (qd rd P 8 V (H2.out.2.2.1.below lq) (by omega) (by omega) (by have:=mj.out;omega))
 have HV:=bz (bj hV (bj EY (bj hpV (bj x8 (bj (mT.keep (w':=V) (fun g o _ ho=>by rw [lz.block g (zZ ho)];exact ho)) (bj D_ (bj lz (bj eH.size ((lq.block _ (zZ H2.out.2.2.2.2)).trans H2.out.2.2.2.2)))))))))
 have MLT:=bz (fun g (hg:(Value.slice a3 n3 c3).ownBlock=some g)=>mT.lt hg)
 have RDW:=bz (show rd<W2.heap.size from bm mj.out.1 H2.out.2.1.size)
 clear cH AC Ey eH mT D_ hV z1 z2 z3 hpV x8 lz lq EY CM t0 iT
 go_upto_region 4 with (fail)
 rw [HV.out.1]
 go_wp2_with fail
 refine CP.out.mono ?_
 rintro en w4 ⟨nn,rfl,hnn,cm,rr⟩
 have D4:w3.heap.size+1+1≠rd:=by have h1:=mj.out.1;have h2:=HV.out.2.2.2.2.2.2.2.1;have h3:=H2.out.2.1.size;omega
 have Ad:=bz (show rd<w3.heap.size/\w.heap.size<w3.heap.size from ⟨by have h1:=mj.out.1;have h2:=HV.out.2.2.2.2.2.2.2.1;have h3:=H2.out.2.1.size;omega,by have h2:=HV.out.2.2.2.2.2.2.2.1;have h3:=zZ H2.out.2.2.2.2;omega⟩)
 have fS:Hid (But (fun b=>b=rd\/b=w3.heap.size+1+1) V w4/\w4.heap[w3.heap.size+1+1]? = some (.cells #[.slice (some ⟨w3.heap.size,0,none⟩) 1 1,.slice (some ⟨w3.heap.size+1,0,none⟩) 1 1] 33 (0,0))/\zE w4 [([113],-1)] (.slice (some ⟨w3.heap.size,0,none⟩) 1 1) (.slice (some ⟨w3.heap.size+1,0,none⟩) 1 1)/\kg w4 rd (P+1+0)):=bz ⟨cm.weak (fun i _ h=>.inl h),(cm.block _ (zZ HV.out.2.2.2.1) D4).trans HV.out.2.2.2.1,HV.out.2.2.1.but cm (fun g hg=>by
  have h1:=Ad.out.1
  rcases hg with hg | hg <;> (simp [Value.ownBlock] at hg;omega)),rr⟩
 clear cm rr D4
 go_wp2_with fail
 go_loopw [10] (fun x wr=>∃ (i:Nat) (l:Pl) (ap:Option Addr) (cp:Nat) (aq:Option Addr) (cq:Nat) (wz:World),wz=wr/\i<=nn/\x=.int .i64 i/\But (fun b=>b=rd\/b=w3.heap.size+1+1) V wz/\wz.heap[w3.heap.size+1+1]? = some (.cells #[.slice ap l.length cp,.slice aq l.length cq] 33 (0,0))/\zE wz l (.slice ap l.length cp) (.slice aq l.length cq)/\kg wz rd (P+1+i)/\1<=l.length/\l.length<=i+1/\(∀ x∈l,x.1.length<=100)/\∀ g,(Value.slice ap l.length cp).ownBlock=some g\/(Value.slice aq l.length cq).ownBlock=some g->w3.heap.size<=g/\g≠w3.heap.size+1+1) (fun x _=>nn-(intOf x).toNat)
 case atStart=>exact ⟨0,[([113],-1)],_,1,_,1,_,rfl,Nat.zero_le _,rfl,fS.out.1,fS.out.2.1,fS.out.2.2.1,fS.out.2.2.2,by simp,by simp,by simp,fun g hg=>by rcases hg with hg | hg <;> (simp [Value.ownBlock] at hg;omega)⟩
 case round =>
  obtain ⟨i,l,ap,cp,aq,cq,wr,rfl,hi,rfl,hB,hx8,cG,fK,iA,Ej,lH,hgn⟩:=hrel
  have HR:=bz (bj hB (bj hx8 (bj cG (bj fK (bj lH hgn)))))
  have oY:wr.heap[w.heap.size]? = some (.cells #[.slice none 0 0,.slice none 0 0] 33 (0,0)):=(hB.block _ (zZ HV.out.2.2.2.2.2.2.2.2) (fun e=>by have h1:=Ad.out;have h2:=mj.out.1;rcases e with e | e <;> omega)).trans HV.out.2.2.2.2.2.2.2.2
  have FX:=bz oY
  clear hB hx8 cG fK lH hgn oY
  by_cases cQ:i<nn
  ·have dU:(i:Int)<(nn:Int):=by omega
   obtain ⟨W0,fR,E9,mN,bx⟩:=kV wr (.cells #[] 33)
   have np:=NxR.empty wr.heap.size wr (bw _)
   rw [fR] at np
   have HS:=bz (bj fR (bj E9 np))
   have KEY:=bz (fun (z:World) (hz:Below wr.heap.size wr z)=>(show (z.cell? ⟨w3.heap.size+1+1,0,none⟩=some (.slice ap l.length cp)/\z.cell? ⟨w3.heap.size+1+1,1,none⟩=some (.slice aq l.length cq))/\zE z l (.slice ap l.length cp) (.slice aq l.length cq)/\Own z 9 1 (.slice a3 n3 c3) n3 ((kW t []).map str) from by
    obtain ⟨k0,k1,_,_⟩:=zJ ((hz.block _ (zZ HR.out.2.1)).trans HR.out.2.1)
    refine ⟨⟨k0,k1⟩,HR.out.2.2.1.below hz,?_⟩
    have h5:=HV.out.2.2.2.2.1
    have h6:=HR.out.1
    have h7:=HV.out.2.2.2.2.2.2.1.size
    have h8:=HV.out.2.2.2.2.2.1
    have h9:=Ad.out.1
    have h10:=MLT.out
    exact (h5.keep (w':=wr) (fun g o hg ho=>by rw [h6.block g (zZ ho) (fun e=>by have h11:=h8 g hg;have h12:=h10 g hg;have h13:=RDW.out;omega)];exact ho)).keep (fun g o hg ho=>by rw [hz.block g (zZ ho)];exact ho)))
   have CW:=bz (fun (z:World) (hz:Below wr.heap.size wr z) (mv:Bs) (q:Int)=>xn l (.slice ap l.length cp) (.slice aq l.length cq) mv q z (Own.srcO (KEY.out z hz).2.1.1 (fun u hu=>by unfold qg at hu;obtain ⟨x,_,rfl⟩:=List.mem_map.1 hu;simp [str,Value.oneCell'])) (Own.srcO (KEY.out z hz).2.1.2 (fun u hu=>by unfold qy at hu;obtain ⟨x,_,rfl⟩:=List.mem_map.1 hu;simp [Value.oneCell'])) (by omega))
   clear fR E9 mN bx np
   go_wp2_with fail
   rw [HS.out.1]
   go_loopw [11,12] (fun o x wr'=>∃ (k n2 c2:Nat) (a2:Option Addr) (dS:List (Value×Value)) (L2:List Pl) (wz:World),wz=wr'/\k<=l.length/\x=.int .i64 k/\o=.slice a2 n2 c2/\n2<=24*k/\Below wr.heap.size wr wz/\NxR wr.heap.size L2 a2 n2 c2 dS wz/\∀ u∈L2,u.length=l.length+1/\∀ x∈u,x.1.length<=100) (fun _ x _=>l.length-(intOf x).toNat)
   case atStart=>exact ⟨0,0,0,_,[],[],_,rfl,Nat.zero_le _,rfl,rfl,by omega,HS.out.2.1,HS.out.2.2,fun u hu=>by simp at hu⟩
   case round =>
    obtain ⟨k,n2,c2,a2,dS,L2,wk,rfl,hk,rfl,rfl,fP,hBk,hNk,hLk⟩:=hrel
    have HK:=bz (bj hBk (bj hNk hLk))
    obtain ⟨⟨e0,e1⟩,DJ,_⟩:=KEY.out wk hBk
    have HPK:=bz DJ
    clear hBk hNk hLk DJ
    by_cases hklt:k<l.length
    ·have hkI:(k:Int)<(l.length:Int):=by omega
     obtain ⟨⟨mi,zi⟩,mY⟩:∃ x,l[k]? = some x:=⟨_,List.getElem?_eq_getElem hklt⟩
     have HVI:=bz mY
     clear mY e1
     go_wp2_with fail
     go_loopw [11,13] (fun o x wr'=>∃ (m n2 c2:Nat) (a2:Option Addr) (dS:List (Value×Value)) (L2:List Pl) (wz:World),wz=wr'/\m<=n3/\x=.int .i64 m/\o=.slice a2 n2 c2/\n2<=24*k+m/\Below wr.heap.size wr wz/\NxR wr.heap.size L2 a2 n2 c2 dS wz/\∀ u∈L2,u.length=l.length+1/\∀ x∈u,x.1.length<=100) (fun _ x _=>n3-(intOf x).toNat)
     case atStart=>exact ⟨0,n2,c2,a2,dS,L2,_,rfl,Nat.zero_le _,rfl,rfl,by omega,HK.out.1,HK.out.2.1,HK.out.2.2⟩
     case round =>
      obtain ⟨m,n2,c2,a2,dS,L2,wq,rfl,hm,rfl,rfl,fP,ar,Cn,hLq⟩:=hrel
      have HQ:=bz (bj ar (bj Cn hLq))
      obtain ⟨⟨e0,e1⟩,Ax,eR⟩:=KEY.out wq ar
      by_cases hmt:m<n3
      ·have hmtI:(m:Int)<(n3:Int):=by omega
       obtain ⟨mv,mI⟩:∃ mv,(kW t [])[m]? = some mv:=⟨_,List.getElem?_eq_getElem (by rw [HNM.out];exact hmt)⟩
       obtain ⟨mg,mk',emg,cb⟩:=eR.at (j:=m) (u:=str mv) (by rw [List.getElem?_map,mI];rfl)
       simp only [Value.slice.injEq,true_and] at emg
       obtain ⟨rfl,rfl⟩:=emg
       obtain ⟨pg,pk,epg,dP⟩:=Ax.1.at (j:=k) (u:=str mi) (by unfold qg;rw [List.getElem?_map,HVI.out];rfl)
       simp only [Value.slice.injEq,true_and] at epg
       obtain ⟨rfl,rfl⟩:=epg
       obtain ⟨cD,oT⟩:=HMV.out m mv mI
       have HML:=bz (show mv.length<=100 by omega)
       obtain ⟨c,p,fm⟩:∃ c p,mv=c::p:=by
        cases mv with
        | nil=>simp [qm] at cD
        | cons c p=>exact ⟨c,p,rfl⟩
       have ml:p.length<=16777216:=by rw [fm,List.length_cons] at oT;omega
       have CB:=bz (fun x=>vH c p ml x)
       have CE:=bz (fun x=>uV c p ml x)
       rw [<- fm] at CB CE
       obtain ⟨pn,c_⟩:=zzN (plN mv)
       obtain ⟨fu,eS⟩:=zzN (qt mv)
       rw [c_] at CB
       rw [eS] at CE
       obtain ⟨wi,hwi⟩:=zzN (l.length % 2)
       have hwt:(l.length:Int).tmod 2=((wi:Nat):Int):=by rw [Int.tmod_eq_emod_of_nonneg (by omega)];omega
       have fJ:=bz (fun (y:World) (hy:Below wq.heap.size wq y)=>(show y.cell? ⟨w3.heap.size+1+1,0,none⟩=some (.slice (some ⟨pg,0,none⟩) l.length cp)/\y.cell? ⟨w3.heap.size+1+1,1,none⟩=some (.slice aq l.length cq)/\y.cell? ⟨mg,m,none⟩=some (str mv)/\y.cell? ⟨pg,k,none⟩=some (str mi) from
        ⟨(hy.cell (bp _ _ e0)).trans e0,(hy.cell (bp _ _ e1)).trans e1,(hy.cell (bp _ _ cb)).trans cb,(hy.cell (bp _ _ dP)).trans dP⟩))
       clear ar Cn hLq Ax eR mI cD oT fm ml c_ eS hwi dP cb e0 e1
       cases D8:((mv:Bs) == [113]) with
       | true =>
         have nL:((mv:Bs) != [113])=false:=by rw [bne,D8];rfl
         go_upto_region 15 with (fail)
         refine wp_region_noPanic ?_
         refine zW (fun w'=>Below wq.heap.size wq w') (fun _=>false) (by kernel_rfl) ?_
         have cZ:(fun w'=>Below wq.heap.size wq w') wq.drew:=Below.drew (bh _ _)
         refine tk [0,1,2,3,4,5,6,7,8,9,10,11,12,13,14,15,16,17,18,19,20,21,22,23,24,25,26,27,28,29] cZ ?_
         (intro d hd;simp [tkD] at hd;subst hd;simp only [tks,pQ,pZ,pS])
         iterate 30 (refine ⟨?_,?_,?_⟩;rotate_left;· (intro oi ho;simp at ho;subst ho;first | (refine Or.inr ⟨by rfl,?_⟩;with_reducible rfl) | (refine Or.inl ⟨by rfl,fun w' b_=>?_⟩;obtain ⟨e0,e1,e2,e3⟩:=fJ.out w' b_;go_simp;try with_reducible rfl)))
         refine zU (by kernel_rfl) (NoPanic.normal ?_) _
         have mJ:=bz (Below.drew (bh wq.heap.size wq))
         clear cZ fJ
         go_wp2_with fail
         go_roundw
         case rel=>exact ⟨m+1,n2,c2,a2,dS,L2,_,rfl,by omega,by go_num,rfl,by omega,zzT HQ.out.1 mJ.out,HQ.out.2.1.below mJ.out,HQ.out.2.2⟩
         case measure=>simp [intOf];omega
       | false =>
         have nL:((mv:Bs) != [113])=true:=by rw [bne,D8];rfl
         cases aF:((pn:Int) == (wi:Int)) with
         | false =>
           go_upto_region 15 with (fail)
           refine wp_region_noPanic ?_
           refine zW (fun w'=>Below wq.heap.size wq w') (fun _=>false) (by kernel_rfl) ?_
           have cZ:(fun w'=>Below wq.heap.size wq w') wq.drew:=Below.drew (bh _ _)
           refine tk [0,1,2,3,4,5,6,7,8,9,11,12,13,14] cZ ?_
           (intro d hd;simp [tkD] at hd;subst hd;simp only [tks,pQ,pZ,pS])
           iterate 14 (refine ⟨?_,?_,?_⟩;rotate_left;· (intro oi ho;simp at ho;subst ho;refine Or.inl ⟨by rfl,fun w' b_=>?_⟩;obtain ⟨e0,e1,e2,e3⟩:=fJ.out w' b_;go_simp;try with_reducible rfl))
           (refine on 10 ?_;intro o ho K' hK;simp at ho;subst ho;go_simp)
           go_at_call 122
           (with_reducible refine (CB.out _).mono ?_)
           rintro en x4 ⟨rfl,e⟩
           subst x4
           (refine hK.out _ _ (fun _=>cZ) ?_;clear hK K';try simp only [pQ,pN,pZ,pS])
           have sy:=cZ
           refine tk [15,16,17,18,19,20,21,22,23,24,25,26,27,28,29] sy ?_
           (intro d hd;simp [tkD] at hd;subst hd;simp only [tks,pQ,pZ,pS])
           iterate 15 (refine ⟨?_,?_,?_⟩;rotate_left;· (intro oi ho;simp at ho;subst ho;first | (refine Or.inr ⟨by rfl,?_⟩;with_reducible rfl) | (refine Or.inl ⟨by rfl,fun w' b_=>?_⟩;go_simp;try with_reducible rfl)))
           refine zU (by kernel_rfl) (NoPanic.normal ?_) _
           have mJ:=bz (Below.drew (bh wq.heap.size wq))
           clear cZ fJ
           go_wp2_with fail
           go_roundw
           case rel=>exact ⟨m+1,n2,c2,a2,dS,L2,_,rfl,by omega,by go_num,rfl,by omega,zzT HQ.out.1 mJ.out,HQ.out.2.1.below mJ.out,HQ.out.2.2⟩
           case measure=>simp [intOf];omega
         | true =>
           go_upto_region 15 with (fail)
           refine wp_region_noPanic ?_
           refine zW (fun w'=>Below wq.heap.size wq w') (fun _=>false) (by kernel_rfl) ?_
           have cZ:(fun w'=>Below wq.heap.size wq w') wq.drew:=Below.drew (bh _ _)
           refine tk [0,1,2,3,4,5,6,7,8,9,11,12,13,14] cZ ?_
           (intro d hd;simp [tkD] at hd;subst hd;simp only [tks,pQ,pZ,pS])
           iterate 14 (refine ⟨?_,?_,?_⟩;rotate_left;· (intro oi ho;simp at ho;subst ho;refine Or.inl ⟨by rfl,fun w' b_=>?_⟩;obtain ⟨e0,e1,e2,e3⟩:=fJ.out w' b_;go_simp;try with_reducible rfl))
           (refine on 10 ?_;intro o ho K' hK;simp at ho;subst ho;go_simp)
           go_at_call 122
           (with_reducible refine (CB.out _).mono ?_)
           rintro en x4 ⟨rfl,e⟩
           subst x4
           (refine hK.out _ _ (fun _=>cZ) ?_;clear hK K';try simp only [pQ,pN,pZ,pS])
           have sy:=cZ
           refine tk [15,16,17,18,19,20,21,23,24,25,26,27] sy ?_
           (intro d hd;simp [tkD] at hd;subst hd;simp only [tks,pQ,pZ,pS])
           iterate 12 (refine ⟨?_,?_,?_⟩;rotate_left;· (intro oi ho;simp at ho;subst ho;refine Or.inl ⟨by rfl,fun w' b_=>?_⟩;obtain ⟨e0,e1,e2,e3⟩:=fJ.out w' b_;go_simp;try with_reducible rfl))
           (refine on 22 ?_;intro o ho K' hK;simp at ho;subst ho;go_simp)
           go_at_call 123
           (with_reducible refine (CE.out _).mono ?_)
           rintro en ry ⟨rfl,e⟩
           subst ry
           (refine hK.out _ _ (fun _=>cZ) ?_;clear hK K';try simp only [pQ,pN,pZ,pS])
           have hS22:=cZ
           refine tk [28,29] hS22 ?_
           (intro d hd;simp [tkD] at hd;subst hd;simp only [tks,pQ,pZ,pS])
           iterate 2 (refine ⟨?_,?_,?_⟩;rotate_left;· (intro oi ho;simp at ho;subst ho;refine Or.inl ⟨by rfl,fun w' b_=>?_⟩;go_simp;try with_reducible rfl))
           refine zU (by kernel_rfl) (NoPanic.normal ?_) _
           cases m9:((fu:Bs) == mi) with
           | false =>
             have mJ:=bz (Below.drew (bh wq.heap.size wq))
             clear cZ fJ
             go_wp2_with fail
             go_roundw
             case rel=>exact ⟨m+1,n2,c2,a2,dS,L2,_,rfl,by omega,by go_num,rfl,by omega,zzT HQ.out.1 mJ.out,HQ.out.2.1.below mJ.out,HQ.out.2.2⟩
             case measure=>simp [intOf];omega
           | true =>
             obtain ⟨y0,dH⟩:=zzN (wq.drew)
             rw [dH]
             have HY:Hid (Below wq.heap.size wq y0):=bz (by rw [<- dH];exact Below.drew (bh _ _))
             have mQ:=bz (fun (z:World) (hz:Below y0.heap.size y0 z)=>fJ.out z (zzT HY.out hz))
             have si:=bz (fun (z:World) (hz:Below y0.heap.size y0 z)=>CW.out z (HQ.out.1.trans ((zzT HY.out hz).mono HQ.out.1.size)) mv (k:Int))
             have o0:(l++[(mv,(k:Int))]).length=l.length+1:=by rw [List.length_append];rfl
             have HOWN:=bz (HQ.out.2.1.own)
             clear cZ dH
             go_upto_region 16 with (fail)
             refine wp_region_noPanic ?_
             refine zW (fun w'=>Below y0.heap.size y0 w') (fun i=>decide (9<=i)) (by kernel_rfl) ?_
             have cZ:(fun w'=>Below y0.heap.size y0 w') y0.drew:=Below.drew (bh _ _)
             refine ze 0 [9,10] (v:=?_) (by kernel_rfl) (by kernel_rfl) (by kernel_rfl) (by kernel_rfl) (fun _ _ _ _ h=>h) cZ ?_ ?_
             rotate_left
             ·(intro oi ho;simp at ho;subst ho;refine Or.inl ⟨by rfl,fun w' b_=>?_⟩;go_simp;try with_reducible rfl)
             (intro d hd;simp at hd;subst hd;simp only [Act.put,List.setIfInBounds_toArray,List.set_cons_zero,List.set_cons_succ])
             refine ze 1 [7,8,9,10] (v:=?_) (by kernel_rfl) (by kernel_rfl) (by kernel_rfl) (by kernel_rfl) (fun _ _ _ _ h=>h) cZ ?_ ?_
             rotate_left
             ·(intro oi ho;simp at ho;subst ho;refine Or.inl ⟨by rfl,fun w' b_=>?_⟩;obtain ⟨e0,e1,e2,e3⟩:=mQ.out w' b_;go_simp;try with_reducible rfl)
             (intro d hd;simp at hd;subst hd;simp only [Act.put,List.setIfInBounds_toArray,List.set_cons_zero,List.set_cons_succ])
             refine ze 2 [4,5,7,8,9,10] (v:=?_) (by kernel_rfl) (by kernel_rfl) (by kernel_rfl) (by kernel_rfl) (fun _ _ _ _ h=>h) cZ ?_ ?_
             rotate_left
             ·(intro oi ho;simp at ho;subst ho;refine Or.inl ⟨by rfl,fun w' b_=>?_⟩;go_simp;try with_reducible rfl)
             (intro d hd;simp at hd;subst hd;simp only [Act.put,List.setIfInBounds_toArray,List.set_cons_zero,List.set_cons_succ])
             refine ze 3 [4,5,7,8,9,10] (v:=?_) (by kernel_rfl) (by kernel_rfl) (by kernel_rfl) (by kernel_rfl) (fun _ _ _ _ h=>h) cZ ?_ ?_
             rotate_left
             ·(intro oi ho;simp at ho;subst ho;refine Or.inl ⟨by rfl,fun w' b_=>?_⟩;go_simp;try with_reducible rfl)
             (intro d hd;simp at hd;subst hd;simp only [Act.put,List.setIfInBounds_toArray,List.set_cons_zero,List.set_cons_succ])
             refine ze 4 [5,7,8,9,10] (v:=?_) (by kernel_rfl) (by kernel_rfl) (by kernel_rfl) (by kernel_rfl) (fun _ _ _ _ h=>h) cZ ?_ ?_
             rotate_left
             ·(intro oi ho;simp at ho;subst ho;refine Or.inl ⟨by rfl,fun w' b_=>?_⟩;go_simp;try with_reducible rfl)
             (intro d hd;simp at hd;subst hd;simp only [Act.put,List.setIfInBounds_toArray,List.set_cons_zero,List.set_cons_succ])
             refine ze 5 [7,8,9,10] (v:=?_) (by kernel_rfl) (by kernel_rfl) (by kernel_rfl) (by kernel_rfl) (fun _ _ _ _ h=>h) cZ ?_ ?_
             rotate_left
             ·(intro oi ho;simp at ho;subst ho;refine Or.inl ⟨by rfl,fun w' b_=>?_⟩;obtain ⟨e0,e1,e2,e3⟩:=mQ.out w' b_;go_simp;try with_reducible rfl)
             (intro d hd;simp at hd;subst hd;simp only [Act.put,List.setIfInBounds_toArray,List.set_cons_zero,List.set_cons_succ])
             refine ze 6 [7,8,9,10] (v:=?_) (by kernel_rfl) (by kernel_rfl) (by kernel_rfl) (by kernel_rfl) (fun _ _ _ _ h=>h) cZ ?_ ?_
             rotate_left
             ·(intro oi ho;simp at ho;subst ho;refine Or.inl ⟨by rfl,fun w' b_=>?_⟩;go_simp;try with_reducible rfl)
             (intro d hd;simp at hd;subst hd;simp only [Act.put,List.setIfInBounds_toArray,List.set_cons_zero,List.set_cons_succ])
             (refine on 7 ?_;intro o ho K' hK;simp at ho;subst ho;go_simp)
             go_at_call 92
             (with_reducible refine (si.out _ cZ).mono ?_)
             rintro en y1 ⟨mvn,ptn,rfl,c_,bi,fD⟩
             have rX:Below y0.heap.size y0 y1:=Below.trans cZ (bi.mono (Below.size cZ))
             obtain ⟨LU,oe⟩:=zzN (l.length+1)
             obtain ⟨a8,c8,e8⟩:=c_.1.slice
             obtain ⟨a9,c9,e9⟩:=c_.2.slice
             rw [o0,oe] at e8 e9
             subst e8;subst e9
             (refine hK.out _ _ (fun _=>rX) ?_;clear hK K';try simp only [pQ,pN,pZ,pS])
             have sj:=rX
             (refine on 8 ?_;intro o ho K' hK;simp at ho;subst ho;go_simp)
             (refine hK.out _ _ (fun _=>rX.alloc rX.size (.cells #[.slice a8 LU c8,.slice a9 LU c9] 33)) ?_;clear hK K';try simp only [pQ,pN,pZ,pS])
             have hS8:=rX.alloc rX.size (.cells #[.slice a8 LU c8,.slice a9 LU c9] 33)
             (refine on 9 ?_;intro o ho K' hK;simp at ho;subst ho)
             refine zq (by rfl) _ _ _ (by rfl) 33 (.agg #[.slice none 0 0,.slice none 0 0]) 2 48 Tryz.underlying26 Tryz.infoPlay rfl (by decide) (.slice a2 n2 c2) n2 (plC dS) (by rfl) (((HQ.out.2.1.below (zzT HY.out rX)).own).alloc _) _ 1 [.slice a8 LU c8,.slice a9 LU c9] (by rfl) (zM.litk #[.slice a8 LU c8,.slice a9 LU c9] rfl (by simp [Value.oneCell']) _ (by rfl)) (by unfold maxLen;omega) (by omega) ?_
             intro a7 c7 w7 dO cP ch
             (refine hK.out _ _ (fun h=>by simp at h) ?_;clear hK K';try simp only [pQ,pN,pZ,pS])
             (refine on 10 ?_;intro o ho K' hK;simp at ho;subst ho;go_simp)
             (refine hK.out _ _ (fun h=>by simp at h) ?_;clear hK K';try simp only [pQ,pN,pZ,pS])
             refine zU (by kernel_rfl) (NoPanic.normal ?_) _
             have ct:=zzT HY.out hS8
             have mE:=HQ.out.2.1.add ct HQ.out.1.size (c_.below ((bh _ _).alloc (bw _) _)) (fun g hg=>br HY.out.size (fD g hg)) dO cP ch
             have dc:Below wr.heap.size wr w7:=(zzT HQ.out.1 ct).trans (cP.toBelow (br HQ.out.1.size ct.size) fun g hg e=>by have:=HQ.out.2.1.new g (.inl e);omega)
             have H7:=bz (bj dc mE)
             clear ct mE dc dO cP ch hS8 sj cZ rX c_ fD bi o0 oe
             go_wp2_with fail
             go_roundw
             case rel=>exact ⟨m+1,n2+1,c7,a7,dS++[(.slice a8 LU c8,.slice a9 LU c9)],L2++[l++[(mv,(k:Int))]],_,rfl,by omega,by go_num,rfl,by omega,H7.out.1,H7.out.2,fun u hu=>by
              rcases List.mem_append.1 hu with h | h
              ·exact HQ.out.2.2 u h
              ·rw [List.mem_singleton] at h;subst h
               refine ⟨by rw [List.length_append];rfl,fun x hx=>?_⟩
               rcases List.mem_append.1 hx with h | h
               ·exact HR.out.2.2.2.2.1 x h
               ·rw [List.mem_singleton] at h;subst h;exact HML.out⟩
             case measure=>simp [intOf];omega
      ·have hmtI:¬ (m:Int)<(n3:Int):=by omega
       clear ar Cn hLq Ax eR e0 e1
       go_wp2_with fail
       go_roundw
       case rel=>exact ⟨k+1,n2,c2,a2,dS,L2,_,rfl,by omega,by go_num,rfl,by omega,HQ.out.1,HQ.out.2.1,HQ.out.2.2⟩
       case measure=>simp [intOf];omega
    ·have hkI:¬ (k:Int)<(l.length:Int):=by omega
     obtain rfl:k=l.length:=by omega
     have sH:=(HK.out.1.block _ (zZ FX.out)).trans FX.out
     have lQ:=HR.out.2.2.2.1.below HK.out.1
     have Ci:=HR.out.1.trans (But.ofBelow HK.out.1)
     by_cases B9:n2=0
     ·subst B9
      obtain ⟨q0,q1,q2,q3⟩:=zJ sH
      obtain ⟨r0,r1,_,_⟩:=zJ (qe sH (.slice ap l.length cp) (.slice aq l.length cq))
      have HE:=bz (pl_end (Q:=P+10) HV.out.2.1 (by have:=Ad.out;omega) mj.out.1 Ci sH HPK.out lQ (by omega) (by omega) HR.out.2.2.2.2.1 (fun g hg=>by have h1:=(HR.out.2.2.2.2.2 g hg).1;have h2:=Ad.out;omega))
      clear sH lQ Ci
      go_wp2_with fail
      refine bodyPost_ret (v:=.agg #[.slice ap l.length cp,.slice aq l.length cq]) (by simp [results,Tryz.results85,go_sem,r0,r1]) rfl ?_
      exact HE.out
     ·have hn0I:¬ (n2:Int)=0:=by omega
      have hn0B:((n2:Int) == 0)=false:=by simpa using hn0I
      obtain ⟨mm,tr⟩:=zzN (min 200 n2)
      have Ec:0<mm/\mm<=n2/\mm<=200:=by omega
      have B_:min 200 (n2:Int)=(mm:Int):=by omega
      have F9:=bz (qd rd (P+1+i) mm wk lQ Ec.1 (by omega) (by have:=mj.out;omega))
      have HMI:=bz B_
      have HBK:=bz (bj Ci sH)
      clear tr B_ sH lQ Ci
      go_wp2_with fail
      rw [HMI.out]
      refine F9.out.mono ?_
      rintro en w5 ⟨v,rfl,hv,cz,mG⟩
      have fg:=HK.out.2.1.rd.ul
      have eC:=HK.out.2.1.len
      have hvI:(v:Int)<(n2:Int):=by omega
      have h8k:=zZ HR.out.2.1
      have h3w:=Ad.out.1
      obtain ⟨u,hu⟩:∃ u,dS[v]? = some u:=⟨_,List.getElem?_eq_getElem (by omega)⟩
      obtain ⟨l2,rN⟩:∃ x,L2[v]? = some x:=⟨_,List.getElem?_eq_getElem (by omega)⟩
      have tP:NxR wr.heap.size L2 a2 n2 c2 dS w5:=⟨eC,jL.but HK.out.2.1.pls cz (fun b hb e=>by have h1:=HK.out.2.1.new b hb;omega),HK.out.2.1.new⟩
      obtain ⟨gl,cl,el,k1,k2⟩:=jL.cells tP.pls hu
      have nW:=tP.rd.each v u l2 hu rN
      have be:=fun g (hg:u.1.ownBlock=some g\/u.2.ownBlock=some g)=>tP.new g (.inr ⟨u,List.mem_of_getElem? hu,hg⟩)
      obtain ⟨AM,Ed⟩:=HK.out.2.2 l2 (List.mem_of_getElem? rN)
      simp only [Value.slice.injEq] at el
      obtain ⟨rfl,_,rfl⟩:=el
      obtain ⟨mv,pt⟩:=u
      obtain ⟨a8,c8,e8⟩:=nW.1.slice
      obtain ⟨a9,c9,e9⟩:=nW.2.slice
      change mv=_ at e8
      change pt=_ at e9
      subst e8;subst e9
      have BU:=(cz.block _ (by have:=HK.out.1.size;omega) (by omega)).trans ((HK.out.1.block _ h8k).trans HR.out.2.1)
      obtain ⟨q0,q1,q2,q3⟩:=zJ BU
      have sM:=qe BU (.slice a8 l2.length c8) (.slice a9 l2.length c9)
      have cR:=((But.refl (fun b=>b=w3.heap.size+1+1) w5).setCell (p:=⟨w3.heap.size+1+1,0,none⟩) (.inl rfl) (.slice a8 l2.length c8)).setCell (p:=⟨w3.heap.size+1+1,1,none⟩) (.inl rfl) (.slice a9 l2.length c9)
      have HF:=bz (bj ((HBK.out.1.trans (cz.weak fun i _ h=>.inl h)).trans (cR.weak fun i _ h=>.inr h)) (bj sM (bj (nW.but cR fun g hg e=>by have:=be g hg;omega) (bj ((mG.but cR fun i hi e=>by omega).mono (show P+1+i+1<=P+1+(i+1) by omega)) (bj Ed (fun g hg=>(show w3.heap.size<=g/\g≠w3.heap.size+1+1 from by have:=be g hg;omega)))))))
      have Cu:=bz AM
      clear AM cz mG fg eC hu rN tP nW be Ed BU sM cR F9 HK HBK HPK
      go_wp2_with fail
      go_roundw
      have AM:=Cu.out
      case rel=>exact ⟨i+1,l2,a8,c8,a9,c9,_,rfl,by omega,by go_num,HF.out.1,HF.out.2.1,HF.out.2.2.1,HF.out.2.2.2.1,by omega,by omega,HF.out.2.2.2.2.1,HF.out.2.2.2.2.2⟩
      case measure=>simp [intOf];omega
  ·have dU:¬ (i:Int)<(nn:Int):=by omega
   obtain ⟨q0,q1,q2,q3⟩:=zJ FX.out
   obtain ⟨e0,e1,_,_⟩:=zJ HR.out.2.1
   obtain ⟨r0,r1,_,_⟩:=zJ (qe FX.out (.slice ap l.length cp) (.slice aq l.length cq))
   have HE:=bz (pl_end (Q:=P+10) HV.out.2.1 (by have:=Ad.out;omega) mj.out.1 HR.out.1 FX.out HR.out.2.2.1 HR.out.2.2.2.1 (by omega) (by omega) HR.out.2.2.2.2.1 (fun g hg=>by have h1:=(HR.out.2.2.2.2.2 g hg).1;have h2:=Ad.out;omega))
   go_wp2_with fail
   refine bodyPost_ret (v:=.agg #[.slice ap l.length cp,.slice aq l.length cq]) (by simp [results,Tryz.results85,go_sem,r0,r1]) rfl ?_
   exact HE.out
def PlsPost (o:Option (List Pl)) (w:World) (en:Ending) (w':World):Prop :=
 ∃ v us,en=.returned (.tuple #[v,.bool o.isSome])/\Below w.heap.size w w'/\yz w' (o.getD []) v us/\∀ g,PlB v us g->w.heap.size<=g
theorem bT.views {o:Option (List Pl)} {w w':World} {en:Ending} (h:bT o w en w'):PlsPost o w en w':=by
 obtain ⟨a,n,c,us,h1,h2,h3⟩:=h
 exact ⟨_,us,h1,h2,h3.pls,h3.new⟩
theorem playsOf_some {s text:Bs} {n:Int} {L:List Pl} (h:qA s text n=some L):∃ b,zN s text=some b/\0<=n/\n<=8/\L=jE (zV s).1 b ((n.toNat+1) / 2)/\L.length<=300:=by
 unfold qA at h
 cases hb:zN s text with
 | none=>rw [hb] at h;simp at h
 | some b =>
   rw [hb] at h
   simp only at h
   split at h
   ·simp at h
   ·split at h
    ·simp at h
    ·obtain rfl:=Option.some.inj h
     exact ⟨b,rfl,by omega,by omega,rfl,by omega⟩
theorem sameTexts_any (a a':Option Addr) (c c':Nat) (xs:List Bs) (w:World) (h:pK w a xs) (h':pK w a' xs) (hx:xs.length<=16777216) :
 Calls Tryz.prog 41 #[.slice a xs.length c,.slice a' xs.length c'] w fun en w'=>en=.returned (.bool true)/\Below w.heap.size w w':=by
 have H:=bz h;have H':=bz h';clear h h'
 go_enter Tryz.func41,Tryz.ntmps41
 go_wp2_with fail
 go_loopw [5] (fun i wr=>∃ k:Nat,k<=xs.length/\i=.int .i64 k/\Below w.heap.size w wr) (fun i _=>xs.length-(intOf i).toNat)
 case atStart=>exact ⟨0,Nat.zero_le _,rfl,bh _ _⟩
 case round =>
  obtain ⟨k,hk,rfl,hb⟩:=hrel
  by_cases cQ:k<xs.length
  ·obtain ⟨s,hks⟩:∃ s,xs[k]? = some s:=⟨xs[k],by simp [cQ]⟩
   obtain ⟨b,o,e,hc⟩:=H.out.below hb k s hks
   obtain ⟨b2,o2,e2,fQ⟩:=H'.out.below hb k s hks
   subst e;subst e2
   clear hks
   have mH:(k:Int)<(xs.length:Int):=by omega
   have cE:(s == s)=true:=by simp
   have HB:=bz hb;clear hb
   go_wp2_with fail
   go_quiet (fail)
   go_wp2_with fail
   go_roundw
   case rel=>exact ⟨k+1,by omega,by go_num,z9 HB.out _⟩
   case measure=>simp [intOf];omega
  ·obtain rfl:k=xs.length:=by omega
   go_wp2_with fail
   go_ret
   exact ⟨rfl,hb⟩
theorem sameInts_any (a a':Option Addr) (n c c':Nat) (xs:List Int) (w:World) (h:Own w 3 1 (.slice a n c) n (xs.map (Value.int .i64))) (h':Own w 3 1 (.slice a' n c') n (xs.map (Value.int .i64))) (hn:n<=16777216) :
 Calls Tryz.prog 42 #[.slice a n c,.slice a' n c'] w fun en w'=>en=.returned (.bool true)/\Below w.heap.size w w':=by
 have H:=bz h;have H':=bz h';clear h h'
 go_enter Tryz.func42,Tryz.ntmps42
 go_wp2_with fail
 go_loopw [5] (fun i wr=>∃ k:Nat,k<=n/\i=.int .i64 k/\Below w.heap.size w wr) (fun i _=>n-(intOf i).toNat)
 case atStart=>exact ⟨0,Nat.zero_le _,rfl,bh _ _⟩
 case round =>
  obtain ⟨k,hk,rfl,hb⟩:=hrel
  by_cases cQ:k<n
  ·have ho:Own wr 3 1 (.slice a n c) n (xs.map (Value.int .i64)):=H.out.keep fun g o hg hh=>by rw [hb.block g (zZ hh)];exact hh
   have mA:Own wr 3 1 (.slice a' n c') n (xs.map (Value.int .i64)):=H'.out.keep fun g o hg hh=>by rw [hb.block g (zZ hh)];exact hh
   obtain ⟨g,e,hg,_,⟨u,iE,hu⟩,_⟩:=ho.open1 cQ
   obtain ⟨g',e',dR,_,⟨u',Al,mt⟩,_⟩:=mA.open1 cQ
   subst e;subst e'
   rw [iE] at Al
   obtain rfl:=Option.some.inj Al
   rw [List.getElem?_map,Option.map_eq_some_iff] at iE
   obtain ⟨x,_,rfl⟩:=iE
   have mH:(k:Int)<(n:Int):=by omega
   have cE:(x == x)=true:=by simp
   have hne':(x != x)=false:=by simp
   have HB:=bz hb;clear hb ho mA Al
   go_wp2_with fail
   go_quiet (fail)
   go_wp2_with fail
   go_roundw
   case rel=>exact ⟨k+1,by omega,by go_num,z9 HB.out _⟩
   case measure=>simp [intOf];omega
  ·obtain rfl:k=n:=by omega
   go_wp2_with fail
   go_ret
   exact ⟨rfl,hb⟩
theorem uI (log:List (Bs×Int)) (mv pt mv' pt':Value) (w:World) (h:zE w log mv pt) (h':zE w log mv' pt') (hl:log.length<=100000) :
 Calls Tryz.prog 16 #[.agg #[mv,pt],.agg #[mv',pt']] w fun en w'=>en=.returned (.bool true)/\Below w.heap.size w w':=by
 obtain ⟨a1,c1,rfl⟩:=h.1.slice
 obtain ⟨a2,c2,rfl⟩:=h.2.slice
 obtain ⟨a1',FT,rfl⟩:=h'.1.slice
 obtain ⟨Cs,Cq,rfl⟩:=h'.2.slice
 have H:=bz (bj h h');clear h h'
 have C1:Hid (∀ w0,Below w.heap.size w w0->Calls Tryz.prog 41 #[.slice a1 log.length c1,.slice a1' log.length FT] w0 fun en w'=>en=.returned (.bool true)/\Below w0.heap.size w0 w'):=by
  show ∀ w0,_->_
  intro w0 hb
  have k1:=(H.out.1.below hb).1
  have k2:=(H.out.2.below hb).1
  have e:qg log=(log.map (·.1)).map str:=by simp [qg]
  rw [e] at k1 k2
  have:=sameTexts_any a1 a1' c1 FT (log.map (·.1)) w0 k1.strs k2.strs (by simp;omega)
  rwa [List.length_map] at this
 have C2:Hid (∀ w0,Below w.heap.size w w0->Calls Tryz.prog 42 #[.slice a2 log.length c2,.slice Cs log.length Cq] w0 fun en w'=>en=.returned (.bool true)/\Below w0.heap.size w0 w'):=by
  show ∀ w0,_->_
  intro w0 hb
  have k1:=(H.out.1.below hb).2
  have k2:=(H.out.2.below hb).2
  have e:qy log=(log.map (·.2)).map (Value.int .i64):=by simp [qy]
  rw [e] at k1 k2
  exact sameInts_any a2 Cs log.length c2 Cq (log.map (·.2)) w0 k1 k2 (by omega)
 clear H
 go_enter Tryz.func16,Tryz.ntmps16
 go_wp2_with fail
 have eI:Below w.heap.size w ((w.alloc (.cells #[.slice a1 log.length c1,.slice a2 log.length c2] 33)).alloc (.cells #[.slice a1' log.length FT,.slice Cs log.length Cq] 33)):=((bh _ _).alloc (bw _) _).alloc (by rw [zK];omega) _
 (with_reducible refine (C1.out _ eI).mono ?_)
 rintro en w1 ⟨rfl,bi⟩
 have hbb:=zzT eI bi
 have d1:w1.cell? ⟨w.heap.size,1,none⟩=some (.slice a2 log.length c2):=by rw [bi.cell (by simp;omega)];simp
 have d2:w1.cell? ⟨w.heap.size+1,1,none⟩=some (.slice Cs log.length Cq):=by rw [bi.cell (by simp)];simp
 have HB:=bz hbb;clear hbb bi eI
 go_wp2_with fail
 (with_reducible refine (C2.out _ HB.out).mono ?_)
 rintro en w2 ⟨rfl,cK⟩
 have cj:=bz (zzT HB.out cK);clear cK
 go_wp2_with fail
 go_ret
 exact ⟨rfl,cj.out⟩

theorem jZ (u:Pl):(u.map (·.1)).zip (u.map (·.2))=u:=by
 induction u with
 | nil=>rfl
 | cons x u ih=>rw [List.map_cons,List.map_cons,List.zip_cons_cons,ih]
theorem specStrat_ok {s text:Bs} {b:Bd} (h:zN s text=some b):(zV s).2=true:=by
 unfold zN at h
 by_cases hq:(zV s).2=false\/2000<text.length
 ·rw [if_pos hq] at h;simp at h
 ·cases hz:(zV s).2 with
  | true=>rfl
  | false=>exact absurd (Or.inl hz) hq
theorem follow_in {s text:Bs} {b:Bd} {u:Pl} (h:zN s text=some b) (hu:uN (zV s).1 b u):jT s text (u.map (·.1)) (u.map (·.2))=true:=by
 unfold jT
 rw [h]
 simp only
 unfold ke kO
 rw [jZ,specStrat_ok h,hu.lg,decide_eq_true hu.fo]
 unfold qF
 have hv:=hu.ok
 unfold zO at hv
 rw [Bool.and_eq_true] at hv
 rw [jZ,hv.2]
 simp only [List.length_map,decide_eq_true (za hu.ok)]
 simp
theorem outAt_pos (t:Ty) (b:Bd) (r:Nat):0<(jE t b r).length:=by
 have:=ge t b (Nat.zero_le r)
 have h2:(jE t b 0).length=1:=rfl
 omega
theorem qC.ms {F:Nat->Prop} {w:World} {u:Pl} {x:Value} (h:qC F w u x):jp F w (u.map (·.1)) x:=by
 unfold jp
 unfold qC at h
 rw [List.length_map,List.map_map]
 exact h
theorem qB.ps {F:Nat->Prop} {w:World} {u:Pl} {x:Value} (h:qB F w u x):jw F w (u.map (·.2)) x:=by
 unfold jw
 unfold qB at h
 rw [List.length_map,List.map_map]
 exact h
theorem replyOk_spec (s text:Bs) (ms:List Bs) (ps:List Int):kY s text ms ps=match zN s text with
 | none=>none
 | some b=>qT (zV s).1 b (ms.zip ps) (ke s ms ps) ms.length:=rfl
theorem replyTo_of {t:Ty} {b:Bd} {v:Pl} {s:St} (h:¬ v.length=60) (hr:z_ t b v v.length=qM s):qR t b v=(qM s).map fun x=>v++[x]:=by unfold qR;rw [if_neg h,hr]
set_option maxRecDepth 100000 in
theorem jr (F:Nat->Prop) (s text:Bs) (mv pt:Value) (ms:List Bs) (ps:List Int) (w:World) (hs:Lim s.length) (ht:Lim text.length) (hm:jp F w ms mv) (hp:jw F w ps pt) (hl:∀ x∈ms,Lim x.length) :
 Calls Tryz.prog 25 #[str s,str text,.agg #[mv,pt]] w (PlQ (kY s text ms ps) w):=by
 obtain ⟨ma,mc,rfl⟩:=hm.slice
 obtain ⟨pa,pc,rfl⟩:=hp.slice
 obtain ⟨W,hW,b9,hz,b0,b1⟩:=kD w (.cells #[.slice ma ms.length mc,.slice pa ps.length pc] 33) (.cells #[.slice none 0 0,.slice none 0 0] 33)
 have C:=bz (yE s text hs ht W)
 have CL:=bz (fun (y:World) (hy:Below W.heap.size W y)=>xj F s _ _ ms ps y hs ((hm.below b9 fun _ h=>h).below hy fun _ h=>h) ((hp.below b9 fun _ h=>h).below hy fun _ h=>h) hl)
 have HP:=bz (fun (y:World) (hy:Below W.heap.size W y) (h:kO s ms ps=true)=>(vk (hm.below b9 fun _ h=>h) (hp.below b9 fun _ h=>h) hl h).below hy)
 have HW:=bz (bj hW (bj b9 (bj b0 b1)))
 clear hW b9 hz b0 b1 hs ht hm hp hl
 go_enter Tryz.func25,Tryz.ntmps25
 go_upto_region 1 with (fail)
 rw [HW.out.1]
 go_wp2_with fail
 (with_reducible refine C.out.mono ?_)
 rintro en w1 ⟨ta,tc,s',v',a2,n2,c2,a3,n3,c3,rfl,bi,rB,rK⟩
 have l6:=bz (fun b (h:zN s text=some b)=>(qL h).1)
 have F4:=bz (replyOk_spec s text ms ps)
 generalize hT:(zV s).1=t at *
 obtain ⟨so,Du⟩:=zzM (zN s text)
 rw [<- Du] at rK l6 F4 ⊢
 clear Du C
 obtain ⟨X,hX,eW,tH,x0,x1⟩:=kD w1 (.cells #[.slice ta t.args.length tc] 61) (.cells #[str s',.int .i64 v',.slice a2 n2 c2,.slice a3 n3 c3] 64)
 have tX:Below W.heap.size W X:=zzT bi eW
 obtain ⟨c0,c1,_,_⟩:=zJ HW.out.2.2.1
 have d0:=(tX.cell (bp _ _ c0)).trans c0
 have d1:=(tX.cell (bp _ _ c1)).trans c1
 have b3:=(tX.block _ (zZ HW.out.2.2.2)).trans HW.out.2.2.2
 have t0:=kF x0
 obtain ⟨m0,m1,m2,m3⟩:=kK x1
 have HX:=bz (bj hX (bj tX (bj (zzT HW.out.2.1 tX) b3)))
 have tA:Rep (fun _=>True) X (qP t) (.slice ta t.args.length tc):=(Rep.keep fun i o _ ho=>⟨trivial,by rw [eW.block i (zZ ho)];exact ho⟩).1 _ _ rB
 have tj:∀ b,so=some b->zv (fun _=>True) X (qZ b) [str s',.int .i64 v',.slice a2 n2 c2,.slice a3 n3 c3]:=fun b h=>(Rep.keep fun i o _ ho=>⟨trivial,by rw [eW.block i (zZ ho)];exact ho⟩).2 _ _ (rK b h)
 have HR:=bz (bj tA tj)
 have HT:=bz hT
 obtain ⟨z0,z1,f0,f1⟩:=zJ b3
 clear c0 c1 bi hX eW tH x0 x1 tX rB rK tA tj hT b3
 go_upto_region 2 with (fail)
 rw [HX.out.1]
 cases so with
 | none =>
   have E:Hid (kY s text ms ps=none):=bz F4.out
   clear F4
   go_wp2_with fail
   have hV:=kR HX.out.2.2.2 (.slice none 0 0) (.slice none 0 0)
   obtain ⟨s0,s1,_,_⟩:=zJ hV
   refine bodyPost_ret (v:=.tuple #[.agg #[.slice none 0 0,.slice none 0 0],.bool false]) (by simp [results,Tryz.results25,go_sem,s0,s1]) rfl ?_
   rw [E.out]
   exact PlQ.none ((HX.out.2.2.1.setCell (p:=⟨w.heap.size+1,0,none⟩) (Nat.le_add_right _ _) _).setCell (p:=⟨w.heap.size+1,1,none⟩) (Nat.le_add_right _ _) _)
 | some b =>
   have E:kY s text ms ps=qT t b (ms.zip ps) (ke s ms ps) ms.length:=F4.out
   have fC:=l6.out b rfl
   have C1:=CL.out X HX.out.2.1
   clear F4 l6 CL
   cases ec:ke s ms ps with
   | false =>
     rw [ec] at E C1
     have E:=bz (E.trans (gz _ _ _ _))
     have C1:=bz C1
     clear ec fC z0 z1 f0 f1
     go_wp2_with fail
     (with_reducible refine C1.out.mono ?_)
     rintro en w2 ⟨rfl,cK⟩
     have b3:=(cK.block _ (zZ HX.out.2.2.2)).trans HX.out.2.2.2
     obtain ⟨z0,z1,f0,f1⟩:=zJ b3
     have cj:=bz (bj (zzT HX.out.2.2.1 cK) b3)
     clear cK d0 d1 t0 m0 m1 m2 m3 b3
     go_wp2_with fail
     have hV:=kR cj.out.2 (.slice none 0 0) (.slice none 0 0)
     obtain ⟨s0,s1,_,_⟩:=zJ hV
     refine bodyPost_ret (v:=.tuple #[.agg #[.slice none 0 0,.slice none 0 0],.bool false]) (by simp [results,Tryz.results25,go_sem,s0,s1]) rfl ?_
     rw [E.out]
     exact PlQ.none ((cj.out.1.setCell (p:=⟨w.heap.size+1,0,none⟩) (Nat.le_add_right _ _) _).setCell (p:=⟨w.heap.size+1,1,none⟩) (Nat.le_add_right _ _) _)
   | true =>
     rw [ec] at E C1
     have sm:=bz (vy ec)
     have cU:=zip_len sm.out
     have hv60:=za (jt sm.out).2.1
     have oT:ms.length<=60:=by omega
     have se:=bz cU
     have E:=bz E
     have C1:=bz C1
     have HG:=bz fC
     clear ec fC cU hv60 z0 z1 f0 f1
     go_wp2_with fail
     (with_reducible refine C1.out.mono ?_)
     rintro en w2 ⟨rfl,cK⟩
     have hk:∀ (a:Addr) (u:Value),X.cell? a=some u->w2.cell? a=some u:=fun a u h=>(cK.cell (bp _ _ h)).trans h
     have e0:=hk _ _ d0;have e1:=hk _ _ d1;have u0:=hk _ _ t0;have y0:=hk _ _ m0;have y1:=hk _ _ m1;have y2:=hk _ _ m2;have y3:=hk _ _ m3
     have b3:=(cK.block _ (zZ HX.out.2.2.2)).trans HX.out.2.2.2
     obtain ⟨z0,z1,f0,f1⟩:=zJ b3
     have cj:=bz (bj (zzT HX.out.2.2.1 cK) (bj b3 cK))
     have sh:=bz (HP.out w2 (zzT HX.out.2.1 cK) sm.out)
     clear hk d0 d1 t0 m0 m1 m2 m3 b3 cK C1 HP
     rcases Nat.mod_two_eq_zero_or_one ms.length with t5 | t5
     ·have B_:(ms.length:Int).tmod 2=0:=by rw [Int.tmod_eq_emod_of_nonneg (by omega)];omega
      have E:=bz (E.out.trans (xp t b _ _ t5))
      clear t5
      go_wp2_with fail
      have hV:=kR cj.out.2.1 (.slice none 0 0) (.slice none 0 0)
      obtain ⟨s0,s1,_,_⟩:=zJ hV
      refine bodyPost_ret (v:=.tuple #[.agg #[.slice none 0 0,.slice none 0 0],.bool false]) (by simp [results,Tryz.results25,go_sem,s0,s1]) rfl ?_
      rw [E.out]
      exact PlQ.none ((cj.out.1.setCell (p:=⟨w.heap.size+1,0,none⟩) (Nat.le_add_right _ _) _).setCell (p:=⟨w.heap.size+1,1,none⟩) (Nat.le_add_right _ _) _)
     have B_:(ms.length:Int).tmod 2=1:=by rw [Int.tmod_eq_emod_of_nonneg (by omega)];omega
     have iU:=bz t5
     clear t5
     have dE:¬ (60:Int)<=(ms.length:Int):=by have:=iU.out;omega
     have h60':¬ 60<=ms.length:=by omega
     have cG:=sh.out
     have C2:=l3Follows_any t b (ms.zip ps) (.slice ta t.args.length tc) (.slice ma ms.length mc) (.slice pa ps.length pc) [str s',.int .i64 v',.slice a2 n2 c2,.slice a3 n3 c3] w2 ((Rep.below cj.out.2.2 fun _ h=>h) HR.out.1) ((Rep.keep fun i o hi ho=>⟨hi,by rw [cj.out.2.2.block i (zZ ho)];exact ho⟩).2 _ _ (HR.out.2 b rfl))
      ⟨(Rep.keep fun b o _ ho=>⟨trivial,ho⟩).1 _ _ cG.m,(Rep.keep fun b o _ ho=>⟨trivial,ho⟩).1 _ _ cG.p,cG.ok,cG.l⟩ HG.out.atoms HG.out.fit HG.out.wf
     obtain ⟨r,hr⟩:=zzN (decide (zj t b (ms.zip ps) (ms.zip ps).length))
     rw [hr] at C2
     have C2:=bz (show Calls Tryz.prog 50 #[.agg #[.slice ta t.args.length tc],.agg #[str s',.int .i64 v',.slice a2 n2 c2,.slice a3 n3 c3],.agg #[.slice ma ms.length mc,.slice pa ps.length pc]] w2 _ from C2)
     clear cG
     cases r with
     | false =>
       have E:=bz (E.out.trans (pB t b _ _ _ hr))
       clear hr z0 z1 f0 f1
       go_wp2_with fail
       (with_reducible refine C2.out.mono ?_)
       rintro en w3 ⟨rfl,cH⟩
       have b3:=(cH.block _ (zZ cj.out.2.1)).trans cj.out.2.1
       obtain ⟨z0,z1,f0,f1⟩:=zJ b3
       have dY:=bz (bj (zzT cj.out.1 cH) b3)
       clear cH b3
       go_wp2_with fail
       have hV:=kR dY.out.2 (.slice none 0 0) (.slice none 0 0)
       obtain ⟨s0,s1,_,_⟩:=zJ hV
       refine bodyPost_ret (v:=.tuple #[.agg #[.slice none 0 0,.slice none 0 0],.bool false]) (by simp [results,Tryz.results25,go_sem,s0,s1]) rfl ?_
       rw [E.out]
       exact PlQ.none ((dY.out.1.setCell (p:=⟨w.heap.size+1,0,none⟩) (Nat.le_add_right _ _) _).setCell (p:=⟨w.heap.size+1,1,none⟩) (Nat.le_add_right _ _) _)
     | true =>
       have E:=bz (E.out.trans (pH t b _ iU.out hr))
       have HF:=bz (of_decide_eq_true hr)
       clear hr z0 z1 f0 f1
       go_wp2_with fail
       (with_reducible refine C2.out.mono ?_)
       rintro en w3 ⟨rfl,cH⟩
       have hk:∀ (a:Addr) (u:Value),w2.cell? a=some u->w3.cell? a=some u:=fun a u h=>(cH.cell (bp _ _ h)).trans h
       have d0:=hk _ _ e0;have d1:=hk _ _ e1;have t0:=hk _ _ u0;have m0:=hk _ _ y0;have m1:=hk _ _ y1;have m2:=hk _ _ y2;have m3:=hk _ _ y3
       have FJ:=zzT cj.out.2.2 cH
       have cG:=sh.out.below cH
       obtain ⟨st,hand,dw,cd⟩:=jq HG.out.atoms HG.out.fit HG.out.wf cG.ok (ms.length-1) (by have:=iU.out;have:=se.out;omega) (by have:=iU.out;omega) (fun i hi ho=>HF.out i (by have:=se.out;omega) ho)
       have C3:=bz (show Calls Tryz.prog 51 #[.agg #[.slice ta t.args.length tc],.agg #[str s',.int .i64 v',.slice a2 n2 c2,.slice a3 n3 c3],.agg #[.slice ma ms.length mc,.slice pa ps.length pc]] w3 _ from
        yF (fun _=>True) t b (ms.zip ps) (ms.length-1) st (.slice ta t.args.length tc) (.slice ma ms.length mc) (.slice pa ps.length pc) [str s',.int .i64 v',.slice a2 n2 c2,.slice a3 n3 c3] w3 ((Rep.below FJ fun _ h=>h) HR.out.1) ((Rep.keep fun i o hi ho=>⟨hi,by rw [FJ.block i (zZ ho)];exact ho⟩).2 _ _ (HR.out.2 b rfl))
         ⟨(Rep.keep fun b o _ ho=>⟨trivial,ho⟩).1 _ _ cG.m,(Rep.keep fun b o _ ho=>⟨trivial,ho⟩).1 _ _ cG.p,cG.ok,cG.l⟩ HG.out.atoms HG.out.fit HG.out.wf
         (by have:=iU.out;have:=se.out;omega) (by have:=iU.out;omega) (fun i hi ho=>HF.out i (by have:=se.out;omega) ho) dw)
       have E:=bz (show kY s text ms ps=(qM st).map fun x=>ms.zip ps++[x] from E.out.trans (replyTo_of (by have:=se.out;omega) (by
        unfold z_;rw [show (ms.zip ps).length=ms.length-1+1 from by have:=iU.out;have:=se.out;omega,dw];rfl)))
       have b3:=(cH.block _ (zZ cj.out.2.1)).trans cj.out.2.1
       have dY:=bz (bj (zzT cj.out.1 cH) b3)
       clear hk e0 e1 u0 y0 y1 y2 y3 cH b3 cG FJ dw cd C2
       go_wp2_with fail
       (with_reducible refine C3.out.mono ?_)
       rintro en w4 ⟨a8,n8,c8,a9,n9,c9,rfl,cm,_,dq⟩
       obtain ⟨Y,hY,mU,hzY,p0⟩:=kV w4 (.cells #[.slice a8 n8 c8,.slice a9 n9 c9] 33)
       have b3:=(mU.block _ (zZ ((cm.block _ (zZ dY.out.2)).trans dY.out.2))).trans ((cm.block _ (zZ dY.out.2)).trans dY.out.2)
       obtain ⟨z0,z1,f0,f1⟩:=zJ b3
       obtain ⟨q0,q1,_,_⟩:=zJ p0
       have Fa:Below w.heap.size w Y:=(zzT dY.out.1 cm).trans (mU.mono (br dY.out.1.size cm.size))
       have HY:=bz (bj hY (bj b3 (bj Fa (bj mU (show w.heap.size+1<w3.heap.size from zZ dY.out.2)))))
       have HSO:=bz dq
       clear hY b3 Fa mU hzY p0 cm dq C3 d0 d1 t0 m0 m1 m2 m3
       obtain ⟨o,ho⟩:=zzN (qM st)
       rw [ho] at E HSO
       rw [ho]
       cases o with
       | none =>
         have E:=bz (show kY s text ms ps=none from E.out)
         clear ho HSO
         go_upto_region 5 with (fail)
         rw [HY.out.1]
         go_wp2_with fail
         have hV:=kR HY.out.2.1 (.slice none 0 0) (.slice none 0 0)
         obtain ⟨s0,s1,_,_⟩:=zJ hV
         refine bodyPost_ret (v:=.tuple #[.agg #[.slice none 0 0,.slice none 0 0],.bool false]) (by simp [results,Tryz.results25,go_sem,s0,s1]) rfl ?_
         rw [E.out]
         exact PlQ.none ((HY.out.2.2.1.setCell (p:=⟨w.heap.size+1,0,none⟩) (Nat.le_add_right _ _) _).setCell (p:=⟨w.heap.size+1,1,none⟩) (Nat.le_add_right _ _) _)
       | some x =>
         obtain ⟨c_,fD⟩:=HSO.out x rfl
         have E:=bz (show kY s text ms ps=some (ms.zip ps++[x]) from E.out)
         have l8:n8=(ms.zip ps++[x]).length:=by obtain ⟨_,_,e⟩:=c_.1.slice;exact (Value.slice.inj e).2.1
         have l9:n9=(ms.zip ps++[x]).length:=by obtain ⟨_,_,e⟩:=c_.2.slice;exact (Value.slice.inj e).2.1
         have h9:n8=n9:=l8.trans l9.symm
         subst h9
         have hpY:=c_.below HY.out.2.2.2.1
         have Ac:=bz (bj hpY (bj fD (bj l8 l9)))
         clear ho HSO c_ fD hpY l8 l9
         go_upto_region 5 with (fail)
         rw [HY.out.1]
         go_wp2_with fail
         have hV:=kR HY.out.2.1 (.slice a8 n8 c8) (.slice a9 n8 c9)
         obtain ⟨nD,nC,_,_⟩:=zJ hV
         have cf:∀ g,g≠w.heap.size+1->((Y.setCell ⟨w.heap.size+1,0,none⟩ (.slice a8 n8 c8)).setCell ⟨w.heap.size+1,1,none⟩ (.slice a9 n8 c9)).heap[g]? = Y.heap[g]?:=fun g hg=>by
          rw [bf _ _ _ _ (by show g≠w.heap.size+1;exact hg),bf _ _ _ _ (by show g≠w.heap.size+1;exact hg)]
         refine bodyPost_ret (v:=.tuple #[.agg #[.slice a8 n8 c8,.slice a9 n8 c9],.bool true]) (by simp [results,Tryz.results25,go_sem,nD,nC]) rfl ?_
         rw [E.out]
         have cQ:=HY.out.2.2.2.2
         refine ⟨a8,c8,a9,c9,by rw [Option.getD_some,<- Ac.out.2.2.1];rfl,(HY.out.2.2.1.setCell (p:=⟨w.heap.size+1,0,none⟩) (Nat.le_add_right _ _) _).setCell (p:=⟨w.heap.size+1,1,none⟩) (Nat.le_add_right _ _) _,?_,fun g hg=>?_⟩
         ·rw [Option.getD_some,show (ms.zip ps++[x]).length=n8 from Ac.out.2.2.1.symm]
          refine ⟨?_,?_⟩
          ·exact Ac.out.1.1.keep fun g o hg ho=>by
            have:=Ac.out.2.1 g (.inl hg)
            rw [cf g (by omega)];exact ho
          ·exact Ac.out.1.2.keep fun g o hg ho=>by
            have:=Ac.out.2.1 g (.inr hg)
            rw [cf g (by omega)];exact ho
         ·rw [Option.getD_some,show (ms.zip ps++[x]).length=n8 from Ac.out.2.2.1.symm] at hg
          have:=Ac.out.2.1 g hg
          have h5:=HW.out.2.1.size;have h6:=dY.out.1.size
          omega
end Go.Proofs.YtfedjhgaeikjmaaGreatDoor

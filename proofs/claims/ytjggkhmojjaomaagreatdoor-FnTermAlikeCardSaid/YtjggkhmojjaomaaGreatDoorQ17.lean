/- Walks of functions that the statement reaches, and plain words. No conditions. -/
import Derived.Laws.DeepNot64
import Derived.Deep.RegionLaw
import Derived.Test.YtjggkhmojjaomaaGreatDoorQ15
set_option linter.unusedVariables false
set_option linter.unusedSimpArgs false
set_option maxHeartbeats 4000000
namespace Go.Proofs.YtjggkhmojjaomaaGreatDoor
open Go.RowKit
theorem i64_xor_nat (a b:Nat) (ha:a<9223372036854775808) (hb:b<9223372036854775808):bits .xor .i64 (a:Int) (b:Int)=((a ^^^ b:Nat):Int):=by
 have hx:a ^^^ b<2 ^ 63:=Nat.xor_lt_two_pow (by omega) (by omega)
 show IntKind.i64.wrap ((BitVec.ofInt 64 (a:Int) ^^^ BitVec.ofInt 64 (b:Int)).toNat:Int)=_
 rw [BitVec.toNat_xor,ofInt_u64 a (by omega),ofInt_u64 b (by omega)]
 generalize a ^^^ b=x at *
 simp [IntKind.wrap,IntKind.bits,IntKind.signed]
 omega
def qi (w:World) (rd P:Nat):Prop :=
 ∃ (a:Option Addr) (n c p:Nat),w.heap[rd]? = some (.cells #[.slice a n c,.int .i64 (p:Nat)] 63 (0,0))/\p<=P/\n<=2000 /\
   (n=0\/∃ b o,a=some ⟨b,o,none⟩/\b<rd/\∀ k,k<n->∃ x:Nat,x<256/\w.cell? ⟨b,o+k,none⟩=some (.int .u8 x))
theorem qi.lt {w:World} {rd P:Nat} (h:qi w rd P):rd<w.heap.size:=by
 obtain ⟨a,n,c,p,h1,_⟩:=h;exact zZ h1
theorem qi.mono {w:World} {rd P Q:Nat} (h:qi w rd P) (k:P<=Q):qi w rd Q:=by
 obtain ⟨a,n,c,p,h1,h2,h3⟩:=h;exact ⟨a,n,c,p,h1,fQ h2 k,h3⟩
theorem qi.below {w w':World} {rd P:Nat} (h:qi w rd P) (hb:Below w.heap.size w w'):qi w' rd P:=by
 obtain ⟨a,n,c,p,h1,h2,h3,h4⟩:=h
 refine ⟨a,n,c,p,(hb.block _ (zZ h1)).trans h1,h2,h3,?_⟩
 rcases h4 with h4 | ⟨b,o,e,hne,hk⟩
 ·exact .inl h4
 ·refine .inr ⟨b,o,e,hne,fun k B3=>?_⟩
  obtain ⟨x,hx,hc⟩:=hk k B3
  exact ⟨x,hx,(hb.cell (e9 w _ hc)).trans hc⟩
theorem qi.but {m:Nat->Prop} {w w':World} {rd P:Nat} (h:qi w rd P) (hb:But m w w') (hm:∀ i,i<=rd->¬ m i):qi w' rd P:=by
 obtain ⟨a,n,c,p,h1,h2,h3,h4⟩:=h
 refine ⟨a,n,c,p,(hb.block _ (zZ h1) (hm _ (ei _))).trans h1,h2,h3,?_⟩
 rcases h4 with h4 | ⟨b,o,e,hne,hk⟩
 ·exact .inl h4
 ·refine .inr ⟨b,o,e,hne,fun k B3=>?_⟩
  obtain ⟨x,hx,hc⟩:=hk k B3
  exact ⟨x,hx,(hb.cell (e9 w _ hc) (hm _ (Nat.le_of_lt hne))).trans hc⟩
theorem qi.drew {w:World} {rd P:Nat} (h:qi w rd P):qi w.drew rd P:=h
theorem qi.drewN {w:World} {rd P:Nat} (h:qi w rd P) (n:Nat):qi (w.drewN n) rd P:=h
theorem qi.alloc {w:World} {rd P:Nat} (h:qi w rd P) (o:Obj):qi (w.alloc o) rd P:=h.below ((e_ _ _).alloc (ei _) _)
theorem wW {m:Nat->Prop} {a w:World} (h:But m a w) (n:Nat):But m a (w.drewN n):=⟨h.os,h.tape,h.output,h.size,h.block⟩
def Picked (rd P n:Nat) (w:World) (en:Ending) (w':World):Prop :=
 ∃ v:Nat,en=.returned (.int .i64 (v:Nat))/\v<n/\But (· = rd) w w'/\qi w' rd (P+1)
theorem yz {z:Int} {n:Nat} (e:z=(n:Int)) (h:n<9223372036854775808):IntKind.i64.wrap z=(n:Int):=by rw [e];exact wN n h
structure Mix (p m x1 x2 n:Nat) (I A B C J D E G H Q R X Y Z V:Nat):Prop where
 i:(p:Int).tmod (m:Int)=(I:Int)
 a:IntKind.i64.wrap ((x1:Int)*131)=(A:Int)
 b:IntKind.i64.wrap ((p:Int)*7)=(B:Int)
 c:IntKind.i64.wrap ((B:Int)+3)=(C:Int)
 j:(C:Int).tmod (m:Int)=(J:Int)
 d:IntKind.i64.wrap ((x2:Int)*1117)=(D:Int)
 e:IntKind.i64.wrap ((A:Int)+(D:Int))=(E:Int)
 g:IntKind.i64.wrap ((p:Int)*29)=(G:Int)
 h:IntKind.i64.wrap ((E:Int)+(G:Int))=(H:Int)
 q:(p:Int).tdiv (m:Int)=(Q:Int)
 r:IntKind.i64.wrap ((Q:Int)*53)=(R:Int)
 x:IntKind.i64.wrap ((H:Int)+(R:Int))=(X:Int)
 y:(X:Int).tdiv 64=(Y:Int)
 z:bits .xor .i64 (X:Int) (Y:Int)=(Z:Int)
 v:(Z:Int).tmod (n:Int)=(V:Int)
 vn:V<n
 wq:IntKind.i64.wrap (Q:Int)=(Q:Int)
 wy:IntKind.i64.wrap (Y:Int)=(Y:Int)
theorem mix_any (p m x1 x2 n:Nat) (hp:p<=1099511627776) (Dc:x1<256) (AZ:x2<256) (hn:0<n) :
 ∃ A B D E G H Q R X Y Z V:Nat,Mix p m x1 x2 n (p % m) A B (p*7+3) ((p*7+3) % m) D E G H Q R X Y Z V:=by
 have hq:p / m<=p:=Nat.div_le_self _ _
 have hX:x1*131+x2*1117+p*29+p / m*53<9223372036854775808:=by omega
 have hY:(x1*131+x2*1117+p*29+p / m*53) / 64<9223372036854775808:=by omega
 refine ⟨x1*131,p*7,x2*1117,x1*131+x2*1117,p*29,x1*131+x2*1117+p*29,p / m,p / m*53,x1*131+x2*1117+p*29+p / m*53,(x1*131+x2*1117+p*29+p / m*53) / 64,(x1*131+x2*1117+p*29+p / m*53) ^^^ ((x1*131+x2*1117+p*29+p / m*53) / 64),((x1*131+x2*1117+p*29+p / m*53) ^^^ ((x1*131+x2*1117+p*29+p / m*53) / 64)) % n,?_⟩
 exact ⟨wS _ _,yz (by omega) (by omega),yz (by omega) (by omega),yz (by omega) (by omega),wS _ _,yz (by omega) (by omega),yz (by omega) (by omega),yz (by omega) (by omega),yz (by omega) (by omega),
  dj _ _,yz (by omega) (by omega),yz (by omega) hX,dj _ 64,i64_xor_nat _ _ hX hY,wS _ _,Nat.mod_lt _ hn,wN _ (by omega),wN _ hY⟩
set_option maxRecDepth 100000 in
theorem yB (rd P n:Nat) (w:World) (h:qi w rd P) (hn:0<n) (sZ:n<=16777216) (hP:P<=1099511627776) :
 Calls Tryz.prog 23 #[.pointer (some ⟨rd,0,none⟩),.int .i64 (n:Nat)] w (Picked rd P n w):=by
 obtain ⟨a,m,c,p,h1,hp,hm,hcs⟩:=h
 have hpP:p<=1099511627776:=by omega
 have c0:w.cell? ⟨rd,0,none⟩=some (.slice a m c):=by simp [World.cell?,h1]
 have c1:w.cell? ⟨rd,1,none⟩=some (.int .i64 (p:Nat)):=by simp [World.cell?,h1]
 have f1:w.frozen? ⟨rd,1,none⟩=false:=by simp [World.frozen?,h1]
 have fG:=zZ h1
 obtain ⟨W,hW⟩:=zzN (w.setCell ⟨rd,1,none⟩ (.int .i64 ((p:Int)+1)))
 have fJ:W.heap[rd]? = some (.cells #[.slice a m c,.int .i64 ((p+1:Nat):Int)] 63 (0,0)):=by
  have h':w.heap[rd]=.cells #[.slice a m c,.int .i64 (p:Nat)] 63 (0,0):=by simpa [Array.getElem?_eq_getElem fG] using h1
  rw [<- hW]
  show (w.heap.modify rd _)[rd]? = _
  rw [Array.getElem?_eq_getElem (by simpa using fG),Array.getElem_modify_self,h']
  simp
 have AJ:But (· = rd) w W:=by rw [<- hW];exact (But.refl (· = rd) _).setCell (p:=⟨rd,1,none⟩) (.inl rfl) _
 have d0:W.cell? ⟨rd,0,none⟩=some (.slice a m c):=by simp [World.cell?,fJ]
 have d1:W.cell? ⟨rd,1,none⟩=some (.int .i64 ((p:Int)+1)):=by simp [World.cell?,fJ]
 have tm:qi W rd (P+1):=by
  refine ⟨a,m,c,p+1,fJ,by omega,hm,?_⟩
  rcases hcs with h4 | ⟨b,o,e,hne,hk⟩
  ·exact .inl h4
  ·refine .inr ⟨b,o,e,hne,fun k B3=>?_⟩
   obtain ⟨x,hx,hc⟩:=hk k B3
   exact ⟨x,hx,(AJ.cell (e9 w _ hc) (fun e=>Nat.ne_of_lt hne e)).trans hc⟩
 have RD:=ed tm;have BT:=ed AJ
 have g0:¬ (n:Int)<1:=by omega
 have gn:((n:Int) == 0)=false:=by rw [beq_eq_false_iff_ne];omega
 have hWb:∀ (b o:Nat) (v:Value),b≠rd->w.cell? ⟨b,o,none⟩=some v->W.cell? ⟨b,o,none⟩=some v:=fun b o v hne hc =>
  (AJ.cell (p:=⟨b,o,none⟩) (e9 w ⟨b,o,none⟩ hc) (fun e=>hne e)).trans hc
 have WB:=ed hWb;have GG:=ed hcs;have HW:=ed hW
 clear tm AJ h1 fJ hWb hcs hW
 go_enter Tryz.func23,Tryz.ntmps23
 go_upto_region 2 with (fail)
 rw [HW.out]
 clear c0 c1 f1
 rcases GG.out with h0 | ⟨b,o,e,hne,hk⟩
 ·subst h0
  go_wp2_with fail
  go_ret
  exact ⟨0,rfl,hn,BT.out,RD.out⟩
 ·subst e
  have HK:=ed hk;clear hk
  by_cases I_:m=0
  ·subst I_
   go_wp2_with fail
   go_ret
   exact ⟨0,rfl,hn,BT.out,RD.out⟩
  have gm:((m:Int) == 0)=false:=by rw [beq_eq_false_iff_ne];omega
  by_cases hpm:p<m
  ·obtain ⟨x,hx,hc⟩:=HK.out p hpm
   have e1:=WB.out _ _ _ (Nat.ne_of_lt hne) hc
   have hpm':(p:Int)<(m:Int):=by omega
   have et:(x:Int).tmod (n:Int)=((x % n:Nat):Int):=wS _ _
   have hv:x % n<n:=Nat.mod_lt _ hn
   have HV:=ed hv;clear hv hc
   go_wp2_with fail
   go_ret
   exact ⟨x % n,rfl,HV.out,BT.out,RD.out⟩
  ·have hpm':¬ (p:Int)<(m:Int):=by omega
   obtain ⟨x1,Dc,rZ⟩:=HK.out (p % m) (Nat.mod_lt _ (by omega))
   obtain ⟨x2,AZ,rD⟩:=HK.out ((p*7+3) % m) (Nat.mod_lt _ (by omega))
   have e1:=WB.out _ _ _ (Nat.ne_of_lt hne) rZ
   have e2:=WB.out _ _ _ (Nat.ne_of_lt hne) rD
   obtain ⟨A,B,D,E,G,H,Q,R,X,Y,Z,V,M⟩:=mix_any p m x1 x2 n hpP Dc AZ hn
   have hI:p % m<m:=Nat.mod_lt _ (by omega)
   have hJ:(p*7+3) % m<m:=Nat.mod_lt _ (by omega)
   generalize p % m=I at *
   generalize (p*7+3) % m=J at *
   generalize p*7+3=C at *
   have hI':(I:Int)<(m:Int):=by omega
   have hJ':(J:Int)<(m:Int):=by omega
   have q1:=M.i;have q2:=M.a;have q3:=M.b;have q4:=M.c;have q5:=M.j;have q6:=M.d;have q7:=M.e;have q8:=M.g;have q9:=M.h
   have GL:=M.q;have Em:=M.r;have GK:=M.x;have q13:=M.y;have q14:=M.z;have q15:=M.v;have q16:=M.wq;have q17:=M.wy
   have MV:=ed M.vn
   clear rZ rD M
   go_wp2_with fail
   go_quiet (fail)
   go_wp2_with fail
   go_ret
   exact ⟨V,rfl,MV.out,wW BT.out _,RD.out.drewN _⟩
def xN (w:World) (rd:Nat) (l:Value) (xs:List Bs):Prop :=
 ∃ b o c,l=.slice (some ⟨b,o,none⟩) xs.length c/\b≠rd/\∀ (k:Nat) (s:Bs),xs[k]? = some s->w.cell? ⟨b,o+k,none⟩=some (str s)
theorem xN.new {w:World} {rd:Nat} (tm:rd<w.heap.size) (xs:List Bs) (n:Nat) (hn:n=xs.length) (e:TypeId):xN (w.alloc (.cells (xs.map str).toArray e)) rd (.slice (some ⟨w.heap.size,0,none⟩) n n) xs:=by
 subst hn
 refine ⟨w.heap.size,0,_,rfl,by omega,fun k s hs=>?_⟩
 rw [Nat.zero_add]
 simp only [World.cell?,zG]
 simp [hs]
def Took (rd P:Nat) (xs:List Bs) (w:World) (en:Ending) (w':World):Prop :=
 ∃ s∈xs,en=.returned (str s)/\But (· = rd) w w'/\qi w' rd P
theorem wg (rd P:Nat) (l:Value) (xs:List Bs) (w:World) (h:qi w rd P) (hl:xN w rd l xs) (hx:0<xs.length) (AZ:xs.length<=16777216) (hP:P<=1099511627776) :
 Calls Tryz.prog 25 #[.pointer (some ⟨rd,0,none⟩),l] w (Took rd (P+1) xs w):=by
 obtain ⟨b,o,c,rfl,hne,hk⟩:=hl
 have HK:=ed hk;clear hk
 go_enter Tryz.func25,Tryz.ntmps25
 go_wp2_with fail
 refine (yB rd P xs.length w h hx AZ hP).mono ?_
 rintro en w1 ⟨v,rfl,hv,hb,hr⟩
 obtain ⟨s,hs⟩:∃ s,xs[v]? = some s:=⟨xs[v],by simp [hv]⟩
 have hc:=HK.out v s hs
 have rZ:w1.cell? ⟨b,o+v,none⟩=some (str s):=(hb.cell (p:=⟨b,o+v,none⟩) (e9 w ⟨b,o+v,none⟩ hc) (fun e=>hne e)).trans hc
 have hv':(v:Int)<(xs.length:Int):=by omega
 have HM:=ed (List.mem_of_getElem? hs)
 clear hs hc
 go_wp2_with fail
 go_ret
 exact ⟨s,HM.out,rfl,hb,hr⟩
def xO:List Bs:=[[98],[40,62,32,98,32,98,41],[40,62,32,98,32,40,62,32,98,32,98,41,41],[40,62,32,40,62,32,98,32,98,41,32,98,41],[40,62,32,40,62,32,98,32,98,41,32,40,62,32,98,32,98,41,41],[40,62,32,40,62,32,40,62,32,98,32,98,41,32,98,41,32,98,41],[40,62,32,40,62,32,98,32,40,62,32,98,32,98,41,41,32,98,41],[40,62,32,98,32,40,62,32,40,62,32,98,32,98,41,32,98,41,41]]
set_option maxRecDepth 100000 in
theorem l91Type_any (rd P:Nat) (w:World) (h:qi w rd P) (hP:P<=1099511627776) :
 Calls Tryz.prog 27 #[.pointer (some ⟨rd,0,none⟩)] w (Took rd (P+1) xO w):=by
 have fG:=h.lt
 go_enter Tryz.func27,Tryz.ntmps27
 go_wp2_with fail
 refine (wg rd P _ xO _ (h.alloc _) (xN.new fG xO 8 rfl _) (by decide) (by decide) hP).mono ?_
 rintro en w1 ⟨s,hs,rfl,hb,hr⟩
 have HM:=ed hs;clear hs
 go_wp2_with fail
 go_ret
 exact ⟨s,HM.out,rfl,((But.refl _ w).alloc _).trans hb,hr⟩
structure NodeD (w:World) (rd ob Z:Nat) (v:Int) (wr:World) (pk py:List Bd) (kv yv:List Value) (ks:Value) (nk:Nat) (ys:Value) (ny:Nat):Prop where
 hnk:nk=pk.length
 hny:ny=py.length
 ksl:∃ a c,ks=.slice a nk c
 ysl:∃ a c,ys=.slice a ny c
 but:But (· = rd) w wr
 res:z9 w.heap.size 0 (.slice none 0 0) (.slice none 0 0) wr
 out:z9 ob v ks ys wr
 ownK:Own wr 48 4 ks nk kv
 ownY:Own wr 48 4 ys ny yv
 blkK:∀ g,ks.ownBlock=some g->Z<=g/\ys.ownBlock≠some g
 blkY:∀ g,ys.ownBlock=some g->Z<=g
 repK:zX (fun b=>Z<=b/\ks.ownBlock≠some b/\ys.ownBlock≠some b) wr (zg pk) kv
 repY:zX (fun b=>Z<=b/\ks.ownBlock≠some b/\ys.ownBlock≠some b) wr (zg py) yv
 z:Z<=wr.heap.size
theorem NodeD.kid {w:World} {rd ob Z:Nat} {v:Int} {wr:World} {pk py:List Bd} {kv yv:List Value} {ks ys:Value} {nk ny:Nat}
 (h:NodeD w rd ob Z v wr pk py kv yv ks nk ys ny) (tm:rd<w.heap.size) (Dh:ob<Z) (hwo:w.heap.size<ob) {W w7:World} {b:Bd} {cs:List Value} {a':Option Addr} {c':Nat}
 (fC:But (· = rd) wr W) (hcs:zX (wr.heap.size<=·) W (kE b) cs) (fp:Own w7 48 4 (.slice a' (nk+1) c') (nk+1) (kv++cs)) (fW:But (fun i=>ks.ownBlock=some i) W w7)
 (fR:∀ g,(Value.slice a' (nk+1) c').ownBlock=some g->ks.ownBlock=some g\/g=W.heap.size) :
 NodeD w rd ob Z v (w7.setCell ⟨ob,2,none⟩ (.slice a' (nk+1) c')) (pk++[b]) py (kv++cs) yv (.slice a' (nk+1) c') (nk+1) ys ny:=by
 have z6:=fC.size
 have z7:=fW.size
 have zr:=h.z
 have zb:=h.but.size
 have keep:∀ i x,wr.heap[i]? = some x->ks.ownBlock≠some i->i≠ob->i≠rd->(w7.setCell ⟨ob,2,none⟩ (.slice a' (nk+1) c')).heap[i]? = some x:=by
  intro i x hx h1 h2 h3
  have:=zZ hx
  rw [fZ _ _ _ _ (by simpa using h2),fW.block i (by omega) h1,fC.block i this h3];exact hx
 have mh:∀ i x,W.heap[i]? = some x->ks.ownBlock≠some i->i≠ob->(w7.setCell ⟨ob,2,none⟩ (.slice a' (nk+1) c')).heap[i]? = some x:=by
  intro i x hx h1 h2
  have:=zZ hx
  rw [fZ _ _ _ _ (by simpa using h2),fW.block i (by omega) h1];exact hx
 have ltK:∀ g,ks.ownBlock=some g->g<wr.heap.size:=fun g hg=>h.ownK.lt hg
 have ltY:∀ g,ys.ownBlock=some g->g<wr.heap.size:=fun g hg=>h.ownY.lt hg
 have nK:∀ i,i<Z->ks.ownBlock≠some i:=fun i hi e=>by have:=(h.blkK i e).1;omega
 have newg:∀ g,(Value.slice a' (nk+1) c').ownBlock=some g->Z<=g:=fun g hg=>by
  rcases fR g hg with e | e
  ·exact (h.blkK g e).1
  ·omega
 refine ⟨by simp [h.hnk],h.hny,⟨_,_,rfl⟩,h.ysl,?_,?_,?_,?_,?_,?_,h.blkY,?_,?_,by simp [World.setCell];omega⟩
 ·refine But.setCell ?_ (.inr (show w.heap.size<=ob by omega)) _
  exact (h.but.trans fC).trans' fW (fun i hi e=>absurd e (nK i (by omega)))
 ·exact keep _ _ h.res (nK _ (by omega)) (by omega) (by omega)
 ·have h1:z9 ob v ks ys w7:=by
   unfold z9;rw [fW.block ob (by omega) (nK _ Dh),fC.block ob (by omega) (show ¬ ob=rd by omega)];exact h.out
  exact h1.put2
 ·exact fp.keep fun g o hg ho=>by rw [fZ _ _ _ _ (by have:=newg g hg;simp;omega)];exact ho
 ·exact h.ownY.keep fun g o hg ho=>keep g o ho (fun e=>(h.blkK g e).2 hg) (by have:=h.blkY g hg;omega) (by have:=h.blkY g hg;omega)
 ·intro g hg
  refine ⟨newg g hg,fun e=>?_⟩
  rcases fR g hg with e' | e'
  ·exact (h.blkK g e').2 e
  ·have:=ltY g e;omega
 ·rw [qU]
  have h1:=h.repK
  refine zX.append ((Rep.keep fun i x hi hx=>⟨⟨hi.1,fun e=>(fR i e).elim (fun e'=>hi.2.1 e') (fun e'=>by have:=zZ hx;omega),hi.2.2⟩,keep i x hx hi.2.1 (by have:=hi.1;omega) (by have:=hi.1;omega)⟩).2 _ _ h1) ?_
  ·have e1:zg [b]=kE b:=by simp [zg]
   rw [e1]
   refine (Rep.keep fun i x hi hx=>?_).2 _ _ hcs
   have h2:=zZ hx
   have h3:wr.heap.size<=i:=hi
   refine ⟨⟨by omega,fun e=>?_,fun e=>by have:=ltY i e;omega⟩,mh i x hx (fun e=>by have:=ltK i e;omega) (by omega)⟩
   rcases fR i e with e' | e'
   ·have:=ltK i e';omega
   ·omega
 ·exact (Rep.keep fun i x hi hx=>⟨⟨hi.1,fun e=>(fR i e).elim (fun e'=>hi.2.1 e') (fun e'=>by have:=zZ hx;omega),hi.2.2⟩,keep i x hx hi.2.1 (by have:=hi.1;omega) (by have:=hi.1;omega)⟩).2 _ _ h.repY
theorem NodeD.yes {w:World} {rd ob Z:Nat} {v:Int} {wr:World} {pk py:List Bd} {kv yv:List Value} {ks ys:Value} {nk ny:Nat}
 (h:NodeD w rd ob Z v wr pk py kv yv ks nk ys ny) (tm:rd<w.heap.size) (Dh:ob<Z) (hwo:w.heap.size<ob) {W w7:World} {b:Bd} {cs:List Value} {a':Option Addr} {c':Nat}
 (fC:But (· = rd) wr W) (hcs:zX (wr.heap.size<=·) W (kE b) cs) (fp:Own w7 48 4 (.slice a' (ny+1) c') (ny+1) (yv++cs)) (fW:But (fun i=>ys.ownBlock=some i) W w7)
 (fR:∀ g,(Value.slice a' (ny+1) c').ownBlock=some g->ys.ownBlock=some g\/g=W.heap.size) :
 NodeD w rd ob Z v (w7.setCell ⟨ob,3,none⟩ (.slice a' (ny+1) c')) pk (py++[b]) kv (yv++cs) ks nk (.slice a' (ny+1) c') (ny+1):=by
 have z6:=fC.size
 have z7:=fW.size
 have zr:=h.z
 have zb:=h.but.size
 have keep:∀ i x,wr.heap[i]? = some x->ys.ownBlock≠some i->i≠ob->i≠rd->(w7.setCell ⟨ob,3,none⟩ (.slice a' (ny+1) c')).heap[i]? = some x:=by
  intro i x hx h1 h2 h3
  have:=zZ hx
  rw [fZ _ _ _ _ (by simpa using h2),fW.block i (by omega) h1,fC.block i this h3];exact hx
 have mh:∀ i x,W.heap[i]? = some x->ys.ownBlock≠some i->i≠ob->(w7.setCell ⟨ob,3,none⟩ (.slice a' (ny+1) c')).heap[i]? = some x:=by
  intro i x hx h1 h2
  have:=zZ hx
  rw [fZ _ _ _ _ (by simpa using h2),fW.block i (by omega) h1];exact hx
 have ltK:∀ g,ks.ownBlock=some g->g<wr.heap.size:=fun g hg=>h.ownK.lt hg
 have ltY:∀ g,ys.ownBlock=some g->g<wr.heap.size:=fun g hg=>h.ownY.lt hg
 have nY:∀ i,i<Z->ys.ownBlock≠some i:=fun i hi e=>by have:=h.blkY i e;omega
 have newg:∀ g,(Value.slice a' (ny+1) c').ownBlock=some g->Z<=g:=fun g hg=>by
  rcases fR g hg with e | e
  ·exact h.blkY g e
  ·omega
 refine ⟨h.hnk,by simp [h.hny],h.ksl,⟨_,_,rfl⟩,?_,?_,?_,?_,?_,?_,newg,?_,?_,by simp [World.setCell];omega⟩
 ·refine But.setCell ?_ (.inr (show w.heap.size<=ob by omega)) _
  exact (h.but.trans fC).trans' fW (fun i hi e=>absurd e (nY i (by omega)))
 ·exact keep _ _ h.res (nY _ (by omega)) (by omega) (by omega)
 ·have h1:z9 ob v ks ys w7:=by
   unfold z9;rw [fW.block ob (by omega) (nY _ Dh),fC.block ob (by omega) (show ¬ ob=rd by omega)];exact h.out
  exact h1.put3
 ·exact h.ownK.keep fun g o hg ho=>keep g o ho (h.blkK g hg).2 (by have:=(h.blkK g hg).1;omega) (by have:=(h.blkK g hg).1;omega)
 ·exact fp.keep fun g o hg ho=>by rw [fZ _ _ _ _ (by have:=newg g hg;simp;omega)];exact ho
 ·intro g hg
  refine ⟨(h.blkK g hg).1,fun e=>?_⟩
  rcases fR g e with e' | e'
  ·exact (h.blkK g hg).2 e'
  ·have:=ltK g hg;omega
 ·exact (Rep.keep fun i x hi hx=>⟨⟨hi.1,hi.2.1,fun e=>(fR i e).elim (fun e'=>hi.2.2 e') (fun e'=>by have:=zZ hx;omega)⟩,keep i x hx hi.2.2 (by have:=hi.1;omega) (by have:=hi.1;omega)⟩).2 _ _ h.repK
 ·rw [qU]
  refine zX.append ((Rep.keep fun i x hi hx=>⟨⟨hi.1,hi.2.1,fun e=>(fR i e).elim (fun e'=>hi.2.2 e') (fun e'=>by have:=zZ hx;omega)⟩,keep i x hx hi.2.2 (by have:=hi.1;omega) (by have:=hi.1;omega)⟩).2 _ _ h.repY) ?_
  ·have e1:zg [b]=kE b:=by simp [zg]
   rw [e1]
   refine (Rep.keep fun i x hi hx=>?_).2 _ _ hcs
   have h2:=zZ hx
   have h3:wr.heap.size<=i:=hi
   refine ⟨⟨by omega,fun e=>by have:=ltK i e;omega,fun e=>?_⟩,mh i x hx (fun e=>by have:=ltY i e;omega) (by omega)⟩
   rcases fR i e with e' | e'
   ·have:=ltY i e';omega
   ·omega
def bnd:Nat->Nat
 | 0=>1
 | d+1=>1+17*bnd d
theorem xN.newAt {w:World} {rd:Nat} (tm:rd<w.heap.size) (xs:List Bs) (n:Nat) (hn:n=xs.length) (e:TypeId) (g:Nat) (hg:g=w.heap.size):xN (w.alloc (.cells (xs.map str).toArray e)) rd (.slice (some ⟨g,0,none⟩) n n) xs:=by
 subst hg;exact xN.new tm xs n hn e
theorem gJ (x:Int) (h1 : -2000<=x) (h2:x<=1000000):IntKind.i64.wrap x=x:=by
 simp [IntKind.wrap,IntKind.bits,IntKind.signed];omega
theorem sub_le {z:Int} {p d:Nat} (h2:z<=((d+1:Nat):Int)):z-1-(p:Int)<=d:=by omega
def Row8 (w:World) (a:Option Addr) (len cap:Nat) (zs:List Int):Prop :=
 (a=none/\len=0/\cap=0/\zs=[]) \/
 ∃ x,a=some x/\len<=cap/\cap<=maxLen/\zs.length=cap/\(∀ i,i<zs.length->w.cell? (x.add i)=some (.int .u8 (zs.getD i 0)))/\∀ n∈zs,(Lit.int .u8 n).wf=true
theorem Row8.le {w:World} {a:Option Addr} {len cap:Nat} {zs:List Int} (h:Row8 w a len cap zs):len<=cap:=by
 rcases h with ⟨_,rfl,rfl,_⟩ | ⟨x,_,h,_⟩
 ·exact ei _
 ·exact h
theorem Row8.bytes {w:World} {a:Option Addr} {len cap:Nat} {zs:List Int} (h:Row8 w a len cap zs) (n:Nat) (hn:n<=len) :
 n=0\/∃ b o,a=some ⟨b,o,none⟩/\b<w.heap.size/\∀ k,k<n->∃ x:Nat,x<256/\w.cell? ⟨b,o+k,none⟩=some (.int .u8 x):=by
 rcases Nat.eq_zero_or_pos n with h0 | h0
 ·exact .inl h0
 right
 rcases h with ⟨_,rfl,_,_⟩ | ⟨x,rfl,hl,_,hz,hc,hw⟩
 ·omega
 obtain ⟨b,o,sp⟩:=x
 have h1:=hc 0 (by omega)
 have GT:sp=none:=by
  cases sp with
  | none=>rfl
  | some q=>simp [World.cell?,Addr.add] at h1;split at h1 <;> simp_all
 subst GT
 have Gi:∀ i,(⟨b,o,none⟩:Addr).add i=⟨b,o+i,none⟩:=fun i=>by
  unfold Addr.add;split <;> simp_all
 have h2:=e9 w _ h1
 refine ⟨b,o,rfl,by rw [Gi] at h2;exact h2,fun k hk=>?_⟩
 have hkz:k<zs.length:=by omega
 have h3:=hc k hkz
 rw [Gi] at h3
 have hm:zs.getD k 0∈zs:=by
  rw [List.getD_eq_getElem?_getD,List.getElem?_eq_getElem hkz];exact List.getElem_mem hkz
 have iy:=hw _ hm
 clear hm
 generalize zs.getD k 0=z at *
 have hb:0<=z/\z<256:=by
  simp [Lit.wf,IntKind.min,IntKind.max,IntKind.bits,IntKind.signed] at iy
  omega
 refine ⟨z.toNat,by omega,?_⟩
 rw [h3,Int.toNat_of_nonneg hb.1]
theorem l6Open_any (a:Option Addr) (len cap:Nat) (zs:List Int) (w:World) (h:Row8 w a len cap zs) (hl:len<=1048576) :
 Calls Tryz.prog 13 #[.slice a len cap] w fun en w'=>en=.returned (.pointer (some ⟨w.heap.size,0,none⟩))/\Below w.heap.size w w'/\qi w' w.heap.size 0/\w.heap.size<w'.heap.size:=by
 have mH:=h.le
 have H:=ed h;clear h
 by_cases h2:2000<len
 ·have h2':(2000:Int)<(len:Int):=by omega
  have h3:(2000:Int)<=(cap:Int):=by omega
  obtain ⟨b,o,ea,hb,hk⟩:=(H.out.bytes 2000 (by omega)).resolve_left (by omega)
  subst ea
  have HK:=ed hk;clear hk
  go_enter Tryz.func13,Tryz.ntmps13
  go_wp2_with fail
  go_ret
  refine ⟨rfl,(e_ _ _).alloc (ei _) _,?_,by simp⟩
  refine ⟨_,2000,_,0,zG _ _,ei _,ei _,.inr ⟨b,o,rfl,hb,fun k hk=>?_⟩⟩
  obtain ⟨x,hx,hc⟩:=HK.out k hk
  exact ⟨x,hx,zJ hc⟩
 ·have h2':¬ (2000:Int)<(len:Int):=by omega
  go_enter Tryz.func13,Tryz.ntmps13
  go_wp2_with fail
  go_ret
  refine ⟨rfl,(e_ _ _).alloc (ei _) _,?_,by simp⟩
  refine ⟨_,len,_,0,zG _ _,ei _,by omega,?_⟩
  rcases H.out.bytes len (ei _) with h0 | ⟨b,o,ea,hb,hk⟩
  ·exact .inl h0
  ·refine .inr ⟨b,o,ea,hb,fun k B3=>?_⟩
   obtain ⟨x,hx,hc⟩:=hk k B3
   exact ⟨x,hx,zJ hc⟩
theorem type_ok {s:Bs} (h:s∈xO):(zL s).2=true/\s.length<=100:=by
 simp only [xO,List.mem_cons,List.not_mem_nil,or_false] at h
 rcases h with rfl | rfl | rfl | rfl | rfl | rfl | rfl | rfl <;> exact ⟨by decide,by decide⟩
theorem wrap_one (p:Nat) (h:p<3):IntKind.i64.wrap (1+(p:Int))=1+p:=gJ _ (by omega) (by omega)
theorem bx {rd:Nat} {w w1 w2:World} (h1:Below w.heap.size w w1) (tm:w.heap.size<=rd) (h2:But (· = rd) w1 w2):Below w.heap.size w w2 :=
 h1.trans (h2.toBelow h1.size fun i hi e=>by omega)
end Go.Proofs.YtjggkhmojjaomaaGreatDoor

/- Walks of functions that the statement reaches, and plain words. No conditions. -/
import Derived.Laws.DeepNot64
import Derived.Deep.RegionLaw
import Derived.Test.YtfedjhgaeikjmaaGreatDoorQ9
set_option linter.unusedVariables false
set_option linter.unusedSimpArgs false
set_option maxHeartbeats 8000000
namespace Go.Proofs.YtfedjhgaeikjmaaGreatDoor
open Go.RowKit
theorem i64_xor_nat (a b:Nat) (ha:a<9223372036854775808) (hb:b<9223372036854775808):bits .xor .i64 (a:Int) (b:Int)=((a ^^^ b:Nat):Int):=by
 have hx:a ^^^ b<2 ^ 63:=Nat.xor_lt_two_pow (by omega) (by omega)
 show IntKind.i64.wrap ((BitVec.ofInt 64 (a:Int) ^^^ BitVec.ofInt 64 (b:Int)).toNat:Int)=_
 rw [BitVec.toNat_xor,ofInt_u64 a (by omega),ofInt_u64 b (by omega)]
 generalize a ^^^ b=x at *
 simp [IntKind.wrap,IntKind.bits,IntKind.signed]
 omega
def kD (w:World) (rd P:Nat):Prop :=
 ∃ (a:Option Addr) (n c p:Nat),w.heap[rd]? = some (.cells #[.slice a n c,.int .i64 (p:Nat)] 101 (0,0))/\p<=P/\n<=2000 /\
   (n=0\/∃ b o,a=some ⟨b,o,none⟩/\b<rd/\∀ k,k<n->∃ x:Nat,x<256/\w.cell? ⟨b,o+k,none⟩=some (.int .u8 x))
theorem kD.lt {w:World} {rd P:Nat} (h:kD w rd P):rd<w.heap.size:=by
 obtain ⟨a,n,c,p,h1,_⟩:=h;exact zZ h1
theorem kD.mono {w:World} {rd P Q:Nat} (h:kD w rd P) (k:P<=Q):kD w rd Q:=by
 obtain ⟨a,n,c,p,h1,h2,h3⟩:=h;exact ⟨a,n,c,p,h1,b7 h2 k,h3⟩
theorem kD.below {w w':World} {rd P:Nat} (h:kD w rd P) (hb:Below w.heap.size w w'):kD w' rd P:=by
 obtain ⟨a,n,c,p,h1,h2,h3,h4⟩:=h
 refine ⟨a,n,c,p,(hb.block _ (zZ h1)).trans h1,h2,h3,?_⟩
 rcases h4 with h4 | ⟨b,o,e,cX,hk⟩
 ·exact .inl h4
 ·refine .inr ⟨b,o,e,cX,fun k aD=>?_⟩
  obtain ⟨x,hx,hc⟩:=hk k aD
  exact ⟨x,hx,(hb.cell (be w _ hc)).trans hc⟩
theorem kD.but {m:Nat->Prop} {w w':World} {rd P:Nat} (h:kD w rd P) (hb:But m w w') (hm:∀ i,i<=rd->¬ m i):kD w' rd P:=by
 obtain ⟨a,n,c,p,h1,h2,h3,h4⟩:=h
 refine ⟨a,n,c,p,(hb.block _ (zZ h1) (hm _ (br _))).trans h1,h2,h3,?_⟩
 rcases h4 with h4 | ⟨b,o,e,cX,hk⟩
 ·exact .inl h4
 ·refine .inr ⟨b,o,e,cX,fun k aD=>?_⟩
  obtain ⟨x,hx,hc⟩:=hk k aD
  exact ⟨x,hx,(hb.cell (be w _ hc) (hm _ (Nat.le_of_lt cX))).trans hc⟩
theorem kD.drew {w:World} {rd P:Nat} (h:kD w rd P):kD w.drew rd P:=h
theorem kD.drewN {w:World} {rd P:Nat} (h:kD w rd P) (n:Nat):kD (w.drewN n) rd P:=h
theorem kD.alloc {w:World} {rd P:Nat} (h:kD w rd P) (o:Obj):kD (w.alloc o) rd P:=h.below ((bi _ _).alloc (br _) _)
theorem below_dN_but {m:Nat->Prop} {a w:World} (h:But m a w) (n:Nat):But m a (w.drewN n):=⟨h.os,h.tape,h.output,h.size,h.block⟩
def Picked (rd P n:Nat) (w:World) (en:Ending) (w':World):Prop :=
 ∃ v:Nat,en=.returned (.int .i64 (v:Nat))/\v<n/\But (· = rd) w w'/\kD w' rd (P+1)
theorem vP {z:Int} {n:Nat} (e:z=(n:Int)) (h:n<9223372036854775808):IntKind.i64.wrap z=(n:Int):=by rw [e];exact qu n h
structure Mix (p m x1 x2 n:Nat) (I A B C J D E G H Q R X Y Z V:Nat):Prop where
 i:(p:Int).tmod (m:Int)=(I:Int)
 a:IntKind.i64.wrap ((x1:Int)*131)=(A:Int)
 b:IntKind.i64.wrap ((p:Int)*7)=(B:Int)
 c:IntKind.i64.wrap ((B:Int)+3)=(C:Int)
 j:(C:Int).tmod (m:Int)=(J:Int)
 d:IntKind.i64.wrap ((x2:Int)*1117)=(D:Int)
 e:IntKind.i64.wrap ((A:Int)+(D:Int))=(E:Int)
 g:IntKind.i64.wrap ((p:Int)*29)=(G:Int)
 h:IntKind.i64.wrap ((E:Int)+(G:Int))=(H:Int)
 q:(p:Int).tdiv (m:Int)=(Q:Int)
 r:IntKind.i64.wrap ((Q:Int)*53)=(R:Int)
 x:IntKind.i64.wrap ((H:Int)+(R:Int))=(X:Int)
 y:(X:Int).tdiv 64=(Y:Int)
 z:bits .xor .i64 (X:Int) (Y:Int)=(Z:Int)
 v:(Z:Int).tmod (n:Int)=(V:Int)
 vn:V<n
 wq:IntKind.i64.wrap (Q:Int)=(Q:Int)
 wy:IntKind.i64.wrap (Y:Int)=(Y:Int)
theorem mix_any (p m x1 x2 n:Nat) (hp:p<=1099511627776) (fI:x1<256) (fR:x2<256) (hn:0<n) :
 ∃ A B D E G H Q R X Y Z V:Nat,Mix p m x1 x2 n (p % m) A B (p*7+3) ((p*7+3) % m) D E G H Q R X Y Z V:=by
 have hq:p / m<=p:=Nat.div_le_self _ _
 have hX:x1*131+x2*1117+p*29+p / m*53<9223372036854775808:=by omega
 have hY:(x1*131+x2*1117+p*29+p / m*53) / 64<9223372036854775808:=by omega
 refine ⟨x1*131,p*7,x2*1117,x1*131+x2*1117,p*29,x1*131+x2*1117+p*29,p / m,p / m*53,x1*131+x2*1117+p*29+p / m*53,(x1*131+x2*1117+p*29+p / m*53) / 64,(x1*131+x2*1117+p*29+p / m*53) ^^^ ((x1*131+x2*1117+p*29+p / m*53) / 64),((x1*131+x2*1117+p*29+p / m*53) ^^^ ((x1*131+x2*1117+p*29+p / m*53) / 64)) % n,?_⟩
 exact ⟨yC _ _,vP (by omega) (by omega),vP (by omega) (by omega),vP (by omega) (by omega),yC _ _,vP (by omega) (by omega),vP (by omega) (by omega),vP (by omega) (by omega),vP (by omega) (by omega),
  gE _ _,vP (by omega) (by omega),vP (by omega) hX,gE _ 64,i64_xor_nat _ _ hX hY,yC _ _,Nat.mod_lt _ hn,qu _ (by omega),qu _ hY⟩
set_option maxRecDepth 100000 in
theorem j0 (rd P n:Nat) (w:World) (h:kD w rd P) (hn:0<n) (fB:n<=16777216) (hP:P<=1099511627776) :
 Calls Tryz.prog 48 #[.pointer (some ⟨rd,0,none⟩),.int .i64 (n:Nat)] w (Picked rd P n w):=by
 obtain ⟨a,m,c,p,h1,hp,hm,hcs⟩:=h
 have hpP:p<=1099511627776:=by omega
 have c0:w.cell? ⟨rd,0,none⟩=some (.slice a m c):=by simp [World.cell?,h1]
 have c1:w.cell? ⟨rd,1,none⟩=some (.int .i64 (p:Nat)):=by simp [World.cell?,h1]
 have f1:w.frozen? ⟨rd,1,none⟩=false:=by simp [World.frozen?,h1]
 have cZ:=zZ h1
 obtain ⟨W,hW⟩:=zzN (w.setCell ⟨rd,1,none⟩ (.int .i64 ((p:Int)+1)))
 have dF:W.heap[rd]? = some (.cells #[.slice a m c,.int .i64 ((p+1:Nat):Int)] 101 (0,0)):=by
  have h':w.heap[rd]=.cells #[.slice a m c,.int .i64 (p:Nat)] 101 (0,0):=by simpa [Array.getElem?_eq_getElem cZ] using h1
  rw [<- hW]
  show (w.heap.modify rd _)[rd]? = _
  rw [Array.getElem?_eq_getElem (by simpa using cZ),Array.getElem_modify_self,h']
  simp
 have cS:But (· = rd) w W:=by rw [<- hW];exact (But.refl (· = rd) _).setCell (p:=⟨rd,1,none⟩) (.inl rfl) _
 have d0:W.cell? ⟨rd,0,none⟩=some (.slice a m c):=by simp [World.cell?,dF]
 have d1:W.cell? ⟨rd,1,none⟩=some (.int .i64 ((p:Int)+1)):=by simp [World.cell?,dF]
 have dZ:kD W rd (P+1):=by
  refine ⟨a,m,c,p+1,dF,by omega,hm,?_⟩
  rcases hcs with h4 | ⟨b,o,e,cX,hk⟩
  ·exact .inl h4
  ·refine .inr ⟨b,o,e,cX,fun k aD=>?_⟩
   obtain ⟨x,hx,hc⟩:=hk k aD
   exact ⟨x,hx,(cS.cell (be w _ hc) (fun e=>Nat.ne_of_lt cX e)).trans hc⟩
 have RD:=bc dZ;have BT:=bc cS
 have g0:¬ (n:Int)<1:=by omega
 have gn:((n:Int) == 0)=false:=by rw [beq_eq_false_iff_ne];omega
 have hWb:∀ (b o:Nat) (v:Value),b≠rd->w.cell? ⟨b,o,none⟩=some v->W.cell? ⟨b,o,none⟩=some v:=fun b o v cX hc =>
  (cS.cell (p:=⟨b,o,none⟩) (be w ⟨b,o,none⟩ hc) (fun e=>cX e)).trans hc
 have WB:=bc hWb;have oH:=bc hcs;have HW:=bc hW
 clear dZ cS h1 dF hWb hcs hW
 go_enter Tryz.func48,Tryz.ntmps48
 go_upto_region 2 with (fail)
 rw [HW.out]
 clear c0 c1 f1
 rcases oH.out with h0 | ⟨b,o,e,cX,hk⟩
 ·subst h0
  go_wp2_with fail
  go_ret
  exact ⟨0,rfl,hn,BT.out,RD.out⟩
 ·subst e
  have HK:=bc hk;clear hk
  by_cases hm0:m=0
  ·subst hm0
   go_wp2_with fail
   go_ret
   exact ⟨0,rfl,hn,BT.out,RD.out⟩
  have gm:((m:Int) == 0)=false:=by rw [beq_eq_false_iff_ne];omega
  by_cases hpm:p<m
  ·obtain ⟨x,hx,hc⟩:=HK.out p hpm
   have e1:=WB.out _ _ _ (Nat.ne_of_lt cX) hc
   have hpm':(p:Int)<(m:Int):=by omega
   have et:(x:Int).tmod (n:Int)=((x % n:Nat):Int):=yC _ _
   have hv:x % n<n:=Nat.mod_lt _ hn
   have HV:=bc hv;clear hv hc
   go_wp2_with fail
   go_ret
   exact ⟨x % n,rfl,HV.out,BT.out,RD.out⟩
  ·have hpm':¬ (p:Int)<(m:Int):=by omega
   obtain ⟨x1,fI,me⟩:=HK.out (p % m) (Nat.mod_lt _ (by omega))
   obtain ⟨x2,fR,fQ⟩:=HK.out ((p*7+3) % m) (Nat.mod_lt _ (by omega))
   have e1:=WB.out _ _ _ (Nat.ne_of_lt cX) me
   have e2:=WB.out _ _ _ (Nat.ne_of_lt cX) fQ
   obtain ⟨A,B,D,E,G,H,Q,R,X,Y,Z,V,M⟩:=mix_any p m x1 x2 n hpP fI fR hn
   have hI:p % m<m:=Nat.mod_lt _ (by omega)
   have hJ:(p*7+3) % m<m:=Nat.mod_lt _ (by omega)
   generalize p % m=I at *
   generalize (p*7+3) % m=J at *
   generalize p*7+3=C at *
   have hI':(I:Int)<(m:Int):=by omega
   have hJ':(J:Int)<(m:Int):=by omega
   have q1:=M.i;have q2:=M.a;have q3:=M.b;have q4:=M.c;have q5:=M.j;have q6:=M.d;have q7:=M.e;have q8:=M.g;have q9:=M.h
   have q10:=M.q;have q11:=M.r;have q12:=M.x;have q13:=M.y;have q14:=M.z;have q15:=M.v;have q16:=M.wq;have q17:=M.wy
   have MV:=bc M.vn
   clear me fQ M
   go_wp2_with fail
   go_quiet (fail)
   go_wp2_with fail
   go_ret
   exact ⟨V,rfl,MV.out,below_dN_but BT.out _,RD.out.drewN _⟩
def yW (w:World) (rd:Nat) (l:Value) (xs:List Bs):Prop :=
 ∃ b o c,l=.slice (some ⟨b,o,none⟩) xs.length c/\b≠rd/\∀ (k:Nat) (s:Bs),xs[k]? = some s->w.cell? ⟨b,o+k,none⟩=some (str s)
theorem yW.new {w:World} {rd:Nat} (dZ:rd<w.heap.size) (xs:List Bs) (n:Nat) (hn:n=xs.length) (e:TypeId):yW (w.alloc (.cells (xs.map str).toArray e)) rd (.slice (some ⟨w.heap.size,0,none⟩) n n) xs:=by
 subst hn
 refine ⟨w.heap.size,0,_,rfl,by omega,fun k s hs=>?_⟩
 rw [Nat.zero_add]
 simp only [World.cell?,zS]
 simp [hs]
def Took (rd P:Nat) (xs:List Bs) (w:World) (en:Ending) (w':World):Prop :=
 ∃ s∈xs,en=.returned (str s)/\But (· = rd) w w'/\kD w' rd P
theorem wt (rd P:Nat) (l:Value) (xs:List Bs) (w:World) (h:kD w rd P) (hl:yW w rd l xs) (hx:0<xs.length) (fR:xs.length<=16777216) (hP:P<=1099511627776) :
 Calls Tryz.prog 72 #[.pointer (some ⟨rd,0,none⟩),l] w (Took rd (P+1) xs w):=by
 obtain ⟨b,o,c,rfl,cX,hk⟩:=hl
 have HK:=bc hk;clear hk
 go_enter Tryz.func72,Tryz.ntmps72
 go_wp2_with fail
 refine (j0 rd P xs.length w h hx fR hP).mono ?_
 rintro en w1 ⟨v,rfl,hv,hb,hr⟩
 obtain ⟨s,hs⟩:∃ s,xs[v]? = some s:=⟨xs[v],by simp [hv]⟩
 have hc:=HK.out v s hs
 have me:w1.cell? ⟨b,o+v,none⟩=some (str s):=(hb.cell (p:=⟨b,o+v,none⟩) (be w ⟨b,o+v,none⟩ hc) (fun e=>cX e)).trans hc
 have dB:(v:Int)<(xs.length:Int):=by omega
 have HM:=bc (List.mem_of_getElem? hs)
 clear hs hc
 go_wp2_with fail
 go_ret
 exact ⟨s,HM.out,rfl,hb,hr⟩
def qd:List Bs:=[[98],[40,62,32,98,32,98,41],[40,62,32,98,32,40,62,32,98,32,98,41,41],[40,62,32,40,62,32,98,32,98,41,32,98,41],[40,62,32,40,62,32,98,32,98,41,32,40,62,32,98,32,98,41,41],[40,62,32,40,62,32,40,62,32,98,32,98,41,32,98,41,32,98,41],[40,62,32,40,62,32,98,32,40,62,32,98,32,98,41,41,32,98,41],[40,62,32,98,32,40,62,32,40,62,32,98,32,98,41,32,98,41,41]]
def yI:List Bs:=[[],[99],[40,62,32,98,41],[40,62,32,32,98,32,98,41],[40,62,32,98,32,98,32,98,41],[98,32],[40,62,32,40,62,32,40,62,32,40,62,32,98,32,98,41,32,40,62,32,98,32,98,41,41,32,40,62,32,98,32,98,41,41,32,40,62,32,98,32,40,62,32,98,32,98,41,41,41]]
def yg:List Bs:=[[],[120],[40,48,32,116,41],[40,57,32,116,32,102,41],[40,48,32,32,116,32,102,41],[40,48,48,32,116,32,102,41],[117,32],[40,48,32,116,32,102,32,116,32,102,41]]
def kh:List Bs:=[[116],[102],[116],[102],[117]]
set_option maxRecDepth 100000 in
theorem pL (rd P:Nat) (w:World) (h:kD w rd P) (hP:P<=1099511627776) :
 Calls Tryz.prog 56 #[.pointer (some ⟨rd,0,none⟩)] w (Took rd (P+1) qd w):=by
 have cZ:=h.lt
 go_enter Tryz.func56,Tryz.ntmps56
 go_wp2_with fail
 refine (wt rd P _ qd _ (h.alloc _) (yW.new cZ qd 8 rfl _) (by decide) (by decide) hP).mono ?_
 rintro en w1 ⟨s,hs,rfl,hb,hr⟩
 have HM:=bc hs;clear hs
 go_wp2_with fail
 go_ret
 exact ⟨s,HM.out,rfl,((But.refl _ w).alloc _).trans hb,hr⟩
set_option maxRecDepth 100000 in
theorem l91Odd_any (rd P:Nat) (w:World) (h:kD w rd P) (hP:P+1<=1099511627776) :
 Calls Tryz.prog 71 #[.pointer (some ⟨rd,0,none⟩)] w (Took rd (P+2) (qd++yI) w):=by
 go_enter Tryz.func71,Tryz.ntmps71
 go_wp2_with fail
 refine (j0 rd P 12 w h (by omega) (by omega) (by omega)).mono ?_
 rintro en w1 ⟨v,rfl,hv,b9,cw⟩
 have cZ:=cw.lt
 by_cases iV:v=0
 ·subst iV
  go_wp2_with fail
  refine (wt rd (P+1) _ yI _ (cw.alloc _) (yW.new cZ yI 7 rfl _) (by decide) (by decide) hP).mono ?_
  rintro en w2 ⟨s,hs,rfl,hb,hr⟩
  have HM:=bc hs;clear hs
  go_wp2_with fail
  go_ret
  exact ⟨s,List.mem_append_right _ HM.out,rfl,(b9.alloc _).trans hb,hr⟩
 ·have mN:((v:Int) == 0)=false:=by rw [beq_eq_false_iff_ne];omega
  go_wp2_with fail
  refine (pL rd (P+1) w1 cw hP).mono ?_
  rintro en w2 ⟨s,hs,rfl,hb,hr⟩
  have HM:=bc hs;clear hs
  go_wp2_with fail
  go_ret
  exact ⟨s,List.mem_append_left _ HM.out,rfl,b9.trans hb,hr⟩
theorem kY.storeB {ob:Nat} {v:Int} {ks ys:Value} {w:World} (h:kY ob v ks ys w) (u0 u1 u2 u3:Value) :
 ∃ W,W=((((w.setCell ⟨ob,0,none⟩ u0).setCell ⟨ob,1,none⟩ u1).setCell ⟨ob,2,none⟩ u2).setCell ⟨ob,3,none⟩ u3) /\
   W.cell? ⟨ob,0,none⟩=some u0/\W.cell? ⟨ob,1,none⟩=some u1/\W.cell? ⟨ob,2,none⟩=some u2/\W.cell? ⟨ob,3,none⟩=some u3 /\
   (∀ (m:Nat->Prop) w0,But m w0 w->w0.heap.size<=ob->But m w0 W)/\(∀ i x,i≠ob->w.heap[i]? = some x->W.heap[i]? = some x)/\(∀ rd P,rd<ob->kD w rd P->kD W rd P):=by
 obtain ⟨W,hW,s0,s1,s2,s3,_,hk⟩:=h.store u0 u1 u2 u3
 have hB:∀ (m:Nat->Prop) w0,But m w0 w->(m ob\/w0.heap.size<=ob)->But m w0 W:=by
  intro m w0 hb ho
  rw [hW]
  exact ((((hb.setCell (p:=⟨ob,0,none⟩) ho _).setCell (p:=⟨ob,1,none⟩) ho _).setCell (p:=⟨ob,2,none⟩) ho _).setCell (p:=⟨ob,3,none⟩) ho _)
 refine ⟨W,hW,s0,s1,s2,s3,fun m w0 hb ho=>hB m w0 hb (.inr ho),hk,fun rd P cZ hr=>?_⟩
 exact hr.but (hB (· = ob) w (But.refl _ _) (.inl rfl)) (fun i hi e=>by omega)
structure pg (w:World) (rd ob Z:Nat) (v:Int) (wr:World) (pk py:List Bd) (kv yv:List Value) (ks:Value) (nk:Nat) (ys:Value) (ny:Nat):Prop where
 hnk:nk=pk.length
 hny:ny=py.length
 ksl:∃ a c,ks=.slice a nk c
 ysl:∃ a c,ys=.slice a ny c
 but:But (· = rd) w wr
 res:kY w.heap.size 0 (.slice none 0 0) (.slice none 0 0) wr
 out:kY ob v ks ys wr
 ownK:Own wr 64 4 ks nk kv
 ownY:Own wr 64 4 ys ny yv
 blkK:∀ g,ks.ownBlock=some g->Z<=g/\ys.ownBlock≠some g
 blkY:∀ g,ys.ownBlock=some g->Z<=g
 repK:zG (fun b=>Z<=b/\ks.ownBlock≠some b/\ys.ownBlock≠some b) wr (zm pk) kv
 repY:zG (fun b=>Z<=b/\ks.ownBlock≠some b/\ys.ownBlock≠some b) wr (zm py) yv
 z:Z<=wr.heap.size
theorem pg.kid {w:World} {rd ob Z:Nat} {v:Int} {wr:World} {pk py:List Bd} {kv yv:List Value} {ks ys:Value} {nk ny:Nat}
 (h:pg w rd ob Z v wr pk py kv yv ks nk ys ny) (dZ:rd<w.heap.size) (rc:ob<Z) (Az:w.heap.size<ob) {W w7:World} {b:Bd} {cs:List Value} {a':Option Addr} {c':Nat}
 (cW:But (· = rd) wr W) (hcs:zG (wr.heap.size<=·) W (kC b) cs) (cV:Own w7 64 4 (.slice a' (nk+1) c') (nk+1) (kv++cs)) (cJ:But (fun i=>ks.ownBlock=some i) W w7)
 (cB:∀ g,(Value.slice a' (nk+1) c').ownBlock=some g->ks.ownBlock=some g\/g=W.heap.size) :
 pg w rd ob Z v (w7.setCell ⟨ob,2,none⟩ (.slice a' (nk+1) c')) (pk++[b]) py (kv++cs) yv (.slice a' (nk+1) c') (nk+1) ys ny:=by
 have z6:=cW.size
 have z7:=cJ.size
 have zr:=h.z
 have zb:=h.but.size
 have keep:∀ i x,wr.heap[i]? = some x->ks.ownBlock≠some i->i≠ob->i≠rd->(w7.setCell ⟨ob,2,none⟩ (.slice a' (nk+1) c')).heap[i]? = some x:=by
  intro i x hx h1 h2 h3
  have:=zZ hx
  rw [b5 _ _ _ _ (by simpa using h2),cJ.block i (by omega) h1,cW.block i this h3];exact hx
 have dJ:∀ i x,W.heap[i]? = some x->ks.ownBlock≠some i->i≠ob->(w7.setCell ⟨ob,2,none⟩ (.slice a' (nk+1) c')).heap[i]? = some x:=by
  intro i x hx h1 h2
  have:=zZ hx
  rw [b5 _ _ _ _ (by simpa using h2),cJ.block i (by omega) h1];exact hx
 have ltK:∀ g,ks.ownBlock=some g->g<wr.heap.size:=fun g hg=>h.ownK.lt hg
 have ltY:∀ g,ys.ownBlock=some g->g<wr.heap.size:=fun g hg=>h.ownY.lt hg
 have nK:∀ i,i<Z->ks.ownBlock≠some i:=fun i hi e=>by have:=(h.blkK i e).1;omega
 have newg:∀ g,(Value.slice a' (nk+1) c').ownBlock=some g->Z<=g:=fun g hg=>by
  rcases cB g hg with e | e
  ·exact (h.blkK g e).1
  ·omega
 refine ⟨by simp [h.hnk],h.hny,⟨_,_,rfl⟩,h.ysl,?_,?_,?_,?_,?_,?_,h.blkY,?_,?_,by simp [World.setCell];omega⟩
 ·refine But.setCell ?_ (.inr (show w.heap.size<=ob by omega)) _
  exact (h.but.trans cW).trans' cJ (fun i hi e=>absurd e (nK i (by omega)))
 ·exact keep _ _ h.res (nK _ (by omega)) (by omega) (by omega)
 ·have h1:kY ob v ks ys w7:=by
   unfold kY;rw [cJ.block ob (by omega) (nK _ rc),cW.block ob (by omega) (show ¬ ob=rd by omega)];exact h.out
  exact h1.put2
 ·exact cV.keep fun g o hg ho=>by rw [b5 _ _ _ _ (by have:=newg g hg;simp;omega)];exact ho
 ·exact h.ownY.keep fun g o hg ho=>keep g o ho (fun e=>(h.blkK g e).2 hg) (by have:=h.blkY g hg;omega) (by have:=h.blkY g hg;omega)
 ·intro g hg
  refine ⟨newg g hg,fun e=>?_⟩
  rcases cB g hg with e' | e'
  ·exact (h.blkK g e').2 e
  ·have:=ltY g e;omega
 ·rw [kr]
  have h1:=h.repK
  refine zG.append ((Rep.keep fun i x hi hx=>⟨⟨hi.1,fun e=>(cB i e).elim (fun e'=>hi.2.1 e') (fun e'=>by have:=zZ hx;omega),hi.2.2⟩,keep i x hx hi.2.1 (by have:=hi.1;omega) (by have:=hi.1;omega)⟩).2 _ _ h1) ?_
  ·have e1:zm [b]=kC b:=by simp [zm]
   rw [e1]
   refine (Rep.keep fun i x hi hx=>?_).2 _ _ hcs
   have h2:=zZ hx
   have h3:wr.heap.size<=i:=hi
   refine ⟨⟨by omega,fun e=>?_,fun e=>by have:=ltY i e;omega⟩,dJ i x hx (fun e=>by have:=ltK i e;omega) (by omega)⟩
   rcases cB i e with e' | e'
   ·have:=ltK i e';omega
   ·omega
 ·exact (Rep.keep fun i x hi hx=>⟨⟨hi.1,fun e=>(cB i e).elim (fun e'=>hi.2.1 e') (fun e'=>by have:=zZ hx;omega),hi.2.2⟩,keep i x hx hi.2.1 (by have:=hi.1;omega) (by have:=hi.1;omega)⟩).2 _ _ h.repY
theorem pg.yes {w:World} {rd ob Z:Nat} {v:Int} {wr:World} {pk py:List Bd} {kv yv:List Value} {ks ys:Value} {nk ny:Nat}
 (h:pg w rd ob Z v wr pk py kv yv ks nk ys ny) (dZ:rd<w.heap.size) (rc:ob<Z) (Az:w.heap.size<ob) {W w7:World} {b:Bd} {cs:List Value} {a':Option Addr} {c':Nat}
 (cW:But (· = rd) wr W) (hcs:zG (wr.heap.size<=·) W (kC b) cs) (cV:Own w7 64 4 (.slice a' (ny+1) c') (ny+1) (yv++cs)) (cJ:But (fun i=>ys.ownBlock=some i) W w7)
 (cB:∀ g,(Value.slice a' (ny+1) c').ownBlock=some g->ys.ownBlock=some g\/g=W.heap.size) :
 pg w rd ob Z v (w7.setCell ⟨ob,3,none⟩ (.slice a' (ny+1) c')) pk (py++[b]) kv (yv++cs) ks nk (.slice a' (ny+1) c') (ny+1):=by
 have z6:=cW.size
 have z7:=cJ.size
 have zr:=h.z
 have zb:=h.but.size
 have keep:∀ i x,wr.heap[i]? = some x->ys.ownBlock≠some i->i≠ob->i≠rd->(w7.setCell ⟨ob,3,none⟩ (.slice a' (ny+1) c')).heap[i]? = some x:=by
  intro i x hx h1 h2 h3
  have:=zZ hx
  rw [b5 _ _ _ _ (by simpa using h2),cJ.block i (by omega) h1,cW.block i this h3];exact hx
 have dJ:∀ i x,W.heap[i]? = some x->ys.ownBlock≠some i->i≠ob->(w7.setCell ⟨ob,3,none⟩ (.slice a' (ny+1) c')).heap[i]? = some x:=by
  intro i x hx h1 h2
  have:=zZ hx
  rw [b5 _ _ _ _ (by simpa using h2),cJ.block i (by omega) h1];exact hx
 have ltK:∀ g,ks.ownBlock=some g->g<wr.heap.size:=fun g hg=>h.ownK.lt hg
 have ltY:∀ g,ys.ownBlock=some g->g<wr.heap.size:=fun g hg=>h.ownY.lt hg
 have nY:∀ i,i<Z->ys.ownBlock≠some i:=fun i hi e=>by have:=h.blkY i e;omega
 have newg:∀ g,(Value.slice a' (ny+1) c').ownBlock=some g->Z<=g:=fun g hg=>by
  rcases cB g hg with e | e
  ·exact h.blkY g e
  ·omega
 refine ⟨h.hnk,by simp [h.hny],h.ksl,⟨_,_,rfl⟩,?_,?_,?_,?_,?_,?_,newg,?_,?_,by simp [World.setCell];omega⟩
 ·refine But.setCell ?_ (.inr (show w.heap.size<=ob by omega)) _
  exact (h.but.trans cW).trans' cJ (fun i hi e=>absurd e (nY i (by omega)))
 ·exact keep _ _ h.res (nY _ (by omega)) (by omega) (by omega)
 ·have h1:kY ob v ks ys w7:=by
   unfold kY;rw [cJ.block ob (by omega) (nY _ rc),cW.block ob (by omega) (show ¬ ob=rd by omega)];exact h.out
  exact h1.put3
 ·exact h.ownK.keep fun g o hg ho=>keep g o ho (h.blkK g hg).2 (by have:=(h.blkK g hg).1;omega) (by have:=(h.blkK g hg).1;omega)
 ·exact cV.keep fun g o hg ho=>by rw [b5 _ _ _ _ (by have:=newg g hg;simp;omega)];exact ho
 ·intro g hg
  refine ⟨(h.blkK g hg).1,fun e=>?_⟩
  rcases cB g e with e' | e'
  ·exact (h.blkK g hg).2 e'
  ·have:=ltK g hg;omega
 ·exact (Rep.keep fun i x hi hx=>⟨⟨hi.1,hi.2.1,fun e=>(cB i e).elim (fun e'=>hi.2.2 e') (fun e'=>by have:=zZ hx;omega)⟩,keep i x hx hi.2.2 (by have:=hi.1;omega) (by have:=hi.1;omega)⟩).2 _ _ h.repK
 ·rw [kr]
  refine zG.append ((Rep.keep fun i x hi hx=>⟨⟨hi.1,hi.2.1,fun e=>(cB i e).elim (fun e'=>hi.2.2 e') (fun e'=>by have:=zZ hx;omega)⟩,keep i x hx hi.2.2 (by have:=hi.1;omega) (by have:=hi.1;omega)⟩).2 _ _ h.repY) ?_
  ·have e1:zm [b]=kC b:=by simp [zm]
   rw [e1]
   refine (Rep.keep fun i x hi hx=>?_).2 _ _ hcs
   have h2:=zZ hx
   have h3:wr.heap.size<=i:=hi
   refine ⟨⟨by omega,fun e=>by have:=ltK i e;omega,fun e=>?_⟩,dJ i x hx (fun e=>by have:=ltY i e;omega) (by omega)⟩
   rcases cB i e with e' | e'
   ·have:=ltY i e';omega
   ·omega
def cst:Nat->Nat
 | 0=>1
 | d+1=>5+17*cst d
def bnd:Nat->Nat
 | 0=>1
 | d+1=>1+17*bnd d
theorem cst_pos (d:Nat):2<=cst d\/d=0/\cst d=1:=by cases d <;> simp [cst];omega
theorem bnd_pos (d:Nat):1<=bnd d:=by cases d <;> simp [bnd]
theorem bR {s:Bs} (h:s∈kh):∃ c,s=[c]:=by
 simp only [kh,List.mem_cons,List.not_mem_nil,or_false] at h
 rcases h with rfl | rfl | rfl | rfl | rfl <;> exact ⟨_,rfl⟩
def BodyD (rd Q d:Nat) (hand:List Ty) (w:World) (en:Ending) (w':World):Prop :=
 ∃ (b:Bd) (s:Bs) (v:Int) (a2:Option Addr) (n2 c2:Nat) (a3:Option Addr) (n3 c3:Nat),en=.returned (.agg #[str s,.int .i64 v,.slice a2 n2 c2,.slice a3 n3 c3])/\But (· = rd) w w'/\kD w' rd Q /\
   kJ hand b/\lvB b/\zL b<=bnd d/\zG (w.heap.size<=·) w' (kC b) [str s,.int .i64 v,.slice a2 n2 c2,.slice a3 n3 c3]
def DrawB (rd d:Nat):Prop:=∀ (z:Int) (hand:List Ty) (F:Nat->Prop) (hv:Value) (w:World) (P:Nat),z<=d->-1000<=z->P+cst d<=1099511627776->kD w rd P->kd d hand->(∀ k,F k->k≠rd) ->
 Rep F w (.sl 61 1 hand.length (qz hand)) hv ->
 Calls Tryz.prog 58 #[.pointer (some ⟨rd,0,none⟩),hv,.int .i64 z] w (BodyD rd (P+cst d) d hand w)
theorem yW.newAt {w:World} {rd:Nat} (dZ:rd<w.heap.size) (xs:List Bs) (n:Nat) (hn:n=xs.length) (e:TypeId) (g:Nat) (hg:g=w.heap.size):yW (w.alloc (.cells (xs.map str).toArray e)) rd (.slice (some ⟨g,0,none⟩) n n) xs:=by
 subst hg;exact yW.new dZ xs n hn e
theorem g9 {F:Nat->Prop} {w:World} (c:UInt8):zG F w (kC (.leaf c)) [str [c],.int .i64 0,.slice none 0 0,.slice none 0 0]:=by
 rw [kC]
 have h0:Rep F w (.sl 64 4 0 []) (.slice none 0 0):=kP.2 ⟨rfl,none,0,rfl,br _,fun _=>rfl,.inl rfl⟩
 exact zJ.2 ⟨_,_,rfl,zI.2 rfl,zJ.2 ⟨_,_,rfl,zI.2 rfl,zJ.2 ⟨_,_,rfl,h0,zJ.2 ⟨_,_,rfl,h0,zC.2 rfl⟩⟩⟩⟩
def KidsD (w:World) (rd ob Z v P d:Nat) (hand:List Ty) (t:Ty) (k:Nat) (wr:World):Prop :=
 ∃ (pk:List Bd) (kv:List Value) (ks:Value) (nk:Nat),pg w rd ob Z v wr pk [] kv [] ks nk (.slice none 0 0) 0/\pk.length=k/\zg (zu hand (t.args.take k)) pk/\uR pk/\zD pk<=k*bnd d/\kD wr rd (P+k*cst d)
def YesD (w:World) (rd ob Z v P d:Nat) (hand:List Ty) (pk:List Bd) (kv:List Value) (ks:Value) (nk:Nat) (k:Nat) (wr:World):Prop :=
 ∃ (py:List Bd) (yv:List Value) (ys:Value) (ny:Nat),pg w rd ob Z v wr pk py kv yv ks nk ys ny/\py.length=k/\(∀ b∈py,kJ hand b)/\uR py/\zD py<=k*bnd d/\kD wr rd (P+k*(1+cst d))
theorem yk:∀ (xs ys:List Bd),uR xs->uR ys->uR (xs++ys)
 | [],ys,_,h=>by simpa using h
 | x::xs,ys,h1,h2=>by
   rw [uR] at h1
   simp only [List.cons_append]
   rw [uR]
   exact ⟨h1.1,yk xs ys h1.2 h2⟩
theorem lvBs_one {b:Bd} (h:lvB b):uR [b]:=by rw [uR];exact ⟨h,by rw [uR];trivial⟩
theorem rep_len {F:Nat->Prop} {w:World} {e:TypeId} {a:Option Addr} {c:Nat} {xs ys:List Ty} (h:Rep F w (.sl e 1 (xs++ys).length (qz (xs++ys))) (.slice a (xs++ys).length c)) :
 Rep F w (.sl e 1 (xs++ys).length (qz (xs++ys))) (.slice a (xs.length+ys.length) c):=by
 have e:xs.length+ys.length=(xs++ys).length:=by simp
 rw [e];exact h
theorem but_drew {m:Nat->Prop} {w w':World} (h:Below w.drew.heap.size w.drew w'):But m w w':=⟨h.os,h.tape,h.output,h.size,fun i hi _=>h.block i hi⟩
theorem but_drew2 {m:Nat->Prop} {w w':World} (h:But m w.drew w'):But m w w':=⟨h.os,h.tape,h.output,h.size,h.block⟩
theorem yH (x:Int) (h1 : -2000<=x) (h2:x<=1000000):IntKind.i64.wrap x=x:=by
 simp [IntKind.wrap,IntKind.bits,IntKind.signed];omega
theorem wrap_sub (z:Int) (p:Nat) (h1:0<z) (h2:z<=1000) (h3:p<2):IntKind.i64.wrap (z-1-(p:Int))=z-1-p:=yH _ (by omega) (by omega)
theorem sub_le {z:Int} {p d:Nat} (h2:z<=((d+1:Nat):Int)):z-1-(p:Int)<=d:=by omega
theorem sub_lo {z:Int} {p:Nat} (h1:0<z) (h3:p<2) : -1000<=z-1-(p:Int):=by omega
theorem reps_past {B B':Nat} {w:World} {o:Obj} {ds:List DV} {vs:List Value} (hB:B'<=B) (h:zG (B<=·) w ds vs):zG (B'<=·) (w.alloc o) ds vs :=
 (Rep.keep fun _ _ hi hx=>⟨b7 hB hi,zX hx⟩).2 _ _ h
set_option maxRecDepth 100000 in
theorem wZ (rd d:Nat) (hd:d<=100) (ih:∀ d',d=d'+1->DrawB rd d'):DrawB rd d:=by
 intro z hand F hv w P hz hzl hP hr hh hF mj
 have IH:=bc ih;clear ih
 have cZ:=hr.lt
 have CST:=bc (cst_pos d)
 have BND:=bc (bnd_pos d)
 have Ac:kD (w.alloc (.cells #[str [],.int .i64 0,.slice none 0 0,.slice none 0 0] 64)) rd P:=hr.alloc _
 have Ae:kY w.heap.size 0 (.slice none 0 0) (.slice none 0 0) (w.alloc (.cells #[str [],.int .i64 0,.slice none 0 0,.slice none 0 0] 64)):=zS _ _
 have Af:But (· = rd) w (w.alloc (.cells #[str [],.int .i64 0,.slice none 0 0,.slice none 0 0] 64)):=(But.refl _ _).alloc _
 obtain ⟨a0,k0,e,_,_,hat⟩:=zF mj
 subst e
 have cv:=bc hat;have Dd:=bc mj;have HF:=bc hF;have HH:=bc hh
 have b_:hand.length<=10000:=by have:=hh.2;omega
 clear hat mj hF hh hr
 by_cases i8:z<=0
 ·go_enter Tryz.func58,Tryz.ntmps58
  have H0:=bc (bm Ac (bm Ae Af))
  have sO:=H0.out.1.lt
  clear Ac Ae Af
  go_wp2_with fail
  obtain ⟨iE,mg,mi⟩:=H0.out
  refine (wt rd (P) (.slice (some ⟨w.heap.size+1,0,none⟩) 5 5) kh _ (iE.alloc (.cells (kh.map str).toArray 9)) (yW.newAt sO kh 5 rfl _ (w.heap.size+1) (by simp)) (by decide) (by decide) (by omega)).mono ?_
  rintro en w2 ⟨s,hs,rfl,b8,dR⟩
  obtain ⟨c,rfl⟩:=bR hs
  clear hs
  have dS:kY w.heap.size 0 (.slice none 0 0) (.slice none 0 0) w2:=kY.but (by unfold kY;exact zX mg) b8 (show ¬ w.heap.size=rd by omega)
  have dn:=(mi.alloc (.cells (kh.map str).toArray 9)).trans b8
  obtain ⟨r0,r1,r2,r3,rl,rf⟩:=dS.cells
  have tr:=rf 0;have oF:=rf 1;have oE:=rf 2;have oD:=rf 3;clear rf
  have HQ:=bc (bm dS (bm dn dR));clear dS dn dR b8 mg mi iE
  go_wp2_with fail
  obtain ⟨dS,dn,dR⟩:=HQ.out
  obtain ⟨W,hW,s0,s1,s2,s3,cK,eW,nw⟩:=dS.storeB (str [c]) (.int .i64 0) (.slice none 0 0) (.slice none 0 0)
  rw [<- hW]
  refine bodyPost_ret (v:=.agg #[str [c],.int .i64 0,.slice none 0 0,.slice none 0 0]) (by simp [results,Tryz.results58,go_sem,s0,s1,s2,s3]) rfl ?_
  exact ⟨.leaf c,[c],0,none,0,0,none,0,0,rfl,cK _ _ dn (br _),(nw _ _ cZ dR).mono (by have:=CST.out;omega),by simp [kJ],by simp [lvB],by simp only [zL];exact BND.out,g9 c⟩
 have hP2:P+2<=1099511627776:=by have:=CST.out;omega
 by_cases fH:hand.length=0
 ·have Be:((hand.length:Int) == 0)=true:=by rw [beq_iff_eq];omega
  go_enter Tryz.func58,Tryz.ntmps58
  have H0:=bc (bm Ac (bm Ae Af))
  have sO:=H0.out.1.lt
  clear Ac Ae Af
  go_wp2_with fail
  obtain ⟨iE,mg,mi⟩:=H0.out
  refine (wt rd (P) (.slice (some ⟨w.heap.size+1,0,none⟩) 5 5) kh _ (iE.alloc (.cells (kh.map str).toArray 9)) (yW.newAt sO kh 5 rfl _ (w.heap.size+1) (by simp)) (by decide) (by decide) (by omega)).mono ?_
  rintro en w2 ⟨s,hs,rfl,b8,dR⟩
  obtain ⟨c,rfl⟩:=bR hs
  clear hs
  have dS:kY w.heap.size 0 (.slice none 0 0) (.slice none 0 0) w2:=kY.but (by unfold kY;exact zX mg) b8 (show ¬ w.heap.size=rd by omega)
  have dn:=(mi.alloc (.cells (kh.map str).toArray 9)).trans b8
  obtain ⟨r0,r1,r2,r3,rl,rf⟩:=dS.cells
  have tr:=rf 0;have oF:=rf 1;have oE:=rf 2;have oD:=rf 3;clear rf
  have HQ:=bc (bm dS (bm dn dR));clear dS dn dR b8 mg mi iE
  go_wp2_with fail
  obtain ⟨dS,dn,dR⟩:=HQ.out
  obtain ⟨W,hW,s0,s1,s2,s3,cK,eW,nw⟩:=dS.storeB (str [c]) (.int .i64 0) (.slice none 0 0) (.slice none 0 0)
  rw [<- hW]
  refine bodyPost_ret (v:=.agg #[str [c],.int .i64 0,.slice none 0 0,.slice none 0 0]) (by simp [results,Tryz.results58,go_sem,s0,s1,s2,s3]) rfl ?_
  exact ⟨.leaf c,[c],0,none,0,0,none,0,0,rfl,cK _ _ dn (br _),(nw _ _ cZ dR).mono (by have:=CST.out;omega),by simp [kJ],by simp [lvB],by simp only [zL];exact BND.out,g9 c⟩
 have Be:((hand.length:Int) == 0)=false:=by rw [beq_eq_false_iff_ne];omega
 go_enter Tryz.func58,Tryz.ntmps58
 go_wp2_with fail
 refine (j0 rd P 5 _ Ac (by omega) (by omega) (by omega)).mono ?_
 rintro en w1 ⟨p1,rfl,hp1,b9,cw⟩
 have hN1:=Ae.but b9 (show ¬ w.heap.size=rd by omega)
 have oJ:=Af.trans b9
 by_cases hp0:p1=0
 ·subst hp0
  have H0:=bc (bm cw (bm hN1 oJ))
  have sO:=H0.out.1.lt
  clear cw hN1 oJ
  go_wp2_with fail
  obtain ⟨iE,mg,mi⟩:=H0.out
  refine (wt rd (P+1) (.slice (some ⟨w1.heap.size,0,none⟩) 5 5) kh _ (iE.alloc (.cells (kh.map str).toArray 9)) (yW.newAt sO kh 5 rfl _ (w1.heap.size) (by simp)) (by decide) (by decide) (by omega)).mono ?_
  rintro en w2 ⟨s,hs,rfl,b8,dR⟩
  obtain ⟨c,rfl⟩:=bR hs
  clear hs
  have dS:kY w.heap.size 0 (.slice none 0 0) (.slice none 0 0) w2:=kY.but (by unfold kY;exact zX mg) b8 (show ¬ w.heap.size=rd by omega)
  have dn:=(mi.alloc (.cells (kh.map str).toArray 9)).trans b8
  obtain ⟨r0,r1,r2,r3,rl,rf⟩:=dS.cells
  have tr:=rf 0;have oF:=rf 1;have oE:=rf 2;have oD:=rf 3;clear rf
  have HQ:=bc (bm dS (bm dn dR));clear dS dn dR b8 mg mi iE
  go_wp2_with fail
  obtain ⟨dS,dn,dR⟩:=HQ.out
  obtain ⟨W,hW,s0,s1,s2,s3,cK,eW,nw⟩:=dS.storeB (str [c]) (.int .i64 0) (.slice none 0 0) (.slice none 0 0)
  rw [<- hW]
  refine bodyPost_ret (v:=.agg #[str [c],.int .i64 0,.slice none 0 0,.slice none 0 0]) (by simp [results,Tryz.results58,go_sem,s0,s1,s2,s3]) rfl ?_
  exact ⟨.leaf c,[c],0,none,0,0,none,0,0,rfl,cK _ _ dn (br _),(nw _ _ cZ dR).mono (by have:=CST.out;omega),by simp [kJ],by simp [lvB],by simp only [zL];exact BND.out,g9 c⟩
 have hp0':((p1:Int) == 0)=false:=by rw [beq_eq_false_iff_ne];omega
 obtain ⟨d',hd'⟩:∃ d',d=d'+1:=⟨d-1,by omega⟩
 have hih:=IH.out d' hd'
 subst hd'
 have IHD:=bc hih;clear hih
 have hcs:cst (d'+1)=5+17*cst d':=rfl
 have sK:bnd (d'+1)=1+17*bnd d':=rfl
 go_wp2_with fail
 refine (j0 rd (P+1) hand.length w1 cw (by omega) (by omega) (by omega)).mono ?_
 rintro en w2 ⟨v,rfl,hv,b8,dR⟩
 have Cw:=hN1.but b8 (show ¬ w.heap.size=rd by omega)
 have dN:=oJ.trans b8
 obtain ⟨bl,ol,u,dv,ea,hFl,db,aR,BY,mP⟩:=cv.out v hv
 rw [jv,Option.map_eq_some_iff] at aR
 obtain ⟨t,ht,rfl⟩:=aR
 obtain ⟨sa,sk,rfl⟩:=zl mP
 have nC:=mP
 rw [qY] at nC
 obtain ⟨_,_,est,_,_,dV⟩:=zF nC
 simp only [Value.slice.injEq] at est
 obtain ⟨rfl,_,rfl⟩:=est
 subst ea
 have t6:t.args.length<=15:=by
  have h1:=HH.out.1 t (List.mem_of_getElem? ht)
  have h2:=zp t
  have:=zc t.args;omega
 have HT:=bc ht;have tF:=bc dV
 have hblr:=HF.out bl hFl
 have z1:=b9.size
 rw [zK] at z1
 have z2:=b8.size
 have A4:w.heap.size<w2.heap.size:=by omega
 have hrdo:rd<w2.heap.size:=by omega
 have di:KidsD w rd w2.heap.size (w2.heap.size+1) v (P+2) d' hand t 0 (w2.alloc (.cells #[str [],.int .i64 v,.slice none 0 0,.slice none 0 0] 64)):=by
  refine ⟨[],[],.slice none 0 0,0,⟨rfl,rfl,⟨_,_,rfl⟩,⟨_,_,rfl⟩,dN.alloc _,by unfold kY;exact zX Cw,zS _ _,World.ownsRow_nil _ _ _ _,World.ownsRow_nil _ _ _ _,fun g h=>by simp [Value.ownBlock] at h,fun g h=>by simp [Value.ownBlock] at h,zC.2 rfl,zC.2 rfl,by simp⟩,rfl,by simp [zg,zu],by simp [uR],by simp [zD],?_⟩
  have:=dR.alloc (.cells #[str [],.int .i64 v,.slice none 0 0,.slice none 0 0] 64)
  simpa using this
 have mh:w2.heap.size≠rd:=by omega
 have ZZ1:=bc (yH (z-1) (by omega) (by omega))
 have zz2:z-1<=d':=by omega
 have zz3 : -1000<=z-1:=by omega
 have zz4:z<=1000:=by omega
 have zz0:0<z:=by omega
 have h04:0<4:=by omega
 have dB:(v:Int)<(hand.length:Int):=by omega
 clear ht dV nC Cw dN b8 b9 hN1 oJ Ae Af cw dR z1 z2 Ac
 go_wp2_with fail
 go_loopw [9] (fun i wr=>∃ k:Nat,k<=t.args.length/\i=.int .i64 k/\KidsD w rd w2.heap.size (w2.heap.size+1) v (P+2) d' hand t k wr) (fun i _=>t.args.length-(intOf i).toNat)
 case atStart=>exact ⟨0,Nat.zero_le _,rfl,di⟩
 case round =>
  clear di
  obtain ⟨k,hk,rfl,pk,kv,ks,nk,hN,fk,hfk,iR,tA,mG⟩:=hrel
  have cS:=hN.but
  obtain ⟨ka,kc,eks⟩:=hN.ksl
  subst eks
  have e0:=j9 cS hblr BY
  have HN:=bc hN;have HFK:=bc hfk;have HLK:=bc iR;have HPK:=bc fk
  obtain ⟨q0,q1,q2,q3,ql,qf⟩:=hN.out.cells
  have tt:=qf 2;clear qf
  have hnk:nk<=15:=by have:=hN.hnk;omega
  have tO:nk+1<=maxLen:=by unfold maxLen;omega
  have dm:(nk+1)*72<=140737488355328:=by omega
  have hk15:k*cst d'<=15*cst d':=Nat.mul_le_mul_right _ (by omega)
  have hQ:(P+2+k*cst d')+cst d'<=1099511627776:=by omega
  clear hfk iR hN fk
  by_cases Bo:k<t.args.length
  ·obtain ⟨ba,oa,uk,dk,esa,hFa,hba,n5,rL,lW⟩:=tF.out k Bo
   subst esa
   rw [jv,Option.map_eq_some_iff] at n5
   obtain ⟨tk,dI,rfl⟩:=n5
   obtain ⟨ua,uc,rfl⟩:=zl lW
   have hbar:=HF.out ba hFa
   have e1:=j9 cS hbar rL
   have sF:Rep F wr.drew (jX tk) (.slice ua tk.args.length uc):=(Rep.but cS (fun b hb=>⟨HF.out b hb,hb⟩) lW).drew
   have fl:=(Rep.but cS (fun b hb=>⟨HF.out b hb,hb⟩) Dd.out).drew
   have iz:kd d' (hand++tk.args):=HH.out.next HT.out (List.mem_of_getElem? dI)
   have iR:Lim (hand.length+tk.args.length):=by have:=iz.2;simp at this;show _<=_;omega
   have HTK:=bc dI
   have hF5:∀ g,(F g\/wr.drew.heap.size<=g)->g≠rd:=fun g hg=>by
    rcases hg with h | h
    ·exact HF.out g h
    ·have h2:wr.heap.size<=g:=h
     omega
   have C1:=bc (hU F hand tk _ _ wr.drew fl sF iR)
   have AP:=mG.drew
   have C2:=bc (fun a5 c5 w5 (h5:Below wr.drew.heap.size wr.drew w5) (fi:Rep (fun k=>F k\/wr.drew.heap.size<=k) w5 (.sl 61 1 (hand++tk.args).length (qz (hand++tk.args))) (.slice a5 (hand++tk.args).length c5)) =>
    IHD.out (z-1) (hand++tk.args) (fun k=>F k\/wr.drew.heap.size<=k) (.slice a5 (hand.length+tk.args.length) c5) w5 (P+2+k*cst d') zz2 zz3 hQ (AP.below h5) iz hF5 (rep_len fi))
   have OWN:=bc (fun w5 w6 (h5:But (· = rd) wr w5) (h6:But (· = rd) w5 w6)=>own_thru HN.out.ownK (fun g hg=>by have:=(HN.out.blkK g hg).1;omega) h5 h6)
   have NB:=bc (show ¬ (Value.slice ka nk kc).ownBlock=some w2.heap.size from fun e=>by have:=(HN.out.blkK _ e).1;omega)
   have hlt9':(k:Int)<(t.args.length:Int):=by omega
   clear dI rL lW sF fl iz iR hF5 mG AP
   have zz1:=ZZ1.out
   go_wp2_with fail
   go_region_law (first
    | (refine kK (by rfl) _ _ _ (by rfl) 64 (.agg #[str [],.int .i64 0,.slice none 0 0,.slice none 0 0]) 4 72 Tryz.underlying62 Tryz.infoN rfl h04 (.slice ka nk kc) nk kv (by rfl) (oW.out.alloc _) _ 1 [str s6,.int .i64 v6,.slice a2 n2 k2,.slice a3 n3 k3] (by rfl) (zM.lit4 #[str s6,.int .i64 v6,.slice a2 n2 k2,.slice a3 n3 k3] rfl (by simp [str,Value.oneCell']) _ rfl) tO dm ?_;intro a' c' w7 dP cJ cB;have hc7:=out_cell cJ NB.out q26;have eA:=out_free cJ NB.out Ao qf26)
    | (go_simp;go_at_call 58;refine (C2.out _ _ _ cF fi).mono ?_;rintro en6 w6 ⟨b,s6,v6,a2,n2,k2,a3,n3,k3,rfl,cW,tI,lz,iL,rW,mD⟩;have q26:=j9 cW mh q25;have Ao:=b6 oM cW.size;have qf26:=wC cW mh oM qf25;have oW:=bc (OWN.out _ _ dE cW))
    | (go_simp;go_at_call 97;refine C1.out.mono ?_;rintro en5 w5 ⟨a5,c5,rfl,cF,fi⟩;have dE:But (· = rd) wr w5:=but_drew cF;have q25:=j9 dE mh q2;have oM:=b6 ql dE.size;have qf25:=wC dE mh ql tt))
   all_goals
    clear zz1
    have hA:=HN.out.kid cZ (Nat.lt_succ_self _) A4 ((dE.trans cW).alloc _) (reps_past dE.size mD) dP cJ cB
    have fW:kD (w7.setCell ⟨w2.heap.size,2,none⟩ (.slice a' (nk+1) c')) rd (P+2+(k+1)*cst d'):=by
     refine kD.mono (kD.but (m:=fun i=>i=w2.heap.size\/(Value.slice ka nk kc).ownBlock=some i) (tI.alloc (.cells #[str s6,.int .i64 v6,.slice a2 n2 k2,.slice a3 n3 k3] 64)) (But.setCell (cJ.weak fun i _ h=>.inr h) (.inl (.inl rfl)) _) ?_) (by rw [Nat.succ_mul];omega)
     intro i hi h
     rcases h with h | h
     ·omega
     ·have:=(HN.out.blkK _ h).1;omega
    have BL:zg (zu hand (t.args.take (k+1))) (pk++[b]):=by
     rw [bJ HTK.out]
     exact u_ _ _ _ _ HFK.out ⟨_,_,rfl,lz,by rw [zg]⟩
    have t_:zD (pk++[b])<=(k+1)*bnd d':=by rw [kk,Nat.succ_mul];simp only [zD];omega
    have oG:Hid (KidsD w rd w2.heap.size (w2.heap.size+1) v (P+2) d' hand t (k+1) (w7.setCell ⟨w2.heap.size,2,none⟩ (.slice a' (nk+1) c'))) :=
     ⟨pk++[b],_,_,_,hA,by simp [HPK.out],BL,yk _ _ HLK.out (lvBs_one iL),t_,fW⟩
    clear hA fW BL t_ lz iL rW mD dP cJ cB tI fi
    go_wp2_with fail
    go_roundw
    case rel=>exact ⟨k+1,by omega,by go_num,oG.out⟩
    case measure=>simp [intOf];omega
  ·obtain rfl:k=t.args.length:=by omega
   have lD:¬ ((t.args.length:Int)<(t.args.length:Int)):=by omega
   have Dg:Hid (zg (zu hand t.args) pk):=by have:=HFK.out;rwa [List.take_length] at this
   have HSK:=bc tA
   have iC:YesD w rd w2.heap.size (w2.heap.size+1) v (P+2+t.args.length*cst d') d' hand pk kv (.slice ka nk kc) nk 0 wr :=
    ⟨[],[],.slice none 0 0,0,HN.out,rfl,by simp,by simp [uR],by simp [zD],by simpa using mG⟩
   have HHS:Hid (kd d' hand):=by have:=HH.out.same;rw [List.append_nil] at this;exact this
   clear mG tA HFK Bo cS
   go_wp2_with fail
   clear HN q0 q1 q2 q3 ql tt e0 lD
   go_loopw [10] (fun i wr=>∃ k:Nat,k<=2/\i=.int .i64 k/\YesD w rd w2.heap.size (w2.heap.size+1) v (P+2+t.args.length*cst d') d' hand pk kv (.slice ka nk kc) nk k wr) (fun i _=>2-(intOf i).toNat)
   case atStart=>exact ⟨0,by omega,rfl,iC⟩
   case round =>
    clear iC
    obtain ⟨k,hk,rfl,py,yv,ys,ny,hN,hpy,oo,og,lJ,lX⟩:=hrel
    have cS:=hN.but
    obtain ⟨ya,yc,eys⟩:=hN.ysl
    subst eys
    have HN:=bc hN;have HFY:=bc oo;have HLY:=bc og;have HPY:=bc hpy;have HSY:=bc lJ
    obtain ⟨q0,q1,q2,q3,ql,qf⟩:=hN.out.cells
    have a_:=qf 3;clear qf
    have hny:ny<=2:=by have:=hN.hny;omega
    have tO:ny+1<=maxLen:=by unfold maxLen;omega
    have dm:(ny+1)*72<=140737488355328:=by omega
    have hk2c:k*(1+cst d')<=2*(1+cst d'):=Nat.mul_le_mul_right _ (by omega)
    have hQ1:P+2+t.args.length*cst d'+k*(1+cst d')<=1099511627776:=by omega
    clear oo og hpy lJ
    by_cases hlt10:k<2
    ·have hk1c:k*(1+cst d')<=1*(1+cst d'):=Nat.mul_le_mul_right _ (by omega)
     have Ad:P+2+t.args.length*cst d'+k*(1+cst d')+1+cst d'<=1099511627776:=by omega
     have hrw:=Rep.but cS (fun b hb=>⟨HF.out b hb,hb⟩) Dd.out
     have C1:=bc (j0 rd (P+2+t.args.length*cst d'+k*(1+cst d')) 2 wr.drew lX.drew (by omega) (by omega) hQ1)
     have C2:=bc (fun w5 (h5:But (· = rd) wr w5) (p5:Nat) (aK:p5<2) (fi:kD w5 rd (P+2+t.args.length*cst d'+k*(1+cst d')+1)) =>
      IHD.out (z-1-(p5:Int)) hand F (.slice (some ⟨bl,ol,none⟩) hand.length k0) w5 (P+2+t.args.length*cst d'+k*(1+cst d')+1) (sub_le hz) (sub_lo zz0 aK) Ad fi HHS.out HF.out (Rep.but h5 (fun b hb=>⟨HF.out b hb,hb⟩) hrw))
     have OWN:=bc (fun w5 w6 (h5:But (· = rd) wr w5) (h6:But (· = rd) w5 w6)=>own_thru HN.out.ownY (fun g hg=>by have:=HN.out.blkY g hg;omega) h5 h6)
     have NB:=bc (show ¬ (Value.slice ya ny yc).ownBlock=some w2.heap.size from fun e=>by have:=HN.out.blkY _ e;omega)
     have hlt10':(k:Int)<2:=by omega
     clear hrw lX hN cS q2
     have zz1:=ZZ1.out
     go_wp2_with fail
     go_region_law (first
      | (refine kK (by rfl) _ _ _ (by rfl) 64 (.agg #[str [],.int .i64 0,.slice none 0 0,.slice none 0 0]) 4 72 Tryz.underlying62 Tryz.infoN rfl h04 (.slice ya ny yc) ny yv (by rfl) (oW.out.alloc _) _ 1 [str s6,.int .i64 v6,.slice a2 n2 k2,.slice a3 n3 k3] (by rfl) (zM.lit4 #[str s6,.int .i64 v6,.slice a2 n2 k2,.slice a3 n3 k3] rfl (by simp [str,Value.oneCell']) _ rfl) tO dm ?_;intro a' c' w7 dP cJ cB;have hc7:=out_cell cJ NB.out q36;have eA:=out_free cJ NB.out Ao qf36)
      | (go_simp;go_at_call 58;refine (C2.out _ dE _ aK fi).mono ?_;rintro en6 w6 ⟨b,s6,v6,a2,n2,k2,a3,n3,k3,rfl,cW,tI,lz,iL,rW,mD⟩;have q36:=j9 cW mh q35;have Ao:=b6 oM cW.size;have qf36:=wC cW mh oM qf35;have oW:=bc (OWN.out _ _ dE cW))
      | (go_simp;go_at_call 48;refine C1.out.mono ?_;rintro en5 w5 ⟨p5,rfl,aK,cF,fi⟩;have dE:But (· = rd) wr w5:=but_drew2 cF;have q35:=j9 dE mh q3;have oM:=b6 ql dE.size;have qf35:=wC dE mh ql a_;have zz5:=wrap_sub z p5 zz0 zz4 aK))
     all_goals
      clear zz1 zz5
      have hA:=HN.out.yes cZ (Nat.lt_succ_self _) A4 ((dE.trans cW).alloc _) (reps_past dE.size mD) dP cJ cB
      have fW:kD (w7.setCell ⟨w2.heap.size,3,none⟩ (.slice a' (ny+1) c')) rd (P+2+t.args.length*cst d'+(k+1)*(1+cst d')):=by
       refine kD.mono (kD.but (m:=fun i=>i=w2.heap.size\/(Value.slice ya ny yc).ownBlock=some i) (tI.alloc (.cells #[str s6,.int .i64 v6,.slice a2 n2 k2,.slice a3 n3 k3] 64)) (But.setCell (cJ.weak fun i _ h=>.inr h) (.inl (.inl rfl)) _) ?_) (by rw [Nat.succ_mul];omega)
       intro i hi h
       rcases h with h | h
       ·omega
       ·have:=HN.out.blkY _ h;omega
      have BI:∀ x∈py++[b],kJ hand x:=by
       intro x hx
       rcases List.mem_append.1 hx with h | h
       ·exact HFY.out x h
       ·simp at h;subst h;exact lz
      have t_:zD (py++[b])<=(k+1)*bnd d':=by have:=HSY.out;rw [kk,Nat.succ_mul];simp only [zD];omega
      have oG:Hid (YesD w rd w2.heap.size (w2.heap.size+1) v (P+2+t.args.length*cst d') d' hand pk kv (.slice ka nk kc) nk (k+1) (w7.setCell ⟨w2.heap.size,3,none⟩ (.slice a' (ny+1) c'))) :=
       ⟨py++[b],_,_,_,hA,by simp [HPY.out],BI,yk _ _ HLY.out (lvBs_one iL),t_,fW⟩
      clear hA fW BI t_ lz iL rW mD dP cJ cB tI fi
      go_wp2_with fail
      go_roundw
      case rel=>exact ⟨k+1,by omega,by go_num,oG.out⟩
      case measure=>simp [intOf];omega
    ·obtain rfl:k=2:=by omega
     obtain ⟨r0,r1,r2,r3,rl,rf⟩:=hN.res.cells
     have tr:=rf 0;have oF:=rf 1;have oE:=rf 2;have oD:=rf 3;clear rf
     have HRY:=bc lX
     clear lX hN cS
     go_wp2_with fail
     have hN:=HN.out
     obtain ⟨W,hW,s0,s1,s2,s3,cK,eW,nw⟩:=hN.res.storeB (str []) (.int .i64 v) (.slice ka nk kc) (.slice ya ny yc)
     rw [<- hW]
     refine bodyPost_ret (v:=.agg #[str [],.int .i64 v,.slice ka nk kc,.slice ya ny yc]) (by simp [results,Tryz.results58,go_sem,s0,s1,s2,s3]) rfl ?_
     have hpy:=HPY.out
     obtain ⟨y1,y2,rfl⟩:∃ y1 y2,py=[y1,y2]:=by
      match py,hpy with
      | [a,b],_=>exact ⟨a,b,rfl⟩
     have og:=HLY.out
     rw [uR,uR] at og
     have lJ:=HSY.out
     have tA:=HSK.out
     simp only [zD] at lJ
     have hb15:t.args.length*bnd d'<=15*bnd d':=Nat.mul_le_mul_right _ (by omega)
     have lE:=hN.hnk
     have lC:ny=2:=hN.hny
     subst lC
     refine ⟨.ask v pk y1 y2,[],v,ka,nk,kc,ya,2,yc,rfl,cK _ _ hN.but (br _),(nw _ _ cZ HRY.out).mono (by omega),?_,?_,?_,?_⟩
     ·rw [kJ];exact ⟨t,HT.out,Dg.out,HFY.out y1 (by simp),HFY.out y2 (by simp)⟩
     ·rw [lvB];exact ⟨by omega,HLK.out,og.1,og.2.1⟩
     ·simp only [zL];omega
     ·rw [wX]
      refine zJ.2 ⟨_,_,rfl,zI.2 rfl,zJ.2 ⟨_,_,rfl,zI.2 rfl,zJ.2 ⟨_,_,rfl,?_,zJ.2 ⟨_,_,rfl,?_,zC.2 rfl⟩⟩⟩⟩
      ·rw [<- lE]
       refine (hN.ownK.keep fun g o hg ho=>eW g o (by have:=(hN.blkK g hg).1;omega) ho).rep (fun g hg=>by have:=(hN.blkK g hg).1;omega) ?_
       exact (Rep.keep fun x o hx ho=>⟨by have:=hx.1;omega,eW x o (by have:=hx.1;omega) ho⟩).2 _ _ hN.repK
      ·refine (hN.ownY.keep fun g o hg ho=>eW g o (by have:=hN.blkY g hg;omega) ho).rep (fun g hg=>by have:=hN.blkY g hg;omega) ?_
       exact (Rep.keep fun x o hx ho=>⟨by have:=hx.1;omega,eW x o (by have:=hx.1;omega) ho⟩).2 _ _ hN.repY
theorem l91Body_any (rd d:Nat) (hd:d<=100):DrawB rd d:=by
 induction d with
 | zero=>exact wZ rd 0 hd (fun d' h=>by omega)
 | succ d ih=>exact wZ rd (d+1) hd (fun d' h=>by rw [<- Nat.succ.inj h];exact ih (by omega))
def Row8 (w:World) (a:Option Addr) (len cap:Nat) (zs:List Int):Prop :=
 (a=none/\len=0/\cap=0/\zs=[]) \/
 ∃ x,a=some x/\len<=cap/\cap<=maxLen/\zs.length=cap/\(∀ i,i<zs.length->w.cell? (x.add i)=some (.int .u8 (zs.getD i 0)))/\∀ n∈zs,(Lit.int .u8 n).wf=true
theorem Row8.le {w:World} {a:Option Addr} {len cap:Nat} {zs:List Int} (h:Row8 w a len cap zs):len<=cap:=by
 rcases h with ⟨_,rfl,rfl,_⟩ | ⟨x,_,h,_⟩
 ·exact br _
 ·exact h
theorem Row8.bytes {w:World} {a:Option Addr} {len cap:Nat} {zs:List Int} (h:Row8 w a len cap zs) (n:Nat) (hn:n<=len) :
 n=0\/∃ b o,a=some ⟨b,o,none⟩/\b<w.heap.size/\∀ k,k<n->∃ x:Nat,x<256/\w.cell? ⟨b,o+k,none⟩=some (.int .u8 x):=by
 rcases Nat.eq_zero_or_pos n with h0 | h0
 ·exact .inl h0
 right
 rcases h with ⟨_,rfl,_,_⟩ | ⟨x,rfl,hl,_,hz,hc,hw⟩
 ·omega
 obtain ⟨b,o,sp⟩:=x
 have h1:=hc 0 (by omega)
 have hsp:sp=none:=by
  cases sp with
  | none=>rfl
  | some q=>simp [World.cell?,Addr.add] at h1;split at h1 <;> simp_all
 subst hsp
 have eI:∀ i,(⟨b,o,none⟩:Addr).add i=⟨b,o+i,none⟩:=fun i=>by
  unfold Addr.add;split <;> simp_all
 have h2:=be w _ h1
 refine ⟨b,o,rfl,by rw [eI] at h2;exact h2,fun k hk=>?_⟩
 have hkz:k<zs.length:=by omega
 have h3:=hc k hkz
 rw [eI] at h3
 have hm:zs.getD k 0∈zs:=by
  rw [List.getD_eq_getElem?_getD,List.getElem?_eq_getElem hkz];exact List.getElem_mem hkz
 have mU:=hw _ hm
 clear hm
 generalize zs.getD k 0=z at *
 have hb:0<=z/\z<256:=by
  simp [Lit.wf,IntKind.min,IntKind.max,IntKind.bits,IntKind.signed] at mU
  omega
 refine ⟨z.toNat,by omega,?_⟩
 rw [h3,Int.toNat_of_nonneg hb.1]
theorem l6Open_any (a:Option Addr) (len cap:Nat) (zs:List Int) (w:World) (h:Row8 w a len cap zs) (hl:len<=1048576) :
 Calls Tryz.prog 28 #[.slice a len cap] w fun en w'=>en=.returned (.pointer (some ⟨w.heap.size,0,none⟩))/\Below w.heap.size w w'/\kD w' w.heap.size 0/\w.heap.size<w'.heap.size:=by
 have d_:=h.le
 have H:=bc h;clear h
 by_cases h2:2000<len
 ·have h2':(2000:Int)<(len:Int):=by omega
  have h3:(2000:Int)<=(cap:Int):=by omega
  obtain ⟨b,o,ea,hb,hk⟩:=(H.out.bytes 2000 (by omega)).resolve_left (by omega)
  subst ea
  have HK:=bc hk;clear hk
  go_enter Tryz.func28,Tryz.ntmps28
  go_wp2_with fail
  go_ret
  refine ⟨rfl,(bi _ _).alloc (br _) _,?_,by simp⟩
  refine ⟨_,2000,_,0,zS _ _,br _,br _,.inr ⟨b,o,rfl,hb,fun k hk=>?_⟩⟩
  obtain ⟨x,hx,hc⟩:=HK.out k hk
  exact ⟨x,hx,zU hc⟩
 ·have h2':¬ (2000:Int)<(len:Int):=by omega
  go_enter Tryz.func28,Tryz.ntmps28
  go_wp2_with fail
  go_ret
  refine ⟨rfl,(bi _ _).alloc (br _) _,?_,by simp⟩
  refine ⟨_,len,_,0,zS _ _,br _,by omega,?_⟩
  rcases H.out.bytes len (br _) with h0 | ⟨b,o,ea,hb,hk⟩
  ·exact .inl h0
  ·refine .inr ⟨b,o,ea,hb,fun k aD=>?_⟩
   obtain ⟨x,hx,hc⟩:=hk k aD
   exact ⟨x,hx,zU hc⟩
theorem type_ok {s:Bs} (h:s∈qd):(zQ s).2=true/\s.length<=100:=by
 simp only [qd,List.mem_cons,List.not_mem_nil,or_false] at h
 rcases h with rfl | rfl | rfl | rfl | rfl | rfl | rfl | rfl <;> exact ⟨by decide,by decide⟩
theorem wrap_one (p:Nat) (h:p<3):IntKind.i64.wrap (1+(p:Int))=1+p:=yH _ (by omega) (by omega)
theorem sum_le (p:Nat) (h:p<3):(1:Int)+(p:Int)<=((3:Nat):Int):=by omega
theorem sum_lo (p:Nat):(-1000:Int)<=(1:Int)+(p:Int):=by omega
theorem cst3:cst 3=6448:=rfl
def StratD (rd Q:Nat) (s:Bs) (w:World) (en:Ending) (w':World):Prop :=
 ∃ b:Bd,en=.returned (str (kt b))/\But (· = rd) w w'/\kD w' rd Q/\kJ (zQ s).1.args b/\lvB b/\zL b<=5220
set_option maxRecDepth 100000 in
theorem yY (rd P:Nat) (s:Bs) (nH:s.length<=100) (hh:kd 3 (zQ s).1.args) (w:World) (h:kD w rd P) (hP:P+6500<=1099511627776) :
 Calls Tryz.prog 55 #[.pointer (some ⟨rd,0,none⟩),str s] w (StratD rd (P+6449) s w):=by
 have cZ:=h.lt
 have H:=bc h;have HH:=bc hh
 clear h hh
 go_enter Tryz.func55,Tryz.ntmps55
 go_wp2_with fail
 refine (xO s (show _<=_ by omega) w).mono ?_
 rintro en w1 ⟨tv,rfl,b9,dY⟩
 obtain ⟨ta,tc,etv⟩:=zl dY
 subst etv
 have cw:=H.out.below (b9.mono (br _))
 rw [qY] at dY
 generalize hT:(zQ s).1=t at *
 have z1:=b9.size
 have hcT:(w1.alloc (.cells #[.slice ta t.args.length tc] 61)).cell? ⟨w1.heap.size,0,none⟩=some (.slice ta t.args.length tc):=by simp
 have cX:w1.heap.size≠rd:=by omega
 have hF:∀ k,w.heap.size<=k->k≠rd:=fun k hk=>by omega
 have oz:Rep (w.heap.size<=·) (w1.alloc (.cells #[.slice ta t.args.length tc] 61)) (.sl 61 1 t.args.length (qz t.args)) (.slice ta t.args.length tc):=(Rep.keep fun b o h ho=>⟨h,zX ho⟩).1 _ _ dY
 have AS:=cw.alloc (.cells #[.slice ta t.args.length tc] 61)
 have C1:=bc (j0 rd P 3 _ AS.drew (by omega) (by omega) (by omega))
 have C2:=bc (fun w5 (h5:But (· = rd) (w1.alloc (.cells #[.slice ta t.args.length tc] 61)) w5) (p5:Nat) (aK:p5<3) (fi:kD w5 rd (P+1)) =>
  l91Body_any rd 3 (by omega) (1+(p5:Int)) t.args (w.heap.size<=·) (.slice ta t.args.length tc) w5 (P+1) (sum_le p5 aK) (sum_lo p5) (by rw [cst3];omega) fi HH.out hF (Rep.but h5 (fun b hb=>⟨hF b hb,hb⟩) oz))
 have dh:=bc b9
 have HTT:=bc hT
 clear hT dY oz AS cw b9 hF
 go_wp2_with fail
 go_region_held3 (fun w'=>w'.cell? ⟨w1.heap.size,0,none⟩=some (.slice ta t.args.length tc))
  (first
   | exact hcT
   | exact hcL
   | exact hcB
   | exact hcP
   | go_keep)
  (first
   | (go_at_call 57;refine (l3Text_any 5220 b rW (by omega) iL _ w6 _ _ _ _ mD).mono ?_;rintro en7 w7 ⟨rfl,cJ⟩;have hcL:=(cJ.cell (be w6 ⟨w1.heap.size,0,none⟩ hcB)).trans hcB)
   | (go_at_call 58;refine (C2.out _ dE _ aK fi).mono ?_;rintro en6 w6 ⟨b,s6,v6,a2,n2,k2,a3,n3,k3,rfl,cW,tI,lz,iL,rW,mD⟩;have hcB:=j9 cW cX hcP)
   | (go_at_call 48;refine C1.out.mono ?_;rintro en5 w5 ⟨p5,rfl,aK,cF,fi⟩;have dE:=but_drew2 cF;have hcP:=j9 dE cX hcT;have zz:=wrap_one p5 aK))
 go_wp2_with fail
 go_ret
 have dM:But (· = rd) w (w1.alloc (.cells #[.slice ta t.args.length tc] 61)):=(But.ofBelow dh.out).alloc _
 refine ⟨b,rfl,((dM.trans dE).trans cW).trans (But.ofBelow cJ),(tI.below cJ).mono (by rw [cst3];omega),?_,iL,rW⟩
 rw [HTT.out];exact lz
theorem pz {s:Bs} (cH:(zQ s).2=true):kd 3 (zQ s).1.args:=by
 have:=un (qN cH)
 exact ⟨this.1,by have:=this.2;omega⟩
theorem pi (rd P:Nat) (s:Bs) (hs:s∈qd) (w:World) (h:kD w rd P) (hP:P+6500<=1099511627776) :
 Calls Tryz.prog 55 #[.pointer (some ⟨rd,0,none⟩),str s] w (StratD rd (P+6449) s w) :=
 yY rd P s (type_ok hs).2 (pz (type_ok hs).1) w h hP
def Given (rd Q:Nat) (w:World) (en:Ending) (w':World):Prop :=
 ∃ s text:Bs,en=.returned (.tuple #[str s,str text])/\s.length<=100/\text.length<=100000/\But (· = rd) w w'/\kD w' rd Q
theorem odd_len {s:Bs} (h:s∈qd++yI):s.length<=100:=by
 simp only [qd,yI,List.mem_append,List.mem_cons,List.not_mem_nil,or_false] at h
 rcases h with (rfl | rfl | rfl | rfl | rfl | rfl | rfl | rfl) | (rfl | rfl | rfl | rfl | rfl | rfl | rfl) <;> decide
theorem bad_len {s:Bs} (h:s∈yg):s.length<=100:=by
 simp only [yg,List.mem_cons,List.not_mem_nil,or_false] at h
 rcases h with rfl | rfl | rfl | rfl | rfl | rfl | rfl | rfl <;> decide
set_option maxRecDepth 100000 in
theorem l91Given_any (rd P:Nat) (w:World) (h:kD w rd P) (hP:P+7000<=1099511627776) :
 Calls Tryz.prog 37 #[.pointer (some ⟨rd,0,none⟩)] w (Given rd (P+6500) w):=by
 go_enter Tryz.func37,Tryz.ntmps37
 go_wp2_with fail
 refine (pL rd P w h (by omega)).mono ?_
 rintro en w1 ⟨s,hs,rfl,b9,cw⟩
 have HS:=bc hs;clear hs h
 go_wp2_with fail
 refine (j0 rd (P+1) 16 w1 cw (by omega) (by omega) (by omega)).mono ?_
 rintro en w2 ⟨v,rfl,hv,b8,dR⟩
 have fM:=b9.trans b8
 by_cases iV:v=0
 ·subst iV
  clear cw b9 b8
  go_wp2_with fail
  refine (l91Odd_any rd (P+2) w2 dR (by omega)).mono ?_
  rintro en w3 ⟨s3,fO,rfl,cP,nh⟩
  have HS3:=bc fO;clear fO dR
  have hlt3:=nh.lt
  go_wp2_with fail
  refine (wt rd (P+2+2) (.slice (some ⟨w3.heap.size,0,none⟩) 8 8) yg _ (nh.alloc (.cells (yg.map str).toArray 9)) (yW.newAt hlt3 yg 8 rfl _ (w3.heap.size) rfl) (by decide) (by decide) (by omega)).mono ?_
  rintro en w4 ⟨s4,mW,rfl,cA,sM⟩
  have HS4:=bc mW;clear mW
  go_wp2_with fail
  refine bodyPost_ret (v:=.tuple #[str s3,str s4]) (by simp [results,Tryz.results37,go_sem]) rfl ?_
  exact ⟨s3,s4,rfl,odd_len HS3.out,b7 (bad_len HS4.out) (by omega),(fM.trans cP).trans (((But.refl _ w3).alloc _).trans cA),sM.mono (by omega)⟩
 ·have mN:((v:Int) == 0)=false:=by rw [beq_eq_false_iff_ne];omega
  clear cw b9 b8
  go_wp2_with fail
  refine (pi rd (P+2) s HS.out w2 dR (by omega)).mono ?_
  rintro en w3 ⟨b,rfl,cP,nh,hf,dx,eX⟩
  have b_:=qV b dx
  clear hf
  go_wp2_with fail
  refine bodyPost_ret (v:=.tuple #[str s,str (kt b)]) (by simp [results,Tryz.results37,go_sem]) rfl ?_
  exact ⟨s,kt b,rfl,(type_ok HS.out).2,by omega,fM.trans cP,nh.mono (by omega)⟩
theorem but_new {rd:Nat} {w w1 w2:World} (h1:Below w.heap.size w w1) (dZ:w.heap.size<=rd) (h2:But (· = rd) w1 w2):Below w.heap.size w w2 :=
 h1.trans (h2.toBelow h1.size fun i hi e=>by omega)
theorem strat_len {rd Q:Nat} {s:Bs} {w w':World} {en:Ending} (h:StratD rd Q s w en w'):∃ m:Bs,en=.returned (str m)/\m.length<=100000/\But (· = rd) w w'/\kD w' rd Q:=by
 obtain ⟨b,rfl,h1,h2,h3,h4,h5⟩:=h
 have:=qV b h4
 exact ⟨_,rfl,by omega,h1,h2⟩
theorem jw.cells {w:World} {v:Value} {us:List (Value×Value)} {xs:wT} (h:jw w v us xs) {i:Nat} {u:Value×Value} (hu:us[i]? = some u):∃ g c,v=.slice (some ⟨g,0,none⟩) us.length c/\w.cell? ⟨g,i*2,none⟩=some u.1/\w.cell? ⟨g,i*2+1,none⟩=some u.2:=by
 obtain ⟨h1,h2⟩:=plC_at us i u hu
 obtain ⟨g,c,e,k1⟩:=h.own.at h1
 obtain ⟨g',c',e',k2⟩:=h.own.at h2
 rw [e] at e'
 simp only [Value.slice.injEq,Option.some.injEq,Addr.mk.injEq,true_and] at e'
 obtain ⟨⟨rfl,_⟩,_⟩:=e'
 exact ⟨g,c,e,k1,k2⟩
theorem jw.slice {w:World} {v:Value} {us:List (Value×Value)} {xs:wT} (h:jw w v us xs):∃ a c,v=.slice a us.length c:=h.own.slice

def PlsPost (o:Option (List Pl)) (w:World) (en:Ending) (w':World):Prop :=
 ∃ v us,en=.returned (.tuple #[v,.bool o.isSome])/\Below w.heap.size w w'/\ym w' (o.getD []) v us/\∀ g,PlB v us g->w.heap.size<=g
theorem PlaysQ.views {o:Option (List Pl)} {w w':World} {en:Ending} (h:PlaysQ o w en w'):PlsPost o w en w':=by
 obtain ⟨a,n,c,us,h1,h2,h3⟩:=h
 exact ⟨_,us,h1,h2,h3.pls,h3.new⟩
theorem sameTexts_any (a a':Option Addr) (c c':Nat) (xs:List Bs) (w:World) (h:qD w a xs) (h':qD w a' xs) (hx:xs.length<=16777216) :
 Calls Tryz.prog 41 #[.slice a xs.length c,.slice a' xs.length c'] w fun en w'=>en=.returned (.bool true)/\Below w.heap.size w w':=by
 have H:=bc h;have H':=bc h';clear h h'
 go_enter Tryz.func41,Tryz.ntmps41
 go_wp2_with fail
 go_loopw [5] (fun i wr=>∃ k:Nat,k<=xs.length/\i=.int .i64 k/\Below w.heap.size w wr) (fun i _=>xs.length-(intOf i).toNat)
 case atStart=>exact ⟨0,Nat.zero_le _,rfl,bi _ _⟩
 case round =>
  obtain ⟨k,hk,rfl,hb⟩:=hrel
  by_cases cZ:k<xs.length
  ·obtain ⟨s,hks⟩:∃ s,xs[k]? = some s:=⟨xs[k],by simp [cZ]⟩
   obtain ⟨b,o,e,hc⟩:=H.out.below hb k s hks
   obtain ⟨b2,o2,e2,fQ⟩:=H'.out.below hb k s hks
   subst e;subst e2
   clear hks
   have dd:(k:Int)<(xs.length:Int):=by omega
   have cX:(s == s)=true:=by simp
   have HB:=bc hb;clear hb
   go_wp2_with fail
   go_quiet (fail)
   go_wp2_with fail
   go_roundw
   case rel=>exact ⟨k+1,by omega,by go_num,zi HB.out _⟩
   case measure=>simp [intOf];omega
  ·obtain rfl:k=xs.length:=by omega
   go_wp2_with fail
   go_ret
   exact ⟨rfl,hb⟩
theorem sameInts_any (a a':Option Addr) (n c c':Nat) (xs:List Int) (w:World) (h:Own w 3 1 (.slice a n c) n (xs.map (Value.int .i64))) (h':Own w 3 1 (.slice a' n c') n (xs.map (Value.int .i64))) (hn:n<=16777216) :
 Calls Tryz.prog 42 #[.slice a n c,.slice a' n c'] w fun en w'=>en=.returned (.bool true)/\Below w.heap.size w w':=by
 have H:=bc h;have H':=bc h';clear h h'
 go_enter Tryz.func42,Tryz.ntmps42
 go_wp2_with fail
 go_loopw [5] (fun i wr=>∃ k:Nat,k<=n/\i=.int .i64 k/\Below w.heap.size w wr) (fun i _=>n-(intOf i).toNat)
 case atStart=>exact ⟨0,Nat.zero_le _,rfl,bi _ _⟩
 case round =>
  obtain ⟨k,hk,rfl,hb⟩:=hrel
  by_cases cZ:k<n
  ·have ho:Own wr 3 1 (.slice a n c) n (xs.map (Value.int .i64)):=H.out.keep fun g o hg hh=>by rw [hb.block g (zZ hh)];exact hh
   have e9:Own wr 3 1 (.slice a' n c') n (xs.map (Value.int .i64)):=H'.out.keep fun g o hg hh=>by rw [hb.block g (zZ hh)];exact hh
   obtain ⟨g,e,hg,_,⟨u,AE,hu⟩,_⟩:=ho.open1 cZ
   obtain ⟨g',e',ch,_,⟨u',lK,fm⟩,_⟩:=e9.open1 cZ
   subst e;subst e'
   rw [AE] at lK
   obtain rfl:=Option.some.inj lK
   rw [List.getElem?_map,Option.map_eq_some_iff] at AE
   obtain ⟨x,_,rfl⟩:=AE
   have dd:(k:Int)<(n:Int):=by omega
   have cX:(x == x)=true:=by simp
   have hne':(x != x)=false:=by simp
   have HB:=bc hb;clear hb ho e9 lK
   go_wp2_with fail
   go_quiet (fail)
   go_wp2_with fail
   go_roundw
   case rel=>exact ⟨k+1,by omega,by go_num,zi HB.out _⟩
   case measure=>simp [intOf];omega
  ·obtain rfl:k=n:=by omega
   go_wp2_with fail
   go_ret
   exact ⟨rfl,hb⟩
theorem uj (log:List (Bs×Int)) (mv pt mv' pt':Value) (w:World) (h:za w log mv pt) (h':za w log mv' pt') (hl:log.length<=100000) :
 Calls Tryz.prog 16 #[.agg #[mv,pt],.agg #[mv',pt']] w fun en w'=>en=.returned (.bool true)/\Below w.heap.size w w':=by
 obtain ⟨a1,c1,rfl⟩:=h.1.slice
 obtain ⟨a2,c2,rfl⟩:=h.2.slice
 obtain ⟨a1',c1',rfl⟩:=h'.1.slice
 obtain ⟨Db,CZ,rfl⟩:=h'.2.slice
 have H:=bc (bm h h');clear h h'
 have C1:Hid (∀ w0,Below w.heap.size w w0->Calls Tryz.prog 41 #[.slice a1 log.length c1,.slice a1' log.length c1'] w0 fun en w'=>en=.returned (.bool true)/\Below w0.heap.size w0 w'):=by
  show ∀ w0,_->_
  intro w0 hb
  have k1:=(H.out.1.below hb).1
  have k2:=(H.out.2.below hb).1
  have e:jk log=(log.map (·.1)).map str:=by simp [jk]
  rw [e] at k1 k2
  have:=sameTexts_any a1 a1' c1 c1' (log.map (·.1)) w0 k1.strs k2.strs (by simp;omega)
  rwa [List.length_map] at this
 have C2:Hid (∀ w0,Below w.heap.size w w0->Calls Tryz.prog 42 #[.slice a2 log.length c2,.slice Db log.length CZ] w0 fun en w'=>en=.returned (.bool true)/\Below w0.heap.size w0 w'):=by
  show ∀ w0,_->_
  intro w0 hb
  have k1:=(H.out.1.below hb).2
  have k2:=(H.out.2.below hb).2
  have e:jU log=(log.map (·.2)).map (Value.int .i64):=by simp [jU]
  rw [e] at k1 k2
  exact sameInts_any a2 Db log.length c2 CZ (log.map (·.2)) w0 k1 k2 (by omega)
 clear H
 go_enter Tryz.func16,Tryz.ntmps16
 go_wp2_with fail
 have fw:Below w.heap.size w ((w.alloc (.cells #[.slice a1 log.length c1,.slice a2 log.length c2] 33)).alloc (.cells #[.slice a1' log.length c1',.slice Db log.length CZ] 33)):=((bi _ _).alloc (br _) _).alloc (by rw [zK];omega) _
 (with_reducible refine (C1.out _ fw).mono ?_)
 rintro en w1 ⟨rfl,b9⟩
 have hbb:=zzT fw b9
 have d1:w1.cell? ⟨w.heap.size,1,none⟩=some (.slice a2 log.length c2):=by rw [b9.cell (by simp;omega)];simp
 have d2:w1.cell? ⟨w.heap.size+1,1,none⟩=some (.slice Db log.length CZ):=by rw [b9.cell (by simp)];simp
 have HB:=bc hbb;clear hbb b9 fw
 go_wp2_with fail
 (with_reducible refine (C2.out _ HB.out).mono ?_)
 rintro en w2 ⟨rfl,b8⟩
 have c_:=bc (zzT HB.out b8);clear b8
 go_wp2_with fail
 go_ret
 exact ⟨rfl,c_.out⟩

theorem yG (u:Pl):(u.map (·.1)).zip (u.map (·.2))=u:=by
 induction u with
 | nil=>rfl
 | cons x u ih=>rw [List.map_cons,List.map_cons,List.zip_cons_cons,ih]
theorem specStrat_ok {s text:Bs} {b:Bd} (h:zT s text=some b):(zQ s).2=true:=by
 unfold zT at h
 by_cases hq:(zQ s).2=false\/2000<text.length
 ·rw [if_pos hq] at h;simp at h
 ·cases hz:(zQ s).2 with
  | true=>rfl
  | false=>exact absurd (Or.inl hz) hq
theorem follow_in {s text:Bs} {b:Bd} {u:Pl} (h:zT s text=some b) (hu:InPl (zQ s).1 b u):jY s text (u.map (·.1)) (u.map (·.2))=true:=by
 unfold jY
 rw [h]
 simp only
 unfold jq jM
 rw [yG,specStrat_ok h,hu.lg,decide_eq_true hu.fo]
 unfold jb
 have hv:=hu.ok
 unfold zR at hv
 rw [Bool.and_eq_true] at hv
 rw [yG,hv.2]
 simp only [List.length_map,decide_eq_true (qc hu.ok)]
 simp
theorem vK.ms {F:Nat->Prop} {w:World} {u:Pl} {x:Value} (h:vK F w u x):ve F w (u.map (·.1)) x:=by
 unfold ve
 unfold vK at h
 rw [List.length_map,List.map_map]
 exact h
theorem j_.ps {F:Nat->Prop} {w:World} {u:Pl} {x:Value} (h:j_ F w u x):vt F w (u.map (·.2)) x:=by
 unfold vt
 unfold j_ at h
 rw [List.length_map,List.map_map]
 exact h



theorem in_of_follow {s text:Bs} {u:Pl} (h:jY s text (u.map (·.1)) (u.map (·.2))=true):∃ b,zT s text=some b/\InPl (zQ s).1 b u/\jq s (u.map (·.1)) (u.map (·.2))=true:=by
 unfold jY at h
 cases hb:zT s text with
 | none=>rw [hb] at h;simp at h
 | some b =>
   rw [hb] at h
   simp only [Bool.and_eq_true,decide_eq_true_eq,yG] at h
   have h1:=(gx (g8 h.1)).2.1
   have h2:=h.1
   unfold jq at h2
   rw [Bool.and_eq_true,yG] at h2
   rw [yG] at h1
   exact ⟨b,rfl,⟨h1,h2.2,h.2⟩,h.1⟩

structure PtI (X:World) (g:Nat) (u:Pl) (k:Nat) (a5:Option Addr) (c5:Nat) (a6:Option Addr) (c6:Nat) (wr:World):Prop where
 below:Below X.heap.size X wr
 box:wr.heap[g]? = some (.cells #[.slice a5 k c5,.slice a6 k c6] 33 (0,0))
 o5:Own wr 9 1 (.slice a5 k c5) k (jk u)
 o6:Own wr 3 1 (.slice a6 k c6) k (jU u)
 gw:X.heap.size<g
 f5:∀ i,(Value.slice a5 k c5).ownBlock=some i->X.heap.size<i/\i≠g
 f6:∀ i,(Value.slice a6 k c6).ownBlock=some i->X.heap.size<i/\i≠g
 ap:∀ i,(Value.slice a5 k c5).ownBlock=some i->(Value.slice a6 k c6).ownBlock≠some i
 res:wr.heap[X.heap.size]? = some (.cells #[.slice none 0 0,.slice none 0 0] 33 (0,0))
theorem PtI.next {X:World} {g:Nat} {u:Pl} {k:Nat} {a7:Option Addr} {c7:Nat} {a6:Option Addr} {c6:Nat} {wr:World} {s:Bs} {z:Int} (db:Below X.heap.size X wr) (r_:X.heap.size<g)
 (mE:wr.heap[g]? = some (.cells #[.slice a7 (k+1) c7,.slice a6 k c6] 33 (0,0)))
 (o5:Own wr 9 1 (.slice a7 (k+1) c7) (k+1) (jk u++[str s])) (o6:Own wr 3 1 (.slice a6 k c6) k (jU u))
 (f5:∀ i,(Value.slice a7 (k+1) c7).ownBlock=some i->X.heap.size<i/\i≠g) (f6:∀ i,(Value.slice a6 k c6).ownBlock=some i->X.heap.size<i/\i≠g) (ap:∀ i,(Value.slice a7 (k+1) c7).ownBlock=some i->(Value.slice a6 k c6).ownBlock≠some i)
 (res:wr.heap[X.heap.size]? = some (.cells #[.slice none 0 0,.slice none 0 0] 33 (0,0)))
 {a8:Option Addr} {c8:Nat} {w8:World} {o:Obj} (ho:Own w8 3 1 (.slice a8 (k+1) c8) (k+1) (jU u++[.int .i64 z])) (hb:But (fun b=>(Value.slice a6 k c6).ownBlock=some b) (wr.alloc o) w8)
 (hg:∀ i,(Value.slice a8 (k+1) c8).ownBlock=some i->(Value.slice a6 k c6).ownBlock=some i\/i=wr.heap.size+1) :
 PtI X g (u++[(s,z)]) (k+1) a7 c7 a8 c8 (w8.setCell ⟨g,1,none⟩ (.slice a8 (k+1) c8)):=by
 have hz:=db.size
 have aE:=zZ mE
 have AO:=zZ res
 have sq:∀ i,(Value.slice a7 (k+1) c7).ownBlock=some i->i<wr.heap.size:=fun i hi=>o5.lt hi
 have BP:∀ i,(Value.slice a8 (k+1) c8).ownBlock=some i->X.heap.size<i/\i≠g:=fun i hi=>by
  rcases hg i hi with e | e
  ·exact f6 i e
  ·omega
 have s_:w8.heap[g]? = some (.cells #[.slice a7 (k+1) c7,.slice a6 k c6] 33 (0,0)) :=
  (hb.block g (by rw [zK];omega) (fun e=>(f6 g e).2 rfl)).trans (zX mE)
 refine ⟨?_,?_,?_,?_,r_,f5,BP,fun i hi e8=>?_,?_⟩
 ·exact ((db.alloc hz o).trans (hb.toBelow (by rw [zK];omega) fun i hi e=>by have:=(f6 i e).1;omega)).setCell (p:=⟨g,1,none⟩) (Nat.le_of_lt r_) _
 ·rw [kM s_];rfl
 ·rw [wb]
  exact o5.keep fun i x hi hx=>by
   rw [b5 _ _ _ _ (by show i≠g;exact (f5 i hi).2),hb.block i (by rw [zK];have:=sq i hi;omega) (fun e=>ap i hi e)];exact zX hx
 ·have e:jU (u++[(s,z)])=jU u++[.int .i64 z]:=by simp [jU]
  rw [e]
  exact ho.keep fun i x hi hx=>by rw [b5 _ _ _ _ (by show i≠g;exact (BP i hi).2)];exact hx
 ·rcases hg i e8 with e | e
  ·exact ap i hi e
  ·have:=sq i hi;omega
 ·rw [b5 _ _ _ _ (by show X.heap.size≠g;omega),hb.block _ (by rw [zK];omega) (fun e=>by have:=(f6 _ e).1;omega)];exact zX res
def wI (W:World) (g:Nat) (l:Pl) (mv pt:Value):Prop:=∀ y,Below W.heap.size W y->(y.cell? ⟨g,0,none⟩=some mv/\y.cell? ⟨g,1,none⟩=some pt)/\za y l mv pt
theorem wI.mk' {w W:World} {l:Pl} {mv pt:Value} {T:TypeId} (hb:Below w.heap.size w W) (hx:W.heap[w.heap.size]? = some (.cells #[mv,pt] T (0,0))) (hp:za w l mv pt):wI W w.heap.size l mv pt:=fun y hy=>by
 obtain ⟨k0,k1,_,_⟩:=qX ((hy.block _ (zZ hx)).trans hx)
 exact ⟨⟨k0,k1⟩,(hp.below hb).below hy⟩
theorem wI.next {W W':World} {g:Nat} {l:Pl} {mv pt:Value} (h:wI W g l mv pt) (hb:Below W.heap.size W W'):wI W' g l mv pt:=fun y hy=>h y (zzT hb hy)
theorem za.cellM {w:World} {l:Pl} {mv pt:Value} (h:za w l mv pt) {i:Nat} {x:Bs×Int} (hi:l[i]? = some x):∃ g c,mv=.slice (some ⟨g,0,none⟩) l.length c/\w.cell? ⟨g,i,none⟩=some (str x.1) :=
 h.1.at (by simp [jk,hi])
def pls (env:List Clo):List zj:=env.map fun e=>(e.begun,e.path)
mutual
def wL (t:Ty) (B:Bd) (v:Pl):Clo->Bool->Ty->Prop
 | .mk b env g p,o,a=>((∃ q j z,j<10/\p=q++[qi j]/\v[g]? = some (113::q,z)/\qZ (113::q) = !o)/\atT t p=some a/\wfB b/\(o=true->∃ l ss y n bg,kg t B v g=some (.ask l ss y n,pls env,bg)/\ss[lastD p]? = some b))/\∃ h,zo t B v env (!o) g h/\kJ (h++a.args) b
def zo (t:Ty) (B:Bd) (v:Pl):List Clo->Bool->Nat->List Ty->Prop
 | [],_,_,h=>h=[]
 | e::es,o,m,h=>∃ a h',h=a::h'/\wL t B v e o a/\e.begun<m/\e.begun∈kG v o m/\zo t B v es o m h'
end
theorem zo.mono {t:Ty} {B:Bd} {v:Pl} {o:Bool} {m m':Nat} (hm:m<=m') (nG:∀ i,i∈kG v o m->i∈kG v o m'):∀ (env:List Clo) (h:List Ty),zo t B v env o m h->zo t B v env o m' h
 | [],h,k=>by rw [zo] at k ⊢;exact k
 | e::es,h,k=>by
   rw [zo] at k ⊢
   obtain ⟨a,h',e1,k1,k2,k3,k4⟩:=k
   exact ⟨a,h',e1,k1,by omega,nG _ k3,zo.mono hm nG es h' k4⟩
theorem zo.get {t:Ty} {B:Bd} {v:Pl} {o:Bool} {m:Nat}:∀ (env:List Clo) (h:List Ty),zo t B v env o m h->∀ (l:Nat) (e:Clo),env[l]? = some e->∃ a,h[l]? = some a/\wL t B v e o a/\e.begun<m/\e.begun∈kG v o m
 | [],h,_,l,e,he=>by simp at he
 | e'::es,h,k,0,e,he=>by
   rw [zo] at k
   obtain ⟨a,h',rfl,k1,k2,k3,_⟩:=k
   simp at he;subst he
   exact ⟨a,rfl,k1,k2,k3⟩
 | e'::es,h,k,l+1,e,he=>by
   rw [zo] at k
   obtain ⟨a,h',rfl,_,_,_,k4⟩:=k
   obtain ⟨b,h1,h2⟩:=zo.get es h' k4 l e (by simpa using he)
   exact ⟨b,by simpa using h1,h2⟩
theorem zo.len {t:Ty} {B:Bd} {v:Pl} {o:Bool} {m:Nat}:∀ (env:List Clo) (h:List Ty),zo t B v env o m h->env.length=h.length
 | [],h,k=>by rw [zo] at k;subst k;rfl
 | e::es,h,k=>by
   rw [zo] at k
   obtain ⟨a,h',rfl,_,_,_,k4⟩:=k
   rw [List.length_cons,List.length_cons,zo.len es h' k4]
theorem zo.append {t:Ty} {B:Bd} {v:Pl} {o:Bool} {m:Nat}:∀ (xs ys:List Clo) (h k:List Ty),zo t B v xs o m h->zo t B v ys o m k->zo t B v (xs++ys) o m (h++k)
 | [],ys,h,k,h1,h2=>by rw [zo] at h1;subst h1;exact h2
 | e::es,ys,h,k,h1,h2=>by
   rw [zo] at h1
   obtain ⟨a,h',rfl,k1,k2,k3,k4⟩:=h1
   rw [List.cons_append,zo]
   exact ⟨a,h'++k,rfl,k1,k2,k3,zo.append es ys h' k k4 h2⟩
theorem jN {t:Ty} {B:Bd} {v:Pl} {x:Bs×Int} (dB:zR t (v++[x])=true) {m:Nat} (hm:m<=v.length):kg t B (v++[x]) m=kg t B v m:=by
 have h1:=xl dB B (n:=v.length) (m:=m) hm (by rw [List.length_append];omega)
 rw [List.take_left' rfl] at h1
 exact h1.symm
mutual
theorem wL.lift {t:Ty} {B:Bd} {v:Pl} {x:Bs×Int} (hv:zR t v=true) (dB:zR t (v++[x])=true):∀ (e:Clo) (o:Bool) (a:Ty),wL t B v e o a->wL t B (v++[x]) e o a
 | .mk b env g p,o,a,h=>by
   rw [wL] at h ⊢
   obtain ⟨⟨⟨q,j,z,h1,h2,h3,h4⟩,h5,h6,h7⟩,hd,h8,h9⟩:=h
   have hg:=(List.getElem?_eq_some_iff.1 h3).1
   refine ⟨⟨⟨q,j,z,h1,h2,by rw [jB hg];exact h3,h4⟩,h5,h6,fun e=>?_⟩,hd,zo.lift hv dB env (!o) g hd (Nat.le_of_lt hg) h8,h9⟩
   obtain ⟨l,ss,y,n,bg,k1,k2⟩:=h7 e
   exact ⟨l,ss,y,n,bg,by rw [jN dB (Nat.le_of_lt hg)];exact k1,k2⟩
theorem zo.lift {t:Ty} {B:Bd} {v:Pl} {x:Bs×Int} (hv:zR t v=true) (dB:zR t (v++[x])=true):∀ (env:List Clo) (o:Bool) (m:Nat) (h:List Ty),m<=v.length->zo t B v env o m h->zo t B (v++[x]) env o m h
 | [],o,m,h,_,k=>by rw [zo] at k ⊢;exact k
 | e::es,o,m,h,hm,k=>by
   rw [zo] at k ⊢
   obtain ⟨a,h',e1,k1,k2,k3,k4⟩:=k
   exact ⟨a,h',e1,wL.lift hv dB e o a k1,k2,by rw [jp hv x o hm];exact k3,zo.lift hv dB es o m h' hm k4⟩
end
theorem view_gen {t:Ty} {v:Pl} (hv:zR t v=true) {k z:Nat} {m:Bs} (o:Bool) (aC:k<v.length) (hk:v[k]? = some (m,(z:Int))) (hzk:z<k) (hb:qZ m = !o) {y:Bs×Int} (hz:v[z]? = some y) (hy:qZ y.1=o):kG v o (k+1)=kG v o z++[z,k]:=by
 have b9:qq v o k=z+1:=by
  unfold qq
  rw [hk]
  simp only [hb]
  rw [if_neg (by cases o <;> simp)];omega
 have b8:qq v o z=z:=by
  unfold qq
  rw [hz]
  simp only [hy,if_true]
 unfold kG
 rw [kT,b9,gC hv o (z+1) k (by omega) (by omega),kT,b8]
 simp
theorem view_self (v:Pl) (o:Bool) (n:Nat):n∈kG v o (n+1):=by
 unfold kG
 rw [kT,List.mem_reverse]
 exact List.mem_cons_self
def qj (t:Ty) (B:Bd) (v:Pl):Nat->List Fr->Prop
 | a,[]=>a=0
 | a,fr::st=>(0<a/\a<v.length)/\(∃ hand,zo t B v fr.env (decide (a % 2=0)) a hand/\kJ hand fr.yes/\kJ hand fr.no)/\(wfB fr.yes/\wfB fr.no) /\
  ((∃ z,v[fr.begun]? = some (113::fr.path,z))/\fr.begun∈kG v (decide (a % 2=0)) a/\fr.begun<a/\qZ (113::fr.path) = !(decide (a % 2=0))/\(∃ a',atT t fr.path=some a')/\qG v a []=(fr.begun:Int)) /\
  (decide (a % 2=0)=false->∃ l ss,kg t B v a=some (.ask l ss fr.yes fr.no,pls fr.env,(fr.begun,fr.path)))/\qj t B v fr.begun st
theorem qj.lift {t:Ty} {B:Bd} {v:Pl} {x:Bs×Int} (hv:zR t v=true) (dB:zR t (v++[x])=true):∀ (st:List Fr) (a:Nat),qj t B v a st->qj t B (v++[x]) a st
 | [],a,h=>by rw [qj] at h ⊢;exact h
 | fr::st,a,h=>by
   rw [qj] at h ⊢
   obtain ⟨⟨h0,h1⟩,⟨hand,h2,h3,h4⟩,h5,⟨⟨z,h6⟩,h7,h8,h9,fL,h11⟩,h12,h13⟩:=h
   have hg:=(List.getElem?_eq_some_iff.1 h6).1
   refine ⟨⟨h0,by rw [List.length_append];omega⟩,⟨hand,zo.lift hv dB _ _ _ _ (Nat.le_of_lt h1) h2,h3,h4⟩,h5,⟨⟨z,by rw [jB hg];exact h6⟩,by rw [jp hv x _ (Nat.le_of_lt h1)];exact h7,h8,h9,fL,by rw [jR v x a _ (Nat.le_of_lt h1)];exact h11⟩,fun e=>?_,qj.lift hv dB st _ h13⟩
   rw [jN dB (Nat.le_of_lt h1)];exact h12 e
structure wS (t:Ty) (B:Bd) (v:Pl) (b:Bd) (env:List Clo) (bg:zj) (st:List Fr) (o:Bool):Prop where
 ins:InPl t B v
 pos:0<v.length
 par:o=decide (v.length % 2=0)
 typ:∃ hand,zo t B v env o v.length hand/\kJ hand b
 wf:wfB b
 bgq:∃ z,v[bg.1]? = some (113::bg.2,z)
 bgv:bg.1∈kG v o v.length
 bgl:bg.1<v.length
 bgo:qZ (113::bg.2) = !o
 bgt:∃ a,atT t bg.2=some a
 pend:qG v v.length []=(bg.1:Int)
 pl:o=false->kg t B v v.length=some (b,pls env,bg)
 stk:qj t B v bg.1 st
theorem move_in {t:Ty} {B:Bd} {v:Pl} (h:InPl t B v) (h0:0<v.length) (fd:v.length<60) {c:UInt8} {p:Bs} {g:Nat} (hc:c=113\/c=116\/c=102) (hp:∃ a,atT t p=some a) (dm:qZ (c::p)=decide (v.length % 2=0)) (hg:g<v.length) (cX:¬ (c::p)=[113]) (tj:∃ z,v[g]? = some (uY (c::p),z))
 (nG:g∈kG v (decide (v.length % 2=0)) v.length) (B9:c=113\/qG v v.length []=(g:Int)) (mj:decide (v.length % 2=0)=false->jC t B v v.length=some (c::p,(g:Int))):InPl t B (v++[(c::p,(g:Int))]):=by
 have cU:=gT v (c::p,(g:Int))
 obtain ⟨a,hat⟩:=hp
 obtain ⟨z,hz⟩:=tj
 have cH:vV t (v++[(c::p,(g:Int))]) v.length=true:=by
  unfold vV
  rw [cU]
  simp only
  rw [if_neg (by omega),dm,show xJ t (c::p)=true from by
   simp only [xJ,hat];rcases hc with h | h | h <;> rw [h] <;> rfl,Int.toNat_natCast,jB hg,hz]
  have e2:((c::p) == [113])=false:=by
   cases hh:((c::p) == [113]) with
   | false=>rfl
   | true=>exact absurd (by simpa using hh) cX
  have e3:decide ((0:Int)<=(g:Int))=true:=decide_eq_true (by omega)
  have e4:decide ((g:Int)<(v.length:Int))=true:=decide_eq_true (by omega)
  rw [e2,e3,e4]
  simp
 have mX:zR t (v++[(c::p,(g:Int))])=true:=by
  rw [valid_snoc h.ok,cH,decide_eq_true fd];rfl
 refine ⟨mX,?_,?_⟩
 ·rw [legal_snoc h.ok h.lg,visAt_at cU (by omega),brAt_at cU,jp h.ok _ _ (br _),jR v _ _ _ (br _),dm,Bool.and_eq_true]
  refine ⟨?_,?_⟩
  ·rw [List.contains_iff_mem,List.mem_map]
   exact ⟨g,nG,rfl⟩
  ·rcases B9 with h | h
   ·rw [h];rfl
   ·rw [h];simp
 ·rw [List.length_append,List.length_singleton]
  intro j hj hjo
  rcases Nat.lt_or_ge j v.length with h' | h'
  ·exact follows_snoc mX v.length (br _) h.fo j h' hjo
  ·obtain rfl:j=v.length:=by omega
   rw [cU]
   unfold jC
   rw [jN mX (br _)]
   exact mj (decide_eq_false (by omega))
theorem par_next (n:Nat):decide ((n+1) % 2=0) = !decide (n % 2=0):=by
 rcases Nat.mod_two_eq_zero_or_one n with h | h
 ·rw [decide_eq_true h,decide_eq_false (show ¬ (n+1) % 2=0 by omega)];rfl
 ·rw [decide_eq_false (show ¬ n % 2=0 by omega),decide_eq_true (show (n+1) % 2=0 by omega)];rfl
theorem wS.answer {t:Ty} {B:Bd} {v:Pl} {c:UInt8} {env:List Clo} {bg:zj} {st:List Fr} {o:Bool} (h:wS t B v (.leaf c) env bg st o) (hc:c≠117) (fd:v.length<60) :
 InPl t B (v++[(c::bg.2,(bg.1:Int))])/\∀ fr st',st=fr::st'->wS t B (v++[(c::bg.2,(bg.1:Int))]) (if c=116 then fr.yes else fr.no) fr.env (fr.begun,fr.path) st' (!o):=by
 have mU:=h.wf
 rw [wfB] at mU
 have fQ:c=116\/c=102:=by
  rcases mU with k | k | k
  ·exact .inl k
  ·exact .inr k
  ·exact absurd k hc
 have n6:¬ c=113:=by rcases fQ with k | k <;> rw [k] <;> decide
 have cX:¬ (c::bg.2)=[113]:=fun e=>n6 (by simp only [List.cons.injEq] at e;exact e.1)
 have A_:isQ (c::bg.2)=false:=by rw [qH];simp [n6]
 have tj:uY (c::bg.2)=113::bg.2:=by unfold uY;rw [if_neg cX,A_,if_neg (by simp)];rfl
 have dm:qZ (c::bg.2)=o:=by
  have h1:=xq cX
  rw [tj,h.bgo] at h1
  cases o <;> cases hh:qZ (c::bg.2) <;> rw [hh] at h1 <;> simp at h1 ⊢
 obtain ⟨z,hz⟩:=h.bgq
 have fj:=h.par
 have hI:=move_in h.ins h.pos fd (.inr fQ) h.bgt (by rw [dm];exact fj) h.bgl cX ⟨z,by rw [tj];exact hz⟩ (by rw [<- fj];exact h.bgv) (.inr h.pend) (fun e=>by
  rw [<- fj] at e
  unfold jC
  rw [h.pl e,Option.bind_some]
  simp only [xp]
  rw [if_neg hc])
 refine ⟨hI,fun fr st' e=>?_⟩
 subst e
 have cU:=gT v (c::bg.2,(bg.1:Int))
 have b_:(v++[(c::bg.2,(bg.1:Int))]).length=v.length+1:=by rw [List.length_append];rfl
 have hs:=h.stk
 rw [qj] at hs
 have hpa:decide (bg.1 % 2=0) = !o:=by
  obtain ⟨c',p',z',dB,e9⟩:=kq h.ins.ok h.bgl
  rw [hz] at dB
  simp only [Option.some.injEq,Prod.mk.injEq] at dB
  have h1:=e9.opp
  rw [<- dB.1,h.bgo] at h1
  exact h1.symm
 rw [hpa] at hs
 obtain ⟨⟨h0,h1⟩,⟨hand,h2,h3,h4⟩,h5,⟨⟨zf,h6⟩,h7,h8,h9,fL,h11⟩,h12,h13⟩:=hs
 have m8:=jB (x:=(c::bg.2,(bg.1:Int))) h.bgl
 have nG:kG (v++[(c::bg.2,(bg.1:Int))]) (!o) (v.length+1)=kG (v++[(c::bg.2,(bg.1:Int))]) (!o) bg.1++[bg.1,v.length] :=
  view_gen hI.ok (!o) (by omega) cU h.bgl (by rw [dm];simp) (m8.trans hz) h.bgo
 have dA:∀ i,i∈kG (v++[(c::bg.2,(bg.1:Int))]) (!o) bg.1->i∈kG (v++[(c::bg.2,(bg.1:Int))]) (!o) (v.length+1):=fun i hi=>by rw [nG];exact List.mem_append_left _ hi
 have hgf:=(List.getElem?_eq_some_iff.1 h6).1
 refine ⟨hI,by omega,by rw [b_,par_next,fj],⟨hand,?_,?_⟩,?_,⟨zf,by rw [jB hgf];exact h6⟩,?_,by rw [b_];show fr.begun<_;omega,h9,fL,?_,fun e=>?_,qj.lift h.ins.ok hI.ok _ _ h13⟩
 ·rw [b_]
  exact zo.mono (by omega) dA _ _ (zo.lift h.ins.ok hI.ok _ _ _ _ (Nat.le_of_lt h1) h2)
 ·split
  ·exact h3
  ·exact h4
 ·split
  ·exact h5.1
  ·exact h5.2
 ·rw [b_]
  refine dA _ ?_
  rw [jp h.ins.ok _ _ (Nat.le_of_lt h1)];exact h7
 ·rw [b_]
  exact pend_back (by omega) (brP_to hI.lg) cU A_ (m8.trans hz) (by rw [qH];rfl) h.bgl (by rw [jR v _ _ _ (Nat.le_of_lt h1)];exact h11)
 ·obtain ⟨l,ss,cI⟩:=h12 e
  have ho:o=true:=by cases o <;> simp at e ⊢
  have mw:bg.1 % 2=1:=by
   rw [ho] at hpa
   have:=of_decide_eq_false hpa
   omega
  rw [b_,vH hI.ok B (by omega) h.pos (m:=c::bg.2) (z:=bg.1) ⟨cU,h.bgl,mw,⟨_,m8.trans hz,tj.symm⟩⟩,jN hI.ok (Nat.le_of_lt h1),cI,Option.bind_some]
  unfold xh
  simp only
  rw [if_neg n6]
  rcases fQ with k | k
  ·rw [k];rfl
  ·rw [k];rfl
theorem pls_own (env:List Clo) (m:Nat) (p:Bs):∀ (ss:List Bd) (i:Nat),pls (zq env m p i ss)=(List.range' i ss.length).map fun j=>(m,p++dec j)
 | [],i=>rfl
 | s::ss,i=>by
   rw [zq,List.length_cons,List.range'_succ,List.map_cons,<- pls_own env m p ss (i+1)]
   rfl
theorem gy (env:List Clo) (m:Nat) (p:Bs) (ss:List Bd):pls (zq env m p 0 ss)=zx ss.length m p:=by
 rw [pls_own,zx,List.range_eq_range']
theorem own_ok {t:Ty} {B:Bd} {v:Pl} {o:Bool} {env:List Clo} {g m':Nat} {p:Bs} {hand:List Ty} (he:zo t B v env (!o) g hand) (hq:∃ z,v[g]? = some (113::p,z)) (dm:qZ (113::p) = !o) (hg:g<m') (hgv:g∈kG v o m') {a:Ty} (hat:atT t p=some a) :
 ∀ (ss:List Bd) (ts:List Ty) (i:Nat),(∀ k,ts[k]? = a.args[i+k]?)->i+ss.length<=10->zg (zu hand ts) ss->vi ss->(o=true->∃ l ss' y n bg,kg t B v g=some (.ask l ss' y n,pls env,bg)/\∀ k b,ss[k]? = some b->ss'[i+k]? = some b)->zo t B v (zq env g p i ss) o m' ts
 | [],ts,i,_,_,hf,_,_=>by
   rw [zg] at hf
   have:ts=[]:=by cases ts with
    | nil=>rfl
    | cons t ts=>simp [zu] at hf
   subst this
   rw [zq,zo]
 | s::ss,ts,i,hts,hi,hf,hw,cI=>by
   rw [zg] at hf
   obtain ⟨h',eN,e,h1,h2⟩:=hf
   rw [vi] at hw
   rw [List.length_cons] at hi
   cases ts with
   | nil=>simp [zu] at e
   | cons ti ts =>
     simp only [zu,List.map_cons,List.cons.injEq] at e
     obtain ⟨rfl,rfl⟩:=e
     obtain ⟨z,hz⟩:=hq
     have hai:a.args[i]? = some ti:=by have:=hts 0;rw [Nat.add_zero] at this;rw [<- this];rfl
     rw [zq,zo]
     refine ⟨ti,ts,rfl,?_,hg,hgv,own_ok he ⟨z,hz⟩ dm hg hgv hat ss ts (i+1) (fun k=>?_) (by omega) h2 hw.2 (fun e=>?_)⟩
     ·rw [wL,jL (by omega)]
      refine ⟨⟨⟨p,i,z,by omega,rfl,hz,dm⟩,?_,hw.1,fun e=>?_⟩,hand,he,h1⟩
      ·rw [js,hat,Option.bind_some,atT_digit _ (by omega)];exact hai
      ·obtain ⟨l,ss',y,n,bg,k1,k2⟩:=cI e
       refine ⟨l,ss',y,n,bg,k1,?_⟩
       rw [pA p (by omega)]
       exact k2 0 s rfl
     ·have:=hts (k+1)
      rw [show i+1+k=i+(k+1) from by omega]
      exact this
     ·obtain ⟨l,ss',y,n,bg,k1,k2⟩:=cI e
      refine ⟨l,ss',y,n,bg,k1,fun k b hk=>?_⟩
      rw [show i+1+k=i+(k+1) from by omega]
      exact k2 (k+1) b (by simpa using hk)
theorem wS.ask {t:Ty} {B:Bd} {v:Pl} {l:Nat} {ss:List Bd} {y n:Bd} {env:List Clo} {bg:zj} {st:List Fr} {o:Bool} (cQ:zV t<=15) (h:wS t B v (.ask l ss y n) env bg st o) (fd:v.length<60) :
 ∃ e,env[l]? = some e/\wS t B (v++[(113::e.path,(e.begun:Int))]) e.body (e.env++zq env v.length e.path 0 ss) (v.length,e.path) (⟨y,n,env,bg.1,bg.2⟩::st) (!o):=by
 obtain ⟨hand,hE,hf⟩:=h.typ
 have lj:=hf
 rw [kJ] at hf
 obtain ⟨a,ha,lL,oo,hfn⟩:=hf
 obtain ⟨a2,ha2,_,b_⟩:=fit_parts lj
 obtain rfl:a=a2:=Option.some.inj (ha.symm.trans ha2)
 have rE:=zo.len _ _ hE
 have cZ:=(List.getElem?_eq_some_iff.1 ha).1
 obtain ⟨e,he⟩:∃ e,env[l]? = some e:=⟨env[l]'(by omega),List.getElem?_eq_getElem _⟩
 obtain ⟨a',ha',hC,mK,mZ⟩:=zo.get _ _ hE l e he
 obtain rfl:a=a':=Option.some.inj (ha.symm.trans ha')
 refine ⟨e,he,?_⟩
 obtain ⟨b,ee,g,p⟩:=e
 have hC0:=hC
 rw [wL] at hC
 obtain ⟨⟨⟨q,j,z,hj,hp,hz,li⟩,hat,hwb,cI⟩,h',hE',hfb⟩:=hC
 have mK:g<v.length:=mK
 have mZ:g∈kG v o v.length:=mZ
 show wS t B (v++[(113::p,(g:Int))]) b (ee++zq env v.length p 0 ss) (v.length,p) _ (!o)
 have cX:¬ (113::p)=[113]:=fun k=>by rw [hp] at k;simp at k
 have tj:uY (113::p)=113::q:=by
  unfold uY
  rw [if_neg cX,qH,show ((113:UInt8) == 113)=true from rfl,if_pos rfl,hp,<- List.cons_append,List.dropLast_concat]
 have dm:qZ (113::p)=o:=by
  have h1:=xq cX
  rw [tj,li] at h1
  cases o <;> cases hh:qZ (113::p) <;> rw [hh] at h1 <;> simp at h1 ⊢
 have fj:=h.par
 have mU:=h.wf
 rw [wfB] at mU
 have hI:=move_in h.ins h.pos fd (.inl rfl) ⟨a,hat⟩ (by rw [dm];exact fj) mK cX ⟨z,by rw [tj];exact hz⟩ (by rw [<- fj];exact mZ) (.inl rfl) (fun k=>by
  rw [<- fj] at k
  unfold jC
  rw [h.pl k,Option.bind_some]
  simp only [xp,pls,List.getElem?_map,he,Option.map_some]
  rfl)
 have cU:=gT v (113::p,(g:Int))
 have fS:(v++[(113::p,(g:Int))]).length=v.length+1:=by rw [List.length_append];rfl
 have m8:=jB (x:=(113::p,(g:Int))) mK
 have nG:kG (v++[(113::p,(g:Int))]) (!o) (v.length+1)=kG (v++[(113::p,(g:Int))]) (!o) g++[g,v.length] :=
  view_gen hI.ok (!o) (by omega) cU mK (by rw [dm];simp) (m8.trans hz) li
 have dA:∀ i,i∈kG (v++[(113::p,(g:Int))]) (!o) g->i∈kG (v++[(113::p,(g:Int))]) (!o) (v.length+1):=fun i hi=>by rw [nG];exact List.mem_append_left _ hi
 have fL:ss.length<=10:=by
  have h1:=jE _ _ _ hat
  have h2:=jW a
  have h3:ss.length=a.args.length:=b_
  omega
 have iG:=view_self (v++[(113::p,(g:Int))]) (!o) v.length
 have hEl:=zo.lift h.ins.ok hI.ok _ _ _ _ (br _) hE
 have cV:zo t B (v++[(113::p,(g:Int))]) (zq env v.length p 0 ss) (!o) (v.length+1) a.args:=by
  refine own_ok (hand:=hand) (by rw [Bool.not_not];exact hEl) ⟨_,cU⟩ (by rw [Bool.not_not];exact dm) (Nat.lt_succ_self _) iG hat ss a.args 0 (fun k=>by rw [Nat.zero_add]) (by omega) lL mU.1 (fun k=>?_)
  have ho:o=false:=by cases o <;> simp at k ⊢
  refine ⟨l,ss,y,n,bg,by rw [jN hI.ok (br _)];exact h.pl ho,fun k b hk=>by rw [Nat.zero_add];exact hk⟩
 have hE2:zo t B (v++[(113::p,(g:Int))]) ee (!o) (v.length+1) h' :=
  zo.mono (by omega) dA _ _ (zo.lift h.ins.ok hI.ok _ _ _ _ (Nat.le_of_lt mK) hE')
 refine ⟨hI,by omega,by rw [fS,par_next,fj],⟨h'++a.args,?_,hfb⟩,hwb,⟨_,cU⟩,?_,?_,by rw [Bool.not_not];exact dm,⟨a,hat⟩,?_,fun k=>?_,?_⟩
 ·rw [fS]
  exact zo.append _ _ _ _ hE2 cV
 ·rw [fS];exact iG
 ·rw [fS];exact Nat.lt_succ_self _
 ·rw [fS,xo cU,qH];rfl
 ·have ho:o=true:=by cases o <;> simp at k ⊢
  obtain ⟨l',ss',y',n',bg',k1,k2⟩:=cI ho
  have mw:g % 2=1:=by
   obtain ⟨c',p',z',dB,e9⟩:=kq h.ins.ok mK
   rw [hz] at dB
   simp only [Option.some.injEq,Prod.mk.injEq] at dB
   have h1:=e9.opp
   rw [<- dB.1,li,ho] at h1
   have:=of_decide_eq_false h1.symm
   omega
  rw [fS,vH hI.ok B (by omega) h.pos (m:=113::p) (z:=g) ⟨cU,mK,mw,⟨_,m8.trans hz,tj.symm⟩⟩,jN hI.ok (Nat.le_of_lt mK),k1,Option.bind_some]
  unfold xh
  simp only [if_true]
  rw [k2,Option.map_some]
  have e1:jx t p=ss.length:=by unfold jx;rw [hat];show a.args.length=ss.length;exact b_.symm
  have e2:pls (ee++zq env v.length p 0 ss)=pls ee++zx ss.length v.length p:=by
   rw [<- gy env];unfold pls;rw [List.map_append]
  rw [e1,e2]
 ·rw [qj]
  rw [<- fj]
  exact ⟨⟨h.pos,by omega⟩,⟨hand,hEl,oo,hfn⟩,mU.2,⟨by
   obtain ⟨zb,At⟩:=h.bgq
   exact ⟨zb,by rw [jB h.bgl];exact At⟩,by rw [jp h.ins.ok _ _ (br _)];exact h.bgv,h.bgl,h.bgo,h.bgt,by rw [jR v _ _ _ (br _)];exact h.pend⟩,fun k=>⟨l,ss,by rw [jN hI.ok (br _)];exact h.pl k⟩,qj.lift h.ins.ok hI.ok _ _ h.stk⟩
theorem run_in {t:Ty} {B:Bd} (cQ:zV t<=15):∀ (f m:Nat) (b:Bd) (env:List Clo) (bg:Nat) (path:Bs) (st:List Fr) (v:Pl) (o:Bool) (c:UInt8) (log:List (Bs×Nat)),vI f m b env bg path st=some (c,log)->wS t B v b env (bg,path) st o->v.length=m->m+f<=60 ->
 InPl t B (v++jK log)/\(c=117\/((c=116\/c=102)/\∃ w,log=w++[([c],0)])):=by
 intro f
 induction f with
 | zero =>
   intro m b env bg path st v o c log h hS hm hf
   cases b with
   | leaf d =>
     by_cases hd:d=117
     ·subst hd
      rw [xM] at h
      simp only [Option.some.injEq,Prod.mk.injEq] at h
      obtain ⟨rfl,rfl⟩:=h
      exact ⟨by simpa [jK] using hS.ins,.inl rfl⟩
     ·rw [xm hd] at h;simp at h
   | ask l ss y n=>rw [yi] at h;simp at h
 | succ f ih =>
   intro m b env bg path st v o c log h hS hm hf
   cases b with
   | leaf d =>
     by_cases hd:d=117
     ·subst hd
      rw [xM] at h
      simp only [Option.some.injEq,Prod.mk.injEq] at h
      obtain ⟨rfl,rfl⟩:=h
      exact ⟨by simpa [jK] using hS.ins,.inl rfl⟩
     ·obtain ⟨hI,hN⟩:=hS.answer hd (by omega)
      cases st with
      | nil =>
        rw [xr hd] at h
        simp only [Option.some.injEq,Prod.mk.injEq] at h
        obtain ⟨rfl,rfl⟩:=h
        have hk:=hS.stk
        rw [qj] at hk
        have hk:bg=0:=hk
        have hq:=hS.bgq
        subst hk
        obtain ⟨z,hz⟩:=hq
        obtain ⟨c',p',z',dB,e9⟩:=kq hS.ins.ok hS.pos
        have hz:v[0]? = some (113::path,z):=hz
        rw [hz] at dB
        simp only [Option.some.injEq,Prod.mk.injEq,List.cons.injEq] at dB
        have hp:path=[]:=by rw [dB.1.2];exact (e9.zero rfl).2.1
        subst hp
        refine ⟨by simpa [jK] using hI,.inr ⟨?_,[],rfl⟩⟩
        have mU:=hS.wf
        rw [wfB] at mU
        rcases mU with k | k | k
        ·exact .inl k
        ·exact .inr k
        ·exact absurd k hd
      | cons fr st' =>
        rw [uD hd,Option.map_eq_some_iff] at h
        obtain ⟨⟨c',log'⟩,h1,h2⟩:=h
        simp only [Prod.mk.injEq] at h2
        obtain ⟨rfl,rfl⟩:=h2
        obtain ⟨k1,k2⟩:=ih (m+1) _ _ _ _ _ _ (!o) c' log' h1 (hN fr st' rfl) (by rw [List.length_append,List.length_singleton,hm]) (by omega)
        refine ⟨by simpa [jK] using k1,k2.imp id fun ⟨k3,w,k4⟩=>⟨k3,_::w,by rw [k4];rfl⟩⟩
   | ask l ss y n =>
     obtain ⟨e,he,hN⟩:=hS.ask cQ (by omega)
     rw [yA _ _ _ _ _ _ _ _ _ _ he,Option.map_eq_some_iff] at h
     obtain ⟨⟨c',log'⟩,h1,h2⟩:=h
     simp only [Prod.mk.injEq] at h2
     obtain ⟨rfl,rfl⟩:=h2
     rw [hm] at hN
     obtain ⟨k1,k2⟩:=ih (m+1) _ _ _ _ _ _ (!o) c' log' h1 hN (by rw [List.length_append,List.length_singleton,hm]) (by omega)
     refine ⟨by simpa [jK] using k1,k2.imp id fun ⟨k3,w,k4⟩=>⟨k3,_::w,by rw [k4];rfl⟩⟩
theorem run_first {t:Ty} {B:Bd} {ar:List Bd} (cQ:zV t<=15) (hf:kJ t.args B) (hw:wfB B) (ha:zg (zu [] t.args) ar) (hwa:vi ar):wS t B [([113],-1)] B (zq [] 0 [] 0 ar) (0,[]) [] false:=by
 have cH:vV t [([113],-1)] 0=true:=by
  unfold vV
  show (xJ t [113] && (qZ [113] == decide (0 % 2=0)) && _)=true
  have:xJ t [113]=true:=by simp [xJ,jy]
  rw [this]
  rfl
 have mX:zR t [([113],-1)]=true:=by
  unfold zR
  show (decide (1<=60) && (qp t _ 0 && vV t _ 0))=true
  rw [cH];rfl
 have b_:ar.length=t.args.length:=by
  have:=qI _ _ ha
  rw [qL] at this;exact this.symm
 have fL:=jW t
 have nG:kG [([113],-1)] false 1=[0]:=pG mX (by simp)
 have hE:zo t B [([113],-1)] [] true 0 []:=by rw [zo]
 refine ⟨⟨mX,rfl,fun i hi ho=>?_⟩,Nat.lt_succ_self 0,rfl,⟨t.args,?_,hf⟩,hw,⟨-1,rfl⟩,by rw [show ([([113],-1)]:Pl).length=1 from rfl,nG];simp,Nat.lt_succ_self 0,rfl,⟨t,jy t⟩,?_,fun _=>?_,by rw [qj]⟩
 ·have hi:i<1:=hi
  omega
 ·exact own_ok (o:=false) (hand:=[]) hE ⟨-1,rfl⟩ rfl (Nat.lt_succ_self 0) (by show 0∈kG _ false 1;rw [nG];simp) (jy t) ar t.args 0 (fun k=>by rw [Nat.zero_add]) (by omega) ha hwa (fun e=>by simp at e)
 ·rfl
 ·show kg t B _ 1=_
  rw [v9,gy,b_];rfl
theorem runAll_in {t:Ty} {B:Bd} {ar:List Bd} {most:Nat} {c:UInt8} {log:List (Bs×Int)} (cQ:zV t<=15) (hf:kJ t.args B) (hw:wfB B) (ha:zg (zu [] t.args) ar) (hwa:vi ar) (hm:0<most) (fd:most<=60) (h:v8 most B ar=some (c,log)) :
 InPl t B log/\(c=117\/((c=116\/c=102)/\∃ w,log=w++[([c],0)]/\0<w.length)):=by
 unfold v8 at h
 rw [Option.map_eq_some_iff] at h
 obtain ⟨⟨c',l'⟩,h1,h2⟩:=h
 simp only [Prod.mk.injEq] at h2
 obtain ⟨rfl,rfl⟩:=h2
 obtain ⟨k1,k2⟩:=run_in cQ _ _ _ _ _ _ _ _ _ _ _ h1 (run_first cQ hf hw ha hwa) rfl (by omega)
 refine ⟨k1,k2.imp id fun ⟨k3,w,k4⟩=>⟨k3,[([113],-1)]++jK w,?_,by simp⟩⟩
 rw [k4];simp [jK]
def vF (B:Nat) (w:World) (a:Option Addr) (xs:List Bs):Prop:=∀ (k:Nat) (s:Bs),xs[k]? = some s->∃ b o,a=some ⟨b,o,none⟩/\B<=b/\w.cell? ⟨b,o+k,none⟩=some (str s)
theorem vF.at {B:Nat} {w:World} {a:Option Addr} {xs:List Bs} (h:vF B w a xs):qD w a xs:=fun k s hs=>by
 obtain ⟨b,o,e,_,hc⟩:=h k s hs
 exact ⟨b,o,e,hc⟩
theorem vF.but {B rd:Nat} {w w':World} {a:Option Addr} {xs:List Bs} (h:vF B w a xs) (hb:But (· = rd) w w') (dZ:rd<B):vF B w' a xs:=fun k s hs=>by
 obtain ⟨b,o,e,hB,hc⟩:=h k s hs
 exact ⟨b,o,e,hB,(hb.cell (p:=⟨b,o+k,none⟩) (be w ⟨b,o+k,none⟩ hc) (fun e=>by have e2:b=rd:=e;omega)).trans hc⟩
theorem Own.strsNew {B:Nat} {w:World} {e:TypeId} {a:Option Addr} {n c:Nat} {xs:List Bs} (h:Own w e 1 (.slice a n c) n (xs.map str)) (hf:∀ g,(Value.slice a n c).ownBlock=some g->B<=g):vF B w a xs:=by
 intro k s hk
 have hn:xs.length=n:=by have:=h.1;simpa using this
 have cZ:=(List.getElem?_eq_some_iff.1 hk).1
 rcases h.2 with ⟨e0,e1⟩ | ⟨g,cap,cur,e0,hrest⟩
 ·omega
 ·injection e0 with e1 e2 e3
  subst e1
  refine ⟨g,0,rfl,hf g (by simp [Value.ownBlock]),?_⟩
  have:=World.ownsRow.cells h (g:=g) (by simp [Value.ownBlock]) k (str s) (by simp [hk])
  rw [Nat.zero_add]
  unfold Addr.add at this
  split at this
  ·rename_i h0;subst h0;exact this
  ·simpa using this
theorem Own.cap {w:World} {e:TypeId} {a:Option Addr} {n c k:Nat} {xs:List Value} (h:Own w e 1 (.slice a n c) k xs):n<=c:=by
 rcases h.2 with ⟨e0,rfl⟩ | ⟨g,cap,cur,e0,_,_,hc,_⟩
 ·injection e0 with e1 e2 e3;omega
 ·injection e0 with e1 e2 e3;omega
theorem args15 {t:Ty} (h:zV t<=15):(∀ a∈t.args,zV a<=15)/\t.args.length<=15:=by
 refine ⟨(un h).1,?_⟩
 have:=zc t.args;have:=zp t;omega
def jt (s:Bs):List Bs:=if (zQ s).2 then (zQ s).1.args.map kV else []
set_option maxRecDepth 100000 in
theorem wv (s:Bs) (hs:Lim s.length) (w:World) :
 Calls Tryz.prog 73 #[str s] w fun en w'=>∃ a c,en=.returned (.tuple #[.slice a (jt s).length c,.bool (zQ s).2])/\Below w.heap.size w w'/\vF w.heap.size w' a (jt s):=by
 go_enter Tryz.func73,Tryz.ntmps73
 go_wp2_with fail
 refine (xO s hs w).mono ?_
 rintro en w1 ⟨v,rfl,b9,cw⟩
 obtain ⟨ta,tc,e⟩:=zl cw
 subst e
 cases cH:(zQ s).2 with
 | false =>
   have dh:=bc b9;have ai:=bc cH;clear b9 cw cH
   have z1:=dh.out.size
   go_wp2_with fail
   refine bodyPost_ret (v:=.tuple #[.slice (some ⟨w1.heap.size+1,0,none⟩) 0 0,.bool false]) (by simp [results,Tryz.results73,go_sem]) rfl ?_
   have e0:jt s=[]:=by unfold jt;rw [ai.out];rfl
   rw [e0,ai.out]
   exact ⟨_,_,rfl,((dh.out.alloc z1 _).alloc (by rw [zK];omega) _),fun k x hk=>by simp at hk⟩
 | true =>
   have cQ:=qN cH
   have o_:=args15 cQ
   have e0:jt s=(zQ s).1.args.map kV:=by unfold jt;rw [cH];rfl
   have HE:=bc e0
   have ai:=bc cH
   clear cH e0
   generalize hT:(zQ s).1=t at *
   have b_:(jt s).length=t.args.length:=by rw [HE.out,List.length_map]
   have HLEN:=bc b_
   rw [qY] at cw
   obtain ⟨_,_,e,_,_,hat⟩:=zF cw
   cases e
   obtain ⟨W,hW⟩:=zzN (w1.alloc (.cells #[.slice ta t.args.length tc] 61))
   have bX:W.heap[w1.heap.size]? = some (.cells #[.slice ta t.args.length tc] 61 (0,0)):=by rw [<- hW];exact zS _ _
   have cK:Below w.heap.size w W:=by rw [<- hW];exact b9.alloc b9.size _
   have CJ:Below w1.heap.size w1 W:=by rw [<- hW];exact (bi _ _).alloc (br _) _
   have du:w.heap.size<=w1.heap.size:=b9.size
   have m9:W.heap.size=w1.heap.size+1:=by rw [<- hW,zK]
   have HW:=bc (bm hW (bm bX (bm cK (bm CJ (bm du m9)))))
   have AT:=bc hat
   have HA:=bc o_
   clear hW bX cK CJ du m9 hat cw hT b_ b9
   have lS:t.args.length<=15:=HA.out.2
   go_wp2_with fail
   rw [HW.out.1]
   go_loopw [6,7] (fun o i wr=>∃ k:Nat,k<=t.args.length/\i=.int .i64 k/\∃ a c,o=.slice a k c/\Own wr 9 1 (.slice a k c) k (((t.args.take k).map kV).map str)/\Below W.heap.size W wr/\(∀ g,(Value.slice a k c).ownBlock=some g->W.heap.size<=g)) (fun _ i _=>t.args.length-(intOf i).toNat)
   case atStart=>exact ⟨0,Nat.zero_le _,rfl,_,_,rfl,Own.litAt #[] 0 _ (by have:=HW.out.2.2.2.2.2;omega) (by decide) rfl,(bi _ _).alloc (br _) _,fun g h=>by simp [Value.ownBlock] at h;have:=HW.out.2.2.2.2.2;omega⟩
   case round =>
    obtain ⟨k,hk,rfl,a,c,rfl,ho,hb,hf⟩:=hrel
    have HO:=bc ho;have HF:=bc hf;have HB:=bc hb
    clear ho hf hb
    have hcX:wr.cell? ⟨w1.heap.size,0,none⟩=some (.slice ta t.args.length tc):=by
     have h:=(HB.out.block _ (zZ HW.out.2.1)).trans HW.out.2.1
     simp [World.cell?,h]
    by_cases cZ:k<t.args.length
    ·have dd:(k:Int)<(t.args.length:Int):=by omega
     obtain ⟨b,o,u,d,e,ip,B8,hd,hc,mP⟩:=AT.out k cZ
     subst e
     rw [jv,Option.map_eq_some_iff] at hd
     obtain ⟨tk,ht,rfl⟩:=hd
     obtain ⟨ua,uc,rfl⟩:=zl mP
     have h1r:Below w1.heap.size w1 wr:=HW.out.2.2.2.1.trans (HB.out.mono (by have:=HW.out.2.2.2.2.2;omega))
     have q0:wr.cell? ⟨b,o+k,none⟩=some (.slice ua tk.args.length uc):=(h1r.cell (p:=⟨b,o+k,none⟩) B8).trans hc
     have dI:zV tk<=15:=HA.out.1 tk (List.mem_of_getElem? ht)
     have C1:=bc (hH 15 tk dI (by omega) _ wr _ (Rep.below h1r (fun _ h=>h) mP))
     have HT:=bc ht
     clear ht hc mP h1r ip
     go_wp2_with fail
     (with_reducible refine C1.out.mono ?_)
     rintro en w4 ⟨rfl,cA⟩
     have nd:=HO.out.keep (w':=w4) fun g x _ hx=>by rw [cA.block g (zZ hx)];exact hx
     have Dl:=bc (zzT HB.out cA);have HO4:=bc nd
     clear cA nd C1
     obtain ⟨X,hX⟩:=zzM (kV tk)
     rw [<- hX]
     have HX:=bc hX;clear hX
     go_wp2_with (at_builtin;refine zW rfl _ _ 30 rfl 9 (str []) 1 16 Tryz.underlying30 Tryz.infoStr rfl (by decide) (.slice a k c) k (((t.args.take k).map kV).map str) rfl ?c1 _ 1 [str X] rfl ?c2 ?c3 ?c4 ?_)
     case c1=>exact HO4.out.alloc _
     case c2=>exact zM.lit (by simp [Value.oneCell'])
     case c3=>unfold maxLen;omega
     case c4=>omega
     intro a' c' w7 dP cJ cB
     have ci:Below W.heap.size W w7:=by
      have h1:=Dl.out
      refine (h1.alloc h1.size _).trans (cJ.toBelow (by rw [zK];have:=h1.size;omega) fun i hi e=>?_)
      have:=HF.out i e;omega
     have eA:∀ g,(Value.slice a' (k+1) c').ownBlock=some g->W.heap.size<=g:=by
      intro g h
      rcases cB g h with h | h
      ·exact HF.out g h
      ·have h2:=Dl.out.size
       omega
     have mp:Own w7 9 1 (.slice a' (k+1) c') (k+1) (((t.args.take (k+1)).map kV).map str):=by
      have e:((t.args.take (k+1)).map kV).map str=List.take k (List.map (str ∘ kV) t.args)++[str (kV tk)]:=by rw [List.take_add_one,HT.out];simp [List.map_take]
      have h:=dP
      rw [HX.out] at h
      rw [e]
      simpa [List.map_take] using h
     have n_:=bc (bm mp (bm ci eA));clear dP mp ci eA cJ cB
     go_wp2_with fail
     go_roundw
     case rel=>exact ⟨k+1,by omega,by go_num,a',c',rfl,n_.out.1,n_.out.2.1,n_.out.2.2⟩
     case measure=>simp [intOf];omega
    ·obtain rfl:k=t.args.length:=by omega
     go_wp2_with fail
     refine bodyPost_ret (v:=.tuple #[.slice a t.args.length c,.bool true]) (by simp [results,Tryz.results73,go_sem]) rfl ?_
     have h0:=HO.out
     rw [List.take_length] at h0
     refine ⟨a,c,by rw [HLEN.out,ai.out],HW.out.2.2.1.trans (HB.out.mono (by have:=HW.out.2.2.2.2;omega)),?_⟩
     rw [HE.out]
     exact h0.strsNew fun g h=>by have:=HF.out g h;have:=HW.out.2.2.2.2;omega
theorem argsOf_len (s:Bs):(jt s).length<=15:=by
 unfold jt
 cases h:(zQ s).2 with
 | false=>simp
 | true=>simp;exact (args15 (qN h)).2
theorem argsOf_each {s x:Bs} (h:x∈jt s):x.length<=100/\kd 3 (zQ x).1.args:=by
 unfold jt at h
 cases cH:(zQ s).2 with
 | false=>rw [cH] at h;simp at h
 | true =>
   rw [cH] at h
   simp only [if_true,List.mem_map] at h
   obtain ⟨t,ht,rfl⟩:=h
   have cQ:=(args15 (qN cH)).1 t ht
   have hl:=jO 15 t cQ
   refine ⟨by omega,?_⟩
   exact pz (by rw [je cQ])
def ArgsD (rd Q:Nat) (w:World) (en:Ending) (w':World):Prop :=
 ∃ (xs:List Bs) (a:Option Addr) (c:Nat),en=.returned (.slice a xs.length c)/\xs.length<=16/\xs.length<=c/\(∀ x∈xs,x.length<=100000)/\vF w.heap.size w' a xs/\But (· = rd) w w'/\kD w' rd Q
set_option maxRecDepth 100000 in
theorem l91Args_any (rd P:Nat) (s:Bs) (hs:Lim s.length) (w:World) (h:kD w rd P) (hP:P+200000<=1099511627776) :
 Calls Tryz.prog 38 #[.pointer (some ⟨rd,0,none⟩),str s] w (ArgsD rd (P+100000) w):=by
 have cZ:=h.lt
 have H:=bc h;clear h
 have iN:=argsOf_len s
 go_enter Tryz.func38,Tryz.ntmps38
 go_wp2_with fail
 refine (wv s hs w).mono ?_
 rintro en w1 ⟨la,lc,rfl,b9,fI⟩
 obtain ⟨ok,cH⟩:=zzM ((zQ s).2)
 rw [<- cH]
 clear cH
 have Dh:=bc (fun x (h:x∈jt s)=>argsOf_each h)
 generalize jt s=ls at *
 have cw:=H.out.below (b9.mono (br _))
 have du:=b9.size
 have hrd1:rd<w1.heap.size:=by omega
 have HX:=bc fI;have dh:=bc b9;have HR1:=bc cw
 clear fI b9 cw
 obtain ⟨W,hW⟩:=zzN (w1.alloc (.cells #[] 9))
 have nw:kD W rd P:=by rw [<- hW];exact HR1.out.alloc _
 have CJ:But (· = rd) w1 W:=by rw [<- hW];exact (But.refl _ _).alloc _
 have Cu:Own W 9 1 (.slice (some ⟨w1.heap.size,0,none⟩) 0 0) 0 []:=by rw [<- hW];exact Own.litAt #[] 0 _ rfl (by decide) rfl
 have HW:=bc (bm hW (bm nw (bm CJ Cu)))
 clear hW nw CJ Cu
 go_wp2_with fail
 rw [HW.out.1]
 go_loopw [7,8] (fun o i wr=>∃ k:Nat,k<=ls.length/\i=.int .i64 k/\∃ a c ys,o=.slice a k c/\Own wr 9 1 (.slice a k c) k (List.map str ys)/\But (· = rd) w1 wr/\(∀ g,(Value.slice a k c).ownBlock=some g->w1.heap.size<=g)/\kD wr rd (P+6449*k)/\(∀ y∈ys,y.length<=100000)) (fun _ i _=>ls.length-(intOf i).toNat)
 case atStart=>exact ⟨0,Nat.zero_le _,rfl,_,_,[],rfl,HW.out.2.2.2,HW.out.2.2.1,fun g h=>by simp [Value.ownBlock] at h;omega,HW.out.2.1,by simp⟩
 case round =>
  obtain ⟨k,hk,rfl,a,c,ys,rfl,ho,hb,hf,hr,hy⟩:=hrel
  have HO:=bc ho;have HF:=bc hf;have HB:=bc hb;have HR:=bc hr;have HY:=bc hy
  clear ho hf hb hr hy
  by_cases Bp:k<ls.length
  ·have dd:(k:Int)<(ls.length:Int):=by omega
   obtain ⟨x,hx⟩:∃ x,ls[k]? = some x:=⟨ls[k],by simp [Bp]⟩
   obtain ⟨b,o,ea,nL,hc⟩:=HX.out k x hx
   subst ea
   have q0:wr.cell? ⟨b,o+k,none⟩=some (str x):=(HB.out.cell (p:=⟨b,o+k,none⟩) (be w1 ⟨b,o+k,none⟩ hc) (fun e=>by have e2:b=rd:=e;omega)).trans hc
   have hE:=Dh.out x (List.mem_of_getElem? hx)
   have C1:=bc (yY rd (P+6449*k) x hE.1 hE.2 wr HR.out (by omega))
   clear hx hc hE
   go_wp2_with fail
   (with_reducible refine C1.out.mono ?_)
   intro en w4 h4
   obtain ⟨m,rfl,lm,cA,sM⟩:=strat_len h4
   have nd:=HO.out.keep (w':=w4) fun g y hg hy=>by
    rw [cA.block g (zZ hy) (fun e=>by have e2:g=rd:=e;have:=HF.out g hg;omega)];exact hy
   have Dl:=bc (HB.out.trans cA);have HO4:=bc nd;have HR4:=bc sM;have HM:=bc lm
   clear cA nd sM h4 C1 lm
   go_wp2_with (at_builtin;refine zW rfl _ _ 30 rfl 9 (str []) 1 16 Tryz.underlying30 Tryz.infoStr rfl (by decide) (.slice a k c) k (List.map str ys) rfl ?c1 _ 1 [str m] rfl ?c2 ?c3 ?c4 ?_)
   case c1=>exact HO4.out.alloc _
   case c2=>exact zM.lit (by simp [Value.oneCell'])
   case c3=>unfold maxLen;omega
   case c4=>omega
   intro a' c' w7 dP cJ cB
   have ci:But (· = rd) w1 w7:=(Dl.out.alloc (.cells #[str m] 9)).trans' cJ fun i hi e=>by have:=HF.out i e;omega
   have np:kD w7 rd (P+6449*(k+1)):=by
    exact ((HR4.out.alloc (.cells #[str m] 9)).but cJ fun i hi e=>by have:=HF.out i e;omega).mono (by omega)
   have eA:∀ g,(Value.slice a' (k+1) c').ownBlock=some g->w1.heap.size<=g:=by
    intro g h
    rcases cB g h with h | h
    ·exact HF.out g h
    ·have:=Dl.out.size;omega
   have mp:Own w7 9 1 (.slice a' (k+1) c') (k+1) (List.map str (ys++[m])):=by rw [List.map_append];exact dP
   have n_:=bc (bm mp (bm ci (bm eA np)));clear dP mp ci eA cJ cB np
   go_wp2_with fail
   go_roundw
   case rel=>exact ⟨k+1,by omega,by go_num,a',c',_,rfl,n_.out.1,n_.out.2.1,n_.out.2.2.1,n_.out.2.2.2,fun y hy=>by
    rcases List.mem_append.1 hy with h | h
    ·exact HY.out y h
    ·simp at h;subst h;exact HM.out⟩
   case measure=>simp [intOf];omega
  ·obtain rfl:k=ls.length:=by omega
   have b_:ys.length=ls.length:=by have:=HO.out.1;simpa using this
   have HL:=bc b_;clear b_
   go_wp2_with fail
   refine (j0 rd (P+6449*ls.length) 24 wr HR.out (by omega) (by omega) (by omega)).mono ?_
   rintro en w2 ⟨v,rfl,hv,b8,dR⟩
   have sS:=HO.out.keep (w':=w2) fun g y hg hy=>by
    rw [b8.block g (zZ hy) (fun e=>by have e2:g=rd:=e;have:=HF.out g hg;omega)];exact hy
   have c_:=bc (HB.out.trans b8);have HO2:=bc sS;have HR2:=bc dR
   clear b8 sS dR
   have oR:=c_.out.size
   by_cases iV:v=0
   ·subst iV
    go_wp2_with (at_builtin;refine zW rfl _ _ 30 rfl 9 (str []) 1 16 Tryz.underlying30 Tryz.infoStr rfl (by decide) (.slice a ls.length c) ls.length (List.map str ys) rfl ?c1 _ 1 [str [116]] rfl ?c2 ?c3 ?c4 ?_)
    case c1=>exact HO2.out.alloc _
    case c2=>exact zM.lit (by simp [Value.oneCell'])
    case c3=>unfold maxLen;omega
    case c4=>omega
    intro a' c' w7 dP cJ cB
    have ci:But (· = rd) w1 w7:=(c_.out.alloc (.cells #[str [116]] 9)).trans' cJ fun i hi e=>by have:=HF.out i e;omega
    have np:kD w7 rd (P+100000):=((HR2.out.alloc (.cells #[str [116]] 9)).but cJ fun i hi e=>by have:=HF.out i e;omega).mono (by omega)
    have eA:∀ g,(Value.slice a' (ls.length+1) c').ownBlock=some g->w.heap.size<=g:=by
     intro g h
     rcases cB g h with h | h
     ·have:=HF.out g h;omega
     ·omega
    have mp:Own w7 9 1 (.slice a' (ls.length+1) c') (ls.length+1) (List.map str (ys++[[116]])):=by rw [List.map_append];exact dP
    have n_:=bc (bm mp (bm ci (bm eA np)));clear dP mp ci eA cJ cB np
    go_wp2_with fail
    refine bodyPost_ret (v:=.slice a' (ls.length+1) c') (by simp [results,Tryz.results38,go_sem]) rfl ?_
    have Bu:(ys++[[116]]).length=ls.length+1:=by rw [List.length_append,HL.out];rfl
    refine ⟨ys++[[116]],a',c',by rw [Bu],by omega,by rw [Bu];exact n_.out.1.cap,fun y hy=>?_,n_.out.1.strsNew n_.out.2.2.1,(But.ofBelow dh.out).trans n_.out.2.1,n_.out.2.2.2⟩
    rcases List.mem_append.1 hy with h | h
    ·exact HY.out y h
    ·simp at h;subst h;simp
   ·have mN:((v:Int) == 0)=false:=by rw [beq_eq_false_iff_ne];omega
    go_wp2_with fail
    refine bodyPost_ret (v:=.slice a ls.length c) (by simp [results,Tryz.results38,go_sem]) rfl ?_
    refine ⟨ys,a,c,by rw [HL.out],by rw [HL.out];omega,by rw [HL.out];exact HO2.out.cap,HY.out,HO2.out.strsNew fun g h=>by have:=HF.out g h;omega,(But.ofBelow dh.out).trans c_.out,HR2.out.mono (by omega)⟩
def DrawnA (w:World) (en:Ending) (w':World):Prop :=
 ∃ (s text:Bs) (xs:List Bs) (a:Option Addr) (c:Nat),en=.returned (.tuple #[str s,str text,.slice a xs.length c])/\s.length<=100/\text.length<=100000/\xs.length<=16/\xs.length<=c/\(∀ x∈xs,x.length<=100000)/\vF w.heap.size w' a xs/\Below w.heap.size w w'
theorem drawRunOf_any (a0:Option Addr) (len cap:Nat) (zs:List Int) (w:World) (h:Row8 w a0 len cap zs) (hl:len<=1048576) :
 Calls Tryz.prog 13 #[.slice a0 len cap] w (DrawnA w):=by
 go_enter Tryz.func13,Tryz.ntmps13
 go_wp2_with fail
 refine (l6Open_any a0 len cap zs w h hl).mono ?_
 rintro en w1 ⟨rfl,b9,cw,dO⟩
 clear h
 go_wp2_with fail
 refine (l91Given_any w.heap.size 0 w1 cw (by omega)).mono ?_
 rintro en w2 ⟨s,text,rfl,hs,ht,b8,dR⟩
 have c_:=bc (but_new b9 (br _) b8);clear b9 b8 cw
 go_wp2_with fail
 refine (l91Args_any w.heap.size (0+6500) s (show _<=_ by omega) w2 dR (by omega)).mono ?_
 rintro en w3 ⟨xs,a,c,rfl,hl3,n6,tT,e_,cP,_⟩
 have nV:=bc (but_new c_.out (br _) cP);have HN3:=bc (bm tT e_);clear cP dR e_ tT
 go_wp2_with fail
 refine bodyPost_ret (v:=.tuple #[str s,str text,.slice a xs.length c]) (by simp [results,Tryz.results13,go_sem]) rfl ?_
 exact ⟨s,text,xs,a,c,rfl,hs,ht,hl3,n6,HN3.out.1,fun k x hk=>by
  obtain ⟨b,o,e,hB,h⟩:=HN3.out.2 k x hk
  exact ⟨b,o,e,b7 c_.out.size hB,h⟩,nV.out⟩
end Go.Proofs.YtfedjhgaeikjmaaGreatDoor

import Derived.Test.YtllmjhbopmkpoaaGreatDoorP8
import Derived.Deep.QuietTactic
import Derived.BigQuiet
import Derived.Laws.DeepNot64
import Derived.Deep.Cut
/- The walks of the reference's reader of codes: l6Open, pick, of. -/
namespace Go.Proofs.YtllmjhbopmkpoaaGreatDoor
open Go.RowKit
theorem i64_xor_nat (a b:Nat) (ha:a<9223372036854775808) (hb:b<9223372036854775808):bits .xor .i64 (a:Int) (b:Int)=((a ^^^ b:Nat):Int):=by
 have hx:a ^^^ b<2 ^ 63:=Nat.xor_lt_two_pow (by omega) (by omega)
 show IntKind.i64.wrap ((BitVec.ofInt 64 (a:Int) ^^^ BitVec.ofInt 64 (b:Int)).toNat:Int)=_
 rw [BitVec.toNat_xor,ofInt_u64 a (by omega),ofInt_u64 b (by omega)]
 generalize a ^^^ b=x at *
 simp [IntKind.wrap,IntKind.bits,IntKind.signed]
 omega
def RdAt (w:World) (rd P:Nat):Prop :=
 ∃ (a:Option Addr) (n c p:Nat),w.heap[rd]? = some (.cells #[.slice a n c,.int .i64 (p:Nat)] 75 (0,0))∧p≤P∧n≤2000 ∧
   (n=0∨∃ b o,a=some ⟨b,o,none⟩∧b<rd∧∀ k,k<n→∃ x:Nat,x<256∧w.cell? ⟨b,o+k,none⟩=some (.int .u8 x))
theorem RdAt.lt {w:World} {rd P:Nat} (h:RdAt w rd P):rd<w.heap.size:=by
 obtain ⟨a,n,c,p,h1,_⟩:=h;exact lt_of_heap h1
theorem RdAt.mono {w:World} {rd P Q:Nat} (h:RdAt w rd P) (k:P≤Q):RdAt w rd Q:=by
 obtain ⟨a,n,c,p,h1,h2,h3⟩:=h;exact ⟨a,n,c,p,h1,Nat.le_trans h2 k,h3⟩
theorem RdAt.below {w w':World} {rd P:Nat} (h:RdAt w rd P) (hb:Below w.heap.size w w'):RdAt w' rd P:=by
 obtain ⟨a,n,c,p,h1,h2,h3,h4⟩:=h
 refine ⟨a,n,c,p,(hb.block _ (lt_of_heap h1)).trans h1,h2,h3,?_⟩
 rcases h4 with h4 | ⟨b,o,e,hne,hk⟩
 ·exact .inl h4
 ·refine .inr ⟨b,o,e,hne,fun k hk'=>?_⟩
  obtain ⟨x,hx,hc⟩:=hk k hk'
  exact ⟨x,hx,(hb.cell (World.block_lt_of_cell? w _ hc)).trans hc⟩
theorem RdAt.but {m:Nat→Prop} {w w':World} {rd P:Nat} (h:RdAt w rd P) (hb:But m w w') (hm:∀ i,i≤rd→¬ m i):RdAt w' rd P:=by
 obtain ⟨a,n,c,p,h1,h2,h3,h4⟩:=h
 refine ⟨a,n,c,p,(hb.block _ (lt_of_heap h1) (hm _ (Nat.le_refl _))).trans h1,h2,h3,?_⟩
 rcases h4 with h4 | ⟨b,o,e,hne,hk⟩
 ·exact .inl h4
 ·refine .inr ⟨b,o,e,hne,fun k hk'=>?_⟩
  obtain ⟨x,hx,hc⟩:=hk k hk'
  exact ⟨x,hx,(hb.cell (World.block_lt_of_cell? w _ hc) (hm _ (Nat.le_of_lt hne))).trans hc⟩
theorem RdAt.drew {w:World} {rd P:Nat} (h:RdAt w rd P):RdAt w.drew rd P:=h
theorem RdAt.drewN {w:World} {rd P:Nat} (h:RdAt w rd P) (n:Nat):RdAt (w.drewN n) rd P:=h
theorem RdAt.alloc {w:World} {rd P:Nat} (h:RdAt w rd P) (o:Obj):RdAt (w.alloc o) rd P:=h.below ((Below.refl _ _).alloc (Nat.le_refl _) _)
theorem below_dN_but {m:Nat→Prop} {a w:World} (h:But m a w) (n:Nat):But m a (w.drewN n):=⟨h.os,h.tape,h.output,h.size,h.block⟩
def Picked (rd P n:Nat) (w:World) (en:Ending) (w':World):Prop :=
 ∃ v:Nat,en=.returned (.int .i64 (v:Nat))∧v<n∧But (· = rd) w w'∧RdAt w' rd (P+1)
theorem wrap_to {z:Int} {n:Nat} (e:z=(n:Int)) (h:n<9223372036854775808):IntKind.i64.wrap z=(n:Int):=by rw [e];exact wrap_nat n h
structure Mix (p m x1 x2 n:Nat) (I A B C J D E G H Q R X Y Z V:Nat):Prop where
 i:(p:Int).tmod (m:Int)=(I:Int)
 a:IntKind.i64.wrap ((x1:Int)*131)=(A:Int)
 b:IntKind.i64.wrap ((p:Int)*7)=(B:Int)
 c:IntKind.i64.wrap ((B:Int)+3)=(C:Int)
 j:(C:Int).tmod (m:Int)=(J:Int)
 d:IntKind.i64.wrap ((x2:Int)*1117)=(D:Int)
 e:IntKind.i64.wrap ((A:Int)+(D:Int))=(E:Int)
 g:IntKind.i64.wrap ((p:Int)*29)=(G:Int)
 h:IntKind.i64.wrap ((E:Int)+(G:Int))=(H:Int)
 q:(p:Int).tdiv (m:Int)=(Q:Int)
 r:IntKind.i64.wrap ((Q:Int)*53)=(R:Int)
 x:IntKind.i64.wrap ((H:Int)+(R:Int))=(X:Int)
 y:(X:Int).tdiv 64=(Y:Int)
 z:bits .xor .i64 (X:Int) (Y:Int)=(Z:Int)
 v:(Z:Int).tmod (n:Int)=(V:Int)
 vn:V<n
 wq:IntKind.i64.wrap (Q:Int)=(Q:Int)
 wy:IntKind.i64.wrap (Y:Int)=(Y:Int)
theorem mix_any (p m x1 x2 n:Nat) (hp:p≤1099511627776) (hx1:x1<256) (hx2:x2<256) (hn:0<n) :
 ∃ A B D E G H Q R X Y Z V:Nat,Mix p m x1 x2 n (p % m) A B (p*7+3) ((p*7+3) % m) D E G H Q R X Y Z V:=by
 have hq:p / m≤p:=Nat.div_le_self _ _
 have hX:x1*131+x2*1117+p*29+p / m*53<9223372036854775808:=by omega
 have hY:(x1*131+x2*1117+p*29+p / m*53) / 64<9223372036854775808:=by omega
 refine ⟨x1*131,p*7,x2*1117,x1*131+x2*1117,p*29,x1*131+x2*1117+p*29,p / m,p / m*53,x1*131+x2*1117+p*29+p / m*53,(x1*131+x2*1117+p*29+p / m*53) / 64,(x1*131+x2*1117+p*29+p / m*53) ^^^ ((x1*131+x2*1117+p*29+p / m*53) / 64),((x1*131+x2*1117+p*29+p / m*53) ^^^ ((x1*131+x2*1117+p*29+p / m*53) / 64)) % n,?_⟩
 exact ⟨tmod_nat _ _,wrap_to (by omega) (by omega),wrap_to (by omega) (by omega),wrap_to (by omega) (by omega),tmod_nat _ _,wrap_to (by omega) (by omega),wrap_to (by omega) (by omega),wrap_to (by omega) (by omega),wrap_to (by omega) (by omega),
  tdiv_nat _ _,wrap_to (by omega) (by omega),wrap_to (by omega) hX,tdiv_nat _ 64,i64_xor_nat _ _ hX hY,tmod_nat _ _,Nat.mod_lt _ hn,wrap_nat _ (by omega),wrap_nat _ hY⟩
set_option maxRecDepth 100000 in
set_option maxHeartbeats 4000000 in
theorem pick_any (rd P n:Nat) (w:World) (h:RdAt w rd P) (hn:0<n) (hn2:n≤16777216) (hP:P≤1099511627776) :
 Calls Tryz.prog 21 #[.pointer (some ⟨rd,0,none⟩),.int .i64 (n:Nat)] w (Picked rd P n w):=by
 obtain ⟨a,m,c,p,h1,hp,hm,hcs⟩:=h
 have hpP:p≤1099511627776:=by omega
 have c0:w.cell? ⟨rd,0,none⟩=some (.slice a m c):=by simp [World.cell?,h1]
 have c1:w.cell? ⟨rd,1,none⟩=some (.int .i64 (p:Nat)):=by simp [World.cell?,h1]
 have f1:w.frozen? ⟨rd,1,none⟩=false:=by simp [World.frozen?,h1]
 have hlt:=lt_of_heap h1
 obtain ⟨W,hW⟩:∃ W,w.setCell ⟨rd,1,none⟩ (.int .i64 ((p:Int)+1))=W:=⟨_,rfl⟩
 have hblk:W.heap[rd]? = some (.cells #[.slice a m c,.int .i64 ((p+1:Nat):Int)] 75 (0,0)):=by
  have h':w.heap[rd]=.cells #[.slice a m c,.int .i64 (p:Nat)] 75 (0,0):=by simpa [Array.getElem?_eq_getElem hlt] using h1
  rw [← hW]
  show (w.heap.modify rd _)[rd]? = _
  rw [Array.getElem?_eq_getElem (by simpa using hlt),Array.getElem_modify_self,h']
  simp
 have hbut:But (· = rd) w W:=by rw [← hW];exact (But.refl (· = rd) _).setCell (p:=⟨rd,1,none⟩) (.inl rfl) _
 have d0:W.cell? ⟨rd,0,none⟩=some (.slice a m c):=by simp [World.cell?,hblk]
 have d1:W.cell? ⟨rd,1,none⟩=some (.int .i64 ((p:Int)+1)):=by simp [World.cell?,hblk]
 have hrd:RdAt W rd (P+1):=by
  refine ⟨a,m,c,p+1,hblk,by omega,hm,?_⟩
  rcases hcs with h4 | ⟨b,o,e,hne,hk⟩
  ·exact .inl h4
  ·refine .inr ⟨b,o,e,hne,fun k hk'=>?_⟩
   obtain ⟨x,hx,hc⟩:=hk k hk'
   exact ⟨x,hx,(hbut.cell (World.block_lt_of_cell? w _ hc) (fun e=>Nat.ne_of_lt hne e)).trans hc⟩
 have RD:=Lib.hid hrd;have BT:=Lib.hid hbut
 have g0:¬ (n:Int)<1:=by omega
 have gn:((n:Int) == 0)=false:=by rw [beq_eq_false_iff_ne];omega
 have hWb:∀ (b o:Nat) (v:Value),b≠rd→w.cell? ⟨b,o,none⟩=some v→W.cell? ⟨b,o,none⟩=some v:=fun b o v hne hc =>
  (hbut.cell (p:=⟨b,o,none⟩) (World.block_lt_of_cell? w ⟨b,o,none⟩ hc) (fun e=>hne e)).trans hc
 have WB:=Lib.hid hWb;have HCS:=Lib.hid hcs;have HW:=Lib.hid hW
 clear hrd hbut h1 hblk hWb hcs hW
 go_enter Tryz.func21,Tryz.ntmps21
 go_upto_region 2 with (fail)
 rw [HW.out]
 clear c0 c1 f1
 rcases HCS.out with h0 | ⟨b,o,e,hne,hk⟩
 ·subst h0
  go_wp2_with fail
  go_ret
  exact ⟨0,rfl,hn,BT.out,RD.out⟩
 ·subst e
  have HK:=Lib.hid hk;clear hk
  by_cases hm0:m=0
  ·subst hm0
   go_wp2_with fail
   go_ret
   exact ⟨0,rfl,hn,BT.out,RD.out⟩
  have gm:((m:Int) == 0)=false:=by rw [beq_eq_false_iff_ne];omega
  by_cases hpm:p<m
  ·obtain ⟨x,hx,hc⟩:=HK.out p hpm
   have e1:=WB.out _ _ _ (Nat.ne_of_lt hne) hc
   have hpm':(p:Int)<(m:Int):=by omega
   have et:(x:Int).tmod (n:Int)=((x % n:Nat):Int):=tmod_nat _ _
   have hv:x % n<n:=Nat.mod_lt _ hn
   have HV:=Lib.hid hv;clear hv hc
   go_wp2_with fail
   go_ret
   exact ⟨x % n,rfl,HV.out,BT.out,RD.out⟩
  ·have hpm':¬ (p:Int)<(m:Int):=by omega
   obtain ⟨x1,hx1,hc1⟩:=HK.out (p % m) (Nat.mod_lt _ (by omega))
   obtain ⟨x2,hx2,hc2⟩:=HK.out ((p*7+3) % m) (Nat.mod_lt _ (by omega))
   have e1:=WB.out _ _ _ (Nat.ne_of_lt hne) hc1
   have e2:=WB.out _ _ _ (Nat.ne_of_lt hne) hc2
   obtain ⟨A,B,D,E,G,H,Q,R,X,Y,Z,V,M⟩:=mix_any p m x1 x2 n hpP hx1 hx2 hn
   have hI:p % m<m:=Nat.mod_lt _ (by omega)
   have hJ:(p*7+3) % m<m:=Nat.mod_lt _ (by omega)
   generalize p % m=I at *
   generalize (p*7+3) % m=J at *
   generalize p*7+3=C at *
   have hI':(I:Int)<(m:Int):=by omega
   have hJ':(J:Int)<(m:Int):=by omega
   have q1:=M.i;have q2:=M.a;have q3:=M.b;have q4:=M.c;have q5:=M.j;have q6:=M.d;have q7:=M.e;have q8:=M.g;have q9:=M.h
   have q10:=M.q;have q11:=M.r;have q12:=M.x;have q13:=M.y;have q14:=M.z;have q15:=M.v;have q16:=M.wq;have q17:=M.wy
   have MV:=Lib.hid M.vn
   clear hc1 hc2 M
   go_wp2_with fail
   go_quiet (fail)
   go_wp2_with fail
   go_ret
   exact ⟨V,rfl,MV.out,below_dN_but BT.out _,RD.out.drewN _⟩
end Go.Proofs.YtllmjhbopmkpoaaGreatDoor
namespace Go.Proofs.YtllmjhbopmkpoaaGreatDoor
open Go.RowKit
def StrSl (w:World) (rd:Nat) (l:Value) (xs:List Bs):Prop :=
 ∃ b o c,l=.slice (some ⟨b,o,none⟩) xs.length c∧b≠rd∧∀ (k:Nat) (s:Bs),xs[k]? = some s→w.cell? ⟨b,o+k,none⟩=some (str s)
theorem StrSl.new {w:World} {rd:Nat} (hrd:rd<w.heap.size) (xs:List Bs) (n:Nat) (hn:n=xs.length) (e:TypeId):StrSl (w.alloc (.cells (xs.map str).toArray e)) rd (.slice (some ⟨w.heap.size,0,none⟩) n n) xs:=by
 subst hn
 refine ⟨w.heap.size,0,_,rfl,by omega,fun k s hs=>?_⟩
 rw [Nat.zero_add]
 simp only [World.cell?,heap_new]
 simp [hs]
def Took (rd P:Nat) (xs:List Bs) (w:World) (en:Ending) (w':World):Prop :=
 ∃ s∈xs,en=.returned (str s)∧But (· = rd) w w'∧RdAt w' rd P
set_option maxHeartbeats 1000000 in
theorem of_any (rd P:Nat) (l:Value) (xs:List Bs) (w:World) (h:RdAt w rd P) (hl:StrSl w rd l xs) (hx:0<xs.length) (hx2:xs.length≤16777216) (hP:P≤1099511627776) :
 Calls Tryz.prog 42 #[.pointer (some ⟨rd,0,none⟩),l] w (Took rd (P+1) xs w):=by
 obtain ⟨b,o,c,rfl,hne,hk⟩:=hl
 have HK:=Lib.hid hk;clear hk
 go_enter Tryz.func42,Tryz.ntmps42
 go_wp2_with fail
 refine (pick_any rd P xs.length w h hx hx2 hP).mono ?_
 rintro en w1 ⟨v,rfl,hv,hb,hr⟩
 obtain ⟨s,hs⟩:∃ s,xs[v]? = some s:=⟨xs[v],by simp [hv]⟩
 have hc:=HK.out v s hs
 have hc1:w1.cell? ⟨b,o+v,none⟩=some (str s):=(hb.cell (p:=⟨b,o+v,none⟩) (World.block_lt_of_cell? w ⟨b,o+v,none⟩ hc) (fun e=>hne e)).trans hc
 have hv':(v:Int)<(xs.length:Int):=by omega
 have HM:=Lib.hid (List.mem_of_getElem? hs)
 clear hs hc
 go_wp2_with fail
 go_ret
 exact ⟨s,HM.out,rfl,hb,hr⟩
def typeTexts:List Bs:=[[98],[40,62,32,98,32,98,41],[40,62,32,98,32,40,62,32,98,32,98,41,41],[40,62,32,40,62,32,98,32,98,41,32,98,41],[40,62,32,40,62,32,98,32,98,41,32,40,62,32,98,32,98,41,41],[40,62,32,40,62,32,40,62,32,98,32,98,41,32,98,41,32,98,41],[40,62,32,40,62,32,98,32,40,62,32,98,32,98,41,41,32,98,41],[40,62,32,98,32,40,62,32,40,62,32,98,32,98,41,32,98,41,41]]
def oddTexts:List Bs:=[[],[99],[40,62,32,98,41],[40,62,32,32,98,32,98,41],[40,62,32,98,32,98,32,98,41],[98,32],[40,62,32,40,62,32,40,62,32,40,62,32,98,32,98,41,32,40,62,32,98,32,98,41,41,32,40,62,32,98,32,98,41,41,32,40,62,32,98,32,40,62,32,98,32,98,41,41,41]]
def badTexts:List Bs:=[[],[120],[40,48,32,116,41],[40,57,32,116,32,102,41],[40,48,32,32,116,32,102,41],[40,48,48,32,116,32,102,41],[117,32],[40,48,32,116,32,102,32,116,32,102,41]]
def atomTexts:List Bs:=[[116],[102],[116],[102],[117]]
set_option maxRecDepth 100000 in
set_option maxHeartbeats 1000000 in
theorem l91Type_any (rd P:Nat) (w:World) (h:RdAt w rd P) (hP:P≤1099511627776) :
 Calls Tryz.prog 33 #[.pointer (some ⟨rd,0,none⟩)] w (Took rd (P+1) typeTexts w):=by
 have hlt:=h.lt
 go_enter Tryz.func33,Tryz.ntmps33
 go_wp2_with fail
 refine (of_any rd P _ typeTexts _ (h.alloc _) (StrSl.new hlt typeTexts 8 rfl _) (by decide) (by decide) hP).mono ?_
 rintro en w1 ⟨s,hs,rfl,hb,hr⟩
 have HM:=Lib.hid hs;clear hs
 go_wp2_with fail
 go_ret
 exact ⟨s,HM.out,rfl,((But.refl _ w).alloc _).trans hb,hr⟩
set_option maxRecDepth 100000 in
set_option maxHeartbeats 1000000 in
theorem l91Odd_any (rd P:Nat) (w:World) (h:RdAt w rd P) (hP:P+1≤1099511627776) :
 Calls Tryz.prog 70 #[.pointer (some ⟨rd,0,none⟩)] w (Took rd (P+2) (typeTexts++oddTexts) w):=by
 go_enter Tryz.func70,Tryz.ntmps70
 go_wp2_with fail
 refine (pick_any rd P 12 w h (by omega) (by omega) (by omega)).mono ?_
 rintro en w1 ⟨v,rfl,hv,hb1,hr1⟩
 have hlt:=hr1.lt
 by_cases hv0:v=0
 ·subst hv0
  go_wp2_with fail
  refine (of_any rd (P+1) _ oddTexts _ (hr1.alloc _) (StrSl.new hlt oddTexts 7 rfl _) (by decide) (by decide) hP).mono ?_
  rintro en w2 ⟨s,hs,rfl,hb,hr⟩
  have HM:=Lib.hid hs;clear hs
  go_wp2_with fail
  go_ret
  exact ⟨s,List.mem_append_right _ HM.out,rfl,(hb1.alloc _).trans hb,hr⟩
 ·have hv1:((v:Int) == 0)=false:=by rw [beq_eq_false_iff_ne];omega
  go_wp2_with fail
  refine (l91Type_any rd (P+1) w1 hr1 hP).mono ?_
  rintro en w2 ⟨s,hs,rfl,hb,hr⟩
  have HM:=Lib.hid hs;clear hs
  go_wp2_with fail
  go_ret
  exact ⟨s,List.mem_append_left _ HM.out,rfl,hb1.trans hb,hr⟩
end Go.Proofs.YtllmjhbopmkpoaaGreatDoor

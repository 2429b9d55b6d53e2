/- Walks of functions that the statement reaches, and plain words. No conditions. -/
import Derived.Test.YtfedjhgaeikjmaaGreatDoorQ1
set_option linter.unusedVariables false
set_option linter.unusedSimpArgs false
set_option maxHeartbeats 4000000
namespace Go.Proofs.YtfedjhgaeikjmaaGreatDoor
open Go.RowKit
def yV (l:Bs):Int:=if (zN l)=[] then -1 else (zk l).length
theorem vO (l:Bs):zk l++zN l=l:=List.takeWhile_append_dropWhile
theorem word_take (l:Bs):l.take (zk l).length=zk l:=by
 have h:=vO l
 have:=List.take_left (l₁:=zk l) (l₂:=zN l);rw [h] at this;exact this
theorem word_drop (l:Bs):l.drop (zk l).length=zN l:=by
 have h:=vO l
 have:=List.drop_left (l₁:=zk l) (l₂:=zN l);rw [h] at this;exact this
theorem word_le (l:Bs):(zk l).length+(zN l).length=l.length:=by
 have:=congrArg List.length (vO l);simpa using this
theorem indexAny_sep (l:Bs):Lib.indexAny l [32,40,41]=yV l:=by
 induction l with
 | nil=>rfl
 | cons b l ih =>
   rw [Lib.indexAny]
   have hs:([32,40,41]:Bs).contains b=sep b:=by
    rw [Bool.eq_iff_iff];simp [sep,or_assoc]
   rw [hs]
   cases hb:sep b
   ·have e1:zk (b::l)=b::zk l:=by simp [zk,hb]
    have e2:zN (b::l)=zN l:=by simp [zN,hb]
    rw [ih]
    unfold yV
    rw [e1,e2]
    by_cases h:zN l=[]
    ·simp [h]
    ·simp only [h,if_false,Bool.false_eq_true]
     rw [if_neg (by rw [beq_iff_eq];omega)]
     simp
   ·have e1:zk (b::l)=[]:=by simp [zk,hb]
    have e2:zN (b::l)=b::l:=by simp [zN,hb]
    unfold yV
    rw [e1,e2];simp
theorem indexAny_any (l:Bs) (w:World) (hl:Lim l.length) :
 Calls Tryz.prog 141 #[str l,.string ⟨#[32,40,41]⟩] w fun en w'=>en=.returned (.int .i64 (yV l))/\Below w.heap.size w w':=by
 have dz:=hl.le
 have eG:(⟨l.toArray⟩:ByteArray).size=l.length:=xD l
 rw [<- indexAny_sep]
 by_cases h8:l.length<=8
 ·have:=gx ⟨l.toArray⟩ (by omega) w
  simpa [str] using this
 ·refine (Tryz.strings_IndexAny_long (zero_of_info (n:=256) (by kernel_rfl)).1 ⟨l.toArray⟩ ⟨#[32,40,41]⟩ w (by show 2<=3;omega) (by omega) (by omega) (by show 3<4294967281;omega) (by
   intro j b hj
   have:b∈([32,40,41]:Bs):=List.mem_of_getElem? hj
   simp at this
   rcases this with rfl | rfl | rfl <;> decide)).mono ?_
  rintro e w' ⟨rfl,rfl⟩
  refine ⟨by simp,((bP _ _).alloc (bX _) _).alloc (by simp) _⟩
theorem px (sc:Nat) (c:List Value) (e:TypeId) (r:Bs) (w:World) (h:kN sc c e r w) (hr:Lim r.length) :
 Calls Tryz.prog 130 #[.pointer (some ⟨sc,0,none⟩)] w fun en w' =>
  en=.returned (str (zk r))/\But (· = sc) w w'/\kN sc c e (zN r) w':=by
 have h1:=h.cell
 have h2:=h.free 0
 have iV:=uB h
 have hl:=hr.le
 have hw:=word_le r
 go_enter Tryz.func130,Tryz.ntmps130
 go_wp2_with fail
 refine (indexAny_any r w hr).mono ?_
 rintro en w1 ⟨rfl,hb⟩
 have c1:w1.cell? ⟨sc,0,none⟩=some (str r):=by rw [hb.cell iV];exact h1
 have c2:w1.frozen? ⟨sc,0,none⟩=false:=by rw [hb.frozen iV];exact h2
 have hS:kN sc c e r w1:=by unfold kN;rw [hb.block sc iV];exact h
 clear h1 h2
 by_cases h0:zN r=[]
 ·have hi:yV r = -1:=by simp [yV,h0]
  rw [hi]
  have e1:zk r=r:=by have:=vO r;rw [h0] at this;simpa using this
  have HE:=bU e1;have H0:=bU h0;clear e1 h0 hi
  go_wp2_with fail
  go_ret
  have e2:(⟨r.toArray⟩:ByteArray).extract 0 r.length=⟨(zk r).toArray⟩:=by rw [vJ,HE.out];simp
  refine ⟨?_,(But.ofBelow hb).setS 0 _,?_⟩
  ·show Ending.returned (.string _)=_;rw [e2]
  ·have:=hS.put (r':=zN r);rw [H0.out] at this ⊢;exact this
 ·have hi:yV r=(zk r).length:=by simp [yV,h0]
  rw [hi]
  have bA:(zk r).length<=r.length:=by omega
  have H0:=bU h0;clear h0 hi
  go_wp2_with fail
  go_ret
  have e2:(⟨r.toArray⟩:ByteArray).extract 0 (zk r).length=⟨(zk r).toArray⟩:=by rw [vJ,List.drop_zero,word_take]
  have e3:(⟨r.toArray⟩:ByteArray).extract (zk r).length r.length=⟨(zN r).toArray⟩:=by rw [vJ,List.take_length,word_drop]
  refine ⟨?_,(But.ofBelow hb).setS 0 _,?_⟩
  ·show Ending.returned (.string _)=_;rw [e2]
  ·rw [e3];exact hS.put
structure qr (w:World):Prop where
 e0:∃ te pe,w.var? Tryz.prog "strconv.ErrSyntax" = some #[.iface te pe]
 e1:∃ te pe,w.var? Tryz.prog "strconv.ErrRange" = some #[.iface te pe]
 tab:Lib.TabIs Tryz.prog w "internal/strconv.uint64pow10" .u64 Lib.pow10Tab
def NotG (b:Nat):Prop:=b≠1/\b≠2/\b≠3
theorem Tryz.gn0:Tryz.prog.globalNamed "strconv.ErrSyntax" = some 1:=by kernel_rfl
theorem Tryz.gn1:Tryz.prog.globalNamed "strconv.ErrRange" = some 2:=by kernel_rfl
theorem Tryz.gn2:Tryz.prog.globalNamed "internal/strconv.uint64pow10" = some 3:=by kernel_rfl
theorem wJ {P:Program} {w:World} {nm:String} {g:Nat} {x:Array Value} (hg:P.globalNamed nm=some g) (h:w.var? P nm=some x):g<w.heap.size:=by
 unfold World.var? at h
 rw [hg] at h
 simp only [Option.bind_some] at h
 rcases Nat.lt_or_ge g w.heap.size with h' | h'
 ·exact h'
 ·rw [Array.getElem?_eq_none h'] at h;simp at h
theorem p8 {P:Program} {w w':World} {nm:String} {g:Nat} {x:Array Value} (hg:P.globalNamed nm=some g) (hk:w'.heap[g]? = w.heap[g]?) (h:w.var? P nm=some x):w'.var? P nm=some x:=by
 unfold World.var? at *
 rw [hg] at *
 simp only [Option.bind_some] at *
 rw [hk];exact h
theorem qr.but {m:Nat->Prop} {w w':World} (h:qr w) (hb:But m w w') (hm:∀ i,m i->NotG i):qr w':=by
 obtain ⟨⟨t0,p0,h0⟩,⟨t1,p1,h1⟩,h2⟩:=h
 have l0:=wJ Tryz.gn0 h0
 have l1:=wJ Tryz.gn1 h1
 have l2:=wJ Tryz.gn2 h2
 exact ⟨⟨t0,p0,p8 Tryz.gn0 (hb.block _ l0 fun e=>(hm _ e).1 rfl) h0⟩,⟨t1,p1,p8 Tryz.gn1 (hb.block _ l1 fun e=>(hm _ e).2.1 rfl) h1⟩,p8 Tryz.gn2 (hb.block _ l2 fun e=>(hm _ e).2.2 rfl) h2⟩
theorem qr.below {w w':World} (h:qr w) (hb:Below w.heap.size w w'):qr w':=h.but (m:=fun _=>False) (But.ofBelow hb) (fun _ e=>e.elim)
theorem qr.new {w:World} (h:qr w) {b:Nat} (hb:w.heap.size<=b):NotG b:=by
 obtain ⟨⟨t0,p0,h0⟩,⟨t1,p1,h1⟩,h2⟩:=h
 have l0:=wJ Tryz.gn0 h0
 have l1:=wJ Tryz.gn1 h1
 have l2:=wJ Tryz.gn2 h2
 exact ⟨by omega,by omega,by omega⟩
theorem below_drewN {B:Nat} {a w:World} (h:Below B a w) (n:Nat):Below B a (w.drewN n):=h.trans ⟨rfl,rfl,rfl,bX _,fun _ _=>rfl⟩
theorem below_grow (w:World) (os:Array Obj):Below w.heap.size w (Go.Sort.grow w os) :=
 ⟨rfl,rfl,rfl,by simp [Go.Sort.grow],fun k hk=>by simp [Go.Sort.grow,Array.getElem?_append_left hk]⟩
theorem below_freeze {B:Nat} {a w:World} (h:Below B a w) {p:Addr} (hp:B<=p.block) (n:Nat):Below B a (w.freeze p n):=by
 refine h.trans ⟨?_,?_,?_,?_,?_⟩
 ·unfold World.freeze;split <;> rfl
 ·unfold World.freeze;split <;> rfl
 ·unfold World.freeze;split <;> rfl
 ·unfold World.freeze;split <;> simp
 ·intro k hk
  unfold World.freeze;split
  ·rfl
  ·simp only [Array.getElem?_modify];rw [if_neg (by omega)]
theorem wR (w:World) (e:TypeId) (s:ByteArray):Below w.heap.size w (Lib.bytesWorld w e s) :=
 below_freeze (((bP w.heap.size w).drew).alloc (bX _) _) (bX _) _
theorem atoi_ok (l:Bs) (w:World) (hl:Lim l.length) (v:Int) (h:Lib.atoiAll l=.ok v) :
 Calls Tryz.prog 131 #[str l] w fun en w'=>en=.returned (.tuple #[.int .i64 v,.nilIface])/\Below w.heap.size w w':=by
 have dz:=hl.le
 refine (Tryz.strconv_Atoi_ok ⟨l.toArray⟩ (by show l.toArray.size<=_;simp;omega) v h w).mono ?_
 rintro en w' ⟨rfl,rfl | ⟨t,rfl⟩⟩
 ·exact ⟨rfl,bP _ _⟩
 ·exact ⟨rfl,wR _ _ _⟩
theorem atoi_no (l:Bs) (w:World) (hl:Lim l.length) (hg:qr w) (h:∀ v,Lib.atoiAll l≠.ok v) :
 Calls Tryz.prog 131 #[str l] w fun en w'=>∃ v t p,en=.returned (.tuple #[.int .i64 v,.iface t p])/\Below w.heap.size w w':=by
 have dz:=hl.le
 have hs:(⟨l.toArray⟩:ByteArray).size<=281474976710656:=by show l.toArray.size<=_;simp;omega
 cases ha:Lib.atoiAll l
 ·rename_i v;exact absurd ha (h v)
 ·obtain ⟨te,pe,h0⟩:=hg.e0
  refine (Tryz.strconv_Atoi_syntax_var ⟨l.toArray⟩ hs ha te pe w h0).mono ?_
  rintro en w' ⟨N,rfl,_,_,hb⟩
  exact ⟨_,_,_,rfl,hb⟩
 ·obtain ⟨te,pe,h0⟩:=hg.e1
  refine (Tryz.strconv_Atoi_range_var ⟨l.toArray⟩ hs ha te pe w h0).mono ?_
  rintro en w' ⟨N,rfl,_,_,hb⟩
  exact ⟨_,_,_,rfl,hb⟩
theorem itoa_any (n:Int) (w:World) (hg:qr w) (h0 : -9223372036854775808<=n) (h1:n<=9223372036854775807) :
 Calls Tryz.prog 105 #[.int .i64 n] w fun en w'=>en=.returned (str (Lib.itoa n))/\Below w.heap.size w w':=by
 refine (Tryz.strconv_Itoa n h0 h1 w hg.tab).mono ?_
 rintro en w' ⟨rfl,k,os,rfl⟩
 exact ⟨rfl,(below_drewN (bP _ _) k).trans (below_grow (w.drewN k) os)⟩
theorem g8 {l:Bs} {v:Int} (h:Lib.atoiAll l=.ok v) : -9223372036854775808<=v/\v<=9223372036854775807:=by
 unfold Lib.atoiAll at h
 split at h
 ·simp at h
 ·simp only at h
  split at h
  ·simp at h
  ·simp at h
  ·split at h
   ·simp at h
   ·split at h
    ·simp at h
    ·rename_i h1 h2
     simp only [Lib.NumEnd.ok.injEq] at h
     split at h <;> omega
theorem itoa_of {l:Bs} {v:Int} (h:Lib.atoiAll l=.ok v) (w:World) (hg:qr w) :
 Calls Tryz.prog 105 #[.int .i64 v] w fun en w'=>en=.returned (str (Lib.itoa v))/\Below w.heap.size w w' :=
 itoa_any v w hg (g8 h).1 (g8 h).2
def jW (sr:Nat) (w:World) (o:Option (Bd×Bs×Nat)) (en:Ending) (w':World):Prop :=
 ∃ (v:Value) (r':Bs) (left':Int),en=.returned v/\But (fun x=>x=sr) w w'/\kN sr [.int .i64 left'] 158 r' w'/\(o=none->v=.pointer none) /\
   (∀ b rest br,o=some (b,rest,br)->r'=rest/\left'=(br:Nat)/\Rep (w.heap.size<=·) w' (qm b) v)
theorem qI {F:Nat->Prop} {w:World} {b:Bd} {v:Value} (h:Rep F w (qm b) v):∃ a,v=.pointer (some ⟨a,0,none⟩):=by
 cases b with
 | leaf c=>rw [qm,vV] at h;obtain ⟨a,c,h,_⟩:=h;exact ⟨a,h⟩
 | ask v ss y n=>rw [qm,vV] at h;obtain ⟨a,c,h,_⟩:=h;exact ⟨a,h⟩
theorem jW.no {sr:Nat} {w:World} {o:Option (Bd×Bs×Nat)} {w':World} {r:Bs} {left:Int} (ho:o=none) (hb:But (fun x=>x=sr) w w') (hs:kN sr [.int .i64 left] 158 r w') :
 jW sr w o (.returned (.pointer none)) w' :=
 ⟨_,r,left,rfl,hb,hs,fun _=>rfl,fun _ _ _ h=>by rw [ho] at h;simp at h⟩
theorem jW.yes {sr:Nat} {w:World} {o:Option (Bd×Bs×Nat)} {w':World} {r:Bs} {left:Nat} {b:Bd} {v:Value} (ho:o=some (b,r,left)) (hb:But (fun x=>x=sr) w w') (hs:kN sr [.int .i64 left] 158 r w')
 (hv:Rep (w.heap.size<=·) w' (qm b) v):jW sr w o (.returned v) w' :=
 ⟨_,r,left,rfl,hb,hs,fun h=>by rw [ho] at h;simp at h,fun _ _ _ h=>by rw [ho] at h;simp at h;obtain ⟨rfl,rfl,rfl⟩:=h;exact ⟨rfl,rfl,hv⟩⟩
def k8 (d:Nat) (levels:List Ty):Prop:=(∀ t∈levels,zW t<=15)/\levels.length+15*d<=10000
def yE (d:Nat):Prop:=∀ (sr left:Nat) (levels:List Ty) (l:Bs) (lv:Value) (F:Nat->Prop) (w:World),qr w->NotG sr ->
 kN sr [.int .i64 left] 158 l w->left<=1000->Lim l.length->k8 d levels ->
 Rep F w (.sl 54 1 levels.length (qL levels)) lv->(∀ b,F b->b≠sr) ->
 Calls Tryz.prog 98 #[.pointer (some ⟨sr,0,none⟩),lv,.int .i64 d] w (jW sr w (rdB d levels left l))
theorem encKs_append (a b:List Ty):qL (a++b)=qL a++qL b:=by
 induction a with
 | nil=>rfl
 | cons t ts ih=>simp [qL,ih]
theorem srcSl_but {F:Nat->Prop} {m:Nat->Prop} {w w':World} {e:TypeId} {sz n:Nat} {cs:List DV} {v:Value} {news:List Value} (hb:But m w w') (hF:∀ b,F b->¬ m b) (h:Rep F w (.sl e sz n cs) v) (hs:zR sz v n news w):zR sz v n news w':=by
 rw [qk] at h
 obtain ⟨hl,a,cap,rfl,hn,hz,h⟩:=h
 obtain ⟨h1,h2,h3⟩:=hs
 refine ⟨h1,h2,?_⟩
 rcases h with rfl | ⟨b,o,c,fr,rfl,cL,hc,hr⟩
 ·have:news=[]:=List.eq_nil_of_length_eq_zero (by simpa using h1)
  subst this
  rcases h3 with ⟨a',c',e',_⟩ | h3
  ·exact .inl ⟨a',c',e',by simp⟩
  ·exact .inr h3
 ·rcases h3 with ⟨a',c',e',h3⟩ | ⟨h3,_⟩
  ·simp at e'
   obtain ⟨e1,e2⟩:=e'
   subst e1
   refine .inl ⟨_,cap,rfl,fun j u hj=>?_⟩
   have:=h3 j u hj
   rw [hb.cell (bW w _ this) ?_]
   ·exact this
   ·unfold Addr.add;split <;> exact hF b cL
  ·simp at h3
theorem part_pre {F:Nat->Prop} {sr:Nat} {left:Int} {levels more:List Ty} {r1:Bs} {xs1 xs2:List Value} {ac:Option Addr} {kc:Nat} {w w1 wx wc:World} (hg:qr w) (hn:NotG sr) (A5:sr<w.heap.size)
 (bE:But (fun x=>x=sr) w w1) (cD:kN sr [.int .i64 left] 158 r1 w1)
 (hF:∀ b,F b->b≠sr) (G1:zq F w1 (qL levels) xs1) (G2:zq F w1 (qL more) xs2)
 (hx:Below w1.heap.size w1 wx) (hoc:Own wc 54 1 (.slice ac (levels.length+more.length) kc) (levels.length+more.length) (xs1++xs2))
 (nh:Below wx.heap.size wx wc) (hfc:∀ g,(Value.slice ac (levels.length+more.length) kc).ownBlock=some g->wx.heap.size<=g) :
 Below w1.heap.size w1 wc/\qr wc/\kN sr [.int .i64 left] 158 r1 wc /\
  Rep (fun b=>b≠sr) wc (.sl 54 1 (levels++more).length (qL (levels++more))) (.slice ac (levels.length+more.length) kc):=by
 have z1:=bE.size
 have hb:Below w1.heap.size w1 wc:=zzT hx nh
 refine ⟨hb,(hg.but bE fun i e=>by subst e;exact hn).below hb,(hb.block sr (by omega)).trans cD,?_⟩
 rw [List.length_append,encKs_append]
 refine hoc.rep (fun g h=>?_) (zq.append (G1.below hb hF) (G2.below hb hF))
 have:=hfc g h;have:=hx.size;omega
set_option maxRecDepth 100000 in
theorem gR (d:Nat) (ih:yE d) (sr left:Nat) (levels more:List Ty) (l:Bs) (lv mv:Value) (F:Nat->Prop) (w:World) (b1 b2 b3:Nat) (hg:qr w) (hn:NotG sr)
 (hs:kN sr [.int .i64 left] 158 l w) (hl:left<=1000) (hr:Lim l.length) (hh:k8 d (levels++more)) (hd:d<=1000)
 (dy:Rep F w (.sl 54 1 levels.length (qL levels)) lv) (fg:Rep F w (.sl 54 1 more.length (qL more)) mv) (hF:∀ b,F b->b≠sr)
 (c1:w.cell? ⟨b1,0,none⟩=some (.pointer (some ⟨sr,0,none⟩))) (c2:w.cell? ⟨b2,0,none⟩=some lv) (c3:w.cell? ⟨b3,0,none⟩=some (.int .i64 ((d:Int)+1)))
 (n1:b1≠sr) (n2:b2≠sr) (n3:b3≠sr) :
 Calls Tryz.prog 132 #[mv,.pointer (some ⟨b1,0,none⟩),.pointer (some ⟨b2,0,none⟩),.pointer (some ⟨b3,0,none⟩)] w (jW sr w (qV (rdB d) (levels++more) left l)):=by
 have IH:=bU ih;clear ih
 have HF:=bU hF;clear hF
 have l1:=bW w _ c1
 have l2:=bW w _ c2
 have l3:=bW w _ c3
 go_enter Tryz.func132,Tryz.ntmps132
 go_wp2_with fail
 rcases za [32] l with h1 | ⟨r1,h1⟩
 ·refine (uP hs h1).mono ?_
  rintro en w1 ⟨rfl,bE,cD⟩
  go_wp2_with fail
  go_ret
  exact jW.no (by simp [qV,h1.out]) bE cD
 ·refine (jb hs h1).mono ?_
  rintro en w1 ⟨rfl,bE,cD⟩
  have d1:w1.cell? ⟨b1,0,none⟩=some (.pointer (some ⟨sr,0,none⟩)):=by rw [bE.cell l1 n1];exact c1
  have d2:w1.cell? ⟨b2,0,none⟩=some lv:=by rw [bE.cell l2 n2];exact c2
  have d3:w1.cell? ⟨b3,0,none⟩=some (.int .i64 ((d:Int)+1)):=by rw [bE.cell l3 n3];exact c3
  obtain ⟨xs1,ft,g1⟩:=zR.ofRep dy (vm _)
  obtain ⟨xs2,eP,g2⟩:=zR.ofRep fg (vm _)
  have lim:levels.length+more.length<=10000:=by have:=hh.2;simp at this;omega
  have A5:=uB hs
  have z1:=bE.size
  have hF':=HF.out
  have G1:=bU (zq.but bE (fun b hb=>⟨HF.out b hb,hb⟩) ft)
  have G2:=bU (zq.but bE (fun b hb=>⟨HF.out b hb,hb⟩) eP)
  have W1:zR 1 lv levels.length xs1 w1:=srcSl_but bE hF' dy g1
  have W2:zR 1 mv more.length xs2 w1:=srcSl_but bE hF' fg g2
  clear hF' ft eP g1 g2 c1 c2 c3
  obtain ⟨a1,k1,rfl⟩:=W1.slice
  obtain ⟨a2,k2,rfl⟩:=W2.slice
  have l1':b1<w1.heap.size:=by omega
  have l2':b2<w1.heap.size:=by omega
  have l3':b3<w1.heap.size:=by omega
  go_wp2_with fail
  have HW:=bU (IntWalk.i64_in (d:Int) (by omega))
  go_region_held3 (fun w'=>w'.cell? ⟨b1,0,none⟩=some (.pointer (some ⟨sr,0,none⟩))/\w'.cell? ⟨b2,0,none⟩=some (.slice a1 levels.length k1)/\w'.cell? ⟨b3,0,none⟩=some (.int .i64 ((d:Int)+1)))
   (first
    | exact ⟨(nF.cell l1' n1).trans d1,(nF.cell l2' n2).trans d2,(nF.cell l3' n3).trans d3⟩
    | exact ⟨(hbb.cell l1').trans d1,(hbb.cell l2').trans d2,(hbb.cell l3').trans d3⟩
    | go_keep)
   (first
    | (go_at_call 133;refine (concatK_any w1.heap.size levels.length more.length (.slice a1 levels.length k1) (.slice a2 more.length k2) xs1 xs2 _ (by simp) (by simp) (W1.keep fun _ _ h=>by simpa using zG h) (W2.keep fun _ _ h=>by simpa using zG h) (show _<=_ by omega) (show _<=_ by omega) (show _<=_ by omega)).mono ?_;rintro en wc ⟨ac,kc,rfl,hoc,nh,hfc⟩;obtain ⟨hbb,aE,iV,hrc⟩:=part_pre hg hn A5 bE cD HF.out G1.out G2.out (((bP w1.heap.size w1).alloc (bX _) _).drew) hoc nh hfc)
    | (go_at_call 98
       rw [HW.out]
       refine (IH.out sr left (levels++more) r1 _ (fun b=>b≠sr) wc aE hn iV hl (hr.mono h1.le) hh hrc (fun b h=>h)).mono ?_
       rintro en wf ⟨v,r',left',rfl,hbf,mL,hnf,hyf⟩;have nF:=(But.ofBelow (m:=fun x=>x=sr) hbb).trans hbf))
  go_wp2_with fail
  go_ret
  refine ⟨v,r',left',rfl,bE.trans nF,mL,fun h=>hnf ?_,fun b rest br h=>?_⟩
  ·simpa [qV,h1.out] using h
  ·obtain ⟨e1,e2,e3⟩:=hyf b rest br (by simpa [qV,h1.out] using h)
   exact ⟨e1,e2,(Rep.keep fun b o h ho=>⟨by have:=h;have:=hbb.size;omega,ho⟩).1 _ _ e3⟩
theorem kN.cell1 {sc:Nat} {c:List Value} {e:TypeId} {r:Bs} {u:Value} {w:World} (h:kN sc (u::c) e r w):w.cell? ⟨sc,1,none⟩=some u:=by
 simp [World.cell?,kN] at *;simp [h]
theorem kN.put1 {sc:Nat} {c:List Value} {e:TypeId} {r:Bs} {u u':Value} {w:World} (h:kN sc (u::c) e r w):kN sc (u'::c) e r (w.setCell ⟨sc,1,none⟩ u'):=by
 unfold kN at *
 have bA:=zZ h
 have h':w.heap[sc]=.cells (str r::u::c).toArray e (0,0):=by simpa [Array.getElem?_eq_getElem bA] using h
 show (w.heap.modify sc _)[sc]? = _
 rw [Array.getElem?_eq_getElem (by simpa using bA),Array.getElem_modify_self,h']
 simp
def pY (B sr:Nat) (lv:Value) (d:Nat) (w:World):Prop :=
 w.cell? ⟨B,0,none⟩=some (.pointer (some ⟨sr,0,none⟩))/\w.cell? ⟨B+1,0,none⟩=some lv/\w.cell? ⟨B+1+1,0,none⟩=some (.int .i64 (d:Int))
theorem pY.but {B sr:Nat} {lv:Value} {d:Nat} {m:Nat->Prop} {w w':World} (h:pY B sr lv d w) (hb:But m w w') (hm:∀ i,m i->i≠B/\i≠B+1/\i≠B+1+1):pY B sr lv d w':=by
 obtain ⟨h1,h2,h3⟩:=h
 refine ⟨?_,?_,?_⟩
 ·rw [hb.cell (bW w _ h1) (fun e=>(hm _ e).1 rfl)];exact h1
 ·rw [hb.cell (bW w _ h2) (fun e=>(hm _ e).2.1 rfl)];exact h2
 ·rw [hb.cell (bW w _ h3) (fun e=>(hm _ e).2.2 rfl)];exact h3
def jo (ob v:Nat) (slv y n:Value) (w:World):Prop:=w.heap[ob]? = some (.cells #[str [],.int .i64 v,slv,y,n] 105 (0,0))
theorem jo.cells {ob v:Nat} {slv y n:Value} {w:World} (h:jo ob v slv y n w):w.cell? ⟨ob,2,none⟩=some slv/\w.cell? ⟨ob,3,none⟩=some y/\w.cell? ⟨ob,4,none⟩=some n/\ob<w.heap.size/\(∀ o,w.frozen? ⟨ob,o,none⟩=false):=by
 have hl:=zZ h
 unfold jo at h
 exact ⟨by simp [World.cell?,h],by simp [World.cell?,h],by simp [World.cell?,h],hl,fun o=>by simp [World.frozen?,h]⟩
theorem kr {w:World} {b o:Nat} {c:Array Value} {e:TypeId} {u:Value} (h:w.heap[b]? = some (.cells c e (0,0))):(w.setCell ⟨b,o,none⟩ u).heap[b]? = some (.cells (c.setIfInBounds o u) e (0,0)):=by
 have bA:=zZ h
 have h':w.heap[b]=.cells c e (0,0):=by simpa [Array.getElem?_eq_getElem bA] using h
 show (w.heap.modify b _)[b]? = _
 rw [Array.getElem?_eq_getElem (by simpa using bA),Array.getElem_modify_self,h']
 simp
theorem jo.put2 {ob v:Nat} {slv y n u:Value} {w:World} (h:jo ob v slv y n w):jo ob v u y n (w.setCell ⟨ob,2,none⟩ u):=by
 unfold jo;rw [kr h];rfl
theorem jo.put3 {ob v:Nat} {slv y n u:Value} {w:World} (h:jo ob v slv y n w):jo ob v slv u n (w.setCell ⟨ob,3,none⟩ u):=by
 unfold jo;rw [kr h];rfl
theorem jo.put4 {ob v:Nat} {slv y n u:Value} {w:World} (h:jo ob v slv y n w):jo ob v slv y u (w.setCell ⟨ob,4,none⟩ u):=by
 unfold jo;rw [kr h];rfl
def wK (sr B ob Z v d:Nat) (lv:Value) (levels ts:List Ty) (n_:Nat) (r0:Bs) (w:World) (rd:Rd) (k:Nat) (wr:World):Prop :=
 ∃ bs lk leftk slv vs,zf rd (kG levels (ts.take k)) n_ r0=some (bs,lk,leftk)/\But (fun x=>x=sr) w wr/\kN sr [.int .i64 (leftk:Nat)] 158 lk wr /\
   jo ob v slv (.pointer none) (.pointer none) wr/\Own wr 55 1 slv k vs/\(∀ g,slv.ownBlock=some g->Z<=g)/\zq (fun b=>Z<=b/\slv.ownBlock≠some b) wr (uK bs) vs/\pY B sr lv (d+1) wr/\Z<=wr.heap.size
theorem encBs_append (a b:List Bd):uK (a++b)=uK a++uK b:=by
 induction a with
 | nil=>rfl
 | cons t ts ih=>simp [uK,ih]
theorem Tryz.infoB:(Tryz.prog.info? 55).map (fun i=>(i.zero,i.size,i.bytes))=some (some (.pointer none),1,8):=by kernel_rfl
theorem gj {sr left:Nat} {x:UInt8} {r:Bs} {w w2:World} {o:Option (Bd×Bs×Nat)} {u:Value} (hw:u=str [x]) (hm:o=some (.leaf x,r,left)) (hb:But (fun x=>x=sr) w w2) (hs:kN sr [.int .i64 (left:Nat)] 158 r w2) :
 jW sr w o (.returned (.pointer (some ⟨w2.heap.size,0,none⟩))) (w2.alloc (.cells #[u,.int .i64 0,.slice none 0 0,.pointer none,.pointer none] 105)):=by
 refine jW.yes hm (hb.alloc _) (hs.alloc _) ?_
 rw [qm,vV]
 refine ⟨_,_,rfl,hb.size,zS _ _,?_⟩
 subst hw
 refine zP.2 ⟨_,_,rfl,zo.2 rfl,zP.2 ⟨_,_,rfl,zo.2 rfl,zP.2 ⟨_,_,rfl,?_,zP.2 ⟨_,_,rfl,zo.2 rfl,zP.2 ⟨_,_,rfl,zo.2 rfl,zd.2 rfl⟩⟩⟩⟩⟩
 exact qk.2 ⟨rfl,none,0,rfl,bX _,fun _=>rfl,.inl rfl⟩
theorem k8.next {d:Nat} {levels:List Ty} {v:Nat} {t a:Ty} (h:k8 (d+1) levels) (hv:levels[v]? = some t) (ha:a∈t.args):k8 d (levels++a.args):=by
 have ht:=h.1 t (List.mem_of_getElem? hv)
 have sG:∀ ts:List Ty,∀ a∈ts,1+zW a<=zj ts:=by
  intro ts
  induction ts with
  | nil=>simp
  | cons x xs ih =>
    intro a ha
    rcases List.mem_cons.1 ha with rfl | ha
    ·simp [zj]
    ·have:=ih a ha;simp [zj];omega
 have bI:∀ ts:List Ty,ts.length<=zj ts:=by
  intro ts
  induction ts with
  | nil=>simp
  | cons x xs ih=>simp [zj];omega
 have h1:=sG _ a ha
 have h2:=qC t
 have h3:=qC a
 refine ⟨fun x hx=>?_,?_⟩
 ·rcases List.mem_append.1 hx with hx | hx
  ·exact h.1 x hx
  ·have:=sG _ x hx;omega
 ·have:=bI a.args;have:=h.2;simp;omega
theorem k8.same {d:Nat} {levels:List Ty} (h:k8 (d+1) levels):k8 d (levels++[]):=by
 refine ⟨fun x hx=>h.1 x (by simpa using hx),?_⟩
 have:=h.2;simp;omega
theorem wK.next {sr B ob Z v d:Nat} {lv:Value} {levels ts:List Ty} {n_:Nat} {r0:Bs} {w:World} {rd:Rd} {k:Nat} {wr w1 w2:World} {t:Ty} {bs:List Bd} {lk:Bs} {leftk:Nat} {slv:Value} {vs:List Value}
 {b:Bd} {rest:Bs} {br:Nat} {vb:Value} {o:Obj} {a':Option Addr} {c':Nat}
 (ht:ts[k]? = some t) (hp:zf rd (kG levels (ts.take k)) n_ r0=some (bs,lk,leftk)) (hb:But (fun x=>x=sr) w wr)
 (ry:jo ob v slv (.pointer none) (.pointer none) wr) (hZ:∀ g,slv.ownBlock=some g->Z<=g) (b5:Own wr 55 1 slv k vs) (hr:zq (fun b=>Z<=b/\slv.ownBlock≠some b) wr (uK bs) vs) (hx:pY B sr lv (d+1) wr)
 (hz:Z<=wr.heap.size) (hq:qV rd (levels++t.args) leftk lk=some (b,rest,br))
 (bE:But (fun x=>x=sr) wr w1) (cD:kN sr [.int .i64 (br:Nat)] 158 rest w1) (hv:Rep (wr.heap.size<=·) w1 (qm b) vb)
 (si:Own w2 55 1 (.slice a' (k+1) c') (k+1) (vs++[vb])) (bN:But (fun b=>slv.ownBlock=some b) (w1.alloc o) w2) (hg:∀ g,(Value.slice a' (k+1) c').ownBlock=some g->slv.ownBlock=some g\/g=(w1.alloc o).heap.size)
 (A5:sr<w.heap.size) (hB:w.heap.size<=B) (lH:B+1+1<ob) (hobZ:ob<Z) :
 wK sr B ob Z v d lv levels ts n_ r0 w rd (k+1) (w2.setCell ⟨ob,2,none⟩ (.slice a' (k+1) c')):=by
 have z1:=bE.size;have z2:=bN.size;have zw:=hb.size
 rw [zQ] at hg z2
 have bA:∀ g,slv.ownBlock=some g->g<wr.heap.size:=fun g h=>b5.lt h
 have hnsr:∀ g,slv.ownBlock=some g->Z<=g:=hZ
 have keep:∀ i x,w1.heap[i]? = some x->slv.ownBlock≠some i->i≠ob->(w2.setCell ⟨ob,2,none⟩ (.slice a' (k+1) c')).heap[i]? = some x:=by
  intro i x hi bm ho
  rw [bG _ _ _ _ (by simpa using ho),bN.block i (by rw [zQ];have:=zZ hi;omega) bm]
  exact zD hi
 have CQ:jo ob v slv (.pointer none) (.pointer none) w1:=(bE.block ob (zZ ry) (by omega)).trans ry
 have hnb2:jo ob v slv (.pointer none) (.pointer none) w2:=by
  unfold jo;rw [bN.block ob (by rw [zQ];have:=zZ CQ;omega) (fun e=>by have:=hZ ob e;omega)]
  exact zD CQ
 have ft:=hx.but bE (fun i e=>by subst e;omega)
 refine ⟨bs++[b],rest,br,_,vs++[vb],?_,?_,?_,hnb2.put2,?_,?_,?_,?_,?_⟩
 ·rw [gh ht hp,hq];rfl
 ·refine ((hb.trans bE).trans' ((But.refl (fun b=>slv.ownBlock=some b) w1).alloc o |>.trans bN) fun i hi e=>?_).setCell (p:=⟨ob,2,none⟩) (.inr (by simp;omega)) _
  have:=hZ i e;omega
 ·exact keep sr _ cD (fun e=>by have:=hZ sr e;omega) (by omega)
 ·refine si.keep fun g x cb ei=>?_
  rw [bG _ _ _ _ (by
   rcases hg g cb with h | h
   ·have:=hZ g h;simp;omega
   ·simp;omega)]
  exact ei
 ·intro g h
  rcases hg g h with h | h
  ·exact hZ g h
  ·omega
 ·rw [encBs_append]
  refine zq.append ?_ (zq.one ?_)
  ·refine (Rep.keep fun i x hi ei=>⟨⟨hi.1,fun e=>?_⟩,?_⟩).2 _ _ hr
   ·have bm:i≠sr:=by omega
    exact keep i x (by rw [bE.block i (zZ ei) bm];exact ei) hi.2 (by omega)
   ·rcases hg i e with h | h
    ·exact hi.2 h
    ·have:=zZ ei;omega
  ·refine (Rep.keep fun i x hi ei=>⟨⟨by have:=hi;omega,fun e=>?_⟩,?_⟩).1 _ _ hv
   ·exact keep i x ei (fun e=>by have:=bA i e;have:=hi;omega) (by have:=hi;omega)
   ·rcases hg i e with h | h
    ·have:=bA i h;have:=hi;omega
    ·have:=zZ ei;omega
 ·obtain ⟨y1,y2,y3⟩:=ft
  have ck:∀ i u,w1.cell? ⟨i,0,none⟩=some u->slv.ownBlock≠some i->i≠ob->(w2.setCell ⟨ob,2,none⟩ (.slice a' (k+1) c')).cell? ⟨i,0,none⟩=some u:=by
   intro i u hi bm ho
   rw [World.cell?_of_block (w:=w1) (a:=⟨i,0,none⟩) ?_];exact hi
   have hl:=bW w1 _ hi
   obtain ⟨x,ei⟩:∃ x,w1.heap[i]? = some x:=⟨w1.heap[i],by simp at hl;simp [hl]⟩
   show (w2.setCell ⟨ob,2,none⟩ (.slice a' (k+1) c')).heap[i]? = w1.heap[i]?
   rw [keep i x ei bm ho,ei]
  exact ⟨ck _ _ y1 (fun e=>by have:=hZ _ e;omega) (by omega),ck _ _ y2 (fun e=>by have:=hZ _ e;omega) (by omega),ck _ _ y3 (fun e=>by have:=hZ _ e;omega) (by omega)⟩
 ·simp only [World.setCell];simp;omega
theorem body_ask (d:Nat) (hd:d+1<=1000) (ih:yE d) (sr left:Nat) (levels:List Ty) (l:Bs) (lv:Value) (F:Nat->Prop) (w:World) (hg:qr w) (hn:NotG sr)
 (hs:kN sr [.int .i64 ((left+1:Nat):Int)] 158 l w) (hl:left+1<=1000) (hr:Lim l.length) (hh:k8 (d+1) levels)
 (dy:Rep F w (.sl 54 1 levels.length (qL levels)) lv) (hF:∀ b,F b->b≠sr) (r1:Bs) (v:Nat) (t:Ty) (h1:Cut [40] l r1) (rx:lvl (zk r1) levels.length=some v) (ht:levels[v]? = some t) :
 Calls Tryz.prog 98 #[.pointer (some ⟨sr,0,none⟩),lv,.int .i64 ((d:Int)+1)] w (jW sr w (rdB (d+1) levels (left+1) l)):=by
 have HM:=bU (xS (d+1) levels left h1.out)
 have hm:rdB (d+1) levels (left+1) l=gH (rdB d) levels v t left (zN r1):=by rw [HM.out,rx];simp only [ht]
 have HM:=bU hm;clear hm
 rw [rdAsk_eq] at HM
 have IH:=bU ih;clear ih
 obtain ⟨mS,b4,rg⟩:=lvl_lt rx
 have rv:=bU b4;have o_:=bU rg;have hlvl':=bU rx;have HT:=bU ht
 have c1:=hs.cell1
 have f1:=hs.free 1
 have lsr:=uB hs
 have lsr1:sr<w.heap.size+1:=by omega
 have lsr2:sr<w.heap.size+1+1:=by omega
 obtain ⟨a0,k0,elv,_,_,hat⟩:=zO dy
 obtain ⟨bl,ol,u,dv,ea,hFl,_,iA,aM,mI⟩:=hat v mS
 rw [xc,ht] at iA
 simp only [Option.map_some,Option.some.injEq] at iA
 subst iA;subst ea;subst elv
 obtain ⟨bt,st,eu,hFt,DA,dB⟩:=zc mI
 subst eu
 obtain ⟨sa,ks,est,hks,_,b8⟩:=zO dB
 subst est
 have Dz:w.cell? ⟨bt,0,none⟩=some (.slice sa t.args.length ks):=by simp [World.cell?,DA]
 have nl:=hF bl hFl
 have nt:=hF bt hFt
 have HF:=bU hF;have aZ:=bU b8
 have CL:=bU aM;have CT:=bU Dz
 clear b4 rg rx ht hat mI DA dB hF b8 aM Dz
 have bI:levels.length<=10000:=by have:=hh.2;omega
 have A4:t.args.length<=15:=by
  have h1:=hh.1 t (List.mem_of_getElem? HT.out)
  have h2:=qC t
  have bI:∀ ts:List Ty,ts.length<=zj ts:=by
   intro ts
   induction ts with
   | nil=>simp
   | cons x xs ih=>simp [zj];omega
  have:=bI t.args;omega
 go_enter Tryz.func98,Tryz.ntmps98
 go_wp2_with fail
 obtain ⟨W0,ep⟩:=zzM (((((w.setCell ⟨sr,1,none⟩ (.int .i64 left)).alloc (.cells #[.pointer (some ⟨sr,0,none⟩)] 156)).alloc (.cells #[.slice (some ⟨bl,ol,none⟩) levels.length k0] 86)).alloc (.cells #[.int .i64 ((d:Int)+1)] 3)))
 rw [<- ep]
 have d9:But (fun x=>x=sr) w W0:=by subst ep;exact ((((But.refl _ _).setS 1 _).alloc _).alloc _).alloc _
 have c_:kN sr [.int .i64 left] 158 l W0:=by subst ep;exact ((hs.put1).alloc _).alloc _ |>.alloc _
 have aU:pY w.heap.size sr (.slice (some ⟨bl,ol,none⟩) levels.length k0) (d+1) W0:=by subst ep;refine ⟨?_,?_,?_⟩ <;> go_simp
 have z0:W0.heap.size=w.heap.size+3:=by subst ep;simp
 clear ep c1 f1
 refine (jb c_ h1).mono ?_
 rintro en w1 ⟨rfl,bE,cD⟩
 have ft:=aU.but bE (fun i e=>by subst e;omega)
 have hb:=d9.trans bE
 have z1:=bE.size
 clear d9 bE c_ aU
 obtain ⟨x1,x2,x3⟩:=id ft
 go_wp2_with fail
 refine (px _ _ _ _ _ cD (hr.mono h1.le)).mono ?_
 rintro en w2 ⟨rfl,bN,dC⟩
 have dV:=hr.mono h1.le
 have i9:=dV.mono (show (zk r1).length<=r1.length by have:=word_le r1;omega)
 have eP:=ft.but bN (fun i e=>by subst e;omega)
 have cL:=hb.trans bN
 have z2:=bN.size
 have mt:=hg.but cL (fun i e=>by subst e;exact hn)
 clear x1 x2 x3 hb bN cD ft
 go_wp2_with fail
 refine (atoi_ok _ _ i9 (v:Int) rv.out).mono ?_
 rintro en w3 ⟨rfl,bp⟩
 have z3:=bp.size
 have mr:=mt.below bp
 have fN:=(bp.block sr (by omega)).trans dC
 have i8:=eP.but (But.ofBelow (m:=fun _=>False) bp) (fun i e=>e.elim)
 have hb:=cL.trans (But.ofBelow bp)
 clear cL bp dC eP mt
 go_wp2_with fail
 refine (itoa_of rv.out w3 mr).mono ?_
 rintro en w4 ⟨rfl,cV⟩
 have z4:=cV.size
 have f7:=(cV.block sr (by omega)).trans fN
 have Dm:=mr.below cV
 have i7:=i8.but (But.ofBelow (m:=fun _=>False) cV) (fun i e=>e.elim)
 obtain ⟨x1,x2,x3⟩:=id i7
 have cL:=hb.trans (But.ofBelow cV)
 have hq:(Lib.itoa (v:Int) == zk r1)=true:=by rw [beq_iff_eq];exact o_.out
 have nS:decide ((v:Int)<0)=false:=by rw [decide_eq_false_iff_not];omega
 have mT:decide (levels.length<=v)=false:=by rw [decide_eq_false_iff_not];omega
 have nw:(((d:Int)+1) == 0)=false:=by rw [beq_eq_false_iff_ne];omega
 have s1:w.heap.size+1<w4.heap.size:=by omega
 have s2:w.heap.size<w4.heap.size:=by omega
 have s3:w.heap.size+1+1<w4.heap.size:=by omega
 have d1:w4.cell? ⟨bl,ol+v,none⟩=some (.pointer (some ⟨bt,0,none⟩)):=by rw [cL.cell (bW w _ CL.out) nl];exact CL.out
 have d2:w4.cell? ⟨bt,0,none⟩=some (.slice sa t.args.length ks):=by rw [cL.cell (bW w _ CT.out) nt];exact CT.out
 have d3:=bW w4 _ d1
 have d4:=bW w4 _ d2
 clear hb cV fN i8 mr
 go_wp2_with fail
 have de:wK sr w.heap.size w4.heap.size (w4.heap.size+1) v d (.slice (some ⟨bl,ol,none⟩) levels.length k0) levels t.args left (zN r1) w (rdB d) 0
  (w4.alloc (.cells #[.string ⟨#[]⟩,.int .i64 v,.slice none 0 0,.pointer none,.pointer none] 105)):=by
  refine ⟨[],zN r1,left,.slice none 0 0,[],by simp [kG,zf],cL.alloc _,kN.alloc f7 _,zS _ _,World.ownsRow_nil _ _ _ _,fun g h=>by simp [Value.ownBlock] at h,zd.2 rfl,i7.but ((But.refl (fun _=>False) _).alloc _) (fun i e=>e.elim),by simp⟩
 have hz4:w.heap.size+1+1<w4.heap.size:=s3
 clear x1 x2 x3 d1 d2 d3 d4 i7 f7 cL Dm
 generalize hZ:w4.heap.size+1=Z at de
 generalize hO:w4.heap.size=ob at *
 have HZ:=bU hZ;clear hZ
 have HO:=bU hO;clear hO
 go_loopw [93] (fun i wr=>∃ k:Nat,k<=t.args.length/\i=.int .i64 k/\wK sr w.heap.size ob Z v d (.slice (some ⟨bl,ol,none⟩) levels.length k0) levels t.args left (zN r1) w (rdB d) k wr)
  (fun i _=>t.args.length-(intOf i).toNat)
 case atStart=>exact ⟨0,Nat.zero_le _,rfl,de⟩
 case round =>
  clear de
  rename_i wr
  obtain ⟨k,hk,rfl,hrel⟩:=hrel
  obtain ⟨bs,lk,leftk,slv,vs,hp,hb,oD,ry,b5,hZb,sY,eo,rR⟩:=hrel
  have hple:=uC (gG d) _ hp
  have Df:leftk<=1000:=by omega
  have iQ:=vz r1
  have tV:Lim lk.length:=hr.mono (by have:=h1.le;omega)
  have hgk:qr wr:=hg.but hb (fun i e=>by subst e;exact hn)
  have oh:Rep F wr (.sl 54 1 levels.length (qL levels)) (.slice (some ⟨bl,ol,none⟩) levels.length k0):=Rep.but hb (fun b hb=>⟨HF.out b hb,hb⟩) dy
  have A7:=bU hp;have l5:=bU hZb;clear hp hZb hple
  by_cases bA:k<t.args.length
  ·obtain ⟨ba,oa,uk,dk,esa,hFa,_,lL,iL,sf⟩:=aZ.out k bA
   subst esa
   rw [xc,Option.map_eq_some_iff] at lL
   obtain ⟨tk,fl,rfl⟩:=lL
   obtain ⟨bk,sk,euk,hFk,DC,oB⟩:=zc sf
   subst euk
   obtain ⟨ask,ksk,esk⟩:∃ a c,sk=.slice a tk.args.length c:=by obtain ⟨a,c,e,_⟩:=zO oB;exact ⟨a,c,e⟩
   subst esk
   have e1:wr.cell? ⟨ba,oa+k,none⟩=some (.pointer (some ⟨bk,0,none⟩)):=by rw [hb.cell (bW w _ iL) (HF.out ba hFa)];exact iL
   have e2:wr.cell? ⟨bk,0,none⟩=some (.slice ask tk.args.length ksk):=by
    have:w.cell? ⟨bk,0,none⟩=some (.slice ask tk.args.length ksk):=by simp [World.cell?,DC]
    rw [hb.cell (bW w _ this) (HF.out bk hFk)];exact this
   have B4:Rep F wr (.sl 54 1 tk.args.length (qL tk.args)) (.slice ask tk.args.length ksk):=Rep.but hb (fun b hb=>⟨HF.out b hb,hb⟩) oB
   have lA:k8 d (levels++tk.args):=hh.next HT.out (List.mem_of_getElem? fl)
   have HTK:=bU fl
   clear fl iL DC sf oB
   obtain ⟨y1,y2,y3⟩:=id eo
   go_wp2_with fail
   refine (gR d IH.out sr leftk levels tk.args lk _ _ F wr w.heap.size (w.heap.size+1) (w.heap.size+1+1) hgk hn oD Df tV lA (by omega) oh B4 HF.out y1 y2 y3 (by omega) (by omega) (by omega)).mono ?_
   rintro en w5 ⟨vb,r',left',rfl,b_,rq,s8,sA⟩
   clear y1 y2 y3 e1 e2
   cases hq:qV (rdB d) (levels++tk.args) leftk lk with
   | none =>
     obtain rfl:=s8 hq
     have HQ:=bU hq;clear hq s8 sA
     go_wp2_with fail
     go_ret
     refine jW.no ?_ (hb.trans b_) rq
     rw [HM.out,hands_none (k+1) (by rw [gh HTK.out A7.out,HQ.out];rfl)];rfl
   | some x =>
     obtain ⟨b,rest,br⟩:=x
     obtain ⟨rfl,rfl,A3⟩:=sA b rest br hq
     have HQ:=bU hq;clear hq s8 sA
     obtain ⟨ab,evb⟩:=qI A3
     subst evb
     have ru:jo ob v slv (.pointer none) (.pointer none) w5:=(b_.block ob (zZ ry) (by have:=HO.out;omega)).trans ry
     obtain ⟨q1,_,_,q4,q5⟩:=ru.cells
     have q6:=q5 2
     have Ck:Own w5 55 1 slv k vs:=b5.keep fun g o cb ho=>by rw [b_.block g (zZ ho) (by have:=l5.out g cb;have:=HZ.out;omega)];exact ho
     clear q5
     go_wp2_with (at_builtin;refine zB rfl _ _ 103 rfl 55 (.pointer none) 1 8 Tryz.underlying103 Tryz.infoB rfl (by decide) slv k vs rfl ?c1 _ 1 [.pointer (some ⟨ab,0,none⟩)] rfl ?c2 ?c3 ?c4 ?_)
     case c1=>exact Ck.keep fun g o cb ho=>zD ho
     case c2=>exact zR.lit rfl
     case c3=>unfold maxLen;omega
     case c4=>omega
     intro a' c' w6 si b9 cb
     have iB:jo ob v slv (.pointer none) (.pointer none) w6:=by
      unfold jo;rw [b9.block ob (by simp;omega) (fun e=>by have:=l5.out ob e;have:=HZ.out;omega)]
      exact zD ru
     have Cz:=wK.next HTK.out A7.out hb ry l5.out b5 sY eo rR HQ.out b_ rq A3 si b9 (fun g h=>(cb g h).imp_right fun e=>e.trans (by simp)) lsr (bX _) hz4 (by have:=HZ.out;omega)
     obtain ⟨p1,_,_,p4,p5⟩:=iB.cells
     have p6:=p5 2
     have HG:=bU cb;clear cb p5
     go_wp2_with fail
     go_roundw
     case rel=>exact ⟨k+1,by omega,by go_num,Cz⟩
     case measure=>simp [intOf];omega
  ·obtain rfl:k=t.args.length:=by omega
   have hp:zf (rdB d) (kG levels t.args) left (zN r1)=some (bs,lk,leftk):=by have:=A7.out;rwa [List.take_length] at this
   have HP:=bU hp;clear hp A7 bA hk
   have ou:∀ W:World,Rep F W (.sl 54 1 ([]:List Ty).length (qL [])) (.slice none 0 0):=fun W=>qk.2 ⟨rfl,none,0,rfl,bX _,fun _=>rfl,.inl rfl⟩
   have hh0:=hh.same
   have EO:=bU ou;clear ou
   obtain ⟨y1,y2,y3⟩:=id eo
   go_wp2_with fail
   refine (gR d IH.out sr leftk levels [] lk _ _ F wr w.heap.size (w.heap.size+1) (w.heap.size+1+1) hgk hn oD Df tV hh0 (by omega) oh (EO.out wr) HF.out y1 y2 y3 (by omega) (by omega) (by omega)).mono ?_
   rw [List.append_nil] at *
   rintro en w5 ⟨vb,r',left',rfl,b_,rq,s8,sA⟩
   clear y1 y2 y3
   have ru:jo ob v slv (.pointer none) (.pointer none) w5:=(b_.block ob (zZ ry) (by have:=HO.out;omega)).trans ry
   have DK:=eo.but b_ (fun i e=>by subst e;omega)
   have cz:=hb.trans b_
   have z5:=b_.size
   have zr:=hb.size
   obtain ⟨_,q2,_,q4,q5⟩:=ru.cells
   have q6:=q5 3;clear q5
   cases hq:qV (rdB d) levels leftk lk with
   | none =>
     obtain rfl:=s8 hq
     have HQ:=bU hq;clear hq s8 sA
     go_wp2_with fail
     go_ret
     refine jW.no ?_ (cz.setCell (p:=⟨ob,3,none⟩) (.inr (by simp;omega)) _) (r:=r') (left:=left') ?_
     ·rw [HM.out];simp only [HP.out,Option.bind_eq_bind,Option.bind_some,HQ.out,Option.bind_none]
     ·unfold kN;rw [bG _ _ _ _ (by simp;omega)];exact rq
   | some x =>
     obtain ⟨by1,rest1,dt⟩:=x
     obtain ⟨rfl,rfl,A3⟩:=sA _ _ _ hq
     have hle5:=v8 (gG d) hq
     have HQ:=bU hq;clear hq s8 sA
     obtain ⟨ab,evb⟩:=qI A3
     subst evb
     have oy:=ru.put3 (u:=.pointer (some ⟨ab,0,none⟩))
     obtain ⟨WA,Bl⟩:=zzM (w5.setCell ⟨ob,3,none⟩ (.pointer (some ⟨ab,0,none⟩)))
     go_wp2_with fail
     rw [<- Bl] at oy ⊢
     have dN:But (fun x=>x=sr) w WA:=by subst Bl;exact cz.setCell (p:=⟨ob,3,none⟩) (.inr (by simp;omega)) _
     have kA:∀ i x,w5.heap[i]? = some x->i≠ob->WA.heap[i]? = some x:=by
      intro i x hx bm;subst Bl;rw [bG _ _ _ _ (by simpa using bm)];exact hx
     have zA:WA.heap.size=w5.heap.size:=by subst Bl;simp [World.setCell]
     have hsA:kN sr [.int .i64 (dt:Nat)] 158 r' WA:=kA _ _ rq (by omega)
     have DI:pY w.heap.size sr (.slice (some ⟨bl,ol,none⟩) levels.length k0) (d+1) WA:=by
      subst Bl
      exact DK.but (m:=fun i=>i=ob) ((But.refl (fun i=>i=ob) w5).setCell (p:=⟨ob,3,none⟩) (.inl rfl) _) (fun i e=>by subst e;omega)
     have hrsA:zq (fun b=>Z<=b/\slv.ownBlock≠some b) WA (uK bs) vs :=
      (Rep.keep fun i x hi hx=>⟨hi,kA i x (by rw [b_.block i (zZ hx) (by have:=HZ.out;omega)];exact hx) (by have:=HZ.out;omega)⟩).2 _ _ sY
     have Cj:Own WA 55 1 slv t.args.length vs:=b5.keep fun g o cb ho=>kA g o (by rw [b_.block g (zZ ho) (by have:=l5.out g cb;have:=HZ.out;omega)];exact ho) (by have:=l5.out g cb;have:=HZ.out;omega)
     have hv5A:Rep (wr.heap.size<=·) WA (qm by1) (.pointer (some ⟨ab,0,none⟩)):=(Rep.keep fun i x hi hx=>⟨hi,kA i x hx (by have:=zZ ry;have:=hi;omega)⟩).1 _ _ A3
     have cQ:qr WA:=hg.but dN (fun i e=>by subst e;exact hn)
     have hlvA:Rep F WA (.sl 54 1 levels.length (qL levels)) (.slice (some ⟨bl,ol,none⟩) levels.length k0):=Rep.but dN (fun b hb=>⟨HF.out b hb,hb⟩) dy
     have KA:=bU kA
     clear Bl kA q2 q4 q6 ru b_ DK rq sY A3 oD eo oh hgk
     obtain ⟨y1,y2,y3⟩:=id DI
     refine (gR d IH.out sr dt levels [] r' _ _ F WA w.heap.size (w.heap.size+1) (w.heap.size+1+1) cQ hn hsA (by omega) (tV.mono (by omega)) (by rw [List.append_nil];exact hh0) (by omega) hlvA (EO.out WA) HF.out y1 y2 y3 (by omega) (by omega) (by omega)).mono ?_
     rw [List.append_nil] at *
     rintro en w6 ⟨vn,r6,BP,rfl,b9,rz,s7,sS⟩
     clear y1 y2 y3
     have iB:jo ob v slv (.pointer (some ⟨ab,0,none⟩)) (.pointer none) w6:=(b9.block ob (zZ oy) (by have:=HO.out;omega)).trans oy
     have hbx6:=DI.but b9 (fun i e=>by subst e;omega)
     obtain ⟨x1,_,_⟩:=id hbx6
     have Bj:=dN.trans b9
     have z6:=b9.size
     obtain ⟨_,_,q3,q4,q5⟩:=iB.cells
     have q6:=q5 4;clear q5
     cases nC:qV (rdB d) levels dt r' with
     | none =>
       obtain rfl:=s7 nC
       have aL:=bU nC;clear nC s7 sS
       go_wp2_with fail
       go_ret
       refine jW.no ?_ (Bj.setCell (p:=⟨ob,4,none⟩) (.inr (by simp;omega)) _) (r:=r6) (left:=BP) ?_
       ·rw [HM.out];simp only [HP.out,Option.bind_eq_bind,Option.bind_some,HQ.out,aL.out,Option.bind_none]
       ·unfold kN;rw [bG _ _ _ _ (by simp;omega)];exact rz
     | some x =>
       obtain ⟨bn,rest2,br⟩:=x
       obtain ⟨rfl,rfl,hv6⟩:=sS _ _ _ nC
       have hle6:=v8 (gG d) nC
       have aL:=bU nC;clear nC s7 sS
       obtain ⟨an,evn⟩:=qI hv6
       subst evn
       have CK:=iB.put4 (u:=.pointer (some ⟨an,0,none⟩))
       have hbD:But (fun x=>x=sr) w (w6.setCell ⟨ob,4,none⟩ (.pointer (some ⟨an,0,none⟩))):=Bj.setCell (p:=⟨ob,4,none⟩) (.inr (by simp;omega)) _
       have hsD:kN sr [.int .i64 (br:Nat)] 158 r6 (w6.setCell ⟨ob,4,none⟩ (.pointer (some ⟨an,0,none⟩))):=by
        unfold kN;rw [bG _ _ _ _ (by simp;omega)];exact rz
       go_wp2_with fail
       rcases za [41] r6 with h7 | ⟨r7,h7⟩
       ·refine (uP hsD h7).mono ?_
        rintro en w7 ⟨rfl,bh,iU⟩
        go_wp2_with fail
        go_ret
        refine jW.no ?_ (hbD.trans bh) iU
        rw [HM.out];simp only [HP.out,Option.bind_eq_bind,Option.bind_some,HQ.out,aL.out,h7.out,Option.bind_none]
       refine (jb hsD h7).mono ?_
       rintro en w7 ⟨rfl,bh,iU⟩
       go_wp2_with fail
       go_ret
       refine jW.yes (b:=.ask v bs by1 bn) (r:=r7) (left:=br) ?_ (hbD.trans bh) iU ?_
       ·rw [HM.out];simp only [HP.out,Option.bind_eq_bind,Option.bind_some,HQ.out,aL.out,h7.out]
       ·have i5:∀ i x,w6.heap[i]? = some x->i≠ob->i≠sr->w7.heap[i]? = some x:=by
         intro i x hx bm Cu
         rw [bh.block i (by have:=zZ hx;simpa [World.setCell] using this) Cu,bG _ _ _ _ (by simpa using bm)];exact hx
        have keepA:∀ i x,WA.heap[i]? = some x->i≠ob->i≠sr->w7.heap[i]? = some x:=fun i x hx bm Cu=>i5 i x (by rw [b9.block i (zZ hx) Cu];exact hx) bm Cu
        have hnb7:jo ob v slv (.pointer (some ⟨ab,0,none⟩)) (.pointer (some ⟨an,0,none⟩)) w7:=(bh.block ob (zZ CK) (by omega)).trans CK
        have hZo:=HZ.out
        have fT:bs.length=t.args.length:=by
         have:=(uC (gG d) _ HP.out).2.2;simpa [kG] using this
        rw [qm,vV]
        refine ⟨ob,_,rfl,by omega,hnb7,?_⟩
        refine zP.2 ⟨_,_,rfl,zo.2 rfl,zP.2 ⟨_,_,rfl,zo.2 rfl,zP.2 ⟨_,_,rfl,?_,zP.2 ⟨_,_,rfl,?_,zP.2 ⟨_,_,rfl,?_,zd.2 rfl⟩⟩⟩⟩⟩
        ·rw [fT]
         refine (Cj.keep fun g o cb ho=>keepA g o ho (by have:=l5.out g cb;omega) (by have:=l5.out g cb;omega)).rep (fun g cb=>by have:=l5.out g cb;omega) ?_
         exact (Rep.keep fun i x hi hx=>⟨by omega,keepA i x hx (by omega) (by omega)⟩).2 _ _ hrsA
        ·exact (Rep.keep fun i x hi hx=>⟨by have:=hi;omega,keepA i x hx (by have:=hi;omega) (by have:=hi;omega)⟩).1 _ _ hv5A
        ·exact (Rep.keep fun i x hi hx=>⟨by have:=hi;omega,i5 i x hx (by have:=hi;omega) (by have:=hi;omega)⟩).1 _ _ hv6
theorem body_step (d:Nat) (hd:d<=1000) (ih:∀ d',d=d'+1->yE d'):yE d:=by
 intro sr left levels l lv F w hg hn hs hl hr hh dy hF
 have IH:=bU ih;clear ih
 have HF:=bU hF;clear hF
 have c1:=hs.cell1
 have f1:=hs.free 1
 have lsr:=uB hs
 have lsr1:sr<w.heap.size+1:=by omega
 have lsr2:sr<w.heap.size+1+1:=by omega
 obtain ⟨a0,k0,elv⟩:∃ a k,lv=.slice a levels.length k:=by obtain ⟨a,k,e,_⟩:=zO dy;exact ⟨a,k,e⟩
 subst elv
 rcases left with _ | left
 ·clear IH
  go_enter Tryz.func98,Tryz.ntmps98
  go_wp2_with fail
  go_ret
  refine jW.no (by unfold rdB;rfl) (((((But.refl _ _).setS 1 _).alloc _).alloc _).alloc _) (((hs.put1).alloc _).alloc _ |>.alloc _)
 by_cases Au:∃ d' r1 v t,d=d'+1/\Cut [40] l r1/\lvl (zk r1) levels.length=some v/\levels[v]? = some t
 ·obtain ⟨d',r1,v,t,rfl,h1,h2,h3⟩:=Au
  exact body_ask d' hd (IH.out d' rfl) sr left levels l _ F w hg hn hs hl hr hh dy HF.out r1 v t h1 h2 h3
 have EV:=bU Au;clear Au IH
 go_enter Tryz.func98,Tryz.ntmps98
 go_wp2_with fail
 obtain ⟨W0,ep⟩:=zzM (((((w.setCell ⟨sr,1,none⟩ (.int .i64 left)).alloc (.cells #[.pointer (some ⟨sr,0,none⟩)] 156)).alloc (.cells #[.slice a0 levels.length k0] 86)).alloc (.cells #[.int .i64 d] 3)))
 rw [<- ep]
 have d9:But (fun x=>x=sr) w W0:=by subst ep;exact ((((But.refl _ _).setS 1 _).alloc _).alloc _).alloc _
 have c_:kN sr [.int .i64 left] 158 l W0:=by subst ep;exact ((hs.put1).alloc _).alloc _ |>.alloc _
 have aU:pY w.heap.size sr (.slice a0 levels.length k0) d W0:=by subst ep;refine ⟨?_,?_,?_⟩ <;> go_simp
 have z0:W0.heap.size=w.heap.size+3:=by subst ep;simp
 have hb0':=d9
 clear ep c1 f1
 have n1:w.heap.size≠sr:=by omega
 have n2:w.heap.size+1≠sr:=by omega
 have n3:w.heap.size+1+1≠sr:=by omega
 rcases za [40] l with h1 | ⟨r1,h1⟩
 ·refine (uP c_ h1).mono ?_
  rintro en w1 ⟨rfl,bE,cD⟩
  obtain ⟨x1,x2,x3⟩:=aU.but bE (fun i e=>by subst e;omega)
  go_wp2_with fail
  refine (px _ _ _ _ _ cD hr).mono ?_
  rintro en w2 ⟨rfl,bN,dC⟩
  have hb:=(d9.trans bE).trans bN
  have hm:rdB d levels (left+1) l=(if zk l=[116] then some (Bd.leaf 116,zN l,left) else if zk l=[102] then some (.leaf 102,zN l,left) else if zk l=[117] then some (.leaf 117,zN l,left) else none):=by
   unfold rdB;simp only [h1.out]
  have HM:=bU hm;clear hm
  go_wp2_with fail
  ·have hw:zk l=[116]:=by assumption
   go_ret
   exact gj (o:=rdB d levels (left+1) l) (x:=116) rfl (by rw [HM.out,if_pos hw]) hb dC
  ·have hw:zk l=[102]:=by assumption
   go_ret
   exact gj (o:=rdB d levels (left+1) l) (x:=102) rfl (by rw [HM.out,if_neg (by rw [hw];decide),if_pos hw]) hb dC
  ·have hw:((!zk l == [116])=true/\(!zk l == [102])=true)/\(!zk l == [117])=true:=by assumption
   go_ret
   simp only [Bool.not_eq_true',beq_eq_false_iff_ne] at hw
   exact jW.no (by rw [HM.out,if_neg hw.1.1,if_neg hw.1.2,if_neg hw.2]) hb dC
  ·have hw:((!zk l == [116])=false\/(!zk l == [102])=false)\/(!zk l == [117])=false:=by assumption
   have oW:¬ zk l=[116]:=by assumption
   have rQ:¬ zk l=[102]:=by assumption
   have hw3:zk l=[117]:=by simpa [oW,rQ] using hw
   go_ret
   exact gj (o:=rdB d levels (left+1) l) (x:=117) (by rw [hw3]) (by rw [HM.out,if_neg oW,if_neg rQ,if_pos hw3]) hb dC
 refine (jb c_ h1).mono ?_
 rintro en w1 ⟨rfl,bE,cD⟩
 have ft:=aU.but bE (fun i e=>by subst e;omega)
 obtain ⟨x1,x2,x3⟩:=ft
 go_wp2_with fail
 refine (px _ _ _ _ _ cD (hr.mono h1.le)).mono ?_
 rintro en w2 ⟨rfl,bN,dC⟩
 have dV:=hr.mono h1.le
 have hb:=(d9.trans bE).trans bN
 have eP:=(aU.but bE (fun i e=>by subst e;omega)).but bN (fun i e=>by subst e;omega)
 clear x1 x2 x3
 have mt:=hg.but hb (fun i e=>by subst e;exact hn)
 have i9:=dV.mono (show (zk r1).length<=r1.length by have:=word_le r1;omega)
 have z2:=hb.size
 have z2':w.heap.size+3<=w2.heap.size:=by have:=bE.size;have:=bN.size;omega
 clear bE bN c_ d9 hb0' aU cD
 have HM:=bU (xS d levels left h1.out)
 go_wp2_with fail
 cases eS:lvl (zk r1) levels.length with
 | none =>
   have HN:rdB d levels (left+1) l=none:=by rw [HM.out,eS]
   rcases lvl_no eS with dU | ⟨v,b4,hv⟩
   ·refine (atoi_no _ _ i9 mt dU).mono ?_
    rintro en w3 ⟨v,t,p,rfl,bp⟩
    have l_:=bU HN;clear HN eS dU
    go_wp2_with fail
    go_ret
    exact jW.no l_.out (hb.trans (But.ofBelow bp)) ((bp.block sr (by omega)).trans dC)
   ·refine (atoi_ok _ _ i9 v b4).mono ?_
    rintro en w3 ⟨rfl,bp⟩
    have l_:=bU HN;clear HN eS
    have mr:=mt.below bp
    have fN:=(bp.block sr (by omega)).trans dC
    have i8:=eP.but (But.ofBelow (m:=fun _=>False) bp) (fun i e=>e.elim)
    have rv:=bU b4;clear b4
    go_wp2_with fail
    refine (itoa_of rv.out w3 mr).mono ?_
    rintro en w4 ⟨rfl,cV⟩
    have z3:=bp.size
    have f7:=(cV.block sr (by omega)).trans fN
    obtain ⟨x1,x2,x3⟩:=i8.but (But.ofBelow (m:=fun _=>False) cV) (fun i e=>e.elim)
    have cL:=(hb.trans (But.ofBelow bp)).trans (But.ofBelow cV)
    rcases hv with hv | ⟨hv,lQ⟩ | ⟨hv,lQ,hv3⟩
    ·have hq:(Lib.itoa v == zk r1)=false:=by rw [beq_eq_false_iff_ne];exact hv
     clear hv
     go_wp2_with fail
     go_ret
     exact jW.no l_.out cL f7
    ·have hq:(Lib.itoa v == zk r1)=true:=by rw [beq_iff_eq];exact hv
     clear hv
     go_wp2_with fail
     go_ret
     exact jW.no l_.out cL f7
    ·have hq:(Lib.itoa v == zk r1)=true:=by rw [beq_iff_eq];exact hv
     clear hv
     go_wp2_with fail
     go_ret
     exact jW.no l_.out cL f7
 | some v =>
   obtain ⟨mS,b4,rg⟩:=lvl_lt eS
   have Dy:d=0:=by
    rcases Nat.eq_zero_or_pos d with h | h
    ·exact h
    ·exact absurd ⟨d-1,r1,v,levels[v],by omega,h1,eS,by simp [mS]⟩ EV.out
   have HD:=bU Dy;clear Dy EV
   refine (atoi_ok _ _ i9 (v:Int) b4).mono ?_
   rintro en w3 ⟨rfl,bp⟩
   have mr:=mt.below bp
   have fN:=(bp.block sr (by omega)).trans dC
   have i8:=eP.but (But.ofBelow (m:=fun _=>False) bp) (fun i e=>e.elim)
   have rv:=bU b4;clear b4
   have rx:=bU eS;clear eS
   have o_:=bU rg;clear rg
   go_wp2_with fail
   refine (itoa_of rv.out w3 mr).mono ?_
   rintro en w4 ⟨rfl,cV⟩
   have z3:=bp.size
   have z4:=cV.size
   have f7:=(cV.block sr (by omega)).trans fN
   have Dm:=mr.below cV
   have i7:=i8.but (But.ofBelow (m:=fun _=>False) cV) (fun i e=>e.elim)
   obtain ⟨x1,x2,x3⟩:=i7
   have cL:=(hb.trans (But.ofBelow bp)).trans (But.ofBelow cV)
   have hq:(Lib.itoa (v:Int) == zk r1)=true:=by rw [beq_iff_eq];exact o_.out
   have bI:levels.length<=10000:=by have:=hh.2;omega
   clear hb bp cV dC eP i8 fN mt mr
   have nw:((d:Int) == 0)=true:=by rw [beq_iff_eq];have:=HD.out;omega
   go_wp2_with fail
   go_ret
   exact jW.no (by rw [HM.out,rx.out];have:=HD.out;subst this;rfl) cL f7
theorem body_any (d:Nat) (hd:d<=1000):yE d:=by
 induction d with
 | zero=>exact body_step 0 hd (fun d' h=>by omega)
 | succ d ih=>exact body_step (d+1) hd (fun d' h=>by obtain rfl:d=d':=by omega
                                                     exact ih (by omega))
def jN (t:Ty) (l:Bs):Option Bd:=match rdB 100 t.args 200 l with
 | some (b,[],_)=>some b
 | _=>none
def RPost {α:Type} (enc:α->DV) (w:World) (o:Option α) (en:Ending) (w':World):Prop :=
 ∃ v,en=.returned v/\Below w.heap.size w w'/\(o=none->v=.pointer none)/\(∀ b,o=some b->Rep (w.heap.size<=·) w' (enc b) v)
theorem handOk_of {t:Ty} (h:zW t<=15):k8 100 t.args:=by
 have h1:=qC t
 have bI:∀ ts:List Ty,ts.length<=zj ts:=by
  intro ts;induction ts with
  | nil=>simp
  | cons x xs ih=>simp [zj];omega
 have sG:∀ ts:List Ty,∀ a∈ts,1+zW a<=zj ts:=by
  intro ts
  induction ts with
  | nil=>simp
  | cons x xs ih =>
    intro a ha
    rcases List.mem_cons.1 ha with rfl | ha
    ·simp [zj]
    ·have:=ih a ha;simp [zj];omega
 refine ⟨fun a ha=>?_,?_⟩
 ·have:=sG _ a ha;omega
 ·have:=bI t.args;omega
theorem wP (F:Nat->Prop) (t:Ty) (l:Bs) (kv:Value) (w:World) (hg:qr w) (hk:Rep F w (jD t) kv) (ht:zW t<=15) (hl:Lim l.length) :
 Calls Tryz.prog 60 #[kv,str l] w (RPost qm w (jN t l)):=by
 obtain ⟨bk,sk,rfl,hFk,hc,hs⟩:=zc hk
 obtain ⟨a,c,e,_⟩:=zO hs
 subst e
 have c1:w.cell? ⟨bk,0,none⟩=some (.slice a t.args.length c):=by simp [World.cell?,hc]
 have lk:=zZ hc
 have HC:=bU hc;clear hc
 go_enter Tryz.func60,Tryz.ntmps60
 go_wp2_with fail
 have c_:kN w.heap.size [.int .i64 (200:Nat)] 158 l (w.alloc (.cells #[str l,.int .i64 200] 158)):=zS _ _
 have iF:Rep (fun b=>b<w.heap.size) (w.alloc (.cells #[str l,.int .i64 200] 158)) (.sl 54 1 t.args.length (qL t.args)) (.slice a t.args.length c) :=
  (Rep.keep fun b o _ ho=>⟨zZ ho,zD ho⟩).1 _ _ hs
 refine (body_any 100 (by omega) w.heap.size 200 t.args l _ _ _ (hg.below ((bP _ _).alloc (bX _) _)) (hg.new (bX _)) c_ (by omega) hl (handOk_of ht) iF (fun b hb=>by have:=hb;omega)).mono ?_
 rintro en w1 ⟨v,r',left',rfl,bE,cD,cS,dW⟩
 have hb:Below w.heap.size w w1:=((bP w.heap.size w).alloc (bX _) _).trans (bE.toBelow (by simp) (fun i hi e=>by omega))
 have fc:=cD.cell
 have hz:w.heap.size<w1.heap.size:=uB cD
 cases hq:rdB 100 t.args 200 l with
 | none =>
   obtain rfl:=cS hq
   have HQ:=bU hq;clear hq cS dW
   go_wp2_with fail
   go_ret
   exact ⟨_,rfl,hb,fun _=>rfl,fun b h=>by simp [jN,HQ.out] at h⟩
 | some x =>
   obtain ⟨b,rest,left⟩:=x
   obtain ⟨rfl,_,hv⟩:=dW _ _ _ hq
   have HQ:=bU hq;clear hq cS dW
   obtain ⟨av,ev⟩:=qI hv
   subst ev
   cases r' with
   | cons x xs =>
     have bm:(!(x::xs).isEmpty)=true:=rfl
     go_wp2_with fail
     go_ret
     exact ⟨_,rfl,hb,fun _=>rfl,fun b h=>by simp [jN,HQ.out] at h⟩
   | nil =>
     go_wp2_with fail
     go_ret
     have HM:jN t l=some b:=by simp [jN,HQ.out]
     refine ⟨_,rfl,hb,fun h=>by simp [HM] at h,fun b' h=>?_⟩
     rw [HM] at h;simp at h;subst h
     exact (Rep.keep fun b o h ho=>⟨by have:=h;simp at this;omega,ho⟩).1 _ _ hv
def xN (s l:Bs):Option (Ty×Bd):=do
 let t<-jG s
 let b<-jN t l
 some (t,b)
def TSPost (w:World) (s l:Bs) (en:Ending) (w':World):Prop :=
 ∃ kv bv,en=.returned (.tuple #[kv,bv])/\Below w.heap.size w w'/\(xN s l=none->bv=.pointer none) /\
   (∀ t b,xN s l=some (t,b)->Rep (w.heap.size<=·) w' (jD t) kv/\Rep (w.heap.size<=·) w' (qm b) bv)
theorem rdKind_le {s:Bs} {t:Ty} (h:jG s=some t):zW t<=15:=by
 unfold jG at h
 split at h
 ·split at h
  ·rename_i bL;simp at h;subst h;exact bL
  ·simp at h
 ·simp at h
theorem xG (s l:Bs) (w:World) (hg:qr w) (hs:Lim s.length) (hl:Lim l.length) :
 Calls Tryz.prog 29 #[str s,str l] w (TSPost w s l):=by
 go_enter Tryz.func29,Tryz.ntmps29
 go_wp2_with fail
 refine (xM s w hs).mono ?_
 rintro en w1 ⟨kv,rfl,bE,cS,dW⟩
 cases hq:jG s with
 | none =>
   obtain rfl:=cS hq
   have HQ:=bU hq;clear hq cS dW
   go_wp2_with fail
   go_ret2
   exact ⟨_,_,rfl,bE,fun _=>rfl,fun t b h=>by simp [xN,HQ.out] at h⟩
 | some t =>
   have hv:=dW _ hq
   have ht:=rdKind_le hq
   have HQ:=bU hq;clear hq cS dW
   obtain ⟨ak,_,ek,_⟩:=zc hv
   subst ek
   go_wp2_with fail
   refine (wP _ t l _ w1 (hg.below bE) hv ht hl).mono ?_
   rintro en w2 ⟨bv,rfl,bN,di,ee⟩
   go_wp2_with fail
   go_ret2
   refine ⟨_,_,rfl,zzT bE bN,fun h=>di ?_,fun t' b h=>?_⟩
   ·cases hr:jN t l with
    | none=>rfl
    | some b=>simp [xN,HQ.out,hr] at h
   ·cases hr:jN t l with
    | none=>simp [xN,HQ.out,hr] at h
    | some b' =>
      simp [xN,HQ.out,hr] at h
      obtain ⟨rfl,rfl⟩:=h
      exact ⟨Rep.below bN (fun _ h=>h) hv,(Rep.keep fun i o hi ho=>⟨by have:=bE.size;have:=hi;omega,ho⟩).1 _ _ (ee _ hr)⟩
theorem encBs_at (ts:List Bd):∀ k:Nat,(uK ts)[k]? = ts[k]?.map qm:=by
 induction ts with
 | nil=>intro k;simp [uK]
 | cons t ts ih=>intro k;cases k <;> simp [uK,ih]
theorem wE {F:Nat->Prop} {w:World} {c:UInt8} {v:Value} (h:Rep F w (qm (.leaf c)) v) :
 ∃ b sl,v=.pointer (some ⟨b,0,none⟩)/\F b/\w.heap[b]? = some (.cells #[str [c],.int .i64 (0:Nat),sl,.pointer none,.pointer none] 105 (0,0))/\Rep F w (.sl 55 1 0 []) sl:=by
 rw [qm,vV] at h
 obtain ⟨b,cs,hv,hb,hc,hr⟩:=h
 simp only [zP,zd,zo] at hr
 obtain ⟨_,_,e1,rfl,_,_,rfl,rfl,sl,_,rfl,h3,_,_,rfl,rfl,_,_,rfl,rfl,rfl⟩:=hr
 have:cs=#[str [c],.int .i64 (0:Nat),sl,.pointer none,.pointer none]:=by apply Array.ext';simpa using e1
 subst this
 exact ⟨b,sl,hv,hb,hc,h3⟩
theorem xl {F:Nat->Prop} {w:World} {v:Nat} {ss:List Bd} {y n:Bd} {p:Value} (h:Rep F w (qm (.ask v ss y n)) p) :
 ∃ b sl yv nv,p=.pointer (some ⟨b,0,none⟩)/\F b/\w.heap[b]? = some (.cells #[str [],.int .i64 v,sl,yv,nv] 105 (0,0)) /\
   Rep F w (.sl 55 1 ss.length (uK ss)) sl/\Rep F w (qm y) yv/\Rep F w (qm n) nv:=by
 rw [qm,vV] at h
 obtain ⟨b,cs,hv,hb,hc,hr⟩:=h
 simp only [zP,zd,zo] at hr
 obtain ⟨_,_,e1,rfl,_,_,rfl,rfl,sl,_,rfl,h3,yv,_,rfl,h4,nv,_,rfl,h5,rfl⟩:=hr
 have:cs=#[str [],.int .i64 v,sl,yv,nv]:=by apply Array.ext';simpa using e1
 subst this
 exact ⟨b,sl,yv,nv,hv,hb,hc,h3,h4,h5⟩
theorem w_ (F:Nat->Prop) (w:World) (c:UInt8) (v:Value) (h:Rep F w (qm (.leaf c)) v) :
 Calls Tryz.prog 61 #[v] w fun en w'=>en=.returned (.bool false)/\w'=w:=by
 obtain ⟨b,sl,rfl,_,hc,_⟩:=wE h
 have c1:w.cell? ⟨b,0,none⟩=some (.string ⟨#[c]⟩):=by simp [World.cell?,hc]
 clear hc h
 go_enter Tryz.func61,Tryz.ntmps61
 go_wp2_with fail
 go_ret
 exact ⟨rfl,rfl⟩
theorem isList_ask (F:Nat->Prop) (w:World) (v:Nat) (ss:List Bd) (y n:Bd) (p:Value) (h:Rep F w (qm (.ask v ss y n)) p) :
 Calls Tryz.prog 61 #[p] w fun en w'=>en=.returned (.bool true)/\w'=w:=by
 obtain ⟨b,sl,yv,nv,rfl,_,hc,_⟩:=xl h
 have c1:w.cell? ⟨b,0,none⟩=some (.string ⟨#[]⟩):=by simp [World.cell?,hc]
 clear hc h
 go_enter Tryz.func61,Tryz.ntmps61
 go_wp2_with fail
 go_ret
 exact ⟨rfl,rfl⟩
mutual
def qZ:Ty->DV
 | .mk ts=>.sl 61 1 ts.length (qc ts)
def qc:List Ty->List DV
 | []=>[]
 | t::ts=>qZ t::qc ts
end
def q_ (L:Nat) (w:World) (o:Option (Ty×Bs)) (en:Ending) (w':World):Prop :=
 ∃ (v:Value) (k:Int) (t:Ty),en=.returned (.tuple #[.agg #[v],.int .i64 k])/\Below w.heap.size w w'/\Rep (w.heap.size<=·) w' (qZ t) v/\(o=none->k = -1/\t=.mk [])/\(∀ t' rest,o=some (t',rest)->k=(L:Int)-rest.length/\t=t')
theorem Tryz.infoS:(Tryz.prog.info? 61).map (fun i=>(i.zero,i.size,i.bytes))=some (some (.agg #[.slice none 0 0]),1,24):=by kernel_rfl
theorem vS (ts:List Ty):∀ k:Nat,(qc ts)[k]? = ts[k]?.map qZ:=by
 induction ts with
 | nil=>intro k;simp [qc]
 | cons t ts ih=>intro k;cases k <;> simp [qc,ih]
theorem encSs_append (a b:List Ty):qc (a++b)=qc a++qc b:=by
 induction a with
 | nil=>rfl
 | cons t ts ih=>simp [qc,ih]
theorem qb (t:Ty):qZ t=.sl 61 1 t.args.length (qc t.args):=by cases t;rw [qZ];rfl
theorem zu {F:Nat->Prop} {w:World} {t:Ty} {v:Value} (h:Rep F w (qZ t) v):∃ a c,v=.slice a t.args.length c:=by
 rw [qb] at h;obtain ⟨a,c,e,_⟩:=zO h;exact ⟨a,c,e⟩
theorem vf {F:Nat->Prop} {w:World} (ts:List Ty):∀ us,zq F w (qc ts) us->∀ u∈us,u.oneCell'=true:=by
 induction ts with
 | nil=>intro us h;rw [qc,zd] at h;subst h;simp
 | cons t ts ih =>
   intro us h u hu
   rw [qc,zP] at h
   obtain ⟨v,vs',rfl,h1,h2⟩:=h
   rcases List.mem_cons.1 hu with rfl | hu
   ·obtain ⟨a,c,rfl⟩:=zu h1;rfl
   ·exact ih _ h2 u hu
theorem wN (F:Nat->Prop) (w:World):Rep F w (qZ (.mk [])) (.slice none 0 0):=by
 rw [qb];exact qk.2 ⟨rfl,none,0,rfl,bX _,fun _=>rfl,.inl rfl⟩
theorem q_.no {L:Nat} {w w':World} {o:Option (Ty×Bs)} (ho:o=none) (hb:Below w.heap.size w w') :
 q_ L w o (.returned (.tuple #[.agg #[.slice none 0 0],.int .i64 (-1)])) w' :=
 ⟨_,_,.mk [],rfl,hb,wN _ _,fun _=>⟨rfl,rfl⟩,fun _ _ h=>by rw [ho] at h;simp at h⟩
theorem q_.yes {L:Nat} {w w':World} {o:Option (Ty×Bs)} {t:Ty} {rest:Bs} {v:Value} {k:Int} (ho:o=some (t,rest)) (hk:k=(L:Int)-rest.length) (hb:Below w.heap.size w w') (hv:Rep (w.heap.size<=·) w' (qZ t) v) :
 q_ L w o (.returned (.tuple #[.agg #[v],.int .i64 k])) w' :=
 ⟨_,_,t,rfl,hb,hv,fun h=>by rw [ho] at h;simp at h,fun _ _ h=>by rw [ho] at h;simp at h;obtain ⟨rfl,rfl⟩:=h;exact ⟨hk,rfl⟩⟩
def hH (l:Bs) (d:Nat):Prop:=∀ (i:Nat) (w:World),i<=l.length->d<=21 ->
    Calls Tryz.prog 100 #[str l,.int .i64 i,.int .i64 d] w (q_ l.length w (rdS (21-d) (l.drop i)))
theorem wn (l:Bs) (hl:Lim l.length) (d:Nat) (ih:d<=20->hH l (d+1)):hH l d:=by
 intro i w hi hd
 have dz:=hl.le
 have IH:=bU ih;clear ih
 by_cases hd20:d<=20
 rotate_left
 ·have h0:Hid (21-d=0):=by show 21-d=0;omega
  go_enter Tryz.func100,Tryz.ntmps100
  go_wp2_with fail
  refine bodyPost_ret (v:=.tuple #[.agg #[.slice none 0 0],.int .i64 (-1)]) (by simp [results,Tryz.results100,go_sem]) rfl ?_
  exact q_.no (by rw [h0.out];rfl) ((bP _ _).alloc (bX _) _)
 obtain ⟨n,hn⟩:∃ n,21-d=n+1:=⟨20-d,by omega⟩
 have IH':=bU (IH.out hd20);clear IH
 have HN:=bU hn
 have l_:Hid (21-(d+1)=n):=by show 21-(d+1)=n;omega
 clear hn
 by_cases bA:i<l.length
 rotate_left
 ·go_enter Tryz.func100,Tryz.ntmps100
  go_wp2_with fail
  refine bodyPost_ret (v:=.tuple #[.agg #[.slice none 0 0],.int .i64 (-1)]) (by simp [results,Tryz.results100,go_sem]) rfl ?_
  exact q_.no (by rw [HN.out,rdS_no (yA (by omega)),yA (by omega)];rfl) ((bP _ _).alloc (bX _) _)
 by_cases hb:l[i]=98
 ·have f1:=jl bA (n:=98) (by decide) hb
  have hc:Cut [98] (l.drop i) (l.drop (i+1)):=by unfold Cut;rw [jt bA,if_pos hb]
  clear hb
  go_enter Tryz.func100,Tryz.ntmps100
  go_wp2_with fail
  refine bodyPost_ret (v:=.tuple #[.agg #[.slice none 0 0],.int .i64 ((i:Int)+1)]) (by simp [results,Tryz.results100,go_sem]) rfl ?_
  exact q_.yes (t:=.mk []) (by rw [HN.out,rdS_b hc]) (by simp;omega) ((bP _ _).alloc (bX _) _) (wN _ _)
 have f1:=jY bA (n:=98) (by decide) hb
 have hc:wZ [98] (l.drop i):=by unfold wZ;rw [jt bA,if_neg hb]
 have HM:=bU (rdS_no (n:=n) hc)
 clear hb hc
 by_cases h3:i+3<=l.length
 rotate_left
 ·have h3':(l.length:Int)<(i:Int)+3:=by omega
  have eB:Hid (cut [40,62,32] (l.drop i)=none):=by
   show cut [40,62,32] (l.drop i)=none
   cases hq:cut [40,62,32] (l.drop i) with
   | none=>rfl
   | some r=>have:=(cut_drop hq).2;simp at this;omega
  go_enter Tryz.func100,Tryz.ntmps100
  go_wp2_with fail
  refine bodyPost_ret (v:=.tuple #[.agg #[.slice none 0 0],.int .i64 (-1)]) (by simp [results,Tryz.results100,go_sem]) rfl ?_
  exact q_.no (by rw [HN.out,HM.out,eB.out];rfl) ((bP _ _).alloc (bX _) _)
 have h3':(i:Int)+3<=(l.length:Int):=by omega
 have hx:(l.take (i+3)).drop i=(l.drop i).take 3:=by rw [List.drop_take];congr 1;omega
 rcases za [40,62,32] (l.drop i) with h4 | ⟨r1,h4⟩
 ·have f2:(((⟨l.toArray⟩:ByteArray).extract i (i+3)).toList == [40,62,32])=false:=by
   rw [ext_list,hx,beq_eq_false_iff_ne]
   intro e
   have h5:=h4.out
   have hp:[40,62,32].isPrefixOf (l.drop i)=true:=by rw [List.isPrefixOf_iff_prefix,<- e];exact List.take_prefix _ _
   unfold cut at h5;rw [if_pos hp] at h5;simp at h5
  clear hx
  go_enter Tryz.func100,Tryz.ntmps100
  go_wp2_with fail
  refine bodyPost_ret (v:=.tuple #[.agg #[.slice none 0 0],.int .i64 (-1)]) (by simp [results,Tryz.results100,go_sem]) rfl ?_
  exact q_.no (by rw [HN.out,HM.out,h4.out];rfl) ((bP _ _).alloc (bX _) _)
 have f2:(((⟨l.toArray⟩:ByteArray).extract i (i+3)).toList == [40,62,32])=true:=by
  rw [ext_list,hx,beq_iff_eq]
  have h5:=h4.out
  unfold cut at h5;split at h5
  ·rename_i hp
   exact (List.prefix_iff_eq_take.1 (List.isPrefixOf_iff_prefix.1 hp)).symm
  ·simp at h5
 have dV:=(cut_drop h4.out).1
 have iP:r1=l.drop (i+3):=dV
 subst iP
 clear hx dV
 go_enter Tryz.func100,Tryz.ntmps100
 go_wp2_with fail
 rw [show (i:Int)+3=((i+3:Nat):Int) from by omega,show (d:Int)+1=((d+1:Nat):Int) from by omega]
 refine (IH'.out (i+3) _ h3 (by omega)).mono ?_
 rintro en w1 ⟨v1,k1,t1,rfl,bE,mT,cS,dW⟩
 rw [l_.out] at cS dW
 have cz:Below w.heap.size w w1:=((bP w.heap.size w).alloc (bX _) _).trans (bE.mono (by simp))
 have z1:=bE.size
 have dO:w.heap.size<w1.heap.size:=by simp at z1;omega
 have cE:w1.cell? ⟨w.heap.size,0,none⟩=some (.slice none 0 0):=by rw [bE.cell (by simp)];simp
 have dw:w1.frozen? ⟨w.heap.size,0,none⟩=false:=by rw [bE.frozen (by simp)];simp
 obtain ⟨a1,c1,e1⟩:=zu mT
 subst e1
 cases hq:rdS n (l.drop (i+3)) with
 | none =>
   obtain ⟨rfl,rfl⟩:=cS hq
   have HQ:=bU hq;clear hq cS dW
   go_wp2_with fail
   refine bodyPost_ret (v:=.tuple #[.agg #[.slice none 0 0],.int .i64 (-1)]) (by simp [results,Tryz.results100,go_sem,dO,qO cE]) rfl ?_
   exact q_.no (by rw [HN.out,HM.out,h4.out];simp [HQ.out]) (by repeat (first | exact cz | refine Below.alloc ?_ (by simp;omega) _ | refine Below.setCell ?_ (by simp) _ | refine Below.drew ?_))
 | some x =>
   obtain ⟨ta,r2⟩:=x
   obtain ⟨rfl,rfl⟩:=dW _ _ hq
   have mL:=vq (gY hq)
   have dJ:=(rdS_le hq).1
   have HQ:=bU hq;clear hq cS dW
   obtain ⟨e,he⟩:=zzM (l.length-r2.length)
   have iS:e<=l.length:=by omega
   have hr2l:r2.length<=l.length:=by simp at dJ;omega
   have hk:(l.length:Int)-(r2.length:Int)=(e:Int):=by omega
   rw [<- he] at mL
   rw [hk]
   have HSF:=bU mL
   clear hk mL dJ
   by_cases Dw:e<l.length
   rotate_left
   ·have lO:Hid (cut [32] r2=none):=by show cut [32] r2=none;rw [HSF.out];exact yA (by omega)
    have HE:=bU he;clear he
    go_wp2_with fail
    refine bodyPost_ret (v:=.tuple #[.agg #[.slice none 0 0],.int .i64 (-1)]) (by simp [results,Tryz.results100,go_sem,dO,qO cE]) rfl ?_
    exact q_.no (by rw [HN.out,HM.out,h4.out];simp [HQ.out,lO.out]) (by repeat (first | exact cz | refine Below.alloc ?_ (by simp;omega) _ | refine Below.setCell ?_ (by simp) _ | refine Below.drew ?_))
   have HE:=bU he;clear he
   by_cases b_:l[e]=32
   rotate_left
   ·have f5:=yW Dw (n:=32) (by decide) b_
    have lO:Hid (cut [32] r2=none):=by show cut [32] r2=none;rw [HSF.out,jt Dw,if_neg b_]
    clear b_
    go_wp2_with fail
    refine bodyPost_ret (v:=.tuple #[.agg #[.slice none 0 0],.int .i64 (-1)]) (by simp [results,Tryz.results100,go_sem,dO,qO cE]) rfl ?_
    exact q_.no (by rw [HN.out,HM.out,h4.out];simp [HQ.out,lO.out]) (by repeat (first | exact cz | refine Below.alloc ?_ (by simp;omega) _ | refine Below.setCell ?_ (by simp) _ | refine Below.drew ?_))
   have f5:=uV Dw (n:=32) (by decide) b_
   have g1:decide ((e:Int)<0)=false:=by rw [decide_eq_false_iff_not];omega
   have g2:decide (l.length<=e)=false:=by rw [decide_eq_false_iff_not];omega
   have lO:Hid (cut [32] r2=some (l.drop (e+1))):=by show cut [32] r2=_;rw [HSF.out,jt Dw,if_pos b_]
   clear b_
   go_wp2_with fail
   rw [show (e:Int)+1=((e+1:Nat):Int) from by omega,show (d:Int)+1=((d+1:Nat):Int) from by omega]
   refine (IH'.out (e+1) _ Dw (by omega)).mono ?_
   rintro en w2 ⟨v2,k2,t2,rfl,bN,lQ,di,ee⟩
   rw [l_.out] at di ee
   obtain ⟨a2,c2,e2⟩:=zu lQ
   subst e2
   have z2:=bN.size
   rw [zQ] at z2
   have dN:Below w.heap.size w w2:=(cz.alloc cz.size _).trans (bN.mono (by rw [zQ];omega))
   have mG:w.heap.size<w2.heap.size:=by omega
   have hz2':w1.heap.size<w2.heap.size:=by omega
   have eV:w2.cell? ⟨w.heap.size,0,none⟩=some (.slice none 0 0):=by rw [bN.cell (by simp;omega)];exact zG cE
   have tP:w2.frozen? ⟨w.heap.size,0,none⟩=false:=by rw [bN.frozen (by simp;omega)];rw [World.frozen?_of_block (w:=w1) (Below.heap_alloc _ _ _ dO)];exact dw
   have hcellA:w2.cell? ⟨w1.heap.size,0,none⟩=some (.slice a1 t1.args.length c1):=by rw [bN.cell (by simp)];simp
   have rI:Rep (w1.heap.size<=·) w2 (qZ t1) (.slice a1 t1.args.length c1)\/True:=.inr trivial
   clear rI cE dw
   cases hq:rdS n (l.drop (e+1)) with
   | none =>
     obtain ⟨rfl,rfl⟩:=di hq
     have aL:=bU hq;clear hq di ee
     go_wp2_with fail
     refine bodyPost_ret (v:=.tuple #[.agg #[.slice none 0 0],.int .i64 (-1)]) (by simp [results,Tryz.results100,go_sem,mG,qO eV]) rfl ?_
     exact q_.no (by rw [HN.out,HM.out,h4.out];simp [HQ.out,lO.out,aL.out]) (by repeat (first | exact dN | refine Below.alloc ?_ (by simp;omega) _ | refine Below.setCell ?_ (by simp) _ | refine Below.drew ?_))
   | some x =>
     obtain ⟨tb,r4⟩:=x
     obtain ⟨rfl,rfl⟩:=ee _ _ hq
     have mL:=vq (gY hq)
     have rV:=rdS_le hq
     have aL:=bU hq;clear hq di ee
     obtain ⟨e2,he⟩:=zzM (l.length-r4.length)
     have iS:e2<=l.length:=by omega
     have hr2l:r4.length<=l.length:=by simp at rV;omega
     have hk:(l.length:Int)-(r4.length:Int)=(e2:Int):=by omega
     have oG:t2.args.length<=16777216:=by simp at rV;omega
     rw [<- he] at mL
     rw [hk]
     have AN:=bU mL
     clear hk mL rV
     have HE2:=bU he;clear he
     by_cases iT:e2<l.length
     rotate_left
     ·have mU:Hid (cut [41] r4=none):=by show cut [41] r4=none;rw [AN.out];exact yA (by omega)
      go_wp2_with fail
      refine bodyPost_ret (v:=.tuple #[.agg #[.slice none 0 0],.int .i64 (-1)]) (by simp [results,Tryz.results100,go_sem,mG,qO eV]) rfl ?_
      exact q_.no (by rw [HN.out,HM.out,h4.out];simp [HQ.out,lO.out,aL.out,mU.out]) (by repeat (first | exact dN | refine Below.alloc ?_ (by simp;omega) _ | refine Below.setCell ?_ (by simp) _ | refine Below.drew ?_))
     by_cases b9:l[e2]=41
     rotate_left
     ·have f6:=yW iT (n:=41) (by decide) b9
      have mU:Hid (cut [41] r4=none):=by show cut [41] r4=none;rw [AN.out,jt iT,if_neg b9]
      clear b9
      go_wp2_with fail
      refine bodyPost_ret (v:=.tuple #[.agg #[.slice none 0 0],.int .i64 (-1)]) (by simp [results,Tryz.results100,go_sem,mG,qO eV]) rfl ?_
      exact q_.no (by rw [HN.out,HM.out,h4.out];simp [HQ.out,lO.out,aL.out,mU.out]) (by repeat (first | exact dN | refine Below.alloc ?_ (by simp;omega) _ | refine Below.setCell ?_ (by simp) _ | refine Below.drew ?_))
     have f6:=uV iT (n:=41) (by decide) b9
     have g3:decide ((e2:Int)<0)=false:=by rw [decide_eq_false_iff_not];omega
     have g4:decide (l.length<=e2)=false:=by rw [decide_eq_false_iff_not];omega
     have mU:Hid (cut [41] r4=some (l.drop (e2+1))):=by show cut [41] r4=_;rw [AN.out,jt iT,if_pos b9]
     clear b9
     rw [qb] at lQ
     obtain ⟨xs,hxs,mA⟩:=zR.ofRep lQ (vf _)
     go_wp2_with (at_builtin;refine zB rfl _ _ 59 rfl 61 (.agg #[.slice none 0 0]) 1 24 Tryz.underlying59 Tryz.infoS rfl (by decide) _ 1 [.slice a1 t1.args.length c1] rfl ?c1 _ t2.args.length xs rfl ?c2 ?c3 ?c4 ?_)
     case c1=>exact Own.litAt #[.slice a1 t1.args.length c1] 1 _ (by simp) (by decide) rfl
     case c2=>exact mA.keep fun _ _ h=>zG (zG h)
     case c3=>unfold maxLen;omega
     case c4=>omega
     intro a' c' w3 ho bp mr
     have bM:Below w2.heap.size w2 ((w2.alloc (.cells #[.slice a2 t2.args.length c2] 61)).alloc (.cells #[.slice a1 t1.args.length c1] 61)):=((bP _ _).alloc (bX _) _).alloc (by simp) _
     have ej:Below w2.heap.size w2 w3:=bM.trans (bp.toBelow (by simp;omega) (fun i hi e=>by simp [Value.ownBlock] at e;omega))
     have Bj:Below w.heap.size w w3:=dN.trans (ej.mono (by omega))
     have Aj:w3.cell? ⟨w.heap.size,0,none⟩=some (.slice none 0 0):=by rw [ej.cell mG];exact eV
     have hfree3:w3.frozen? ⟨w.heap.size,0,none⟩=false:=by rw [ej.frozen mG];exact tP
     have hv1W:Rep (w.heap.size<=·) w3 (qZ t1) (.slice a1 t1.args.length c1):=by
      refine (Rep.keep fun b o h ho=>⟨by have:=vP h;omega,?_⟩).1 _ _ mT
      rw [ej.block b (by have:=zZ ho;omega),bN.block b (by have:=zZ ho;simp;omega)]
      exact zD ho
     have hxsW:zq (w.heap.size<=·) w3 (qc t2.args) xs :=
      (Rep.keep fun b o h ho=>⟨by have:=vP h;omega,by rw [ej.block b (zZ ho)];exact ho⟩).2 _ _ hxs
     have b5:∀ g,(Value.slice a' (1+t2.args.length) c').ownBlock=some g->w.heap.size<=g:=by
      intro g h
      rcases mr g h with h | h
      ·simp [Value.ownBlock] at h;omega
      ·have:=ej.size;omega
     have HG:=bU b5;have HG3:=bU mr;clear mr b5
     go_wp2_with fail
     refine bodyPost_ret (v:=.tuple #[.agg #[.slice a' (1+t2.args.length) c'],.int .i64 ((e2:Int)+1)]) (by simp [results,Tryz.results100,go_sem,qO Aj]) rfl ?_
     refine q_.yes (t:=jB t1 t2) (rest:=l.drop (e2+1)) (by rw [HN.out,HM.out,h4.out];simp [HQ.out,lO.out,aL.out,mU.out]) (by simp;omega) (Bj.setCell (bX _) _) ?_
     refine (Rep.keep (w:=w3) (F:=fun b=>w.heap.size<=b/\b≠w.heap.size) fun b o h ho=>⟨h.1,?_⟩).1 _ _ ?_
     ·rw [bG _ _ _ _ (by simpa using h.2)];exact ho
     rw [qb,show (jB t1 t2).args.length=1+t2.args.length from by simp [jB,Ty.args,Nat.add_comm]]
     refine ho.rep (fun g h=>⟨HG.out g h,?_⟩) ?_
     ·rcases HG3.out g h with h | h
      ·simp [Value.ownBlock] at h;omega
      ·have:=ej.size;omega
     ·show zq _ _ (qZ t1::qc t2.args) _
      refine zP.2 ⟨_,_,rfl,?_,?_⟩
      ·refine (Rep.keep fun b o h ho=>⟨⟨by have:=vP h;omega,by have:=vP h;omega⟩,?_⟩).1 _ _ mT
       rw [ej.block b (by have:=zZ ho;omega),bN.block b (by have:=zZ ho;simp;omega)]
       exact zD ho
      ·exact (Rep.keep fun b o h ho=>⟨⟨by have:=vP h;omega,by have:=vP h;omega⟩,by rw [ej.block b (zZ ho)];exact ho⟩).2 _ _ hxs
theorem l1Read_any (l:Bs) (hl:Lim l.length) (n:Nat):∀ d,21-d=n->hH l d:=by
 induction n with
 | zero=>exact fun d h=>wn l hl d (fun h'=>by omega)
 | succ n ih=>exact fun d h=>wn l hl d (fun h'=>ih (d+1) (by omega))
def wO (t:Ty):Prop:=∀ (F:Nat->Prop) (w:World) (v:Value),Rep F w (qZ t) v ->
 Calls Tryz.prog 101 #[.agg #[v]] w fun en w'=>en=.returned (.int .i64 (zW t))/\Below w.heap.size w w'
theorem qt (ts:List Ty):ts.length<=zj ts:=by
 induction ts with
 | nil=>simp
 | cons t ts ih=>simp [zj];omega
theorem l1Size_step (t:Ty) (hl:Lim (zW t)) (ih:∀ t',zW t'<zW t->wO t'):wO t:=by
 intro F w v hv
 obtain ⟨a,cap,e⟩:=zu hv
 subst e
 have fb:=hv
 rw [qb] at fb
 obtain ⟨_,_,e,_,bI,hat⟩:=zO fb
 simp only [Value.slice.injEq] at e
 obtain ⟨rfl,_,rfl⟩:=e
 have IH:=bU ih;clear ih
 have dz:=hl.le
 have E1:=bU (qC t)
 have Dh:t.args.length<=16777216:=by have:=qt t.args;have:=E1.out;omega
 have AT:=bU hat;clear hat bI fb
 go_enter Tryz.func101,Tryz.ntmps101
 go_wp2_with fail
 go_loopw [3,4] (fun n i wr=>∃ k:Nat,k<=t.args.length/\i=.int .i64 k/\n=.int .i64 ((1+zj (t.args.take k):Nat):Int)/\Below w.heap.size w wr/\wr.cell? ⟨w.heap.size,0,none⟩=some (.slice a t.args.length cap)) (fun _ i _=>t.args.length-(intOf i).toNat)
 case atStart=>exact ⟨0,Nat.zero_le _,rfl,by simp [zj],(bP _ _).alloc (bX _) _,by simp⟩
 case round =>
  rename_i wr
  obtain ⟨k,hk,rfl,rfl,hb,hc⟩:=hrel
  by_cases bA:k<t.args.length
  ·obtain ⟨b',o,u,d,rfl,_,cL,hd,hu,hr⟩:=AT.out k bA
   rw [vS,Option.map_eq_some_iff] at hd
   obtain ⟨t',rO,rfl⟩:=hd
   obtain ⟨ua,uc,rfl⟩:=zu hr
   have fi:wr.cell? ⟨b',o+k,none⟩=some (.slice ua t'.args.length uc):=by rw [hb.cell cL];exact hu
   have fu:=Rep.below (F':=F) hb (fun _ h=>h) hr
   have hs:=uS rO
   have sG:=j3 t.args (k+1)
   have nc:=E1.out
   have IH':=bU (IH.out t' (by omega))
   have HS:=bU hs
   have b1:1+zj (t.args.take k)+(1+zW t')<=16777216:=by omega
   have hz:=bW wr _ hc
   clear hs rO nc hu hr
   go_wp2_with fail
   refine (IH'.out _ _ _ fu).mono ?_
   rintro en w2 ⟨rfl,bN⟩
   have bp:=zzT hb bN
   have eB:w2.cell? ⟨w.heap.size,0,none⟩=some (.slice (some ⟨b',o,none⟩) t.args.length cap):=by rw [bN.cell hz];exact hc
   go_wp2_with fail
   go_roundw
   case rel=>exact ⟨k+1,by omega,by go_num,by rw [HS.out] <;> go_num,bp,eB⟩
   case measure=>simp [intOf];omega
  ·obtain rfl:k=t.args.length:=by omega
   go_wp2_with fail
   go_ret
   exact ⟨xE (by rw [E1.out,List.take_length]),hb⟩
theorem l1Size_any (n:Nat):∀ t,zW t<=n->Lim n->wO t:=by
 induction n with
 | zero=>intro t h _;have:=jd t;omega
 | succ n ih=>exact fun t h hn=>l1Size_step t (hn.mono h) (fun t' h'=>ih t' (by omega) (hn.mono (by omega)))
def zV (l:Bs):Ty×Bool :=
 if 100<l.length then (.mk [],false) else
 match rdS 21 l with
 | none=>(.mk [],false)
 | some (t,rest)=>(t,rest.isEmpty && decide (zW t<=15))
def TypePost (l:Bs) (w:World) (en:Ending) (w':World):Prop :=
 ∃ v,en=.returned (.tuple #[.agg #[v],.bool (zV l).2])/\Below w.heap.size w w'/\Rep (w.heap.size<=·) w' (qZ (zV l).1) v
set_option maxRecDepth 100000 in
theorem uE (l:Bs) (hl:Lim l.length) (w:World):Calls Tryz.prog 63 #[str l] w (TypePost l w):=by
 have dz:=hl.le
 by_cases tx:100<l.length
 ·have EB:(100:Int)<(l.length:Int):=by omega
  have HM:zV l=(.mk [],false):=by unfold zV;rw [if_pos tx]
  have HM:=bU HM
  go_enter Tryz.func63,Tryz.ntmps63
  go_wp2_with fail
  refine bodyPost_ret (v:=.tuple #[.agg #[.slice none 0 0],.bool false]) (by simp [results,Tryz.results63,go_sem]) rfl ?_
  refine ⟨_,by rw [HM.out],(bP _ _).alloc (bX _) _,?_⟩
  rw [HM.out];exact wN _ _
 have EB:¬ (100:Int)<(l.length:Int):=by omega
 have HM:zV l=(match rdS 21 l with
  | none=>(.mk [],false)
  | some (t,rest)=>(t,rest.isEmpty && decide (zW t<=15))):=by unfold zV;rw [if_neg tx]
 have HM:=bU HM
 go_enter Tryz.func63,Tryz.ntmps63
 go_wp2_with fail
 refine (l1Read_any l hl 21 0 rfl 0 _ (Nat.zero_le _) (by omega)).mono ?_
 rintro en w1 ⟨v1,k1,t1,rfl,bE,mT,cS,dW⟩
 rw [show (21-0:Nat)=21 from rfl,List.drop_zero] at cS dW
 obtain ⟨a1,c1,e1⟩:=zu mT
 subst e1
 have z1:=bE.size
 rw [zQ] at z1
 have dO:w.heap.size<w1.heap.size:=by omega
 have cz:Below w.heap.size w w1:=((bP w.heap.size w).alloc (bX _) _).trans (bE.mono (by simp))
 have cE:w1.cell? ⟨w.heap.size,0,none⟩=some (.slice none 0 0):=by rw [bE.cell (by simp)];simp
 have dw:w1.frozen? ⟨w.heap.size,0,none⟩=false:=by rw [bE.frozen (by simp)];simp
 cases hq:rdS 21 l with
 | none =>
   obtain ⟨rfl,rfl⟩:=cS hq
   have HQ:=bU hq;clear hq cS dW
   have g1:((-1:Int) == (l.length:Int))=false:=by rw [beq_eq_false_iff_ne];omega
   go_wp2_with fail
   go_region
   go_wp2_with fail
   refine bodyPost_ret (v:=.tuple #[.agg #[.slice a1 0 c1],.bool false]) (by simp [results,Tryz.results63,go_sem,dO,qO cE,Ty.args]) rfl ?_
   refine ⟨_,by rw [HM.out,HQ.out],(by repeat (first | exact cz | refine Below.alloc ?_ (by simp;omega) _ | refine Below.setCell ?_ (by simp) _ | refine Below.drew ?_)),?_⟩
   rw [HM.out,HQ.out]
   rw [qb]
   refine qk.2 ⟨rfl,a1,c1,rfl,Nat.zero_le _,?_,.inl rfl⟩
   obtain ⟨_,_,_,e,_,h0,_⟩:=qk.1 (by rw [qb] at mT;exact mT)
   simp only [Value.slice.injEq] at e
   obtain ⟨rfl,_,rfl⟩:=e;exact h0
 | some x =>
   obtain ⟨t,rest⟩:=x
   obtain ⟨rfl,rfl⟩:=dW _ _ hq
   have hat:=rdS_atoms hq
   have HQ:=bU hq;clear hq cS dW
   obtain ⟨e,he⟩:=zzM (l.length-rest.length)
   rw [show (l.length:Int)-(rest.length:Int)=(e:Int) from by omega]
   have HE:=bU he;clear he
   cases rest with
   | cons x xs =>
     have g1:((e:Int) == (l.length:Int))=false:=by rw [beq_eq_false_iff_ne];have:=HE.out;simp at this hat;omega
     go_wp2_with fail
     go_region
     go_wp2_with fail
     refine bodyPost_ret (v:=.tuple #[.agg #[.slice a1 t1.args.length c1],.bool false]) (by simp [results,Tryz.results63,go_sem,dO,qO cE]) rfl ?_
     refine ⟨_,by rw [HM.out,HQ.out];rfl,(by repeat (first | exact cz | refine Below.alloc ?_ (by simp;omega) _ | refine Below.setCell ?_ (by simp) _ | refine Below.drew ?_)),?_⟩
     rw [HM.out,HQ.out]
     refine (Rep.keep fun b o h ho=>⟨by have:=vP h;omega,?_⟩).1 _ _ mT
     have hb:b≠w.heap.size:=by have:=vP h;omega
     exact zD (by rw [bG _ _ _ _ (by simpa using hb)];exact ho)
   | nil =>
     obtain rfl:e=l.length:=by have:=HE.out;simpa using this
     have g1:((l.length:Int) == (l.length:Int))=true:=by simp
     have hlA:Lim (zW t1):=hl.mono (by simp at hat;omega)
     have A6:Rep (w.heap.size < ·) (w1.alloc (.cells #[.slice a1 t1.args.length c1] 61)) (qZ t1) (.slice a1 t1.args.length c1):=(Rep.keep fun b o h ho=>⟨by have:=vP h;omega,zD ho⟩).1 _ _ mT
     have DD:(w1.alloc (.cells #[.slice a1 t1.args.length c1] 61)).cell? ⟨w1.heap.size,0,none⟩=some (.slice a1 t1.args.length c1):=by simp
     go_wp2_with fail
     go_region_held3 (fun w'=>w'.cell? ⟨w1.heap.size,0,none⟩=some (.slice a1 t1.args.length c1))
      (first
       | exact (bN.cell (by simp)).trans DD
       | (rw [World.cell?_of_block (w:=w2) (bG _ _ _ _ (by simp;omega))];exact (bN.cell (by simp)).trans DD)
       | go_keep)
      (first
       | (go_at_call 101;refine (l1Size_any (zW t1) t1 (bX _) hlA (w.heap.size < ·) _ _ (by exact A6.drew)).mono ?_;rintro en w2 ⟨rfl,bN⟩;have z2:=bN.size;have mG:w.heap.size<w2.heap.size:=(by simp at z2;omega);have eV:w2.cell? ⟨w.heap.size,0,none⟩=some (.slice none 0 0):=(bN.cell (by simp;omega)).trans (zG cE);have tP:w2.frozen? ⟨w.heap.size,0,none⟩=false:=(bN.frozen (by simp;omega)).trans ((World.frozen?_of_block (w:=w1) (Below.heap_alloc _ _ _ dO)).trans dw)))
     go_wp2_with fail
     refine bodyPost_ret (v:=.tuple #[.agg #[.slice a1 t1.args.length c1],.bool (decide ((zW t1:Int)<=15))]) (by simp [results,Tryz.results63,go_sem,qO eV]) rfl ?_
     have dN:Below w.heap.size w w2:=((cz.alloc cz.size _).drew).trans (bN.mono (by simp;omega))
     refine ⟨.slice a1 t1.args.length c1,?_,dN.setCell (bX _) _,?_⟩
     ·have e15:decide ((zW t1:Int)<=15)=decide (zW t1<=15):=by rw [decide_eq_decide];omega
      rw [HM.out,HQ.out,e15];rfl
     ·rw [HM.out,HQ.out]
      refine (Rep.keep fun b o h ho=>⟨by have:=vP h;omega,?_⟩).1 _ _ mT
      have hb:b≠w.heap.size:=by have:=vP h;omega
      rw [bG _ _ _ _ (by simpa using hb),bN.block b (by have:=zZ ho;simp;omega)]
      exact zD ho
theorem gW (d:Nat):∀ {l:Bs} {t:Ty} {r:Bs} (e:Nat),d<=e->rdK d l=some (t,r)->rdK e l=some (t,r):=by
 induction d with
 | zero =>
   intro l t r e he h
   rcases za [98] l with hc | ⟨r',hc⟩
   ·rw [je hc] at h;simp at h
   ·rw [vB hc] at h ⊢;exact h
 | succ d ih =>
   intro l t r e he h
   obtain ⟨e,rfl⟩:∃ e',e=e'+1:=⟨e-1,by omega⟩
   rcases za [98] l with hc | ⟨r',hc⟩
   ·rw [qU hc] at h ⊢
    simp only [Option.bind_eq_bind,Option.bind_eq_some_iff,Prod.exists] at h ⊢
    obtain ⟨r1,h1,a,r2,h2,r3,h3,b,r4,h4,r5,h5,h6⟩:=h
    exact ⟨r1,h1,a,r2,ih e (by omega) h2,r3,h3,b,r4,ih e (by omega) h4,r5,h5,h6⟩
   ·rw [vB hc] at h ⊢;exact h
theorem xm {p l r:Bs} (h:cut p l=some r):l.length=p.length+r.length:=by
 unfold cut at h;split at h
 ·rename_i hp
  have:=List.IsPrefix.length_le (List.isPrefixOf_iff_prefix.1 hp)
  simp at h;subst h;simp;omega
 ·simp at h
theorem xe (a b:Ty):zW (jB a b)=1+zW a+zW b:=by cases b;simp [jB,zW,zj,Ty.args];omega
theorem rdK_shallow (e:Nat):∀ {l:Bs} {t:Ty} {r:Bs} (d:Nat),zW t<=2*d+1->rdK e l=some (t,r)->rdK d l=some (t,r):=by
 induction e with
 | zero =>
   intro l t r d hd h
   exact gW 0 d (Nat.zero_le _) h
 | succ e ih =>
   intro l t r d hd h
   rcases za [98] l with hc | ⟨r',hc⟩
   ·rw [qU hc] at h
    simp only [Option.bind_eq_bind,Option.bind_eq_some_iff,Prod.exists] at h
    obtain ⟨r1,h1,a,r2,h2,r3,h3,b,r4,h4,r5,h5,h6⟩:=h
    simp at h6;obtain ⟨rfl,rfl⟩:=h6
    have hat:=xe a b
    have pa:=jd a;have pb:=jd b
    obtain ⟨d,rfl⟩:∃ d',d=d'+1:=⟨d-1,by omega⟩
    rw [qU hc]
    simp only [Option.bind_eq_bind,Option.bind_eq_some_iff,Prod.exists]
    exact ⟨r1,h1,a,r2,ih d (by omega) h2,r3,h3,b,r4,ih d (by omega) h4,r5,h5,rfl⟩
   ·rw [vB hc] at h ⊢;exact h
theorem rdK_len (e:Nat):∀ {l:Bs} {t:Ty} {r:Bs},rdK e l=some (t,r)->l.length+5<=r.length+6*zW t:=by
 induction e with
 | zero =>
   intro l t r h
   rcases za [98] l with hc | ⟨r',hc⟩
   ·rw [je hc] at h;simp at h
   ·rw [vB hc] at h;simp at h;obtain ⟨rfl,rfl⟩:=h
    have:=xm hc;simp [zW,zj] at *;omega
 | succ e ih =>
   intro l t r h
   rcases za [98] l with hc | ⟨r',hc⟩
   ·rw [qU hc] at h
    simp only [Option.bind_eq_bind,Option.bind_eq_some_iff,Prod.exists] at h
    obtain ⟨r1,h1,a,r2,h2,r3,h3,b,r4,h4,r5,h5,h6⟩:=h
    simp at h6;obtain ⟨rfl,rfl⟩:=h6
    have hat:=xe a b
    have k1:=xm h1;have k2:=ih h2;have k3:=xm h3;have k4:=ih h4;have k5:=xm h5
    simp at k1 k3 k5;omega
   ·rw [vB hc] at h;simp at h;obtain ⟨rfl,rfl⟩:=h
    have:=xm hc;simp [zW,zj] at *;omega
theorem uf (l:Bs):jG l=if (zV l).2 then some (zV l).1 else none:=by
 unfold jG zV
 by_cases tx:100<l.length
 ·rw [if_pos tx]
  simp only [Bool.false_eq_true,if_false]
  split
  ·rename_i t hq
   have:=rdK_len 15 hq
   rw [if_neg (by simp at this;omega)]
  ·rfl
 ·rw [if_neg tx]
  have e21:rdS 21 l=rdK 20 l:=rfl
  rw [e21]
  cases hq:rdK 20 l with
  | none =>
    simp only [Bool.false_eq_true,if_false]
    split
    ·rename_i t nC
     have:=gW 15 20 (by omega) nC
     rw [hq] at this;simp at this
    ·rfl
  | some x =>
    obtain ⟨t,rest⟩:=x
    simp only
    by_cases ht:zW t<=15
    ·have nC:=rdK_shallow 20 15 (by omega) hq
     rw [nC]
     cases rest with
     | nil=>simp [ht]
     | cons x xs=>simp
    ·cases nC:rdK 15 l with
     | none=>simp [ht]
     | some y =>
       obtain ⟨t2,r2⟩:=y
       have:=gW 15 20 (by omega) nC
       rw [hq] at this;simp at this;obtain ⟨rfl,rfl⟩:=this
       cases rest <;> simp [ht]
set_option maxRecDepth 100000 in
theorem gu (F:Nat->Prop) (hand:List Ty) (t:Ty) (hv tv:Value) (w:World) (hh:Rep F w (.sl 61 1 hand.length (qc hand)) hv) (ht:Rep F w (qZ t) tv) (hl:Lim (hand.length+t.args.length)) :
 Calls Tryz.prog 97 #[hv,.agg #[tv]] w fun en w' =>
  ∃ a c,en=.returned (.slice a (hand++t.args).length c)/\Below w.heap.size w w'/\Rep (fun k=>F k\/w.heap.size<=k) w' (.sl 61 1 (hand++t.args).length (qc (hand++t.args))) (.slice a (hand++t.args).length c):=by
 have dz:=hl.le
 obtain ⟨xs1,ft,g1⟩:=zR.ofRep hh (vf _)
 have rO:=ht
 rw [qb] at rO
 obtain ⟨xs2,eP,g2⟩:=zR.ofRep rO (vf _)
 obtain ⟨a1,c1,e1⟩:=g1.slice
 obtain ⟨a2,c2,e2⟩:=g2.slice
 subst e1;subst e2
 have DD:(w.alloc (.cells #[.slice a2 t.args.length c2] 61)).cell? ⟨w.heap.size,0,none⟩=some (.slice a2 t.args.length c2):=by simp
 go_enter Tryz.func97,Tryz.ntmps97
 go_wp2_with fail
 go_region_held3 (fun w'=>w'.cell? ⟨w.heap.size,0,none⟩=some (.slice a2 t.args.length c2))
  (first
   | exact (fF.cell (by simp)).trans DD
   | exact (dp.cell (by simp)).trans DD
   | go_keep)
  (first
   | (refine zE (by rfl) (.tmp 7) (.tmp 9) _ (by rfl) 61 (.agg #[.slice none 0 0]) 1 24 Tryz.underlying59 Tryz.infoS rfl (by omega) (.slice ax hand.length cx) hand.length xs1 (by rfl) (by exact hox) (.slice a2 t.args.length c2) t.args.length xs2 (by rfl) (by exact (g2.alloc _).below dp) (by unfold maxLen;omega) (by omega) ?_;intro ay cy wy hoy mF hgy;obtain ⟨fF,Ac⟩:=xg dp hfx mF hgy)
   | (refine zE (by rfl) (.tmp 5) (.tmp 6) _ (by rfl) 61 (.agg #[.slice none 0 0]) 1 24 Tryz.underlying59 Tryz.infoS rfl (by omega) (.slice (some ⟨w.heap.size+1,0,none⟩) 0 0) 0 [] (by rfl) (by exact (Own.litAt #[] 0 _ (by simp) (by decide) rfl).drew) (.slice a1 hand.length c1) hand.length xs1 (by rfl) (by exact ((g1.alloc _).alloc _).drew) (by unfold maxLen;omega) (by omega) ?_;rw [Nat.zero_add,List.nil_append];intro ax cx wx hox eo hgx;obtain ⟨dp,hfx⟩:=xg (((bP _ _).alloc (bX _) _).drew) (gS (by simp)) eo hgx))
 go_wp2_with fail
 go_ret
 have bE:Below w.heap.size w (w.alloc (.cells #[.slice a2 t.args.length c2] 61)):=(bP _ _).alloc (bX _) _
 have hbZ:Below w.heap.size w wy:=bE.trans (fF.mono (by simp))
 rw [List.length_append]
 refine ⟨ay,cy,rfl,hbZ,?_⟩
 rw [encSs_append]
 exact hoy.rep (fun g h=>.inr (by have:=Ac g h;simp at this;omega)) (zq.append (ft.below hbZ (fun _ h=>.inl h)) (eP.below hbZ (fun _ h=>.inl h)))
end Go.Proofs.YtfedjhgaeikjmaaGreatDoor

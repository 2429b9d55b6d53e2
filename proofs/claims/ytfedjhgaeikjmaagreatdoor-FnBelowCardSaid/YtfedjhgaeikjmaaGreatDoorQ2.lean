/- Walks of functions that the statement reaches, and plain words. No conditions. -/
import Derived.Test.YtfedjhgaeikjmaaGreatDoorQ1
set_option linter.unusedVariables false
set_option linter.unusedSimpArgs false
set_option maxHeartbeats 4000000
namespace Go.Proofs.YtfedjhgaeikjmaaGreatDoor
open Go.RowKit
def uu (l:Bs):Int:=if (zC l)=[] then -1 else (zE l).length
theorem j_ (l:Bs):zE l++zC l=l:=List.takeWhile_append_dropWhile
theorem word_take (l:Bs):l.take (zE l).length=zE l:=by
 have h:=j_ l
 have:=List.take_left (l₁:=zE l) (l₂:=zC l);rw [h] at this;exact this
theorem word_drop (l:Bs):l.drop (zE l).length=zC l:=by
 have h:=j_ l
 have:=List.drop_left (l₁:=zE l) (l₂:=zC l);rw [h] at this;exact this
theorem word_le (l:Bs):(zE l).length+(zC l).length=l.length:=by
 have:=congrArg List.length (j_ l);simpa using this
theorem indexAny_sep (l:Bs):Lib.indexAny l [32,40,41]=uu l:=by
 induction l with
 | nil=>rfl
 | cons b l ih =>
   rw [Lib.indexAny]
   have hs:([32,40,41]:Bs).contains b=sep b:=by
    rw [Bool.eq_iff_iff];simp [sep,or_assoc]
   rw [hs]
   cases hb:sep b
   ·have e1:zE (b::l)=b::zE l:=by simp [zE,hb]
    have e2:zC (b::l)=zC l:=by simp [zC,hb]
    rw [ih]
    unfold uu
    rw [e1,e2]
    by_cases h:zC l=[]
    ·simp [h]
    ·simp only [h,if_false,Bool.false_eq_true]
     rw [if_neg (by rw [beq_iff_eq];omega)]
     simp
   ·have e1:zE (b::l)=[]:=by simp [zE,hb]
    have e2:zC (b::l)=b::l:=by simp [zC,hb]
    unfold uu
    rw [e1,e2];simp
theorem indexAny_any (l:Bs) (w:World) (hl:Lim l.length) :
 Calls Tryz.prog 141 #[str l,.string ⟨#[32,40,41]⟩] w fun en w'=>en=.returned (.int .i64 (uu l))/\Below w.heap.size w w':=by
 have bC:=hl.le
 have bG:(⟨l.toArray⟩:ByteArray).size=l.length:=yk l
 rw [<- indexAny_sep]
 by_cases h8:l.length<=8
 ·have:=pR ⟨l.toArray⟩ (by omega) w
  simpa [str] using this
 ·refine (Tryz.strings_IndexAny_long (zero_of_info (n:=256) (by kernel_rfl)).1 ⟨l.toArray⟩ ⟨#[32,40,41]⟩ w (by show 2<=3;omega) (by omega) (by omega) (by show 3<4294967281;omega) (by
   intro j b hj
   have:b∈([32,40,41]:Bs):=List.mem_of_getElem? hj
   simp at this
   rcases this with rfl | rfl | rfl <;> decide)).mono ?_
  rintro e w' ⟨rfl,rfl⟩
  refine ⟨by simp,((gV _ _).alloc (gQ _) _).alloc (by simp) _⟩
theorem wT (sc:Nat) (c:List Value) (e:TypeId) (r:Bs) (w:World) (h:kD sc c e r w) (hr:Lim r.length) :
 Calls Tryz.prog 130 #[.pointer (some ⟨sc,0,none⟩)] w fun en w' =>
  en=.returned (str (zE r))/\But (· = sc) w w'/\kD sc c e (zC r) w':=by
 have h1:=h.cell
 have h2:=h.free 0
 have mO:=vd h
 have hl:=hr.le
 have hw:=word_le r
 go_enter Tryz.func130,Tryz.ntmps130
 go_wp2_with fail
 refine (indexAny_any r w hr).mono ?_
 rintro en w1 ⟨rfl,hb⟩
 have c1:w1.cell? ⟨sc,0,none⟩=some (str r):=by rw [hb.cell mO];exact h1
 have c2:w1.frozen? ⟨sc,0,none⟩=false:=by rw [hb.frozen mO];exact h2
 have hS:kD sc c e r w1:=by unfold kD;rw [hb.block sc mO];exact h
 clear h1 h2
 by_cases h0:zC r=[]
 ·have hi:uu r = -1:=by simp [uu,h0]
  rw [hi]
  have e1:zE r=r:=by have:=j_ r;rw [h0] at this;simpa using this
  have HE:=gZ e1;have H0:=gZ h0;clear e1 h0 hi
  go_wp2_with fail
  go_ret
  have e2:(⟨r.toArray⟩:ByteArray).extract 0 r.length=⟨(zE r).toArray⟩:=by rw [vX,HE.out];simp
  refine ⟨?_,(But.ofBelow hb).setS 0 _,?_⟩
  ·show Ending.returned (.string _)=_;rw [e2]
  ·have:=hS.put (r':=zC r);rw [H0.out] at this ⊢;exact this
 ·have hi:uu r=(zE r).length:=by simp [uu,h0]
  rw [hi]
  have gH:(zE r).length<=r.length:=by omega
  have H0:=gZ h0;clear h0 hi
  go_wp2_with fail
  go_ret
  have e2:(⟨r.toArray⟩:ByteArray).extract 0 (zE r).length=⟨(zE r).toArray⟩:=by rw [vX,List.drop_zero,word_take]
  have e3:(⟨r.toArray⟩:ByteArray).extract (zE r).length r.length=⟨(zC r).toArray⟩:=by rw [vX,List.take_length,word_drop]
  refine ⟨?_,(But.ofBelow hb).setS 0 _,?_⟩
  ·show Ending.returned (.string _)=_;rw [e2]
  ·rw [e3];exact hS.put
structure qE (w:World):Prop where
 e0:∃ te pe,w.var? Tryz.prog "strconv.ErrSyntax" = some #[.iface te pe]
 e1:∃ te pe,w.var? Tryz.prog "strconv.ErrRange" = some #[.iface te pe]
 tab:Lib.TabIs Tryz.prog w "internal/strconv.uint64pow10" .u64 Lib.pow10Tab
def NotG (b:Nat):Prop:=b≠1/\b≠2/\b≠3
theorem Tryz.gn0:Tryz.prog.globalNamed "strconv.ErrSyntax" = some 1:=by kernel_rfl
theorem Tryz.gn1:Tryz.prog.globalNamed "strconv.ErrRange" = some 2:=by kernel_rfl
theorem Tryz.gn2:Tryz.prog.globalNamed "internal/strconv.uint64pow10" = some 3:=by kernel_rfl
theorem xE {P:Program} {w:World} {nm:String} {g:Nat} {x:Array Value} (hg:P.globalNamed nm=some g) (h:w.var? P nm=some x):g<w.heap.size:=by
 unfold World.var? at h
 rw [hg] at h
 simp only [Option.bind_some] at h
 rcases Nat.lt_or_ge g w.heap.size with h' | h'
 ·exact h'
 ·rw [Array.getElem?_eq_none h'] at h;simp at h
theorem wv {P:Program} {w w':World} {nm:String} {g:Nat} {x:Array Value} (hg:P.globalNamed nm=some g) (hk:w'.heap[g]? = w.heap[g]?) (h:w.var? P nm=some x):w'.var? P nm=some x:=by
 unfold World.var? at *
 rw [hg] at *
 simp only [Option.bind_some] at *
 rw [hk];exact h
theorem qE.but {m:Nat->Prop} {w w':World} (h:qE w) (hb:But m w w') (hm:∀ i,m i->NotG i):qE w':=by
 obtain ⟨⟨t0,p0,h0⟩,⟨t1,p1,h1⟩,h2⟩:=h
 have l0:=xE Tryz.gn0 h0
 have l1:=xE Tryz.gn1 h1
 have l2:=xE Tryz.gn2 h2
 exact ⟨⟨t0,p0,wv Tryz.gn0 (hb.block _ l0 fun e=>(hm _ e).1 rfl) h0⟩,⟨t1,p1,wv Tryz.gn1 (hb.block _ l1 fun e=>(hm _ e).2.1 rfl) h1⟩,wv Tryz.gn2 (hb.block _ l2 fun e=>(hm _ e).2.2 rfl) h2⟩
theorem qE.below {w w':World} (h:qE w) (hb:Below w.heap.size w w'):qE w':=h.but (m:=fun _=>False) (But.ofBelow hb) (fun _ e=>e.elim)
theorem qE.new {w:World} (h:qE w) {b:Nat} (hb:w.heap.size<=b):NotG b:=by
 obtain ⟨⟨t0,p0,h0⟩,⟨t1,p1,h1⟩,h2⟩:=h
 have l0:=xE Tryz.gn0 h0
 have l1:=xE Tryz.gn1 h1
 have l2:=xE Tryz.gn2 h2
 exact ⟨by omega,by omega,by omega⟩
theorem below_drewN {B:Nat} {a w:World} (h:Below B a w) (n:Nat):Below B a (w.drewN n):=h.trans ⟨rfl,rfl,rfl,gQ _,fun _ _=>rfl⟩
theorem below_grow (w:World) (os:Array Obj):Below w.heap.size w (Go.Sort.grow w os) :=
 ⟨rfl,rfl,rfl,by simp [Go.Sort.grow],fun k hk=>by simp [Go.Sort.grow,Array.getElem?_append_left hk]⟩
theorem below_freeze {B:Nat} {a w:World} (h:Below B a w) {p:Addr} (hp:B<=p.block) (n:Nat):Below B a (w.freeze p n):=by
 refine h.trans ⟨?_,?_,?_,?_,?_⟩
 ·unfold World.freeze;split <;> rfl
 ·unfold World.freeze;split <;> rfl
 ·unfold World.freeze;split <;> rfl
 ·unfold World.freeze;split <;> simp
 ·intro k hk
  unfold World.freeze;split
  ·rfl
  ·simp only [Array.getElem?_modify];rw [if_neg (by omega)]
theorem xk (w:World) (e:TypeId) (s:ByteArray):Below w.heap.size w (Lib.bytesWorld w e s) :=
 below_freeze (((gV w.heap.size w).drew).alloc (gQ _) _) (gQ _) _
theorem atoi_ok (l:Bs) (w:World) (hl:Lim l.length) (v:Int) (h:Lib.atoiAll l=.ok v) :
 Calls Tryz.prog 131 #[str l] w fun en w'=>en=.returned (.tuple #[.int .i64 v,.nilIface])/\Below w.heap.size w w':=by
 have bC:=hl.le
 refine (Tryz.strconv_Atoi_ok ⟨l.toArray⟩ (by show l.toArray.size<=_;simp;omega) v h w).mono ?_
 rintro en w' ⟨rfl,rfl | ⟨t,rfl⟩⟩
 ·exact ⟨rfl,gV _ _⟩
 ·exact ⟨rfl,xk _ _ _⟩
theorem atoi_no (l:Bs) (w:World) (hl:Lim l.length) (hg:qE w) (h:∀ v,Lib.atoiAll l≠.ok v) :
 Calls Tryz.prog 131 #[str l] w fun en w'=>∃ v t p,en=.returned (.tuple #[.int .i64 v,.iface t p])/\Below w.heap.size w w':=by
 have bC:=hl.le
 have hs:(⟨l.toArray⟩:ByteArray).size<=281474976710656:=by show l.toArray.size<=_;simp;omega
 cases ha:Lib.atoiAll l
 ·rename_i v;exact absurd ha (h v)
 ·obtain ⟨te,pe,h0⟩:=hg.e0
  refine (Tryz.strconv_Atoi_syntax_var ⟨l.toArray⟩ hs ha te pe w h0).mono ?_
  rintro en w' ⟨N,rfl,_,_,hb⟩
  exact ⟨_,_,_,rfl,hb⟩
 ·obtain ⟨te,pe,h0⟩:=hg.e1
  refine (Tryz.strconv_Atoi_range_var ⟨l.toArray⟩ hs ha te pe w h0).mono ?_
  rintro en w' ⟨N,rfl,_,_,hb⟩
  exact ⟨_,_,_,rfl,hb⟩
theorem pF (n:Int) (w:World) (hg:qE w) (h0 : -9223372036854775808<=n) (h1:n<=9223372036854775807) :
 Calls Tryz.prog 105 #[.int .i64 n] w fun en w'=>en=.returned (str (Lib.itoa n))/\Below w.heap.size w w':=by
 refine (Tryz.strconv_Itoa n h0 h1 w hg.tab).mono ?_
 rintro en w' ⟨rfl,k,os,rfl⟩
 exact ⟨rfl,(below_drewN (gV _ _) k).trans (below_grow (w.drewN k) os)⟩
theorem ph {l:Bs} {v:Int} (h:Lib.atoiAll l=.ok v) : -9223372036854775808<=v/\v<=9223372036854775807:=by
 unfold Lib.atoiAll at h
 split at h
 ·simp at h
 ·simp only at h
  split at h
  ·simp at h
  ·simp at h
  ·split at h
   ·simp at h
   ·split at h
    ·simp at h
    ·rename_i h1 h2
     simp only [Lib.NumEnd.ok.injEq] at h
     split at h <;> omega
theorem itoa_of {l:Bs} {v:Int} (h:Lib.atoiAll l=.ok v) (w:World) (hg:qE w) :
 Calls Tryz.prog 105 #[.int .i64 v] w fun en w'=>en=.returned (str (Lib.itoa v))/\Below w.heap.size w w' :=
 pF v w hg (ph h).1 (ph h).2
def qp (sr:Nat) (w:World) (o:Option (Bd×Bs×Nat)) (en:Ending) (w':World):Prop :=
 ∃ (v:Value) (r':Bs) (left':Int),en=.returned v/\But (fun x=>x=sr) w w'/\kD sr [.int .i64 left'] 158 r' w'/\(o=none->v=.pointer none) /\
   (∀ b rest gE,o=some (b,rest,gE)->r'=rest/\left'=(gE:Nat)/\Rep (w.heap.size<=·) w' (ke b) v)
theorem kV {F:Nat->Prop} {w:World} {b:Bd} {v:Value} (h:Rep F w (ke b) v):∃ a,v=.pointer (some ⟨a,0,none⟩):=by
 cases b with
 | leaf c=>rw [ke,jt] at h;obtain ⟨a,c,h,_⟩:=h;exact ⟨a,h⟩
 | ask v ss y n=>rw [ke,jt] at h;obtain ⟨a,c,h,_⟩:=h;exact ⟨a,h⟩
theorem qp.no {sr:Nat} {w:World} {o:Option (Bd×Bs×Nat)} {w':World} {r:Bs} {left:Int} (ho:o=none) (hb:But (fun x=>x=sr) w w') (hs:kD sr [.int .i64 left] 158 r w') :
 qp sr w o (.returned (.pointer none)) w' :=
 ⟨_,r,left,rfl,hb,hs,fun _=>rfl,fun _ _ _ h=>by rw [ho] at h;simp at h⟩
theorem qp.yes {sr:Nat} {w:World} {o:Option (Bd×Bs×Nat)} {w':World} {r:Bs} {left:Nat} {b:Bd} {v:Value} (ho:o=some (b,r,left)) (hb:But (fun x=>x=sr) w w') (hs:kD sr [.int .i64 left] 158 r w')
 (hv:Rep (w.heap.size<=·) w' (ke b) v):qp sr w o (.returned v) w' :=
 ⟨_,r,left,rfl,hb,hs,fun h=>by rw [ho] at h;simp at h,fun _ _ _ h=>by rw [ho] at h;simp at h;obtain ⟨rfl,rfl,rfl⟩:=h;exact ⟨rfl,rfl,hv⟩⟩
def kj (d:Nat) (levels:List Ty):Prop:=(∀ t∈levels,zY t<=15)/\levels.length+15*d<=10000
def ud (d:Nat):Prop:=∀ (sr left:Nat) (levels:List Ty) (l:Bs) (lv:Value) (F:Nat->Prop) (w:World),qE w->NotG sr ->
 kD sr [.int .i64 left] 158 l w->left<=1000->Lim l.length->kj d levels ->
 Rep F w (.sl 54 1 levels.length (qJ levels)) lv->(∀ b,F b->b≠sr) ->
 Calls Tryz.prog 98 #[.pointer (some ⟨sr,0,none⟩),lv,.int .i64 d] w (qp sr w (rdB d levels left l))
theorem encKs_append (a b:List Ty):qJ (a++b)=qJ a++qJ b:=by
 induction a with
 | nil=>rfl
 | cons t ts ih=>simp [qJ,ih]
theorem srcSl_but {F:Nat->Prop} {m:Nat->Prop} {w w':World} {e:TypeId} {sz n:Nat} {cs:List DV} {v:Value} {news:List Value} (hb:But m w w') (hF:∀ b,F b->¬ m b) (h:Rep F w (.sl e sz n cs) v) (hs:zN sz v n news w):zN sz v n news w':=by
 rw [qB] at h
 obtain ⟨hl,a,cap,rfl,hn,hz,h⟩:=h
 obtain ⟨h1,h2,h3⟩:=hs
 refine ⟨h1,h2,?_⟩
 rcases h with rfl | ⟨b,o,c,fr,rfl,gu,hc,hr⟩
 ·have:news=[]:=List.eq_nil_of_length_eq_zero (by simpa using h1)
  subst this
  rcases h3 with ⟨a',c',e',_⟩ | h3
  ·exact .inl ⟨a',c',e',by simp⟩
  ·exact .inr h3
 ·rcases h3 with ⟨a',c',e',h3⟩ | ⟨h3,_⟩
  ·simp at e'
   obtain ⟨e1,e2⟩:=e'
   subst e1
   refine .inl ⟨_,cap,rfl,fun j u hj=>?_⟩
   have:=h3 j u hj
   rw [hb.cell (gJ w _ this) ?_]
   ·exact this
   ·unfold Addr.add;split <;> exact hF b gu
  ·simp at h3
theorem part_pre {F:Nat->Prop} {sr:Nat} {left:Int} {levels more:List Ty} {r1:Bs} {xs1 xs2:List Value} {ac:Option Addr} {kc:Nat} {w w1 wx wc:World} (hg:qE w) (hn:NotG sr) (tP:sr<w.heap.size)
 (gW:But (fun x=>x=sr) w w1) (ge:kD sr [.int .i64 left] 158 r1 w1)
 (hF:∀ b,F b->b≠sr) (G1:zD F w1 (qJ levels) xs1) (G2:zD F w1 (qJ more) xs2)
 (hx:Below w1.heap.size w1 wx) (rh:Own wc 54 1 (.slice ac (levels.length+more.length) kc) (levels.length+more.length) (xs1++xs2))
 (bF:Below wx.heap.size wx wc) (dR:∀ g,(Value.slice ac (levels.length+more.length) kc).ownBlock=some g->wx.heap.size<=g) :
 Below w1.heap.size w1 wc/\qE wc/\kD sr [.int .i64 left] 158 r1 wc /\
  Rep (fun b=>b≠sr) wc (.sl 54 1 (levels++more).length (qJ (levels++more))) (.slice ac (levels.length+more.length) kc):=by
 have z1:=gW.size
 have hb:Below w1.heap.size w1 wc:=zzT hx bF
 refine ⟨hb,(hg.but gW fun i e=>by subst e;exact hn).below hb,(hb.block sr (by omega)).trans ge,?_⟩
 rw [List.length_append,encKs_append]
 refine rh.rep (fun g h=>?_) (zD.append (G1.below hb hF) (G2.below hb hF))
 have:=dR g h;have:=hx.size;omega
set_option maxRecDepth 100000 in
theorem pU (d:Nat) (ih:ud d) (sr left:Nat) (levels more:List Ty) (l:Bs) (lv mv:Value) (F:Nat->Prop) (w:World) (b1 b2 b3:Nat) (hg:qE w) (hn:NotG sr)
 (hs:kD sr [.int .i64 left] 158 l w) (hl:left<=1000) (hr:Lim l.length) (hh:kj d (levels++more)) (hd:d<=1000)
 (gj:Rep F w (.sl 54 1 levels.length (qJ levels)) lv) (mr:Rep F w (.sl 54 1 more.length (qJ more)) mv) (hF:∀ b,F b->b≠sr)
 (c1:w.cell? ⟨b1,0,none⟩=some (.pointer (some ⟨sr,0,none⟩))) (c2:w.cell? ⟨b2,0,none⟩=some lv) (c3:w.cell? ⟨b3,0,none⟩=some (.int .i64 ((d:Int)+1)))
 (n1:b1≠sr) (n2:b2≠sr) (n3:b3≠sr) :
 Calls Tryz.prog 132 #[mv,.pointer (some ⟨b1,0,none⟩),.pointer (some ⟨b2,0,none⟩),.pointer (some ⟨b3,0,none⟩)] w (qp sr w (kh (rdB d) (levels++more) left l)):=by
 have IH:=gZ ih;clear ih
 have HF:=gZ hF;clear hF
 have l1:=gJ w _ c1
 have l2:=gJ w _ c2
 have l3:=gJ w _ c3
 go_enter Tryz.func132,Tryz.ntmps132
 go_wp2_with fail
 rcases zg [32] l with h1 | ⟨r1,h1⟩
 ·refine (vh hs h1).mono ?_
  rintro en w1 ⟨rfl,gW,ge⟩
  go_wp2_with fail
  go_ret
  exact qp.no (by simp [kh,h1.out]) gW ge
 ·refine (jS hs h1).mono ?_
  rintro en w1 ⟨rfl,gW,ge⟩
  have d1:w1.cell? ⟨b1,0,none⟩=some (.pointer (some ⟨sr,0,none⟩)):=by rw [gW.cell l1 n1];exact c1
  have d2:w1.cell? ⟨b2,0,none⟩=some lv:=by rw [gW.cell l2 n2];exact c2
  have d3:w1.cell? ⟨b3,0,none⟩=some (.int .i64 ((d:Int)+1)):=by rw [gW.cell l3 n3];exact c3
  obtain ⟨xs1,cX,g1⟩:=zN.ofRep gj (vM _)
  obtain ⟨xs2,bX,g2⟩:=zN.ofRep mr (vM _)
  have lim:levels.length+more.length<=10000:=by have:=hh.2;simp at this;omega
  have tP:=vd hs
  have z1:=gW.size
  have hF':=HF.out
  have G1:=gZ (zD.but gW (fun b hb=>⟨HF.out b hb,hb⟩) cX)
  have G2:=gZ (zD.but gW (fun b hb=>⟨HF.out b hb,hb⟩) bX)
  have W1:zN 1 lv levels.length xs1 w1:=srcSl_but gW hF' gj g1
  have W2:zN 1 mv more.length xs2 w1:=srcSl_but gW hF' mr g2
  clear hF' cX bX g1 g2 c1 c2 c3
  obtain ⟨a1,k1,rfl⟩:=W1.slice
  obtain ⟨a2,k2,rfl⟩:=W2.slice
  have l1':b1<w1.heap.size:=by omega
  have l2':b2<w1.heap.size:=by omega
  have l3':b3<w1.heap.size:=by omega
  go_wp2_with fail
  have HW:=gZ (IntWalk.i64_in (d:Int) (by omega))
  go_region_held3 (fun w'=>w'.cell? ⟨b1,0,none⟩=some (.pointer (some ⟨sr,0,none⟩))/\w'.cell? ⟨b2,0,none⟩=some (.slice a1 levels.length k1)/\w'.cell? ⟨b3,0,none⟩=some (.int .i64 ((d:Int)+1)))
   (first
    | exact ⟨(cM.cell l1' n1).trans d1,(cM.cell l2' n2).trans d2,(cM.cell l3' n3).trans d3⟩
    | exact ⟨(hbb.cell l1').trans d1,(hbb.cell l2').trans d2,(hbb.cell l3').trans d3⟩
    | go_keep)
   (first
    | (go_at_call 133;refine (concatK_any w1.heap.size levels.length more.length (.slice a1 levels.length k1) (.slice a2 more.length k2) xs1 xs2 _ (by simp) (by simp) (W1.keep fun _ _ h=>by simpa using zV h) (W2.keep fun _ _ h=>by simpa using zV h) (show _<=_ by omega) (show _<=_ by omega) (show _<=_ by omega)).mono ?_;rintro en wc ⟨ac,kc,rfl,rh,bF,dR⟩;obtain ⟨hbb,tN,mO,fL⟩:=part_pre hg hn tP gW ge HF.out G1.out G2.out (((gV w1.heap.size w1).alloc (gQ _) _).drew) rh bF dR)
    | (go_at_call 98
       rw [HW.out]
       refine (IH.out sr left (levels++more) r1 _ (fun b=>b≠sr) wc tN hn mO hl (hr.mono h1.le) hh fL (fun b h=>h)).mono ?_
       rintro en wf ⟨v,r',left',rfl,hbf,dG,hnf,hyf⟩;have cM:=(But.ofBelow (m:=fun x=>x=sr) hbb).trans hbf))
  go_wp2_with fail
  go_ret
  refine ⟨v,r',left',rfl,gW.trans cM,dG,fun h=>hnf ?_,fun b rest gE h=>?_⟩
  ·simpa [kh,h1.out] using h
  ·obtain ⟨e1,e2,e3⟩:=hyf b rest gE (by simpa [kh,h1.out] using h)
   exact ⟨e1,e2,(Rep.keep fun b o h ho=>⟨by have:=h;have:=hbb.size;omega,ho⟩).1 _ _ e3⟩
theorem kD.cell1 {sc:Nat} {c:List Value} {e:TypeId} {r:Bs} {u:Value} {w:World} (h:kD sc (u::c) e r w):w.cell? ⟨sc,1,none⟩=some u:=by
 simp [World.cell?,kD] at *;simp [h]
theorem kD.put1 {sc:Nat} {c:List Value} {e:TypeId} {r:Bs} {u u':Value} {w:World} (h:kD sc (u::c) e r w):kD sc (u'::c) e r (w.setCell ⟨sc,1,none⟩ u'):=by
 unfold kD at *
 have gH:=zZ h
 have h':w.heap[sc]=.cells (str r::u::c).toArray e (0,0):=by simpa [Array.getElem?_eq_getElem gH] using h
 show (w.heap.modify sc _)[sc]? = _
 rw [Array.getElem?_eq_getElem (by simpa using gH),Array.getElem_modify_self,h']
 simp
def wX (B sr:Nat) (lv:Value) (d:Nat) (w:World):Prop :=
 w.cell? ⟨B,0,none⟩=some (.pointer (some ⟨sr,0,none⟩))/\w.cell? ⟨B+1,0,none⟩=some lv/\w.cell? ⟨B+1+1,0,none⟩=some (.int .i64 (d:Int))
theorem wX.but {B sr:Nat} {lv:Value} {d:Nat} {m:Nat->Prop} {w w':World} (h:wX B sr lv d w) (hb:But m w w') (hm:∀ i,m i->i≠B/\i≠B+1/\i≠B+1+1):wX B sr lv d w':=by
 obtain ⟨h1,h2,h3⟩:=h
 refine ⟨?_,?_,?_⟩
 ·rw [hb.cell (gJ w _ h1) (fun e=>(hm _ e).1 rfl)];exact h1
 ·rw [hb.cell (gJ w _ h2) (fun e=>(hm _ e).2.1 rfl)];exact h2
 ·rw [hb.cell (gJ w _ h3) (fun e=>(hm _ e).2.2 rfl)];exact h3
def jq (ob v:Nat) (slv y n:Value) (w:World):Prop:=w.heap[ob]? = some (.cells #[str [],.int .i64 v,slv,y,n] 105 (0,0))
theorem jq.cells {ob v:Nat} {slv y n:Value} {w:World} (h:jq ob v slv y n w):w.cell? ⟨ob,2,none⟩=some slv/\w.cell? ⟨ob,3,none⟩=some y/\w.cell? ⟨ob,4,none⟩=some n/\ob<w.heap.size/\(∀ o,w.frozen? ⟨ob,o,none⟩=false):=by
 have hl:=zZ h
 unfold jq at h
 exact ⟨by simp [World.cell?,h],by simp [World.cell?,h],by simp [World.cell?,h],hl,fun o=>by simp [World.frozen?,h]⟩
theorem kO {w:World} {b o:Nat} {c:Array Value} {e:TypeId} {u:Value} (h:w.heap[b]? = some (.cells c e (0,0))):(w.setCell ⟨b,o,none⟩ u).heap[b]? = some (.cells (c.setIfInBounds o u) e (0,0)):=by
 have gH:=zZ h
 have h':w.heap[b]=.cells c e (0,0):=by simpa [Array.getElem?_eq_getElem gH] using h
 show (w.heap.modify b _)[b]? = _
 rw [Array.getElem?_eq_getElem (by simpa using gH),Array.getElem_modify_self,h']
 simp
theorem jq.put2 {ob v:Nat} {slv y n u:Value} {w:World} (h:jq ob v slv y n w):jq ob v u y n (w.setCell ⟨ob,2,none⟩ u):=by
 unfold jq;rw [kO h];rfl
theorem jq.put3 {ob v:Nat} {slv y n u:Value} {w:World} (h:jq ob v slv y n w):jq ob v slv u n (w.setCell ⟨ob,3,none⟩ u):=by
 unfold jq;rw [kO h];rfl
theorem jq.put4 {ob v:Nat} {slv y n u:Value} {w:World} (h:jq ob v slv y n w):jq ob v slv y u (w.setCell ⟨ob,4,none⟩ u):=by
 unfold jq;rw [kO h];rfl
def xC (sr B ob Z v d:Nat) (lv:Value) (levels ts:List Ty) (eK:Nat) (r0:Bs) (w:World) (rd:Rd) (k:Nat) (wr:World):Prop :=
 ∃ bs lk leftk slv vs,zv rd (kP levels (ts.take k)) eK r0=some (bs,lk,leftk)/\But (fun x=>x=sr) w wr/\kD sr [.int .i64 (leftk:Nat)] 158 lk wr /\
   jq ob v slv (.pointer none) (.pointer none) wr/\Own wr 55 1 slv k vs/\(∀ g,slv.ownBlock=some g->Z<=g)/\zD (fun b=>Z<=b/\slv.ownBlock≠some b) wr (jP bs) vs/\wX B sr lv (d+1) wr/\Z<=wr.heap.size
theorem xQ (a b:List Bd):jP (a++b)=jP a++jP b:=by
 induction a with
 | nil=>rfl
 | cons t ts ih=>simp [jP,ih]
theorem Tryz.infoB:(Tryz.prog.info? 55).map (fun i=>(i.zero,i.size,i.bytes))=some (some (.pointer none),1,8):=by kernel_rfl
theorem pB {sr left:Nat} {x:UInt8} {r:Bs} {w w2:World} {o:Option (Bd×Bs×Nat)} {u:Value} (hw:u=str [x]) (hm:o=some (.leaf x,r,left)) (hb:But (fun x=>x=sr) w w2) (hs:kD sr [.int .i64 (left:Nat)] 158 r w2) :
 qp sr w o (.returned (.pointer (some ⟨w2.heap.size,0,none⟩))) (w2.alloc (.cells #[u,.int .i64 0,.slice none 0 0,.pointer none,.pointer none] 105)):=by
 refine qp.yes hm (hb.alloc _) (hs.alloc _) ?_
 rw [ke,jt]
 refine ⟨_,_,rfl,hb.size,kJ _ _,?_⟩
 subst hw
 refine zU.2 ⟨_,_,rfl,zf.2 rfl,zU.2 ⟨_,_,rfl,zf.2 rfl,zU.2 ⟨_,_,rfl,?_,zU.2 ⟨_,_,rfl,zf.2 rfl,zU.2 ⟨_,_,rfl,zf.2 rfl,zI.2 rfl⟩⟩⟩⟩⟩
 exact qB.2 ⟨rfl,none,0,rfl,gQ _,fun _=>rfl,.inl rfl⟩
theorem kj.next {d:Nat} {levels:List Ty} {v:Nat} {t a:Ty} (h:kj (d+1) levels) (hv:levels[v]? = some t) (ha:a∈t.args):kj d (levels++a.args):=by
 have ht:=h.1 t (List.mem_of_getElem? hv)
 have fg:∀ ts:List Ty,∀ a∈ts,1+zY a<=zF ts:=by
  intro ts
  induction ts with
  | nil=>simp
  | cons x xs ih =>
    intro a ha
    rcases List.mem_cons.1 ha with rfl | ha
    ·simp [zF]
    ·have:=ih a ha;simp [zF];omega
 have gC:∀ ts:List Ty,ts.length<=zF ts:=by
  intro ts
  induction ts with
  | nil=>simp
  | cons x xs ih=>simp [zF];omega
 have h1:=fg _ a ha
 have h2:=kw t
 have h3:=kw a
 refine ⟨fun x hx=>?_,?_⟩
 ·rcases List.mem_append.1 hx with hx | hx
  ·exact h.1 x hx
  ·have:=fg _ x hx;omega
 ·have:=gC a.args;have:=h.2;simp;omega
theorem kj.same {d:Nat} {levels:List Ty} (h:kj (d+1) levels):kj d (levels++[]):=by
 refine ⟨fun x hx=>h.1 x (by simpa using hx),?_⟩
 have:=h.2;simp;omega
theorem xC.next {sr B ob Z v d:Nat} {lv:Value} {levels ts:List Ty} {eK:Nat} {r0:Bs} {w:World} {rd:Rd} {k:Nat} {wr w1 w2:World} {t:Ty} {bs:List Bd} {lk:Bs} {leftk:Nat} {slv:Value} {vs:List Value}
 {b:Bd} {rest:Bs} {gE:Nat} {vb:Value} {o:Obj} {a':Option Addr} {c':Nat}
 (ht:ts[k]? = some t) (hp:zv rd (kP levels (ts.take k)) eK r0=some (bs,lk,leftk)) (hb:But (fun x=>x=sr) w wr)
 (mm:jq ob v slv (.pointer none) (.pointer none) wr) (hZ:∀ g,slv.ownBlock=some g->Z<=g) (gM:Own wr 55 1 slv k vs) (hr:zD (fun b=>Z<=b/\slv.ownBlock≠some b) wr (jP bs) vs) (hx:wX B sr lv (d+1) wr)
 (hz:Z<=wr.heap.size) (hq:kh rd (levels++t.args) leftk lk=some (b,rest,gE))
 (gW:But (fun x=>x=sr) wr w1) (ge:kD sr [.int .i64 (gE:Nat)] 158 rest w1) (hv:Rep (wr.heap.size<=·) w1 (ke b) vb)
 (cq:Own w2 55 1 (.slice a' (k+1) c') (k+1) (vs++[vb])) (gP:But (fun b=>slv.ownBlock=some b) (w1.alloc o) w2) (hg:∀ g,(Value.slice a' (k+1) c').ownBlock=some g->slv.ownBlock=some g\/g=(w1.alloc o).heap.size)
 (tP:sr<w.heap.size) (hB:w.heap.size<=B) (fY:B+1+1<ob) (hobZ:ob<Z) :
 xC sr B ob Z v d lv levels ts eK r0 w rd (k+1) (w2.setCell ⟨ob,2,none⟩ (.slice a' (k+1) c')):=by
 have z1:=gW.size;have z2:=gP.size;have zw:=hb.size
 rw [zK] at hg z2
 have gH:∀ g,slv.ownBlock=some g->g<wr.heap.size:=fun g h=>gM.lt h
 have hnsr:∀ g,slv.ownBlock=some g->Z<=g:=hZ
 have keep:∀ i x,w1.heap[i]? = some x->slv.ownBlock≠some i->i≠ob->(w2.setCell ⟨ob,2,none⟩ (.slice a' (k+1) c')).heap[i]? = some x:=by
  intro i x hi gN ho
  rw [gU _ _ _ _ (by simpa using ho),gP.block i (by rw [zK];have:=zZ hi;omega) gN]
  exact zG hi
 have iU:jq ob v slv (.pointer none) (.pointer none) w1:=(gW.block ob (zZ mm) (by omega)).trans mm
 have hnb2:jq ob v slv (.pointer none) (.pointer none) w2:=by
  unfold jq;rw [gP.block ob (by rw [zK];have:=zZ iU;omega) (fun e=>by have:=hZ ob e;omega)]
  exact zG iU
 have cX:=hx.but gW (fun i e=>by subst e;omega)
 refine ⟨bs++[b],rest,gE,_,vs++[vb],?_,?_,?_,hnb2.put2,?_,?_,?_,?_,?_⟩
 ·rw [pA ht hp,hq];rfl
 ·refine ((hb.trans gW).trans' ((But.refl (fun b=>slv.ownBlock=some b) w1).alloc o |>.trans gP) fun i hi e=>?_).setCell (p:=⟨ob,2,none⟩) (.inr (by simp;omega)) _
  have:=hZ i e;omega
 ·exact keep sr _ ge (fun e=>by have:=hZ sr e;omega) (by omega)
 ·refine cq.keep fun g x gf cK=>?_
  rw [gU _ _ _ _ (by
   rcases hg g gf with h | h
   ·have:=hZ g h;simp;omega
   ·simp;omega)]
  exact cK
 ·intro g h
  rcases hg g h with h | h
  ·exact hZ g h
  ·omega
 ·rw [xQ]
  refine zD.append ?_ (zD.one ?_)
  ·refine (Rep.keep fun i x hi cK=>⟨⟨hi.1,fun e=>?_⟩,?_⟩).2 _ _ hr
   ·have gN:i≠sr:=by omega
    exact keep i x (by rw [gW.block i (zZ cK) gN];exact cK) hi.2 (by omega)
   ·rcases hg i e with h | h
    ·exact hi.2 h
    ·have:=zZ cK;omega
  ·refine (Rep.keep fun i x hi cK=>⟨⟨by have:=hi;omega,fun e=>?_⟩,?_⟩).1 _ _ hv
   ·exact keep i x cK (fun e=>by have:=gH i e;have:=hi;omega) (by have:=hi;omega)
   ·rcases hg i e with h | h
    ·have:=gH i h;have:=hi;omega
    ·have:=zZ cK;omega
 ·obtain ⟨y1,y2,y3⟩:=cX
  have ck:∀ i u,w1.cell? ⟨i,0,none⟩=some u->slv.ownBlock≠some i->i≠ob->(w2.setCell ⟨ob,2,none⟩ (.slice a' (k+1) c')).cell? ⟨i,0,none⟩=some u:=by
   intro i u hi gN ho
   rw [World.cell?_of_block (w:=w1) (a:=⟨i,0,none⟩) ?_];exact hi
   have hl:=gJ w1 _ hi
   obtain ⟨x,cK⟩:∃ x,w1.heap[i]? = some x:=⟨w1.heap[i],by simp at hl;simp [hl]⟩
   show (w2.setCell ⟨ob,2,none⟩ (.slice a' (k+1) c')).heap[i]? = w1.heap[i]?
   rw [keep i x cK gN ho,cK]
  exact ⟨ck _ _ y1 (fun e=>by have:=hZ _ e;omega) (by omega),ck _ _ y2 (fun e=>by have:=hZ _ e;omega) (by omega),ck _ _ y3 (fun e=>by have:=hZ _ e;omega) (by omega)⟩
 ·simp only [World.setCell];simp;omega
theorem body_ask (d:Nat) (hd:d+1<=1000) (ih:ud d) (sr left:Nat) (levels:List Ty) (l:Bs) (lv:Value) (F:Nat->Prop) (w:World) (hg:qE w) (hn:NotG sr)
 (hs:kD sr [.int .i64 ((left+1:Nat):Int)] 158 l w) (hl:left+1<=1000) (hr:Lim l.length) (hh:kj (d+1) levels)
 (gj:Rep F w (.sl 54 1 levels.length (qJ levels)) lv) (hF:∀ b,F b->b≠sr) (r1:Bs) (v:Nat) (t:Ty) (h1:Cut [40] l r1) (em:lvl (zE r1) levels.length=some v) (ht:levels[v]? = some t) :
 Calls Tryz.prog 98 #[.pointer (some ⟨sr,0,none⟩),lv,.int .i64 ((d:Int)+1)] w (qp sr w (rdB (d+1) levels (left+1) l)):=by
 have HM:=gZ (yw (d+1) levels left h1.out)
 have hm:rdB (d+1) levels (left+1) l=wn (rdB d) levels v t left (zC r1):=by rw [HM.out,em];simp only [ht]
 have HM:=gZ hm;clear hm
 rw [rdAsk_eq] at HM
 have IH:=gZ ih;clear ih
 obtain ⟨eN,gy,dY⟩:=lvl_lt em
 have eh:=gZ gy;have sZ:=gZ dY;have hlvl':=gZ em;have HT:=gZ ht
 have c1:=hs.cell1
 have f1:=hs.free 1
 have lsr:=vd hs
 have lsr1:sr<w.heap.size+1:=by omega
 have lsr2:sr<w.heap.size+1+1:=by omega
 obtain ⟨a0,k0,elv,_,_,hat⟩:=zM gj
 obtain ⟨bl,ol,u,dv,ea,hFl,_,m9,mD,eI⟩:=hat v eN
 rw [ux,ht] at m9
 simp only [Option.map_some,Option.some.injEq] at m9
 subst m9;subst ea;subst elv
 obtain ⟨bt,st,eu,hFt,ig,dp⟩:=zR eI
 subst eu
 obtain ⟨sa,ks,est,hks,_,gt⟩:=zM dp
 subst est
 have ip:w.cell? ⟨bt,0,none⟩=some (.slice sa t.args.length ks):=by simp [World.cell?,ig]
 have nl:=hF bl hFl
 have nt:=hF bt hFt
 have HF:=gZ hF;have mX:=gZ gt
 have CL:=gZ mD;have CT:=gZ ip
 clear gy dY em ht hat eI ig dp hF gt mD ip
 have gC:levels.length<=10000:=by have:=hh.2;omega
 have hta:t.args.length<=15:=by
  have h1:=hh.1 t (List.mem_of_getElem? HT.out)
  have h2:=kw t
  have gC:∀ ts:List Ty,ts.length<=zF ts:=by
   intro ts
   induction ts with
   | nil=>simp
   | cons x xs ih=>simp [zF];omega
  have:=gC t.args;omega
 go_enter Tryz.func98,Tryz.ntmps98
 go_wp2_with fail
 obtain ⟨W0,dw⟩:=zzM (((((w.setCell ⟨sr,1,none⟩ (.int .i64 left)).alloc (.cells #[.pointer (some ⟨sr,0,none⟩)] 156)).alloc (.cells #[.slice (some ⟨bl,ol,none⟩) levels.length k0] 86)).alloc (.cells #[.int .i64 ((d:Int)+1)] 3)))
 rw [<- dw]
 have dq:But (fun x=>x=sr) w W0:=by subst dw;exact ((((But.refl _ _).setS 1 _).alloc _).alloc _).alloc _
 have bT:kD sr [.int .i64 left] 158 l W0:=by subst dw;exact ((hs.put1).alloc _).alloc _ |>.alloc _
 have rj:wX w.heap.size sr (.slice (some ⟨bl,ol,none⟩) levels.length k0) (d+1) W0:=by subst dw;refine ⟨?_,?_,?_⟩ <;> go_simp
 have z0:W0.heap.size=w.heap.size+3:=by subst dw;simp
 clear dw c1 f1
 refine (jS bT h1).mono ?_
 rintro en w1 ⟨rfl,gW,ge⟩
 have cX:=rj.but gW (fun i e=>by subst e;omega)
 have hb:=dq.trans gW
 have z1:=gW.size
 clear dq gW bT rj
 obtain ⟨x1,x2,x3⟩:=id cX
 go_wp2_with fail
 refine (wT _ _ _ _ _ ge (hr.mono h1.le)).mono ?_
 rintro en w2 ⟨rfl,gP,g7⟩
 have gp:=hr.mono h1.le
 have nz:=gp.mono (show (zE r1).length<=r1.length by have:=word_le r1;omega)
 have bX:=cX.but gP (fun i e=>by subst e;omega)
 have gu:=hb.trans gP
 have z2:=gP.size
 have eX:=hg.but gu (fun i e=>by subst e;exact hn)
 clear x1 x2 x3 hb gP ge cX
 go_wp2_with fail
 refine (atoi_ok _ _ nz (v:Int) eh.out).mono ?_
 rintro en w3 ⟨rfl,gF⟩
 have z3:=gF.size
 have er:=eX.below gF
 have bS:=(gF.block sr (by omega)).trans g7
 have rq:=bX.but (But.ofBelow (m:=fun _=>False) gF) (fun i e=>e.elim)
 have hb:=gu.trans (But.ofBelow gF)
 clear gu gF g7 bX eX
 go_wp2_with fail
 refine (itoa_of eh.out w3 er).mono ?_
 rintro en w4 ⟨rfl,gS⟩
 have z4:=gS.size
 have bm:=(gS.block sr (by omega)).trans bS
 have iI:=er.below gS
 have aY:=rq.but (But.ofBelow (m:=fun _=>False) gS) (fun i e=>e.elim)
 obtain ⟨x1,x2,x3⟩:=id aY
 have gu:=hb.trans (But.ofBelow gS)
 have hq:(Lib.itoa (v:Int) == zE r1)=true:=by rw [beq_iff_eq];exact sZ.out
 have mG:decide ((v:Int)<0)=false:=by rw [decide_eq_false_iff_not];omega
 have cI:decide (levels.length<=v)=false:=by rw [decide_eq_false_iff_not];omega
 have fa:(((d:Int)+1) == 0)=false:=by rw [beq_eq_false_iff_ne];omega
 have s1:w.heap.size+1<w4.heap.size:=by omega
 have s2:w.heap.size<w4.heap.size:=by omega
 have s3:w.heap.size+1+1<w4.heap.size:=by omega
 have d1:w4.cell? ⟨bl,ol+v,none⟩=some (.pointer (some ⟨bt,0,none⟩)):=by rw [gu.cell (gJ w _ CL.out) nl];exact CL.out
 have d2:w4.cell? ⟨bt,0,none⟩=some (.slice sa t.args.length ks):=by rw [gu.cell (gJ w _ CT.out) nt];exact CT.out
 have d3:=gJ w4 _ d1
 have d4:=gJ w4 _ d2
 clear hb gS bS rq er
 go_wp2_with fail
 have gl:xC sr w.heap.size w4.heap.size (w4.heap.size+1) v d (.slice (some ⟨bl,ol,none⟩) levels.length k0) levels t.args left (zC r1) w (rdB d) 0
  (w4.alloc (.cells #[.string ⟨#[]⟩,.int .i64 v,.slice none 0 0,.pointer none,.pointer none] 105)):=by
  refine ⟨[],zC r1,left,.slice none 0 0,[],by simp [kP,zv],gu.alloc _,kD.alloc bm _,kJ _ _,World.ownsRow_nil _ _ _ _,fun g h=>by simp [Value.ownBlock] at h,zI.2 rfl,aY.but ((But.refl (fun _=>False) _).alloc _) (fun i e=>e.elim),by simp⟩
 have hz4:w.heap.size+1+1<w4.heap.size:=s3
 clear x1 x2 x3 d1 d2 d3 d4 aY bm gu iI
 generalize hZ:w4.heap.size+1=Z at gl
 generalize hO:w4.heap.size=ob at *
 have HZ:=gZ hZ;clear hZ
 have HO:=gZ hO;clear hO
 go_loopw [93] (fun i wr=>∃ k:Nat,k<=t.args.length/\i=.int .i64 k/\xC sr w.heap.size ob Z v d (.slice (some ⟨bl,ol,none⟩) levels.length k0) levels t.args left (zC r1) w (rdB d) k wr)
  (fun i _=>t.args.length-(intOf i).toNat)
 case atStart=>exact ⟨0,Nat.zero_le _,rfl,gl⟩
 case round =>
  clear gl
  rename_i wr
  obtain ⟨k,hk,rfl,hrel⟩:=hrel
  obtain ⟨bs,lk,leftk,slv,vs,hp,hb,eA,mm,gM,hZb,cQ,nQ,hzr⟩:=hrel
  have hple:=vr (wl d) _ hp
  have iB:leftk<=1000:=by omega
  have tJ:=vZ r1
  have fp:Lim lk.length:=hr.mono (by have:=h1.le;omega)
  have hgk:qE wr:=hg.but hb (fun i e=>by subst e;exact hn)
  have r8:Rep F wr (.sl 54 1 levels.length (qJ levels)) (.slice (some ⟨bl,ol,none⟩) levels.length k0):=Rep.but hb (fun b hb=>⟨HF.out b hb,hb⟩) gj
  have tH:=gZ hp;have rF:=gZ hZb;clear hp hZb hple
  by_cases gH:k<t.args.length
  ·obtain ⟨ba,oa,uk,dk,esa,hFa,_,n_,nZ,dH⟩:=mX.out k gH
   subst esa
   rw [ux,Option.map_eq_some_iff] at n_
   obtain ⟨tk,cO,rfl⟩:=n_
   obtain ⟨bk,sk,euk,hFk,im,rv⟩:=zR dH
   subst euk
   obtain ⟨ask,ksk,esk⟩:∃ a c,sk=.slice a tk.args.length c:=by obtain ⟨a,c,e,_⟩:=zM rv;exact ⟨a,c,e⟩
   subst esk
   have e1:wr.cell? ⟨ba,oa+k,none⟩=some (.pointer (some ⟨bk,0,none⟩)):=by rw [hb.cell (gJ w _ nZ) (HF.out ba hFa)];exact nZ
   have e2:wr.cell? ⟨bk,0,none⟩=some (.slice ask tk.args.length ksk):=by
    have:w.cell? ⟨bk,0,none⟩=some (.slice ask tk.args.length ksk):=by simp [World.cell?,im]
    rw [hb.cell (gJ w _ this) (HF.out bk hFk)];exact this
   have aE:Rep F wr (.sl 54 1 tk.args.length (qJ tk.args)) (.slice ask tk.args.length ksk):=Rep.but hb (fun b hb=>⟨HF.out b hb,hb⟩) rv
   have n6:kj d (levels++tk.args):=hh.next HT.out (List.mem_of_getElem? cO)
   have HTK:=gZ cO
   clear cO nZ im dH rv
   obtain ⟨y1,y2,y3⟩:=id nQ
   go_wp2_with fail
   refine (pU d IH.out sr leftk levels tk.args lk _ _ F wr w.heap.size (w.heap.size+1) (w.heap.size+1+1) hgk hn eA iB fp n6 (by omega) r8 aE HF.out y1 y2 y3 (by omega) (by omega) (by omega)).mono ?_
   rintro en w5 ⟨vb,r',left',rfl,gR,bf,fv,fF⟩
   clear y1 y2 y3 e1 e2
   cases hq:kh (rdB d) (levels++tk.args) leftk lk with
   | none =>
     obtain rfl:=fv hq
     have HQ:=gZ hq;clear hq fv fF
     go_wp2_with fail
     go_ret
     refine qp.no ?_ (hb.trans gR) bf
     rw [HM.out,hands_none (k+1) (by rw [pA HTK.out tH.out,HQ.out];rfl)];rfl
   | some x =>
     obtain ⟨b,rest,gE⟩:=x
     obtain ⟨rfl,rfl,tX⟩:=fF b rest gE hq
     have HQ:=gZ hq;clear hq fv fF
     obtain ⟨ab,evb⟩:=kV tX
     subst evb
     have ed:jq ob v slv (.pointer none) (.pointer none) w5:=(gR.block ob (zZ mm) (by have:=HO.out;omega)).trans mm
     obtain ⟨q1,_,_,q4,q5⟩:=ed.cells
     have q6:=q5 2
     have aw:Own w5 55 1 slv k vs:=gM.keep fun g o gf ho=>by rw [gR.block g (zZ ho) (by have:=rF.out g gf;have:=HZ.out;omega)];exact ho
     clear q5
     go_wp2_with (at_builtin;refine zB rfl _ _ 103 rfl 55 (.pointer none) 1 8 Tryz.underlying103 Tryz.infoB rfl (by decide) slv k vs rfl ?c1 _ 1 [.pointer (some ⟨ab,0,none⟩)] rfl ?c2 ?c3 ?c4 ?_)
     case c1=>exact aw.keep fun g o gf ho=>zG ho
     case c2=>exact zN.lit rfl
     case c3=>unfold maxLen;omega
     case c4=>omega
     intro a' c' w6 cq gB gf
     have mf:jq ob v slv (.pointer none) (.pointer none) w6:=by
      unfold jq;rw [gB.block ob (by simp;omega) (fun e=>by have:=rF.out ob e;have:=HZ.out;omega)]
      exact zG ed
     have iQ:=xC.next HTK.out tH.out hb mm rF.out gM cQ nQ hzr HQ.out gR bf tX cq gB (fun g h=>(gf g h).imp_right fun e=>e.trans (by simp)) lsr (gQ _) hz4 (by have:=HZ.out;omega)
     obtain ⟨p1,_,_,p4,p5⟩:=mf.cells
     have p6:=p5 2
     have HG:=gZ gf;clear gf p5
     go_wp2_with fail
     go_roundw
     case rel=>exact ⟨k+1,by omega,by go_num,iQ⟩
     case measure=>simp [intOf];omega
  ·obtain rfl:k=t.args.length:=by omega
   have hp:zv (rdB d) (kP levels t.args) left (zC r1)=some (bs,lk,leftk):=by have:=tH.out;rwa [List.take_length] at this
   have HP:=gZ hp;clear hp tH gH hk
   have rn:∀ W:World,Rep F W (.sl 54 1 ([]:List Ty).length (qJ [])) (.slice none 0 0):=fun W=>qB.2 ⟨rfl,none,0,rfl,gQ _,fun _=>rfl,.inl rfl⟩
   have hh0:=hh.same
   have lw:=gZ rn;clear rn
   obtain ⟨y1,y2,y3⟩:=id nQ
   go_wp2_with fail
   refine (pU d IH.out sr leftk levels [] lk _ _ F wr w.heap.size (w.heap.size+1) (w.heap.size+1+1) hgk hn eA iB fp hh0 (by omega) r8 (lw.out wr) HF.out y1 y2 y3 (by omega) (by omega) (by omega)).mono ?_
   rw [List.append_nil] at *
   rintro en w5 ⟨vb,r',left',rfl,gR,bf,fv,fF⟩
   clear y1 y2 y3
   have ed:jq ob v slv (.pointer none) (.pointer none) w5:=(gR.block ob (zZ mm) (by have:=HO.out;omega)).trans mm
   have ii:=nQ.but gR (fun i e=>by subst e;omega)
   have cT:=hb.trans gR
   have z5:=gR.size
   have zr:=hb.size
   obtain ⟨_,q2,_,q4,q5⟩:=ed.cells
   have q6:=q5 3;clear q5
   cases hq:kh (rdB d) levels leftk lk with
   | none =>
     obtain rfl:=fv hq
     have HQ:=gZ hq;clear hq fv fF
     go_wp2_with fail
     go_ret
     refine qp.no ?_ (cT.setCell (p:=⟨ob,3,none⟩) (.inr (by simp;omega)) _) (r:=r') (left:=left') ?_
     ·rw [HM.out];simp only [HP.out,Option.bind_eq_bind,Option.bind_some,HQ.out,Option.bind_none]
     ·unfold kD;rw [gU _ _ _ _ (by simp;omega)];exact bf
   | some x =>
     obtain ⟨by1,rest1,bP⟩:=x
     obtain ⟨rfl,rfl,tX⟩:=fF _ _ _ hq
     have hle5:=vz (wl d) hq
     have HQ:=gZ hq;clear hq fv fF
     obtain ⟨ab,evb⟩:=kV tX
     subst evb
     have ro:=ed.put3 (u:=.pointer (some ⟨ab,0,none⟩))
     obtain ⟨WA,tu⟩:=zzM (w5.setCell ⟨ob,3,none⟩ (.pointer (some ⟨ab,0,none⟩)))
     go_wp2_with fail
     rw [<- tu] at ro ⊢
     have eH:But (fun x=>x=sr) w WA:=by subst tu;exact cT.setCell (p:=⟨ob,3,none⟩) (.inr (by simp;omega)) _
     have kA:∀ i x,w5.heap[i]? = some x->i≠ob->WA.heap[i]? = some x:=by
      intro i x hx gN;subst tu;rw [gU _ _ _ _ (by simpa using gN)];exact hx
     have zA:WA.heap.size=w5.heap.size:=by subst tu;simp [World.setCell]
     have hsA:kD sr [.int .i64 (bP:Nat)] 158 r' WA:=kA _ _ bf (by omega)
     have ie:wX w.heap.size sr (.slice (some ⟨bl,ol,none⟩) levels.length k0) (d+1) WA:=by
      subst tu
      exact ii.but (m:=fun i=>i=ob) ((But.refl (fun i=>i=ob) w5).setCell (p:=⟨ob,3,none⟩) (.inl rfl) _) (fun i e=>by subst e;omega)
     have hrsA:zD (fun b=>Z<=b/\slv.ownBlock≠some b) WA (jP bs) vs :=
      (Rep.keep fun i x hi hx=>⟨hi,kA i x (by rw [gR.block i (zZ hx) (by have:=HZ.out;omega)];exact hx) (by have:=HZ.out;omega)⟩).2 _ _ cQ
     have au:Own WA 55 1 slv t.args.length vs:=gM.keep fun g o gf ho=>kA g o (by rw [gR.block g (zZ ho) (by have:=rF.out g gf;have:=HZ.out;omega)];exact ho) (by have:=rF.out g gf;have:=HZ.out;omega)
     have hv5A:Rep (wr.heap.size<=·) WA (ke by1) (.pointer (some ⟨ab,0,none⟩)):=(Rep.keep fun i x hi hx=>⟨hi,kA i x hx (by have:=zZ mm;have:=hi;omega)⟩).1 _ _ tX
     have hgA:qE WA:=hg.but eH (fun i e=>by subst e;exact hn)
     have hlvA:Rep F WA (.sl 54 1 levels.length (qJ levels)) (.slice (some ⟨bl,ol,none⟩) levels.length k0):=Rep.but eH (fun b hb=>⟨HF.out b hb,hb⟩) gj
     have KA:=gZ kA
     clear tu kA q2 q4 q6 ed gR ii bf cQ tX eA nQ r8 hgk
     obtain ⟨y1,y2,y3⟩:=id ie
     refine (pU d IH.out sr bP levels [] r' _ _ F WA w.heap.size (w.heap.size+1) (w.heap.size+1+1) hgA hn hsA (by omega) (fp.mono (by omega)) (by rw [List.append_nil];exact hh0) (by omega) hlvA (lw.out WA) HF.out y1 y2 y3 (by omega) (by omega) (by omega)).mono ?_
     rw [List.append_nil] at *
     rintro en w6 ⟨vn,r6,aQ,rfl,gB,bh,fj,fE⟩
     clear y1 y2 y3
     have mf:jq ob v slv (.pointer (some ⟨ab,0,none⟩)) (.pointer none) w6:=(gB.block ob (zZ ro) (by have:=HO.out;omega)).trans ro
     have hbx6:=ie.but gB (fun i e=>by subst e;omega)
     obtain ⟨x1,_,_⟩:=id hbx6
     have tO:=eH.trans gB
     have z6:=gB.size
     obtain ⟨_,_,q3,q4,q5⟩:=mf.cells
     have q6:=q5 4;clear q5
     cases g6:kh (rdB d) levels bP r' with
     | none =>
       obtain rfl:=fj g6
       have dW:=gZ g6;clear g6 fj fE
       go_wp2_with fail
       go_ret
       refine qp.no ?_ (tO.setCell (p:=⟨ob,4,none⟩) (.inr (by simp;omega)) _) (r:=r6) (left:=aQ) ?_
       ·rw [HM.out];simp only [HP.out,Option.bind_eq_bind,Option.bind_some,HQ.out,dW.out,Option.bind_none]
       ·unfold kD;rw [gU _ _ _ _ (by simp;omega)];exact bh
     | some x =>
       obtain ⟨bn,rest2,gE⟩:=x
       obtain ⟨rfl,rfl,hv6⟩:=fE _ _ _ g6
       have hle6:=vz (wl d) g6
       have dW:=gZ g6;clear g6 fj fE
       obtain ⟨an,evn⟩:=kV hv6
       subst evn
       have iV:=mf.put4 (u:=.pointer (some ⟨an,0,none⟩))
       have hbD:But (fun x=>x=sr) w (w6.setCell ⟨ob,4,none⟩ (.pointer (some ⟨an,0,none⟩))):=tO.setCell (p:=⟨ob,4,none⟩) (.inr (by simp;omega)) _
       have hsD:kD sr [.int .i64 (gE:Nat)] 158 r6 (w6.setCell ⟨ob,4,none⟩ (.pointer (some ⟨an,0,none⟩))):=by
        unfold kD;rw [gU _ _ _ _ (by simp;omega)];exact bh
       go_wp2_with fail
       rcases zg [41] r6 with h7 | ⟨r7,h7⟩
       ·refine (vh hsD h7).mono ?_
        rintro en w7 ⟨rfl,gD,dg⟩
        go_wp2_with fail
        go_ret
        refine qp.no ?_ (hbD.trans gD) dg
        rw [HM.out];simp only [HP.out,Option.bind_eq_bind,Option.bind_some,HQ.out,dW.out,h7.out,Option.bind_none]
       refine (jS hsD h7).mono ?_
       rintro en w7 ⟨rfl,gD,dg⟩
       go_wp2_with fail
       go_ret
       refine qp.yes (b:=.ask v bs by1 bn) (r:=r7) (left:=gE) ?_ (hbD.trans gD) dg ?_
       ·rw [HM.out];simp only [HP.out,Option.bind_eq_bind,Option.bind_some,HQ.out,dW.out,h7.out]
       ·have nL:∀ i x,w6.heap[i]? = some x->i≠ob->i≠sr->w7.heap[i]? = some x:=by
         intro i x hx gN ao
         rw [gD.block i (by have:=zZ hx;simpa [World.setCell] using this) ao,gU _ _ _ _ (by simpa using gN)];exact hx
        have keepA:∀ i x,WA.heap[i]? = some x->i≠ob->i≠sr->w7.heap[i]? = some x:=fun i x hx gN ao=>nL i x (by rw [gB.block i (zZ hx) ao];exact hx) gN ao
        have hnb7:jq ob v slv (.pointer (some ⟨ab,0,none⟩)) (.pointer (some ⟨an,0,none⟩)) w7:=(gD.block ob (zZ iV) (by omega)).trans iV
        have hZo:=HZ.out
        have c_:bs.length=t.args.length:=by
         have:=(vr (wl d) _ HP.out).2.2;simpa [kP] using this
        rw [ke,jt]
        refine ⟨ob,_,rfl,by omega,hnb7,?_⟩
        refine zU.2 ⟨_,_,rfl,zf.2 rfl,zU.2 ⟨_,_,rfl,zf.2 rfl,zU.2 ⟨_,_,rfl,?_,zU.2 ⟨_,_,rfl,?_,zU.2 ⟨_,_,rfl,?_,zI.2 rfl⟩⟩⟩⟩⟩
        ·rw [c_]
         refine (au.keep fun g o gf ho=>keepA g o ho (by have:=rF.out g gf;omega) (by have:=rF.out g gf;omega)).rep (fun g gf=>by have:=rF.out g gf;omega) ?_
         exact (Rep.keep fun i x hi hx=>⟨by omega,keepA i x hx (by omega) (by omega)⟩).2 _ _ hrsA
        ·exact (Rep.keep fun i x hi hx=>⟨by have:=hi;omega,keepA i x hx (by have:=hi;omega) (by have:=hi;omega)⟩).1 _ _ hv5A
        ·exact (Rep.keep fun i x hi hx=>⟨by have:=hi;omega,nL i x hx (by have:=hi;omega) (by have:=hi;omega)⟩).1 _ _ hv6
theorem body_step (d:Nat) (hd:d<=1000) (ih:∀ d',d=d'+1->ud d'):ud d:=by
 intro sr left levels l lv F w hg hn hs hl hr hh gj hF
 have IH:=gZ ih;clear ih
 have HF:=gZ hF;clear hF
 have c1:=hs.cell1
 have f1:=hs.free 1
 have lsr:=vd hs
 have lsr1:sr<w.heap.size+1:=by omega
 have lsr2:sr<w.heap.size+1+1:=by omega
 obtain ⟨a0,k0,elv⟩:∃ a k,lv=.slice a levels.length k:=by obtain ⟨a,k,e,_⟩:=zM gj;exact ⟨a,k,e⟩
 subst elv
 rcases left with _ | left
 ·clear IH
  go_enter Tryz.func98,Tryz.ntmps98
  go_wp2_with fail
  go_ret
  refine qp.no (by unfold rdB;rfl) (((((But.refl _ _).setS 1 _).alloc _).alloc _).alloc _) (((hs.put1).alloc _).alloc _ |>.alloc _)
 by_cases sA:∃ d' r1 v t,d=d'+1/\Cut [40] l r1/\lvl (zE r1) levels.length=some v/\levels[v]? = some t
 ·obtain ⟨d',r1,v,t,rfl,h1,h2,h3⟩:=sA
  exact body_ask d' hd (IH.out d' rfl) sr left levels l _ F w hg hn hs hl hr hh gj HF.out r1 v t h1 h2 h3
 have l_:=gZ sA;clear sA IH
 go_enter Tryz.func98,Tryz.ntmps98
 go_wp2_with fail
 obtain ⟨W0,dw⟩:=zzM (((((w.setCell ⟨sr,1,none⟩ (.int .i64 left)).alloc (.cells #[.pointer (some ⟨sr,0,none⟩)] 156)).alloc (.cells #[.slice a0 levels.length k0] 86)).alloc (.cells #[.int .i64 d] 3)))
 rw [<- dw]
 have dq:But (fun x=>x=sr) w W0:=by subst dw;exact ((((But.refl _ _).setS 1 _).alloc _).alloc _).alloc _
 have bT:kD sr [.int .i64 left] 158 l W0:=by subst dw;exact ((hs.put1).alloc _).alloc _ |>.alloc _
 have rj:wX w.heap.size sr (.slice a0 levels.length k0) d W0:=by subst dw;refine ⟨?_,?_,?_⟩ <;> go_simp
 have z0:W0.heap.size=w.heap.size+3:=by subst dw;simp
 have hb0':=dq
 clear dw c1 f1
 have n1:w.heap.size≠sr:=by omega
 have n2:w.heap.size+1≠sr:=by omega
 have n3:w.heap.size+1+1≠sr:=by omega
 rcases zg [40] l with h1 | ⟨r1,h1⟩
 ·refine (vh bT h1).mono ?_
  rintro en w1 ⟨rfl,gW,ge⟩
  obtain ⟨x1,x2,x3⟩:=rj.but gW (fun i e=>by subst e;omega)
  go_wp2_with fail
  refine (wT _ _ _ _ _ ge hr).mono ?_
  rintro en w2 ⟨rfl,gP,g7⟩
  have hb:=(dq.trans gW).trans gP
  have hm:rdB d levels (left+1) l=(if zE l=[116] then some (Bd.leaf 116,zC l,left) else if zE l=[102] then some (.leaf 102,zC l,left) else if zE l=[117] then some (.leaf 117,zC l,left) else none):=by
   unfold rdB;simp only [h1.out]
  have HM:=gZ hm;clear hm
  go_wp2_with fail
  ·have hw:zE l=[116]:=by assumption
   go_ret
   exact pB (o:=rdB d levels (left+1) l) (x:=116) rfl (by rw [HM.out,if_pos hw]) hb g7
  ·have hw:zE l=[102]:=by assumption
   go_ret
   exact pB (o:=rdB d levels (left+1) l) (x:=102) rfl (by rw [HM.out,if_neg (by rw [hw];decide),if_pos hw]) hb g7
  ·have hw:((!zE l == [116])=true/\(!zE l == [102])=true)/\(!zE l == [117])=true:=by assumption
   go_ret
   simp only [Bool.not_eq_true',beq_eq_false_iff_ne] at hw
   exact qp.no (by rw [HM.out,if_neg hw.1.1,if_neg hw.1.2,if_neg hw.2]) hb g7
  ·have hw:((!zE l == [116])=false\/(!zE l == [102])=false)\/(!zE l == [117])=false:=by assumption
   have hw1:¬ zE l=[116]:=by assumption
   have tV:¬ zE l=[102]:=by assumption
   have hw3:zE l=[117]:=by simpa [hw1,tV] using hw
   go_ret
   exact pB (o:=rdB d levels (left+1) l) (x:=117) (by rw [hw3]) (by rw [HM.out,if_neg hw1,if_neg tV,if_pos hw3]) hb g7
 refine (jS bT h1).mono ?_
 rintro en w1 ⟨rfl,gW,ge⟩
 have cX:=rj.but gW (fun i e=>by subst e;omega)
 obtain ⟨x1,x2,x3⟩:=cX
 go_wp2_with fail
 refine (wT _ _ _ _ _ ge (hr.mono h1.le)).mono ?_
 rintro en w2 ⟨rfl,gP,g7⟩
 have gp:=hr.mono h1.le
 have hb:=(dq.trans gW).trans gP
 have bX:=(rj.but gW (fun i e=>by subst e;omega)).but gP (fun i e=>by subst e;omega)
 clear x1 x2 x3
 have eX:=hg.but hb (fun i e=>by subst e;exact hn)
 have nz:=gp.mono (show (zE r1).length<=r1.length by have:=word_le r1;omega)
 have z2:=hb.size
 have z2':w.heap.size+3<=w2.heap.size:=by have:=gW.size;have:=gP.size;omega
 clear gW gP bT dq hb0' rj ge
 have HM:=gZ (yw d levels left h1.out)
 go_wp2_with fail
 cases be:lvl (zE r1) levels.length with
 | none =>
   have HN:rdB d levels (left+1) l=none:=by rw [HM.out,be]
   rcases lvl_no be with cj | ⟨v,gy,hv⟩
   ·refine (atoi_no _ _ nz eX cj).mono ?_
    rintro en w3 ⟨v,t,p,rfl,gF⟩
    have rS:=gZ HN;clear HN be cj
    go_wp2_with fail
    go_ret
    exact qp.no rS.out (hb.trans (But.ofBelow gF)) ((gF.block sr (by omega)).trans g7)
   ·refine (atoi_ok _ _ nz v gy).mono ?_
    rintro en w3 ⟨rfl,gF⟩
    have rS:=gZ HN;clear HN be
    have er:=eX.below gF
    have bS:=(gF.block sr (by omega)).trans g7
    have rq:=bX.but (But.ofBelow (m:=fun _=>False) gF) (fun i e=>e.elim)
    have eh:=gZ gy;clear gy
    go_wp2_with fail
    refine (itoa_of eh.out w3 er).mono ?_
    rintro en w4 ⟨rfl,gS⟩
    have z3:=gF.size
    have bm:=(gS.block sr (by omega)).trans bS
    obtain ⟨x1,x2,x3⟩:=rq.but (But.ofBelow (m:=fun _=>False) gS) (fun i e=>e.elim)
    have gu:=(hb.trans (But.ofBelow gF)).trans (But.ofBelow gS)
    rcases hv with hv | ⟨hv,nj⟩ | ⟨hv,nj,hv3⟩
    ·have hq:(Lib.itoa v == zE r1)=false:=by rw [beq_eq_false_iff_ne];exact hv
     clear hv
     go_wp2_with fail
     go_ret
     exact qp.no rS.out gu bm
    ·have hq:(Lib.itoa v == zE r1)=true:=by rw [beq_iff_eq];exact hv
     clear hv
     go_wp2_with fail
     go_ret
     exact qp.no rS.out gu bm
    ·have hq:(Lib.itoa v == zE r1)=true:=by rw [beq_iff_eq];exact hv
     clear hv
     go_wp2_with fail
     go_ret
     exact qp.no rS.out gu bm
 | some v =>
   obtain ⟨eN,gy,dY⟩:=lvl_lt be
   have iw:d=0:=by
    rcases Nat.eq_zero_or_pos d with h | h
    ·exact h
    ·exact absurd ⟨d-1,r1,v,levels[v],by omega,h1,be,by simp [eN]⟩ l_.out
   have HD:=gZ iw;clear iw l_
   refine (atoi_ok _ _ nz (v:Int) gy).mono ?_
   rintro en w3 ⟨rfl,gF⟩
   have er:=eX.below gF
   have bS:=(gF.block sr (by omega)).trans g7
   have rq:=bX.but (But.ofBelow (m:=fun _=>False) gF) (fun i e=>e.elim)
   have eh:=gZ gy;clear gy
   have em:=gZ be;clear be
   have sZ:=gZ dY;clear dY
   go_wp2_with fail
   refine (itoa_of eh.out w3 er).mono ?_
   rintro en w4 ⟨rfl,gS⟩
   have z3:=gF.size
   have z4:=gS.size
   have bm:=(gS.block sr (by omega)).trans bS
   have iI:=er.below gS
   have aY:=rq.but (But.ofBelow (m:=fun _=>False) gS) (fun i e=>e.elim)
   obtain ⟨x1,x2,x3⟩:=aY
   have gu:=(hb.trans (But.ofBelow gF)).trans (But.ofBelow gS)
   have hq:(Lib.itoa (v:Int) == zE r1)=true:=by rw [beq_iff_eq];exact sZ.out
   have gC:levels.length<=10000:=by have:=hh.2;omega
   clear hb gF gS g7 bX rq bS eX er
   have fa:((d:Int) == 0)=true:=by rw [beq_iff_eq];have:=HD.out;omega
   go_wp2_with fail
   go_ret
   exact qp.no (by rw [HM.out,em.out];have:=HD.out;subst this;rfl) gu bm
theorem body_any (d:Nat) (hd:d<=1000):ud d:=by
 induction d with
 | zero=>exact body_step 0 hd (fun d' h=>by omega)
 | succ d ih=>exact body_step (d+1) hd (fun d' h=>by obtain rfl:d=d':=by omega
                                                     exact ih (by omega))
def qn (t:Ty) (l:Bs):Option Bd:=match rdB 100 t.args 200 l with
 | some (b,[],_)=>some b
 | _=>none
def RPost {α:Type} (enc:α->DV) (w:World) (o:Option α) (en:Ending) (w':World):Prop :=
 ∃ v,en=.returned v/\Below w.heap.size w w'/\(o=none->v=.pointer none)/\(∀ b,o=some b->Rep (w.heap.size<=·) w' (enc b) v)
theorem handOk_of {t:Ty} (h:zY t<=15):kj 100 t.args:=by
 have h1:=kw t
 have gC:∀ ts:List Ty,ts.length<=zF ts:=by
  intro ts;induction ts with
  | nil=>simp
  | cons x xs ih=>simp [zF];omega
 have fg:∀ ts:List Ty,∀ a∈ts,1+zY a<=zF ts:=by
  intro ts
  induction ts with
  | nil=>simp
  | cons x xs ih =>
    intro a ha
    rcases List.mem_cons.1 ha with rfl | ha
    ·simp [zF]
    ·have:=ih a ha;simp [zF];omega
 refine ⟨fun a ha=>?_,?_⟩
 ·have:=fg _ a ha;omega
 ·have:=gC t.args;omega
theorem xS (F:Nat->Prop) (t:Ty) (l:Bs) (kv:Value) (w:World) (hg:qE w) (hk:Rep F w (qS t) kv) (ht:zY t<=15) (hl:Lim l.length) :
 Calls Tryz.prog 60 #[kv,str l] w (RPost ke w (qn t l)):=by
 obtain ⟨bk,sk,rfl,hFk,hc,hs⟩:=zR hk
 obtain ⟨a,c,e,_⟩:=zM hs
 subst e
 have c1:w.cell? ⟨bk,0,none⟩=some (.slice a t.args.length c):=by simp [World.cell?,hc]
 have lk:=zZ hc
 have HC:=gZ hc;clear hc
 go_enter Tryz.func60,Tryz.ntmps60
 go_wp2_with fail
 have bT:kD w.heap.size [.int .i64 (200:Nat)] 158 l (w.alloc (.cells #[str l,.int .i64 200] 158)):=kJ _ _
 have mi:Rep (fun b=>b<w.heap.size) (w.alloc (.cells #[str l,.int .i64 200] 158)) (.sl 54 1 t.args.length (qJ t.args)) (.slice a t.args.length c) :=
  (Rep.keep fun b o _ ho=>⟨zZ ho,zG ho⟩).1 _ _ hs
 refine (body_any 100 (by omega) w.heap.size 200 t.args l _ _ _ (hg.below ((gV _ _).alloc (gQ _) _)) (hg.new (gQ _)) bT (by omega) hl (handOk_of ht) mi (fun b hb=>by have:=hb;omega)).mono ?_
 rintro en w1 ⟨v,r',left',rfl,gW,ge,gq,gx⟩
 have hb:Below w.heap.size w w1:=((gV w.heap.size w).alloc (gQ _) _).trans (gW.toBelow (by simp) (fun i hi e=>by omega))
 have dT:=ge.cell
 have hz:w.heap.size<w1.heap.size:=vd ge
 cases hq:rdB 100 t.args 200 l with
 | none =>
   obtain rfl:=gq hq
   have HQ:=gZ hq;clear hq gq gx
   go_wp2_with fail
   go_ret
   exact ⟨_,rfl,hb,fun _=>rfl,fun b h=>by simp [qn,HQ.out] at h⟩
 | some x =>
   obtain ⟨b,rest,left⟩:=x
   obtain ⟨rfl,_,hv⟩:=gx _ _ _ hq
   have HQ:=gZ hq;clear hq gq gx
   obtain ⟨av,ev⟩:=kV hv
   subst ev
   cases r' with
   | cons x xs =>
     have gN:(!(x::xs).isEmpty)=true:=rfl
     go_wp2_with fail
     go_ret
     exact ⟨_,rfl,hb,fun _=>rfl,fun b h=>by simp [qn,HQ.out] at h⟩
   | nil =>
     go_wp2_with fail
     go_ret
     have HM:qn t l=some b:=by simp [qn,HQ.out]
     refine ⟨_,rfl,hb,fun h=>by simp [HM] at h,fun b' h=>?_⟩
     rw [HM] at h;simp at h;subst h
     exact (Rep.keep fun b o h ho=>⟨by have:=h;simp at this;omega,ho⟩).1 _ _ hv
def uD (s l:Bs):Option (Ty×Bd):=do
 let t<-qh s
 let b<-qn t l
 some (t,b)
def TSPost (w:World) (s l:Bs) (en:Ending) (w':World):Prop :=
 ∃ kv bv,en=.returned (.tuple #[kv,bv])/\Below w.heap.size w w'/\(uD s l=none->bv=.pointer none) /\
   (∀ t b,uD s l=some (t,b)->Rep (w.heap.size<=·) w' (qS t) kv/\Rep (w.heap.size<=·) w' (ke b) bv)
theorem rdKind_le {s:Bs} {t:Ty} (h:qh s=some t):zY t<=15:=by
 unfold qh at h
 split at h
 ·split at h
  ·rename_i gA;simp at h;subst h;exact gA
  ·simp at h
 ·simp at h
theorem jr (s l:Bs) (w:World) (hg:qE w) (hs:Lim s.length) (hl:Lim l.length) :
 Calls Tryz.prog 29 #[str s,str l] w (TSPost w s l):=by
 go_enter Tryz.func29,Tryz.ntmps29
 go_wp2_with fail
 refine (yy s w hs).mono ?_
 rintro en w1 ⟨kv,rfl,gW,gq,gx⟩
 cases hq:qh s with
 | none =>
   obtain rfl:=gq hq
   have HQ:=gZ hq;clear hq gq gx
   go_wp2_with fail
   go_ret2
   exact ⟨_,_,rfl,gW,fun _=>rfl,fun t b h=>by simp [uD,HQ.out] at h⟩
 | some t =>
   have hv:=gx _ hq
   have ht:=rdKind_le hq
   have HQ:=gZ hq;clear hq gq gx
   obtain ⟨ak,_,ek,_⟩:=zR hv
   subst ek
   go_wp2_with fail
   refine (xS _ t l _ w1 (hg.below gW) hv ht hl).mono ?_
   rintro en w2 ⟨bv,rfl,gP,bR,bJ⟩
   go_wp2_with fail
   go_ret2
   refine ⟨_,_,rfl,zzT gW gP,fun h=>bR ?_,fun t' b h=>?_⟩
   ·cases hr:qn t l with
    | none=>rfl
    | some b=>simp [uD,HQ.out,hr] at h
   ·cases hr:qn t l with
    | none=>simp [uD,HQ.out,hr] at h
    | some b' =>
      simp [uD,HQ.out,hr] at h
      obtain ⟨rfl,rfl⟩:=h
      exact ⟨Rep.below gP (fun _ h=>h) hv,(Rep.keep fun i o hi ho=>⟨by have:=gW.size;have:=hi;omega,ho⟩).1 _ _ (bJ _ hr)⟩
theorem encBs_at (ts:List Bd):∀ k:Nat,(jP ts)[k]? = ts[k]?.map ke:=by
 induction ts with
 | nil=>intro k;simp [jP]
 | cons t ts ih=>intro k;cases k <;> simp [jP,ih]
theorem oneCell_encBs {F:Nat->Prop} {w:World} (ts:List Bd):∀ us,zD F w (jP ts) us->∀ u∈us,u.oneCell'=true:=by
 induction ts with
 | nil=>intro us h;rw [jP,zI] at h;subst h;simp
 | cons t ts ih =>
   intro us h u hu
   rw [jP,zU] at h
   obtain ⟨v,vs',rfl,h1,h2⟩:=h
   rcases List.mem_cons.1 hu with rfl | hu
   ·obtain ⟨a,rfl⟩:=kV h1;rfl
   ·exact ih _ h2 u hu
theorem um {F:Nat->Prop} {w:World} {c:UInt8} {v:Value} (h:Rep F w (ke (.leaf c)) v) :
 ∃ b sl,v=.pointer (some ⟨b,0,none⟩)/\F b/\w.heap[b]? = some (.cells #[str [c],.int .i64 (0:Nat),sl,.pointer none,.pointer none] 105 (0,0))/\Rep F w (.sl 55 1 0 []) sl:=by
 rw [ke,jt] at h
 obtain ⟨b,cs,hv,hb,hc,hr⟩:=h
 simp only [zU,zI,zf] at hr
 obtain ⟨_,_,e1,rfl,_,_,rfl,rfl,sl,_,rfl,h3,_,_,rfl,rfl,_,_,rfl,rfl,rfl⟩:=hr
 have:cs=#[str [c],.int .i64 (0:Nat),sl,.pointer none,.pointer none]:=by apply Array.ext';simpa using e1
 subst this
 exact ⟨b,sl,hv,hb,hc,h3⟩
theorem vp {F:Nat->Prop} {w:World} {v:Nat} {ss:List Bd} {y n:Bd} {p:Value} (h:Rep F w (ke (.ask v ss y n)) p) :
 ∃ b sl yv nv,p=.pointer (some ⟨b,0,none⟩)/\F b/\w.heap[b]? = some (.cells #[str [],.int .i64 v,sl,yv,nv] 105 (0,0)) /\
   Rep F w (.sl 55 1 ss.length (jP ss)) sl/\Rep F w (ke y) yv/\Rep F w (ke n) nv:=by
 rw [ke,jt] at h
 obtain ⟨b,cs,hv,hb,hc,hr⟩:=h
 simp only [zU,zI,zf] at hr
 obtain ⟨_,_,e1,rfl,_,_,rfl,rfl,sl,_,rfl,h3,yv,_,rfl,h4,nv,_,rfl,h5,rfl⟩:=hr
 have:cs=#[str [],.int .i64 v,sl,yv,nv]:=by apply Array.ext';simpa using e1
 subst this
 exact ⟨b,sl,yv,nv,hv,hb,hc,h3,h4,h5⟩
theorem vY (F:Nat->Prop) (w:World) (c:UInt8) (v:Value) (h:Rep F w (ke (.leaf c)) v) :
 Calls Tryz.prog 61 #[v] w fun en w'=>en=.returned (.bool false)/\w'=w:=by
 obtain ⟨b,sl,rfl,_,hc,_⟩:=um h
 have c1:w.cell? ⟨b,0,none⟩=some (.string ⟨#[c]⟩):=by simp [World.cell?,hc]
 clear hc h
 go_enter Tryz.func61,Tryz.ntmps61
 go_wp2_with fail
 go_ret
 exact ⟨rfl,rfl⟩
theorem yF (F:Nat->Prop) (w:World) (v:Nat) (ss:List Bd) (y n:Bd) (p:Value) (h:Rep F w (ke (.ask v ss y n)) p) :
 Calls Tryz.prog 61 #[p] w fun en w'=>en=.returned (.bool true)/\w'=w:=by
 obtain ⟨b,sl,yv,nv,rfl,_,hc,_⟩:=vp h
 have c1:w.cell? ⟨b,0,none⟩=some (.string ⟨#[]⟩):=by simp [World.cell?,hc]
 clear hc h
 go_enter Tryz.func61,Tryz.ntmps61
 go_wp2_with fail
 go_ret
 exact ⟨rfl,rfl⟩
mutual
def jx:Ty->DV
 | .mk ts=>.sl 61 1 ts.length (qQ ts)
def qQ:List Ty->List DV
 | []=>[]
 | t::ts=>jx t::qQ ts
end
def qI (L:Nat) (w:World) (o:Option (Ty×Bs)) (en:Ending) (w':World):Prop :=
 ∃ (v:Value) (k:Int) (t:Ty),en=.returned (.tuple #[.agg #[v],.int .i64 k])/\Below w.heap.size w w'/\Rep (w.heap.size<=·) w' (jx t) v/\(o=none->k = -1/\t=.mk [])/\(∀ t' rest,o=some (t',rest)->k=(L:Int)-rest.length/\t=t')
theorem Tryz.infoS:(Tryz.prog.info? 61).map (fun i=>(i.zero,i.size,i.bytes))=some (some (.agg #[.slice none 0 0]),1,24):=by kernel_rfl
theorem uy (ts:List Ty):∀ k:Nat,(qQ ts)[k]? = ts[k]?.map jx:=by
 induction ts with
 | nil=>intro k;simp [qQ]
 | cons t ts ih=>intro k;cases k <;> simp [qQ,ih]
theorem encSs_append (a b:List Ty):qQ (a++b)=qQ a++qQ b:=by
 induction a with
 | nil=>rfl
 | cons t ts ih=>simp [qQ,ih]
theorem qj (t:Ty):jx t=.sl 61 1 t.args.length (qQ t.args):=by cases t;rw [jx];rfl
theorem kq {F:Nat->Prop} {w:World} {t:Ty} {v:Value} (h:Rep F w (jx t) v):∃ a c,v=.slice a t.args.length c:=by
 rw [qj] at h;obtain ⟨a,c,e,_⟩:=zM h;exact ⟨a,c,e⟩
theorem vF {F:Nat->Prop} {w:World} (ts:List Ty):∀ us,zD F w (qQ ts) us->∀ u∈us,u.oneCell'=true:=by
 induction ts with
 | nil=>intro us h;rw [qQ,zI] at h;subst h;simp
 | cons t ts ih =>
   intro us h u hu
   rw [qQ,zU] at h
   obtain ⟨v,vs',rfl,h1,h2⟩:=h
   rcases List.mem_cons.1 hu with rfl | hu
   ·obtain ⟨a,c,rfl⟩:=kq h1;rfl
   ·exact ih _ h2 u hu
theorem xz (F:Nat->Prop) (w:World):Rep F w (jx (.mk [])) (.slice none 0 0):=by
 rw [qj];exact qB.2 ⟨rfl,none,0,rfl,gQ _,fun _=>rfl,.inl rfl⟩
theorem qI.no {L:Nat} {w w':World} {o:Option (Ty×Bs)} (ho:o=none) (hb:Below w.heap.size w w') :
 qI L w o (.returned (.tuple #[.agg #[.slice none 0 0],.int .i64 (-1)])) w' :=
 ⟨_,_,.mk [],rfl,hb,xz _ _,fun _=>⟨rfl,rfl⟩,fun _ _ h=>by rw [ho] at h;simp at h⟩
theorem qI.yes {L:Nat} {w w':World} {o:Option (Ty×Bs)} {t:Ty} {rest:Bs} {v:Value} {k:Int} (ho:o=some (t,rest)) (hk:k=(L:Int)-rest.length) (hb:Below w.heap.size w w') (hv:Rep (w.heap.size<=·) w' (jx t) v) :
 qI L w o (.returned (.tuple #[.agg #[v],.int .i64 k])) w' :=
 ⟨_,_,t,rfl,hb,hv,fun h=>by rw [ho] at h;simp at h,fun _ _ h=>by rw [ho] at h;simp at h;obtain ⟨rfl,rfl⟩:=h;exact ⟨hk,rfl⟩⟩
def pn (l:Bs) (d:Nat):Prop:=∀ (i:Nat) (w:World),i<=l.length->d<=21 ->
    Calls Tryz.prog 100 #[str l,.int .i64 i,.int .i64 d] w (qI l.length w (rdS (21-d) (l.drop i)))
theorem xo (l:Bs) (hl:Lim l.length) (d:Nat) (ih:d<=20->pn l (d+1)):pn l d:=by
 intro i w hi hd
 have bC:=hl.le
 have IH:=gZ ih;clear ih
 by_cases hd20:d<=20
 rotate_left
 ·have h0:Hid (21-d=0):=by show 21-d=0;omega
  go_enter Tryz.func100,Tryz.ntmps100
  go_wp2_with fail
  refine bodyPost_ret (v:=.tuple #[.agg #[.slice none 0 0],.int .i64 (-1)]) (by simp [results,Tryz.results100,go_sem]) rfl ?_
  exact qI.no (by rw [h0.out];rfl) ((gV _ _).alloc (gQ _) _)
 obtain ⟨n,hn⟩:∃ n,21-d=n+1:=⟨20-d,by omega⟩
 have IH':=gZ (IH.out hd20);clear IH
 have HN:=gZ hn
 have rS:Hid (21-(d+1)=n):=by show 21-(d+1)=n;omega
 clear hn
 by_cases gH:i<l.length
 rotate_left
 ·go_enter Tryz.func100,Tryz.ntmps100
  go_wp2_with fail
  refine bodyPost_ret (v:=.tuple #[.agg #[.slice none 0 0],.int .i64 (-1)]) (by simp [results,Tryz.results100,go_sem]) rfl ?_
  exact qI.no (by rw [HN.out,rdS_no (ue (by omega)),ue (by omega)];rfl) ((gV _ _).alloc (gQ _) _)
 by_cases hb:l[i]=98
 ·have f1:=jz gH (n:=98) (by decide) hb
  have hc:Cut [98] (l.drop i) (l.drop (i+1)):=by unfold Cut;rw [jN gH,if_pos hb]
  clear hb
  go_enter Tryz.func100,Tryz.ntmps100
  go_wp2_with fail
  refine bodyPost_ret (v:=.tuple #[.agg #[.slice none 0 0],.int .i64 ((i:Int)+1)]) (by simp [results,Tryz.results100,go_sem]) rfl ?_
  exact qI.yes (t:=.mk []) (by rw [HN.out,rdS_b hc]) (by simp;omega) ((gV _ _).alloc (gQ _) _) (xz _ _)
 have f1:=qu gH (n:=98) (by decide) hb
 have hc:xB [98] (l.drop i):=by unfold xB;rw [jN gH,if_neg hb]
 have HM:=gZ (rdS_no (n:=n) hc)
 clear hb hc
 by_cases h3:i+3<=l.length
 rotate_left
 ·have h3':(l.length:Int)<(i:Int)+3:=by omega
  have cf:Hid (cut [40,62,32] (l.drop i)=none):=by
   show cut [40,62,32] (l.drop i)=none
   cases hq:cut [40,62,32] (l.drop i) with
   | none=>rfl
   | some r=>have:=(cut_drop hq).2;simp at this;omega
  go_enter Tryz.func100,Tryz.ntmps100
  go_wp2_with fail
  refine bodyPost_ret (v:=.tuple #[.agg #[.slice none 0 0],.int .i64 (-1)]) (by simp [results,Tryz.results100,go_sem]) rfl ?_
  exact qI.no (by rw [HN.out,HM.out,cf.out];rfl) ((gV _ _).alloc (gQ _) _)
 have h3':(i:Int)+3<=(l.length:Int):=by omega
 have hx:(l.take (i+3)).drop i=(l.drop i).take 3:=by rw [List.drop_take];congr 1;omega
 rcases zg [40,62,32] (l.drop i) with h4 | ⟨r1,h4⟩
 ·have f2:(((⟨l.toArray⟩:ByteArray).extract i (i+3)).toList == [40,62,32])=false:=by
   rw [ext_list,hx,beq_eq_false_iff_ne]
   intro e
   have h5:=h4.out
   have hp:[40,62,32].isPrefixOf (l.drop i)=true:=by rw [List.isPrefixOf_iff_prefix,<- e];exact List.take_prefix _ _
   unfold cut at h5;rw [if_pos hp] at h5;simp at h5
  clear hx
  go_enter Tryz.func100,Tryz.ntmps100
  go_wp2_with fail
  refine bodyPost_ret (v:=.tuple #[.agg #[.slice none 0 0],.int .i64 (-1)]) (by simp [results,Tryz.results100,go_sem]) rfl ?_
  exact qI.no (by rw [HN.out,HM.out,h4.out];rfl) ((gV _ _).alloc (gQ _) _)
 have f2:(((⟨l.toArray⟩:ByteArray).extract i (i+3)).toList == [40,62,32])=true:=by
  rw [ext_list,hx,beq_iff_eq]
  have h5:=h4.out
  unfold cut at h5;split at h5
  ·rename_i hp
   exact (List.prefix_iff_eq_take.1 (List.isPrefixOf_iff_prefix.1 hp)).symm
  ·simp at h5
 have gp:=(cut_drop h4.out).1
 have mu:r1=l.drop (i+3):=gp
 subst mu
 clear hx gp
 go_enter Tryz.func100,Tryz.ntmps100
 go_wp2_with fail
 rw [show (i:Int)+3=((i+3:Nat):Int) from by omega,show (d:Int)+1=((d+1:Nat):Int) from by omega]
 refine (IH'.out (i+3) _ h3 (by omega)).mono ?_
 rintro en w1 ⟨v1,k1,t1,rfl,gW,cI,gq,gx⟩
 rw [rS.out] at gq gx
 have cT:Below w.heap.size w w1:=((gV w.heap.size w).alloc (gQ _) _).trans (gW.mono (by simp))
 have z1:=gW.size
 have bw:w.heap.size<w1.heap.size:=by simp at z1;omega
 have go:w1.cell? ⟨w.heap.size,0,none⟩=some (.slice none 0 0):=by rw [gW.cell (by simp)];simp
 have cH:w1.frozen? ⟨w.heap.size,0,none⟩=false:=by rw [gW.frozen (by simp)];simp
 obtain ⟨a1,c1,e1⟩:=kq cI
 subst e1
 cases hq:rdS n (l.drop (i+3)) with
 | none =>
   obtain ⟨rfl,rfl⟩:=gq hq
   have HQ:=gZ hq;clear hq gq gx
   go_wp2_with fail
   refine bodyPost_ret (v:=.tuple #[.agg #[.slice none 0 0],.int .i64 (-1)]) (by simp [results,Tryz.results100,go_sem,bw,qU go]) rfl ?_
   exact qI.no (by rw [HN.out,HM.out,h4.out];simp [HQ.out]) (by repeat (first | exact cT | refine Below.alloc ?_ (by simp;omega) _ | refine Below.setCell ?_ (by simp) _ | refine Below.drew ?_))
 | some x =>
   obtain ⟨ta,r2⟩:=x
   obtain ⟨rfl,rfl⟩:=gx _ _ hq
   have dG:=vK (we hq)
   have gd:=(rdS_le hq).1
   have HQ:=gZ hq;clear hq gq gx
   obtain ⟨e,he⟩:=zzM (l.length-r2.length)
   have m7:e<=l.length:=by omega
   have hr2l:r2.length<=l.length:=by simp at gd;omega
   have hk:(l.length:Int)-(r2.length:Int)=(e:Int):=by omega
   rw [<- he] at dG
   rw [hk]
   have HSF:=gZ dG
   clear hk dG gd
   by_cases iu:e<l.length
   rotate_left
   ·have eW:Hid (cut [32] r2=none):=by show cut [32] r2=none;rw [HSF.out];exact ue (by omega)
    have HE:=gZ he;clear he
    go_wp2_with fail
    refine bodyPost_ret (v:=.tuple #[.agg #[.slice none 0 0],.int .i64 (-1)]) (by simp [results,Tryz.results100,go_sem,bw,qU go]) rfl ?_
    exact qI.no (by rw [HN.out,HM.out,h4.out];simp [HQ.out,eW.out]) (by repeat (first | exact cT | refine Below.alloc ?_ (by simp;omega) _ | refine Below.setCell ?_ (by simp) _ | refine Below.drew ?_))
   have HE:=gZ he;clear he
   by_cases gR:l[e]=32
   rotate_left
   ·have f5:=up iu (n:=32) (by decide) gR
    have eW:Hid (cut [32] r2=none):=by show cut [32] r2=none;rw [HSF.out,jN iu,if_neg gR]
    clear gR
    go_wp2_with fail
    refine bodyPost_ret (v:=.tuple #[.agg #[.slice none 0 0],.int .i64 (-1)]) (by simp [results,Tryz.results100,go_sem,bw,qU go]) rfl ?_
    exact qI.no (by rw [HN.out,HM.out,h4.out];simp [HQ.out,eW.out]) (by repeat (first | exact cT | refine Below.alloc ?_ (by simp;omega) _ | refine Below.setCell ?_ (by simp) _ | refine Below.drew ?_))
   have f5:=vu iu (n:=32) (by decide) gR
   have g1:decide ((e:Int)<0)=false:=by rw [decide_eq_false_iff_not];omega
   have g2:decide (l.length<=e)=false:=by rw [decide_eq_false_iff_not];omega
   have eW:Hid (cut [32] r2=some (l.drop (e+1))):=by show cut [32] r2=_;rw [HSF.out,jN iu,if_pos gR]
   clear gR
   go_wp2_with fail
   rw [show (e:Int)+1=((e+1:Nat):Int) from by omega,show (d:Int)+1=((d+1:Nat):Int) from by omega]
   refine (IH'.out (e+1) _ iu (by omega)).mono ?_
   rintro en w2 ⟨v2,k2,t2,rfl,gP,nj,bR,bJ⟩
   rw [rS.out] at bR bJ
   obtain ⟨a2,c2,e2⟩:=kq nj
   subst e2
   have z2:=gP.size
   rw [zK] at z2
   have eH:Below w.heap.size w w2:=(cT.alloc cT.size _).trans (gP.mono (by rw [zK];omega))
   have fD:w.heap.size<w2.heap.size:=by omega
   have hz2':w1.heap.size<w2.heap.size:=by omega
   have bI:w2.cell? ⟨w.heap.size,0,none⟩=some (.slice none 0 0):=by rw [gP.cell (by simp;omega)];exact zV go
   have fm:w2.frozen? ⟨w.heap.size,0,none⟩=false:=by rw [gP.frozen (by simp;omega)];rw [World.frozen?_of_block (w:=w1) (Below.heap_alloc _ _ _ bw)];exact cH
   have hcellA:w2.cell? ⟨w1.heap.size,0,none⟩=some (.slice a1 t1.args.length c1):=by rw [gP.cell (by simp)];simp
   have eS:Rep (w1.heap.size<=·) w2 (jx t1) (.slice a1 t1.args.length c1)\/True:=.inr trivial
   clear eS go cH
   cases hq:rdS n (l.drop (e+1)) with
   | none =>
     obtain ⟨rfl,rfl⟩:=bR hq
     have dW:=gZ hq;clear hq bR bJ
     go_wp2_with fail
     refine bodyPost_ret (v:=.tuple #[.agg #[.slice none 0 0],.int .i64 (-1)]) (by simp [results,Tryz.results100,go_sem,fD,qU bI]) rfl ?_
     exact qI.no (by rw [HN.out,HM.out,h4.out];simp [HQ.out,eW.out,dW.out]) (by repeat (first | exact eH | refine Below.alloc ?_ (by simp;omega) _ | refine Below.setCell ?_ (by simp) _ | refine Below.drew ?_))
   | some x =>
     obtain ⟨tb,r4⟩:=x
     obtain ⟨rfl,rfl⟩:=bJ _ _ hq
     have dG:=vK (we hq)
     have fV:=rdS_le hq
     have dW:=gZ hq;clear hq bR bJ
     obtain ⟨e2,he⟩:=zzM (l.length-r4.length)
     have m7:e2<=l.length:=by omega
     have hr2l:r4.length<=l.length:=by simp at fV;omega
     have hk:(l.length:Int)-(r4.length:Int)=(e2:Int):=by omega
     have htl:t2.args.length<=16777216:=by simp at fV;omega
     rw [<- he] at dG
     rw [hk]
     have sh:=gZ dG
     clear hk dG fV
     have HE2:=gZ he;clear he
     by_cases m8:e2<l.length
     rotate_left
     ·have b7:Hid (cut [41] r4=none):=by show cut [41] r4=none;rw [sh.out];exact ue (by omega)
      go_wp2_with fail
      refine bodyPost_ret (v:=.tuple #[.agg #[.slice none 0 0],.int .i64 (-1)]) (by simp [results,Tryz.results100,go_sem,fD,qU bI]) rfl ?_
      exact qI.no (by rw [HN.out,HM.out,h4.out];simp [HQ.out,eW.out,dW.out,b7.out]) (by repeat (first | exact eH | refine Below.alloc ?_ (by simp;omega) _ | refine Below.setCell ?_ (by simp) _ | refine Below.drew ?_))
     by_cases gB:l[e2]=41
     rotate_left
     ·have f6:=up m8 (n:=41) (by decide) gB
      have b7:Hid (cut [41] r4=none):=by show cut [41] r4=none;rw [sh.out,jN m8,if_neg gB]
      clear gB
      go_wp2_with fail
      refine bodyPost_ret (v:=.tuple #[.agg #[.slice none 0 0],.int .i64 (-1)]) (by simp [results,Tryz.results100,go_sem,fD,qU bI]) rfl ?_
      exact qI.no (by rw [HN.out,HM.out,h4.out];simp [HQ.out,eW.out,dW.out,b7.out]) (by repeat (first | exact eH | refine Below.alloc ?_ (by simp;omega) _ | refine Below.setCell ?_ (by simp) _ | refine Below.drew ?_))
     have f6:=vu m8 (n:=41) (by decide) gB
     have g3:decide ((e2:Int)<0)=false:=by rw [decide_eq_false_iff_not];omega
     have g4:decide (l.length<=e2)=false:=by rw [decide_eq_false_iff_not];omega
     have b7:Hid (cut [41] r4=some (l.drop (e2+1))):=by show cut [41] r4=_;rw [sh.out,jN m8,if_pos gB]
     clear gB
     rw [qj] at nj
     obtain ⟨xs,hxs,bp⟩:=zN.ofRep nj (vF _)
     go_wp2_with (at_builtin;refine zB rfl _ _ 59 rfl 61 (.agg #[.slice none 0 0]) 1 24 Tryz.underlying59 Tryz.infoS rfl (by decide) _ 1 [.slice a1 t1.args.length c1] rfl ?c1 _ t2.args.length xs rfl ?c2 ?c3 ?c4 ?_)
     case c1=>exact Own.litAt #[.slice a1 t1.args.length c1] 1 _ (by simp) (by decide) rfl
     case c2=>exact bp.keep fun _ _ h=>zV (zV h)
     case c3=>unfold maxLen;omega
     case c4=>omega
     intro a' c' w3 ho gF er
     have gG:Below w2.heap.size w2 ((w2.alloc (.cells #[.slice a2 t2.args.length c2] 61)).alloc (.cells #[.slice a1 t1.args.length c1] 61)):=((gV _ _).alloc (gQ _) _).alloc (by simp) _
     have b9:Below w2.heap.size w2 w3:=gG.trans (gF.toBelow (by simp;omega) (fun i hi e=>by simp [Value.ownBlock] at e;omega))
     have tO:Below w.heap.size w w3:=eH.trans (b9.mono (by omega))
     have sD:w3.cell? ⟨w.heap.size,0,none⟩=some (.slice none 0 0):=by rw [b9.cell fD];exact bI
     have hfree3:w3.frozen? ⟨w.heap.size,0,none⟩=false:=by rw [b9.frozen fD];exact fm
     have hv1W:Rep (w.heap.size<=·) w3 (jx t1) (.slice a1 t1.args.length c1):=by
      refine (Rep.keep fun b o h ho=>⟨by have:=ji h;omega,?_⟩).1 _ _ cI
      rw [b9.block b (by have:=zZ ho;omega),gP.block b (by have:=zZ ho;simp;omega)]
      exact zG ho
     have hxsW:zD (w.heap.size<=·) w3 (qQ t2.args) xs :=
      (Rep.keep fun b o h ho=>⟨by have:=ji h;omega,by rw [b9.block b (zZ ho)];exact ho⟩).2 _ _ hxs
     have gM:∀ g,(Value.slice a' (1+t2.args.length) c').ownBlock=some g->w.heap.size<=g:=by
      intro g h
      rcases er g h with h | h
      ·simp [Value.ownBlock] at h;omega
      ·have:=b9.size;omega
     have HG:=gZ gM;have HG3:=gZ er;clear er gM
     go_wp2_with fail
     refine bodyPost_ret (v:=.tuple #[.agg #[.slice a' (1+t2.args.length) c'],.int .i64 ((e2:Int)+1)]) (by simp [results,Tryz.results100,go_sem,qU sD]) rfl ?_
     refine qI.yes (t:=qr t1 t2) (rest:=l.drop (e2+1)) (by rw [HN.out,HM.out,h4.out];simp [HQ.out,eW.out,dW.out,b7.out]) (by simp;omega) (tO.setCell (gQ _) _) ?_
     refine (Rep.keep (w:=w3) (F:=fun b=>w.heap.size<=b/\b≠w.heap.size) fun b o h ho=>⟨h.1,?_⟩).1 _ _ ?_
     ·rw [gU _ _ _ _ (by simpa using h.2)];exact ho
     rw [qj,show (qr t1 t2).args.length=1+t2.args.length from by simp [qr,Ty.args,Nat.add_comm]]
     refine ho.rep (fun g h=>⟨HG.out g h,?_⟩) ?_
     ·rcases HG3.out g h with h | h
      ·simp [Value.ownBlock] at h;omega
      ·have:=b9.size;omega
     ·show zD _ _ (jx t1::qQ t2.args) _
      refine zU.2 ⟨_,_,rfl,?_,?_⟩
      ·refine (Rep.keep fun b o h ho=>⟨⟨by have:=ji h;omega,by have:=ji h;omega⟩,?_⟩).1 _ _ cI
       rw [b9.block b (by have:=zZ ho;omega),gP.block b (by have:=zZ ho;simp;omega)]
       exact zG ho
      ·exact (Rep.keep fun b o h ho=>⟨⟨by have:=ji h;omega,by have:=ji h;omega⟩,by rw [b9.block b (zZ ho)];exact ho⟩).2 _ _ hxs
theorem l1Read_any (l:Bs) (hl:Lim l.length) (n:Nat):∀ d,21-d=n->pn l d:=by
 induction n with
 | zero=>exact fun d h=>xo l hl d (fun h'=>by omega)
 | succ n ih=>exact fun d h=>xo l hl d (fun h'=>ih (d+1) (by omega))
def xu (t:Ty):Prop:=∀ (F:Nat->Prop) (w:World) (v:Value),Rep F w (jx t) v ->
 Calls Tryz.prog 101 #[.agg #[v]] w fun en w'=>en=.returned (.int .i64 (zY t))/\Below w.heap.size w w'
theorem kn (ts:List Ty):ts.length<=zF ts:=by
 induction ts with
 | nil=>simp
 | cons t ts ih=>simp [zF];omega
theorem l1Size_step (t:Ty) (hl:Lim (zY t)) (ih:∀ t',zY t'<zY t->xu t'):xu t:=by
 intro F w v hv
 obtain ⟨a,cap,e⟩:=kq hv
 subst e
 have fN:=hv
 rw [qj] at fN
 obtain ⟨_,_,e,_,gC,hat⟩:=zM fN
 simp only [Value.slice.injEq] at e
 obtain ⟨rfl,_,rfl⟩:=e
 have IH:=gZ ih;clear ih
 have bC:=hl.le
 have E1:=gZ (kw t)
 have iE:t.args.length<=16777216:=by have:=kn t.args;have:=E1.out;omega
 have AT:=gZ hat;clear hat gC fN
 go_enter Tryz.func101,Tryz.ntmps101
 go_wp2_with fail
 go_loopw [3,4] (fun n i wr=>∃ k:Nat,k<=t.args.length/\i=.int .i64 k/\n=.int .i64 ((1+zF (t.args.take k):Nat):Int)/\Below w.heap.size w wr/\wr.cell? ⟨w.heap.size,0,none⟩=some (.slice a t.args.length cap)) (fun _ i _=>t.args.length-(intOf i).toNat)
 case atStart=>exact ⟨0,Nat.zero_le _,rfl,by simp [zF],(gV _ _).alloc (gQ _) _,by simp⟩
 case round =>
  rename_i wr
  obtain ⟨k,hk,rfl,rfl,hb,hc⟩:=hrel
  by_cases gH:k<t.args.length
  ·obtain ⟨b',o,u,d,rfl,_,gu,hd,hu,hr⟩:=AT.out k gH
   rw [uy,Option.map_eq_some_iff] at hd
   obtain ⟨t',eT,rfl⟩:=hd
   obtain ⟨ua,uc,rfl⟩:=kq hr
   have dQ:wr.cell? ⟨b',o+k,none⟩=some (.slice ua t'.args.length uc):=by rw [hb.cell gu];exact hu
   have dV:=Rep.below (F':=F) hb (fun _ h=>h) hr
   have hs:=uX eT
   have fg:=jp t.args (k+1)
   have dn:=E1.out
   have IH':=gZ (IH.out t' (by omega))
   have HS:=gZ hs
   have b1:1+zF (t.args.take k)+(1+zY t')<=16777216:=by omega
   have hz:=gJ wr _ hc
   clear hs eT dn hu hr
   go_wp2_with fail
   refine (IH'.out _ _ _ dV).mono ?_
   rintro en w2 ⟨rfl,gP⟩
   have gF:=zzT hb gP
   have cf:w2.cell? ⟨w.heap.size,0,none⟩=some (.slice (some ⟨b',o,none⟩) t.args.length cap):=by rw [gP.cell hz];exact hc
   go_wp2_with fail
   go_roundw
   case rel=>exact ⟨k+1,by omega,by go_num,by rw [HS.out] <;> go_num,gF,cf⟩
   case measure=>simp [intOf];omega
  ·obtain rfl:k=t.args.length:=by omega
   go_wp2_with fail
   go_ret
   exact ⟨yu (by rw [E1.out,List.take_length]),hb⟩
theorem l1Size_any (n:Nat):∀ t,zY t<=n->Lim n->xu t:=by
 induction n with
 | zero=>intro t h _;have:=jC t;omega
 | succ n ih=>exact fun t h hn=>l1Size_step t (hn.mono h) (fun t' h'=>ih t' (by omega) (hn.mono (by omega)))
def zQ (l:Bs):Ty×Bool :=
 if 100<l.length then (.mk [],false) else
 match rdS 21 l with
 | none=>(.mk [],false)
 | some (t,rest)=>(t,rest.isEmpty && decide (zY t<=15))
def TypePost (l:Bs) (w:World) (en:Ending) (w':World):Prop :=
 ∃ v,en=.returned (.tuple #[.agg #[v],.bool (zQ l).2])/\Below w.heap.size w w'/\Rep (w.heap.size<=·) w' (jx (zQ l).1) v
set_option maxRecDepth 100000 in
theorem pD (l:Bs) (hl:Lim l.length) (w:World):Calls Tryz.prog 63 #[str l] w (TypePost l w):=by
 have bC:=hl.le
 by_cases mU:100<l.length
 ·have lO:(100:Int)<(l.length:Int):=by omega
  have HM:zQ l=(.mk [],false):=by unfold zQ;rw [if_pos mU]
  have HM:=gZ HM
  go_enter Tryz.func63,Tryz.ntmps63
  go_wp2_with fail
  refine bodyPost_ret (v:=.tuple #[.agg #[.slice none 0 0],.bool false]) (by simp [results,Tryz.results63,go_sem]) rfl ?_
  refine ⟨_,by rw [HM.out],(gV _ _).alloc (gQ _) _,?_⟩
  rw [HM.out];exact xz _ _
 have lO:¬ (100:Int)<(l.length:Int):=by omega
 have HM:zQ l=(match rdS 21 l with
  | none=>(.mk [],false)
  | some (t,rest)=>(t,rest.isEmpty && decide (zY t<=15))):=by unfold zQ;rw [if_neg mU]
 have HM:=gZ HM
 go_enter Tryz.func63,Tryz.ntmps63
 go_wp2_with fail
 refine (l1Read_any l hl 21 0 rfl 0 _ (Nat.zero_le _) (by omega)).mono ?_
 rintro en w1 ⟨v1,k1,t1,rfl,gW,cI,gq,gx⟩
 rw [show (21-0:Nat)=21 from rfl,List.drop_zero] at gq gx
 obtain ⟨a1,c1,e1⟩:=kq cI
 subst e1
 have z1:=gW.size
 rw [zK] at z1
 have bw:w.heap.size<w1.heap.size:=by omega
 have cT:Below w.heap.size w w1:=((gV w.heap.size w).alloc (gQ _) _).trans (gW.mono (by simp))
 have go:w1.cell? ⟨w.heap.size,0,none⟩=some (.slice none 0 0):=by rw [gW.cell (by simp)];simp
 have cH:w1.frozen? ⟨w.heap.size,0,none⟩=false:=by rw [gW.frozen (by simp)];simp
 cases hq:rdS 21 l with
 | none =>
   obtain ⟨rfl,rfl⟩:=gq hq
   have HQ:=gZ hq;clear hq gq gx
   have g1:((-1:Int) == (l.length:Int))=false:=by rw [beq_eq_false_iff_ne];omega
   go_wp2_with fail
   go_region
   go_wp2_with fail
   refine bodyPost_ret (v:=.tuple #[.agg #[.slice a1 0 c1],.bool false]) (by simp [results,Tryz.results63,go_sem,bw,qU go,Ty.args]) rfl ?_
   refine ⟨_,by rw [HM.out,HQ.out],(by repeat (first | exact cT | refine Below.alloc ?_ (by simp;omega) _ | refine Below.setCell ?_ (by simp) _ | refine Below.drew ?_)),?_⟩
   rw [HM.out,HQ.out]
   rw [qj]
   refine qB.2 ⟨rfl,a1,c1,rfl,Nat.zero_le _,?_,.inl rfl⟩
   obtain ⟨_,_,_,e,_,h0,_⟩:=qB.1 (by rw [qj] at cI;exact cI)
   simp only [Value.slice.injEq] at e
   obtain ⟨rfl,_,rfl⟩:=e;exact h0
 | some x =>
   obtain ⟨t,rest⟩:=x
   obtain ⟨rfl,rfl⟩:=gx _ _ hq
   have hat:=rdS_atoms hq
   have HQ:=gZ hq;clear hq gq gx
   obtain ⟨e,he⟩:=zzM (l.length-rest.length)
   rw [show (l.length:Int)-(rest.length:Int)=(e:Int) from by omega]
   have HE:=gZ he;clear he
   cases rest with
   | cons x xs =>
     have g1:((e:Int) == (l.length:Int))=false:=by rw [beq_eq_false_iff_ne];have:=HE.out;simp at this hat;omega
     go_wp2_with fail
     go_region
     go_wp2_with fail
     refine bodyPost_ret (v:=.tuple #[.agg #[.slice a1 t1.args.length c1],.bool false]) (by simp [results,Tryz.results63,go_sem,bw,qU go]) rfl ?_
     refine ⟨_,by rw [HM.out,HQ.out];rfl,(by repeat (first | exact cT | refine Below.alloc ?_ (by simp;omega) _ | refine Below.setCell ?_ (by simp) _ | refine Below.drew ?_)),?_⟩
     rw [HM.out,HQ.out]
     refine (Rep.keep fun b o h ho=>⟨by have:=ji h;omega,?_⟩).1 _ _ cI
     have hb:b≠w.heap.size:=by have:=ji h;omega
     exact zG (by rw [gU _ _ _ _ (by simpa using hb)];exact ho)
   | nil =>
     obtain rfl:e=l.length:=by have:=HE.out;simpa using this
     have g1:((l.length:Int) == (l.length:Int))=true:=by simp
     have hlA:Lim (zY t1):=hl.mono (by simp at hat;omega)
     have fJ:Rep (w.heap.size < ·) (w1.alloc (.cells #[.slice a1 t1.args.length c1] 61)) (jx t1) (.slice a1 t1.args.length c1):=(Rep.keep fun b o h ho=>⟨by have:=ji h;omega,zG ho⟩).1 _ _ cI
     have ir:(w1.alloc (.cells #[.slice a1 t1.args.length c1] 61)).cell? ⟨w1.heap.size,0,none⟩=some (.slice a1 t1.args.length c1):=by simp
     go_wp2_with fail
     go_region_held3 (fun w'=>w'.cell? ⟨w1.heap.size,0,none⟩=some (.slice a1 t1.args.length c1))
      (first
       | exact (gP.cell (by simp)).trans ir
       | (rw [World.cell?_of_block (w:=w2) (gU _ _ _ _ (by simp;omega))];exact (gP.cell (by simp)).trans ir)
       | go_keep)
      (first
       | (go_at_call 101;refine (l1Size_any (zY t1) t1 (gQ _) hlA (w.heap.size < ·) _ _ (by exact fJ.drew)).mono ?_;rintro en w2 ⟨rfl,gP⟩;have z2:=gP.size;have fD:w.heap.size<w2.heap.size:=(by simp at z2;omega);have bI:w2.cell? ⟨w.heap.size,0,none⟩=some (.slice none 0 0):=(gP.cell (by simp;omega)).trans (zV go);have fm:w2.frozen? ⟨w.heap.size,0,none⟩=false:=(gP.frozen (by simp;omega)).trans ((World.frozen?_of_block (w:=w1) (Below.heap_alloc _ _ _ bw)).trans cH)))
     go_wp2_with fail
     refine bodyPost_ret (v:=.tuple #[.agg #[.slice a1 t1.args.length c1],.bool (decide ((zY t1:Int)<=15))]) (by simp [results,Tryz.results63,go_sem,qU bI]) rfl ?_
     have eH:Below w.heap.size w w2:=((cT.alloc cT.size _).drew).trans (gP.mono (by simp;omega))
     refine ⟨.slice a1 t1.args.length c1,?_,eH.setCell (gQ _) _,?_⟩
     ·have e15:decide ((zY t1:Int)<=15)=decide (zY t1<=15):=by rw [decide_eq_decide];omega
      rw [HM.out,HQ.out,e15];rfl
     ·rw [HM.out,HQ.out]
      refine (Rep.keep fun b o h ho=>⟨by have:=ji h;omega,?_⟩).1 _ _ cI
      have hb:b≠w.heap.size:=by have:=ji h;omega
      rw [gU _ _ _ _ (by simpa using hb),gP.block b (by have:=zZ ho;simp;omega)]
      exact zG ho
theorem wi (d:Nat):∀ {l:Bs} {t:Ty} {r:Bs} (e:Nat),d<=e->rdK d l=some (t,r)->rdK e l=some (t,r):=by
 induction d with
 | zero =>
   intro l t r e he h
   rcases zg [98] l with hc | ⟨r',hc⟩
   ·rw [jA hc] at h;simp at h
   ·rw [jo hc] at h ⊢;exact h
 | succ d ih =>
   intro l t r e he h
   obtain ⟨e,rfl⟩:∃ e',e=e'+1:=⟨e-1,by omega⟩
   rcases zg [98] l with hc | ⟨r',hc⟩
   ·rw [kd hc] at h ⊢
    simp only [Option.bind_eq_bind,Option.bind_eq_some_iff,Prod.exists] at h ⊢
    obtain ⟨r1,h1,a,r2,h2,r3,h3,b,r4,h4,r5,h5,h6⟩:=h
    exact ⟨r1,h1,a,r2,ih e (by omega) h2,r3,h3,b,r4,ih e (by omega) h4,r5,h5,h6⟩
   ·rw [jo hc] at h ⊢;exact h
theorem xU {p l r:Bs} (h:cut p l=some r):l.length=p.length+r.length:=by
 unfold cut at h;split at h
 ·rename_i hp
  have:=List.IsPrefix.length_le (List.isPrefixOf_iff_prefix.1 hp)
  simp at h;subst h;simp;omega
 ·simp at h
theorem xP (a b:Ty):zY (qr a b)=1+zY a+zY b:=by cases b;simp [qr,zY,zF,Ty.args];omega
theorem rdK_shallow (e:Nat):∀ {l:Bs} {t:Ty} {r:Bs} (d:Nat),zY t<=2*d+1->rdK e l=some (t,r)->rdK d l=some (t,r):=by
 induction e with
 | zero =>
   intro l t r d hd h
   exact wi 0 d (Nat.zero_le _) h
 | succ e ih =>
   intro l t r d hd h
   rcases zg [98] l with hc | ⟨r',hc⟩
   ·rw [kd hc] at h
    simp only [Option.bind_eq_bind,Option.bind_eq_some_iff,Prod.exists] at h
    obtain ⟨r1,h1,a,r2,h2,r3,h3,b,r4,h4,r5,h5,h6⟩:=h
    simp at h6;obtain ⟨rfl,rfl⟩:=h6
    have hat:=xP a b
    have pa:=jC a;have pb:=jC b
    obtain ⟨d,rfl⟩:∃ d',d=d'+1:=⟨d-1,by omega⟩
    rw [kd hc]
    simp only [Option.bind_eq_bind,Option.bind_eq_some_iff,Prod.exists]
    exact ⟨r1,h1,a,r2,ih d (by omega) h2,r3,h3,b,r4,ih d (by omega) h4,r5,h5,rfl⟩
   ·rw [jo hc] at h ⊢;exact h
theorem rdK_len (e:Nat):∀ {l:Bs} {t:Ty} {r:Bs},rdK e l=some (t,r)->l.length+5<=r.length+6*zY t:=by
 induction e with
 | zero =>
   intro l t r h
   rcases zg [98] l with hc | ⟨r',hc⟩
   ·rw [jA hc] at h;simp at h
   ·rw [jo hc] at h;simp at h;obtain ⟨rfl,rfl⟩:=h
    have:=xU hc;simp [zY,zF] at *;omega
 | succ e ih =>
   intro l t r h
   rcases zg [98] l with hc | ⟨r',hc⟩
   ·rw [kd hc] at h
    simp only [Option.bind_eq_bind,Option.bind_eq_some_iff,Prod.exists] at h
    obtain ⟨r1,h1,a,r2,h2,r3,h3,b,r4,h4,r5,h5,h6⟩:=h
    simp at h6;obtain ⟨rfl,rfl⟩:=h6
    have hat:=xP a b
    have k1:=xU h1;have k2:=ih h2;have k3:=xU h3;have k4:=ih h4;have k5:=xU h5
    simp at k1 k3 k5;omega
   ·rw [jo hc] at h;simp at h;obtain ⟨rfl,rfl⟩:=h
    have:=xU hc;simp [zY,zF] at *;omega
theorem uS (l:Bs):qh l=if (zQ l).2 then some (zQ l).1 else none:=by
 unfold qh zQ
 by_cases mU:100<l.length
 ·rw [if_pos mU]
  simp only [Bool.false_eq_true,if_false]
  split
  ·rename_i t hq
   have:=rdK_len 15 hq
   rw [if_neg (by simp at this;omega)]
  ·rfl
 ·rw [if_neg mU]
  have e21:rdS 21 l=rdK 20 l:=rfl
  rw [e21]
  cases hq:rdK 20 l with
  | none =>
    simp only [Bool.false_eq_true,if_false]
    split
    ·rename_i t g6
     have:=wi 15 20 (by omega) g6
     rw [hq] at this;simp at this
    ·rfl
  | some x =>
    obtain ⟨t,rest⟩:=x
    simp only
    by_cases ht:zY t<=15
    ·have g6:=rdK_shallow 20 15 (by omega) hq
     rw [g6]
     cases rest with
     | nil=>simp [ht]
     | cons x xs=>simp
    ·cases g6:rdK 15 l with
     | none=>simp [ht]
     | some y =>
       obtain ⟨t2,r2⟩:=y
       have:=wi 15 20 (by omega) g6
       rw [hq] at this;simp at this;obtain ⟨rfl,rfl⟩:=this
       cases rest <;> simp [ht]
set_option maxRecDepth 100000 in
theorem pC (F:Nat->Prop) (hand:List Ty) (t:Ty) (hv tv:Value) (w:World) (hh:Rep F w (.sl 61 1 hand.length (qQ hand)) hv) (ht:Rep F w (jx t) tv) (hl:Lim (hand.length+t.args.length)) :
 Calls Tryz.prog 97 #[hv,.agg #[tv]] w fun en w' =>
  ∃ a c,en=.returned (.slice a (hand++t.args).length c)/\Below w.heap.size w w'/\Rep (fun k=>F k\/w.heap.size<=k) w' (.sl 61 1 (hand++t.args).length (qQ (hand++t.args))) (.slice a (hand++t.args).length c):=by
 have bC:=hl.le
 obtain ⟨xs1,cX,g1⟩:=zN.ofRep hh (vF _)
 have eT:=ht
 rw [qj] at eT
 obtain ⟨xs2,bX,g2⟩:=zN.ofRep eT (vF _)
 obtain ⟨a1,c1,e1⟩:=g1.slice
 obtain ⟨a2,c2,e2⟩:=g2.slice
 subst e1;subst e2
 have ir:(w.alloc (.cells #[.slice a2 t.args.length c2] 61)).cell? ⟨w.heap.size,0,none⟩=some (.slice a2 t.args.length c2):=by simp
 go_enter Tryz.func97,Tryz.ntmps97
 go_wp2_with fail
 go_region_held3 (fun w'=>w'.cell? ⟨w.heap.size,0,none⟩=some (.slice a2 t.args.length c2))
  (first
   | exact (tI.cell (by simp)).trans ir
   | exact (hbX.cell (by simp)).trans ir
   | go_keep)
  (first
   | (refine kK (by rfl) (.tmp 7) (.tmp 9) _ (by rfl) 61 (.agg #[.slice none 0 0]) 1 24 Tryz.underlying59 Tryz.infoS rfl (by omega) (.slice ax hand.length cx) hand.length xs1 (by rfl) (by exact hox) (.slice a2 t.args.length c2) t.args.length xs2 (by rfl) (by exact (g2.alloc _).below hbX) (by unfold maxLen;omega) (by omega) ?_;intro ay cy wy hoy b8 hgy;obtain ⟨tI,sK⟩:=v9 hbX hfx b8 hgy)
   | (refine kK (by rfl) (.tmp 5) (.tmp 6) _ (by rfl) 61 (.agg #[.slice none 0 0]) 1 24 Tryz.underlying59 Tryz.infoS rfl (by omega) (.slice (some ⟨w.heap.size+1,0,none⟩) 0 0) 0 [] (by rfl) (by exact (Own.litAt #[] 0 _ (by simp) (by decide) rfl).drew) (.slice a1 hand.length c1) hand.length xs1 (by rfl) (by exact ((g1.alloc _).alloc _).drew) (by unfold maxLen;omega) (by omega) ?_;rw [Nat.zero_add,List.nil_append];intro ax cx wx hox nQ hgx;obtain ⟨hbX,hfx⟩:=v9 (((gV _ _).alloc (gQ _) _).drew) (own_some (by simp)) nQ hgx))
 go_wp2_with fail
 go_ret
 have gW:Below w.heap.size w (w.alloc (.cells #[.slice a2 t.args.length c2] 61)):=(gV _ _).alloc (gQ _) _
 have hbZ:Below w.heap.size w wy:=gW.trans (tI.mono (by simp))
 rw [List.length_append]
 refine ⟨ay,cy,rfl,hbZ,?_⟩
 rw [encSs_append]
 exact hoy.rep (fun g h=>.inr (by have:=sK g h;simp at this;omega)) (zD.append (cX.below hbZ (fun _ h=>.inl h)) (bX.below hbZ (fun _ h=>.inl h)))
end Go.Proofs.YtfedjhgaeikjmaaGreatDoor

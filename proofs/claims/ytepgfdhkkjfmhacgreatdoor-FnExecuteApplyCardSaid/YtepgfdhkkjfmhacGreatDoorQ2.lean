/- Walks of functions that the statement reaches, and plain words. No conditions. -/
import Derived.Test.YtepgfdhkkjfmhacGreatDoorQ1
set_option linter.unusedVariables false
set_option linter.unusedSimpArgs false
set_option maxHeartbeats 4000000
namespace Go.Proofs.YtepgfdhkkjfmhacGreatDoor
open Go.RowKit
def yF (l:Bs):Int:=if (zD l)=[] then -1 else (zN l).length
theorem vz (l:Bs):zN l++zD l=l:=List.takeWhile_append_dropWhile
theorem word_take (l:Bs):l.take (zN l).length=zN l:=by
 have h:=vz l
 have:=List.take_left (l₁:=zN l) (l₂:=zD l);rw [h] at this;exact this
theorem word_drop (l:Bs):l.drop (zN l).length=zD l:=by
 have h:=vz l
 have:=List.drop_left (l₁:=zN l) (l₂:=zD l);rw [h] at this;exact this
theorem word_le (l:Bs):(zN l).length+(zD l).length=l.length:=by
 have:=congrArg List.length (vz l);simpa using this
theorem indexAny_sep (l:Bs):Lib.indexAny l [32,40,41]=yF l:=by
 induction l with
 | nil=>rfl
 | cons b l ih =>
   rw [Lib.indexAny]
   have hs:([32,40,41]:Bs).contains b=sep b:=by
    rw [Bool.eq_iff_iff];simp [sep,or_assoc]
   rw [hs]
   cases hb:sep b
   ·have e1:zN (b::l)=b::zN l:=by simp [zN,hb]
    have e2:zD (b::l)=zD l:=by simp [zD,hb]
    rw [ih]
    unfold yF
    rw [e1,e2]
    by_cases h:zD l=[]
    ·simp [h]
    ·simp only [h,if_false,Bool.false_eq_true]
     rw [if_neg (by rw [beq_iff_eq];omega)]
     simp
   ·have e1:zN (b::l)=[]:=by simp [zN,hb]
    have e2:zD (b::l)=b::l:=by simp [zD,hb]
    unfold yF
    rw [e1,e2];simp
theorem indexAny_any (l:Bs) (w:World) (hl:Lim l.length) :
 Calls Tryz.prog 147 #[str l,.string ⟨#[32,40,41]⟩] w fun en w'=>en=.returned (.int .i64 (yF l))/\Below w.heap.size w w':=by
 have fH:=hl.le
 have hsz:(⟨l.toArray⟩:ByteArray).size=l.length:=jI l
 rw [<- indexAny_sep]
 by_cases h8:l.length<=8
 ·have:=gD ⟨l.toArray⟩ (by omega) w
  simpa [str] using this
 ·refine (Tryz.strings_IndexAny_long (zero_of_info (n:=256) (by kernel_rfl)).1 ⟨l.toArray⟩ ⟨#[32,40,41]⟩ w (by show 2<=3;omega) (by omega) (by omega) (by show 3<4294967281;omega) (by
   intro j b hj
   have:b∈([32,40,41]:Bs):=List.mem_of_getElem? hj
   simp at this
   rcases this with rfl | rfl | rfl <;> decide)).mono ?_
  rintro e w' ⟨rfl,rfl⟩
  refine ⟨by simp,((hG _ _).alloc (g_ _) _).alloc (by simp) _⟩
theorem pO (sc:Nat) (c:List Value) (e:TypeId) (r:Bs) (w:World) (h:kS sc c e r w) (hr:Lim r.length) :
 Calls Tryz.prog 113 #[.pointer (some ⟨sc,0,none⟩)] w fun en w' =>
  en=.returned (str (zN r))/\But (· = sc) w w'/\kS sc c e (zD r) w':=by
 have h1:=h.cell
 have h2:=h.free 0
 have rX:=uO h
 have hl:=hr.le
 have hw:=word_le r
 go_enter Tryz.func113,Tryz.ntmps113
 go_wp2_with fail
 refine (indexAny_any r w hr).mono ?_
 rintro en w1 ⟨rfl,hb⟩
 have c1:w1.cell? ⟨sc,0,none⟩=some (str r):=by rw [hb.cell rX];exact h1
 have c2:w1.frozen? ⟨sc,0,none⟩=false:=by rw [hb.frozen rX];exact h2
 have hS:kS sc c e r w1:=by unfold kS;rw [hb.block sc rX];exact h
 clear h1 h2
 by_cases h0:zD r=[]
 ·have hi:yF r = -1:=by simp [yF,h0]
  rw [hi]
  have e1:zN r=r:=by have:=vz r;rw [h0] at this;simpa using this
  have HE:=gl e1;have H0:=gl h0;clear e1 h0 hi
  go_wp2_with fail
  go_ret
  have e2:(⟨r.toArray⟩:ByteArray).extract 0 r.length=⟨(zN r).toArray⟩:=by rw [xI,HE.out];simp
  refine ⟨?_,(But.ofBelow hb).setS 0 _,?_⟩
  ·show Ending.returned (.string _)=_;rw [e2]
  ·have:=hS.put (r':=zD r);rw [H0.out] at this ⊢;exact this
 ·have hi:yF r=(zN r).length:=by simp [yF,h0]
  rw [hi]
  have bY:(zN r).length<=r.length:=by omega
  have H0:=gl h0;clear h0 hi
  go_wp2_with fail
  go_ret
  have e2:(⟨r.toArray⟩:ByteArray).extract 0 (zN r).length=⟨(zN r).toArray⟩:=by rw [xI,List.drop_zero,word_take]
  have e3:(⟨r.toArray⟩:ByteArray).extract (zN r).length r.length=⟨(zD r).toArray⟩:=by rw [xI,List.take_length,word_drop]
  refine ⟨?_,(But.ofBelow hb).setS 0 _,?_⟩
  ·show Ending.returned (.string _)=_;rw [e2]
  ·rw [e3];exact hS.put
structure jE (w:World):Prop where
 e0:∃ te pe,w.var? Tryz.prog "strconv.ErrSyntax" = some #[.iface te pe]
 e1:∃ te pe,w.var? Tryz.prog "strconv.ErrRange" = some #[.iface te pe]
 tab:Lib.TabIs Tryz.prog w "internal/strconv.uint64pow10" .u64 Lib.pow10Tab
def NotG (b:Nat):Prop:=b≠7/\b≠8/\b≠2
theorem Tryz.gn0:Tryz.prog.globalNamed "strconv.ErrSyntax" = some 7:=by kernel_rfl
theorem Tryz.gn1:Tryz.prog.globalNamed "strconv.ErrRange" = some 8:=by kernel_rfl
theorem Tryz.gn2:Tryz.prog.globalNamed "internal/strconv.uint64pow10" = some 2:=by kernel_rfl
theorem xn {P:Program} {w:World} {nm:String} {g:Nat} {x:Array Value} (hg:P.globalNamed nm=some g) (h:w.var? P nm=some x):g<w.heap.size:=by
 unfold World.var? at h
 rw [hg] at h
 simp only [Option.bind_some] at h
 rcases Nat.lt_or_ge g w.heap.size with h' | h'
 ·exact h'
 ·rw [Array.getElem?_eq_none h'] at h;simp at h
theorem px {P:Program} {w w':World} {nm:String} {g:Nat} {x:Array Value} (hg:P.globalNamed nm=some g) (hk:w'.heap[g]? = w.heap[g]?) (h:w.var? P nm=some x):w'.var? P nm=some x:=by
 unfold World.var? at *
 rw [hg] at *
 simp only [Option.bind_some] at *
 rw [hk];exact h
theorem jE.but {m:Nat->Prop} {w w':World} (h:jE w) (hb:But m w w') (hm:∀ i,m i->NotG i):jE w':=by
 obtain ⟨⟨t0,p0,h0⟩,⟨t1,p1,h1⟩,h2⟩:=h
 have l0:=xn Tryz.gn0 h0
 have l1:=xn Tryz.gn1 h1
 have l2:=xn Tryz.gn2 h2
 exact ⟨⟨t0,p0,px Tryz.gn0 (hb.block _ l0 fun e=>(hm _ e).1 rfl) h0⟩,⟨t1,p1,px Tryz.gn1 (hb.block _ l1 fun e=>(hm _ e).2.1 rfl) h1⟩,px Tryz.gn2 (hb.block _ l2 fun e=>(hm _ e).2.2 rfl) h2⟩
theorem jE.below {w w':World} (h:jE w) (hb:Below w.heap.size w w'):jE w':=h.but (m:=fun _=>False) (But.ofBelow hb) (fun _ e=>e.elim)
theorem jE.new {w:World} (h:jE w) {b:Nat} (hb:w.heap.size<=b):NotG b:=by
 obtain ⟨⟨t0,p0,h0⟩,⟨t1,p1,h1⟩,h2⟩:=h
 have l0:=xn Tryz.gn0 h0
 have l1:=xn Tryz.gn1 h1
 have l2:=xn Tryz.gn2 h2
 exact ⟨by omega,by omega,by omega⟩
theorem pJ {B:Nat} {a w:World} (h:Below B a w) (n:Nat):Below B a (w.drewN n):=h.trans ⟨rfl,rfl,rfl,g_ _,fun _ _=>rfl⟩
theorem below_grow (w:World) (os:Array Obj):Below w.heap.size w (Go.Sort.grow w os) :=
 ⟨rfl,rfl,rfl,by simp [Go.Sort.grow],fun k hk=>by simp [Go.Sort.grow,Array.getElem?_append_left hk]⟩
theorem below_freeze {B:Nat} {a w:World} (h:Below B a w) {p:Addr} (hp:B<=p.block) (n:Nat):Below B a (w.freeze p n):=by
 refine h.trans ⟨?_,?_,?_,?_,?_⟩
 ·unfold World.freeze;split <;> rfl
 ·unfold World.freeze;split <;> rfl
 ·unfold World.freeze;split <;> rfl
 ·unfold World.freeze;split <;> simp
 ·intro k hk
  unfold World.freeze;split
  ·rfl
  ·simp only [Array.getElem?_modify];rw [if_neg (by omega)]
theorem wF (w:World) (e:TypeId) (s:ByteArray):Below w.heap.size w (Lib.bytesWorld w e s) :=
 below_freeze (((hG w.heap.size w).drew).alloc (g_ _) _) (g_ _) _
theorem atoi_ok (l:Bs) (w:World) (hl:Lim l.length) (v:Int) (h:Lib.atoiAll l=.ok v) :
 Calls Tryz.prog 114 #[str l] w fun en w'=>en=.returned (.tuple #[.int .i64 v,.nilIface])/\Below w.heap.size w w':=by
 have fH:=hl.le
 refine (Tryz.strconv_Atoi_ok ⟨l.toArray⟩ (by show l.toArray.size<=_;simp;omega) v h w).mono ?_
 rintro en w' ⟨rfl,rfl | ⟨t,rfl⟩⟩
 ·exact ⟨rfl,hG _ _⟩
 ·exact ⟨rfl,wF _ _ _⟩
theorem atoi_no (l:Bs) (w:World) (hl:Lim l.length) (hg:jE w) (h:∀ v,Lib.atoiAll l≠.ok v) :
 Calls Tryz.prog 114 #[str l] w fun en w'=>∃ v t p,en=.returned (.tuple #[.int .i64 v,.iface t p])/\Below w.heap.size w w':=by
 have fH:=hl.le
 have hs:(⟨l.toArray⟩:ByteArray).size<=281474976710656:=by show l.toArray.size<=_;simp;omega
 cases ha:Lib.atoiAll l
 ·rename_i v;exact absurd ha (h v)
 ·obtain ⟨te,pe,h0⟩:=hg.e0
  refine (Tryz.strconv_Atoi_syntax_var ⟨l.toArray⟩ hs ha te pe w h0).mono ?_
  rintro en w' ⟨N,rfl,_,_,hb⟩
  exact ⟨_,_,_,rfl,hb⟩
 ·obtain ⟨te,pe,h0⟩:=hg.e1
  refine (Tryz.strconv_Atoi_range_var ⟨l.toArray⟩ hs ha te pe w h0).mono ?_
  rintro en w' ⟨N,rfl,_,_,hb⟩
  exact ⟨_,_,_,rfl,hb⟩
theorem gC (n:Int) (w:World) (hg:jE w) (h0 : -9223372036854775808<=n) (h1:n<=9223372036854775807) :
 Calls Tryz.prog 27 #[.int .i64 n] w fun en w'=>en=.returned (str (Lib.itoa n))/\Below w.heap.size w w':=by
 refine (Tryz.strconv_Itoa n h0 h1 w hg.tab).mono ?_
 rintro en w' ⟨rfl,k,os,rfl⟩
 exact ⟨rfl,(pJ (hG _ _) k).trans (below_grow (w.drewN k) os)⟩
theorem gw {l:Bs} {v:Int} (h:Lib.atoiAll l=.ok v) : -9223372036854775808<=v/\v<=9223372036854775807:=by
 unfold Lib.atoiAll at h
 split at h
 ·simp at h
 ·simp only at h
  split at h
  ·simp at h
  ·simp at h
  ·split at h
   ·simp at h
   ·split at h
    ·simp at h
    ·rename_i h1 h2
     simp only [Lib.NumEnd.ok.injEq] at h
     split at h <;> omega
theorem itoa_of {l:Bs} {v:Int} (h:Lib.atoiAll l=.ok v) (w:World) (hg:jE w) :
 Calls Tryz.prog 27 #[.int .i64 v] w fun en w'=>en=.returned (str (Lib.itoa v))/\Below w.heap.size w w' :=
 gC v w hg (gw h).1 (gw h).2
def jY (sr:Nat) (w:World) (o:Option (Bd×Bs×Nat)) (en:Ending) (w':World):Prop :=
 ∃ (v:Value) (r':Bs) (left':Int),en=.returned v/\But (fun x=>x=sr) w w'/\kS sr [.int .i64 left'] 143 r' w'/\(o=none->v=.pointer none) /\
   (∀ b rest bF,o=some (b,rest,bF)->r'=rest/\left'=(bF:Nat)/\Rep (w.heap.size<=·) w' (kD b) v)
theorem zy {F:Nat->Prop} {w:World} {b:Bd} {v:Value} (h:Rep F w (kD b) v):∃ a,v=.pointer (some ⟨a,0,none⟩):=by
 cases b with
 | leaf c=>rw [kD,jU] at h;obtain ⟨a,c,h,_⟩:=h;exact ⟨a,h⟩
 | ask v ss y n=>rw [kD,jU] at h;obtain ⟨a,c,h,_⟩:=h;exact ⟨a,h⟩
theorem jY.no {sr:Nat} {w:World} {o:Option (Bd×Bs×Nat)} {w':World} {r:Bs} {left:Int} (ho:o=none) (hb:But (fun x=>x=sr) w w') (hs:kS sr [.int .i64 left] 143 r w') :
 jY sr w o (.returned (.pointer none)) w' :=
 ⟨_,r,left,rfl,hb,hs,fun _=>rfl,fun _ _ _ h=>by rw [ho] at h;simp at h⟩
theorem jY.yes {sr:Nat} {w:World} {o:Option (Bd×Bs×Nat)} {w':World} {r:Bs} {left:Nat} {b:Bd} {v:Value} (ho:o=some (b,r,left)) (hb:But (fun x=>x=sr) w w') (hs:kS sr [.int .i64 left] 143 r w')
 (hv:Rep (w.heap.size<=·) w' (kD b) v):jY sr w o (.returned v) w' :=
 ⟨_,r,left,rfl,hb,hs,fun h=>by rw [ho] at h;simp at h,fun _ _ _ h=>by rw [ho] at h;simp at h;obtain ⟨rfl,rfl,rfl⟩:=h;exact ⟨rfl,rfl,hv⟩⟩
def kC (d:Nat) (levels:List Ty):Prop:=(∀ t∈levels,zY t<=15)/\levels.length+15*d<=10000
def yz (d:Nat):Prop:=∀ (sr left:Nat) (levels:List Ty) (l:Bs) (lv:Value) (F:Nat->Prop) (w:World),jE w->NotG sr ->
 kS sr [.int .i64 left] 143 l w->left<=1000->Lim l.length->kC d levels ->
 Rep F w (.sl 53 1 levels.length (kZ levels)) lv->(∀ b,F b->b≠sr) ->
 Calls Tryz.prog 87 #[.pointer (some ⟨sr,0,none⟩),lv,.int .i64 d] w (jY sr w (rdB d levels left l))
theorem encKs_append (a b:List Ty):kZ (a++b)=kZ a++kZ b:=by
 induction a with
 | nil=>rfl
 | cons t ts ih=>simp [kZ,ih]
theorem yk {F:Nat->Prop} {m:Nat->Prop} {w w':World} {e:TypeId} {sz n:Nat} {cs:List DV} {v:Value} {news:List Value} (hb:But m w w') (hF:∀ b,F b->¬ m b) (h:Rep F w (.sl e sz n cs) v) (hs:zS sz v n news w):zS sz v n news w':=by
 rw [zp] at h
 obtain ⟨hl,a,cap,rfl,hn,hz,h⟩:=h
 obtain ⟨h1,h2,h3⟩:=hs
 refine ⟨h1,h2,?_⟩
 rcases h with rfl | ⟨b,o,c,fr,rfl,bj,hc,hr⟩
 ·have:news=[]:=List.eq_nil_of_length_eq_zero (by simpa using h1)
  subst this
  rcases h3 with ⟨a',c',e',_⟩ | h3
  ·exact .inl ⟨a',c',e',by simp⟩
  ·exact .inr h3
 ·rcases h3 with ⟨a',c',e',h3⟩ | ⟨h3,_⟩
  ·simp at e'
   obtain ⟨e1,e2⟩:=e'
   subst e1
   refine .inl ⟨_,cap,rfl,fun j u hj=>?_⟩
   have:=h3 j u hj
   rw [hb.cell (hU w _ this) ?_]
   ·exact this
   ·unfold Addr.add;split <;> exact hF b bj
  ·simp at h3
theorem part_pre {F:Nat->Prop} {sr:Nat} {left:Int} {levels more:List Ty} {r1:Bs} {xs1 xs2:List Value} {ac:Option Addr} {kc:Nat} {w w1 wx wc:World} (hg:jE w) (hn:NotG sr) (hsr:sr<w.heap.size)
 (bQ:But (fun x=>x=sr) w w1) (cN:kS sr [.int .i64 left] 143 r1 w1)
 (hF:∀ b,F b->b≠sr) (G1:zH F w1 (kZ levels) xs1) (G2:zH F w1 (kZ more) xs2)
 (hx:Below w1.heap.size w1 wx) (lQ:Own wc 53 1 (.slice ac (levels.length+more.length) kc) (levels.length+more.length) (xs1++xs2))
 (iM:Below wx.heap.size wx wc) (fi:∀ g,(Value.slice ac (levels.length+more.length) kc).ownBlock=some g->wx.heap.size<=g) :
 Below w1.heap.size w1 wc/\jE wc/\kS sr [.int .i64 left] 143 r1 wc /\
  Rep (fun b=>b≠sr) wc (.sl 53 1 (levels++more).length (kZ (levels++more))) (.slice ac (levels.length+more.length) kc):=by
 have z1:=bQ.size
 have hb:Below w1.heap.size w1 wc:=zzT hx iM
 refine ⟨hb,(hg.but bQ fun i e=>by subst e;exact hn).below hb,(hb.block sr (by omega)).trans cN,?_⟩
 rw [List.length_append,encKs_append]
 refine lQ.rep (fun g h=>?_) (zH.append (G1.below hb hF) (G2.below hb hF))
 have:=fi g h;have:=hx.size;omega
set_option maxRecDepth 100000 in
theorem gV (d:Nat) (ih:yz d) (sr left:Nat) (levels more:List Ty) (l:Bs) (lv mv:Value) (F:Nat->Prop) (w:World) (b1 b2 b3:Nat) (hg:jE w) (hn:NotG sr)
 (hs:kS sr [.int .i64 left] 143 l w) (hl:left<=1000) (hr:Lim l.length) (hh:kC d (levels++more)) (hd:d<=1000)
 (dQ:Rep F w (.sl 53 1 levels.length (kZ levels)) lv) (hmv:Rep F w (.sl 53 1 more.length (kZ more)) mv) (hF:∀ b,F b->b≠sr)
 (c1:w.cell? ⟨b1,0,none⟩=some (.pointer (some ⟨sr,0,none⟩))) (c2:w.cell? ⟨b2,0,none⟩=some lv) (c3:w.cell? ⟨b3,0,none⟩=some (.int .i64 ((d:Int)+1)))
 (n1:b1≠sr) (n2:b2≠sr) (n3:b3≠sr) :
 Calls Tryz.prog 115 #[mv,.pointer (some ⟨b1,0,none⟩),.pointer (some ⟨b2,0,none⟩),.pointer (some ⟨b3,0,none⟩)] w (jY sr w (qU (rdB d) (levels++more) left l)):=by
 have IH:=gl ih;clear ih
 have HF:=gl hF;clear hF
 have l1:=hU w _ c1
 have l2:=hU w _ c2
 have l3:=hU w _ c3
 go_enter Tryz.func115,Tryz.ntmps115
 go_wp2_with fail
 rcases zi [32] l with h1 | ⟨r1,h1⟩
 ·refine (uI hs h1).mono ?_
  rintro en w1 ⟨rfl,bQ,cN⟩
  go_wp2_with fail
  go_ret
  exact jY.no (by simp [qU,h1.out]) bQ cN
 ·refine (je hs h1).mono ?_
  rintro en w1 ⟨rfl,bQ,cN⟩
  have d1:w1.cell? ⟨b1,0,none⟩=some (.pointer (some ⟨sr,0,none⟩)):=by rw [bQ.cell l1 n1];exact c1
  have d2:w1.cell? ⟨b2,0,none⟩=some lv:=by rw [bQ.cell l2 n2];exact c2
  have d3:w1.cell? ⟨b3,0,none⟩=some (.int .i64 ((d:Int)+1)):=by rw [bQ.cell l3 n3];exact c3
  obtain ⟨xs1,eI,g1⟩:=zS.ofRep dQ (vi _)
  obtain ⟨xs2,dI,g2⟩:=zS.ofRep hmv (vi _)
  have lim:levels.length+more.length<=10000:=by have:=hh.2;simp at this;omega
  have hsr:=uO hs
  have z1:=bQ.size
  have hF':=HF.out
  have G1:=gl (zH.but bQ (fun b hb=>⟨HF.out b hb,hb⟩) eI)
  have G2:=gl (zH.but bQ (fun b hb=>⟨HF.out b hb,hb⟩) dI)
  have W1:zS 1 lv levels.length xs1 w1:=yk bQ hF' dQ g1
  have W2:zS 1 mv more.length xs2 w1:=yk bQ hF' hmv g2
  clear hF' eI dI g1 g2 c1 c2 c3
  obtain ⟨a1,k1,rfl⟩:=W1.slice
  obtain ⟨a2,k2,rfl⟩:=W2.slice
  have l1':b1<w1.heap.size:=by omega
  have l2':b2<w1.heap.size:=by omega
  have l3':b3<w1.heap.size:=by omega
  go_wp2_with fail
  have HW:=gl (IntWalk.i64_in (d:Int) (by omega))
  go_region_held3 (fun w'=>w'.cell? ⟨b1,0,none⟩=some (.pointer (some ⟨sr,0,none⟩))/\w'.cell? ⟨b2,0,none⟩=some (.slice a1 levels.length k1)/\w'.cell? ⟨b3,0,none⟩=some (.int .i64 ((d:Int)+1)))
   (first
    | exact ⟨(fw.cell l1' n1).trans d1,(fw.cell l2' n2).trans d2,(fw.cell l3' n3).trans d3⟩
    | exact ⟨(hbb.cell l1').trans d1,(hbb.cell l2').trans d2,(hbb.cell l3').trans d3⟩
    | go_keep)
   (first
    | (go_at_call 116;refine (concatK_any w1.heap.size levels.length more.length (.slice a1 levels.length k1) (.slice a2 more.length k2) xs1 xs2 _ (by simp) (by simp) (W1.keep fun _ _ h=>by simpa using zJ h) (W2.keep fun _ _ h=>by simpa using zJ h) (show _<=_ by omega) (show _<=_ by omega) (show _<=_ by omega)).mono ?_;rintro en wc ⟨ac,kc,rfl,lQ,iM,fi⟩;obtain ⟨hbb,BA,rX,hrc⟩:=part_pre hg hn hsr bQ cN HF.out G1.out G2.out (((hG w1.heap.size w1).alloc (g_ _) _).drew) lQ iM fi)
    | (go_at_call 87
       rw [HW.out]
       refine (IH.out sr left (levels++more) r1 _ (fun b=>b≠sr) wc BA hn rX hl (hr.mono h1.le) hh hrc (fun b h=>h)).mono ?_
       rintro en wf ⟨v,r',left',rfl,hbf,fm,Be,hyf⟩;have fw:=(But.ofBelow (m:=fun x=>x=sr) hbb).trans hbf))
  go_wp2_with fail
  go_ret
  refine ⟨v,r',left',rfl,bQ.trans fw,fm,fun h=>Be ?_,fun b rest bF h=>?_⟩
  ·simpa [qU,h1.out] using h
  ·obtain ⟨e1,e2,e3⟩:=hyf b rest bF (by simpa [qU,h1.out] using h)
   exact ⟨e1,e2,(Rep.keep fun b o h ho=>⟨by have:=h;have:=hbb.size;omega,ho⟩).1 _ _ e3⟩
theorem kS.cell1 {sc:Nat} {c:List Value} {e:TypeId} {r:Bs} {u:Value} {w:World} (h:kS sc (u::c) e r w):w.cell? ⟨sc,1,none⟩=some u:=by
 simp [World.cell?,kS] at *;simp [h]
theorem kS.put1 {sc:Nat} {c:List Value} {e:TypeId} {r:Bs} {u u':Value} {w:World} (h:kS sc (u::c) e r w):kS sc (u'::c) e r (w.setCell ⟨sc,1,none⟩ u'):=by
 unfold kS at *
 have bY:=zZ h
 have h':w.heap[sc]=.cells (str r::u::c).toArray e (0,0):=by simpa [Array.getElem?_eq_getElem bY] using h
 show (w.heap.modify sc _)[sc]? = _
 rw [Array.getElem?_eq_getElem (by simpa using bY),Array.getElem_modify_self,h']
 simp
def pX (B sr:Nat) (lv:Value) (d:Nat) (w:World):Prop :=
 w.cell? ⟨B,0,none⟩=some (.pointer (some ⟨sr,0,none⟩))/\w.cell? ⟨B+1,0,none⟩=some lv/\w.cell? ⟨B+1+1,0,none⟩=some (.int .i64 (d:Int))
theorem pX.but {B sr:Nat} {lv:Value} {d:Nat} {m:Nat->Prop} {w w':World} (h:pX B sr lv d w) (hb:But m w w') (hm:∀ i,m i->i≠B/\i≠B+1/\i≠B+1+1):pX B sr lv d w':=by
 obtain ⟨h1,h2,h3⟩:=h
 refine ⟨?_,?_,?_⟩
 ·rw [hb.cell (hU w _ h1) (fun e=>(hm _ e).1 rfl)];exact h1
 ·rw [hb.cell (hU w _ h2) (fun e=>(hm _ e).2.1 rfl)];exact h2
 ·rw [hb.cell (hU w _ h3) (fun e=>(hm _ e).2.2 rfl)];exact h3
def j_ (ob v:Nat) (slv y n:Value) (w:World):Prop:=w.heap[ob]? = some (.cells #[str [],.int .i64 v,slv,y,n] 121 (0,0))
theorem j_.cells {ob v:Nat} {slv y n:Value} {w:World} (h:j_ ob v slv y n w):w.cell? ⟨ob,2,none⟩=some slv/\w.cell? ⟨ob,3,none⟩=some y/\w.cell? ⟨ob,4,none⟩=some n/\ob<w.heap.size/\(∀ o,w.frozen? ⟨ob,o,none⟩=false):=by
 have hl:=zZ h
 unfold j_ at h
 exact ⟨by simp [World.cell?,h],by simp [World.cell?,h],by simp [World.cell?,h],hl,fun o=>by simp [World.frozen?,h]⟩
theorem zI {w:World} {b o:Nat} {c:Array Value} {e:TypeId} {u:Value} (h:w.heap[b]? = some (.cells c e (0,0))):(w.setCell ⟨b,o,none⟩ u).heap[b]? = some (.cells (c.setIfInBounds o u) e (0,0)):=by
 have bY:=zZ h
 have h':w.heap[b]=.cells c e (0,0):=by simpa [Array.getElem?_eq_getElem bY] using h
 show (w.heap.modify b _)[b]? = _
 rw [Array.getElem?_eq_getElem (by simpa using bY),Array.getElem_modify_self,h']
 simp
theorem j_.put2 {ob v:Nat} {slv y n u:Value} {w:World} (h:j_ ob v slv y n w):j_ ob v u y n (w.setCell ⟨ob,2,none⟩ u):=by
 unfold j_;rw [zI h];rfl
theorem j_.put3 {ob v:Nat} {slv y n u:Value} {w:World} (h:j_ ob v slv y n w):j_ ob v slv u n (w.setCell ⟨ob,3,none⟩ u):=by
 unfold j_;rw [zI h];rfl
theorem j_.put4 {ob v:Nat} {slv y n u:Value} {w:World} (h:j_ ob v slv y n w):j_ ob v slv y u (w.setCell ⟨ob,4,none⟩ u):=by
 unfold j_;rw [zI h];rfl
def xl (sr B ob Z v d:Nat) (lv:Value) (levels ts:List Ty) (nZ:Nat) (r0:Bs) (w:World) (rd:Rd) (k:Nat) (wr:World):Prop :=
 ∃ bs lk leftk slv vs,zf rd (kW levels (ts.take k)) nZ r0=some (bs,lk,leftk)/\But (fun x=>x=sr) w wr/\kS sr [.int .i64 (leftk:Nat)] 143 lk wr /\
   j_ ob v slv (.pointer none) (.pointer none) wr/\Own wr 79 1 slv k vs/\(∀ g,slv.ownBlock=some g->Z<=g)/\zH (fun b=>Z<=b/\slv.ownBlock≠some b) wr (qh bs) vs/\pX B sr lv (d+1) wr/\Z<=wr.heap.size
theorem xy (a b:List Bd):qh (a++b)=qh a++qh b:=by
 induction a with
 | nil=>rfl
 | cons t ts ih=>simp [qh,ih]
theorem Tryz.infoB:(Tryz.prog.info? 79).map (fun i=>(i.zero,i.size,i.bytes))=some (some (.pointer none),1,8):=by kernel_rfl
theorem gP {sr left:Nat} {x:UInt8} {r:Bs} {w w2:World} {o:Option (Bd×Bs×Nat)} {u:Value} (hw:u=str [x]) (hm:o=some (.leaf x,r,left)) (hb:But (fun x=>x=sr) w w2) (hs:kS sr [.int .i64 (left:Nat)] 143 r w2) :
 jY sr w o (.returned (.pointer (some ⟨w2.heap.size,0,none⟩))) (w2.alloc (.cells #[u,.int .i64 0,.slice none 0 0,.pointer none,.pointer none] 121)):=by
 refine jY.yes hm (hb.alloc _) (hs.alloc _) ?_
 rw [kD,jU]
 refine ⟨_,_,rfl,hb.size,zR _ _,?_⟩
 subst hw
 refine zQ.2 ⟨_,_,rfl,zF.2 rfl,zQ.2 ⟨_,_,rfl,zF.2 rfl,zQ.2 ⟨_,_,rfl,?_,zQ.2 ⟨_,_,rfl,zF.2 rfl,zQ.2 ⟨_,_,rfl,zF.2 rfl,zB.2 rfl⟩⟩⟩⟩⟩
 exact zp.2 ⟨rfl,none,0,rfl,g_ _,fun _=>rfl,.inl rfl⟩
theorem kC.next {d:Nat} {levels:List Ty} {v:Nat} {t a:Ty} (h:kC (d+1) levels) (hv:levels[v]? = some t) (ha:a∈t.args):kC d (levels++a.args):=by
 have ht:=h.1 t (List.mem_of_getElem? hv)
 have cI:∀ ts:List Ty,∀ a∈ts,1+zY a<=zk ts:=by
  intro ts
  induction ts with
  | nil=>simp
  | cons x xs ih =>
    intro a ha
    rcases List.mem_cons.1 ha with rfl | ha
    ·simp [zk]
    ·have:=ih a ha;simp [zk];omega
 have hlen:∀ ts:List Ty,ts.length<=zk ts:=by
  intro ts
  induction ts with
  | nil=>simp
  | cons x xs ih=>simp [zk];omega
 have h1:=cI _ a ha
 have h2:=kN t
 have h3:=kN a
 refine ⟨fun x hx=>?_,?_⟩
 ·rcases List.mem_append.1 hx with hx | hx
  ·exact h.1 x hx
  ·have:=cI _ x hx;omega
 ·have:=hlen a.args;have:=h.2;simp;omega
theorem kC.same {d:Nat} {levels:List Ty} (h:kC (d+1) levels):kC d (levels++[]):=by
 refine ⟨fun x hx=>h.1 x (by simpa using hx),?_⟩
 have:=h.2;simp;omega
theorem xl.next {sr B ob Z v d:Nat} {lv:Value} {levels ts:List Ty} {nZ:Nat} {r0:Bs} {w:World} {rd:Rd} {k:Nat} {wr w1 w2:World} {t:Ty} {bs:List Bd} {lk:Bs} {leftk:Nat} {slv:Value} {vs:List Value}
 {b:Bd} {rest:Bs} {bF:Nat} {vb:Value} {o:Obj} {a':Option Addr} {c':Nat}
 (ht:ts[k]? = some t) (hp:zf rd (kW levels (ts.take k)) nZ r0=some (bs,lk,leftk)) (hb:But (fun x=>x=sr) w wr)
 (tw:j_ ob v slv (.pointer none) (.pointer none) wr) (hZ:∀ g,slv.ownBlock=some g->Z<=g) (bA:Own wr 79 1 slv k vs) (hr:zH (fun b=>Z<=b/\slv.ownBlock≠some b) wr (qh bs) vs) (hx:pX B sr lv (d+1) wr)
 (hz:Z<=wr.heap.size) (hq:qU rd (levels++t.args) leftk lk=some (b,rest,bF))
 (bQ:But (fun x=>x=sr) wr w1) (cN:kS sr [.int .i64 (bF:Nat)] 143 rest w1) (hv:Rep (wr.heap.size<=·) w1 (kD b) vb)
 (dq:Own w2 79 1 (.slice a' (k+1) c') (k+1) (vs++[vb])) (bZ:But (fun b=>slv.ownBlock=some b) (w1.alloc o) w2) (hg:∀ g,(Value.slice a' (k+1) c').ownBlock=some g->slv.ownBlock=some g\/g=(w1.alloc o).heap.size)
 (hsr:sr<w.heap.size) (hB:w.heap.size<=B) (tz:B+1+1<ob) (hobZ:ob<Z) :
 xl sr B ob Z v d lv levels ts nZ r0 w rd (k+1) (w2.setCell ⟨ob,2,none⟩ (.slice a' (k+1) c')):=by
 have z1:=bQ.size;have z2:=bZ.size;have zw:=hb.size
 rw [zK] at hg z2
 have bY:∀ g,slv.ownBlock=some g->g<wr.heap.size:=fun g h=>bA.lt h
 have hnsr:∀ g,slv.ownBlock=some g->Z<=g:=hZ
 have keep:∀ i x,w1.heap[i]? = some x->slv.ownBlock≠some i->i≠ob->(w2.setCell ⟨ob,2,none⟩ (.slice a' (k+1) c')).heap[i]? = some x:=by
  intro i x hi hne ho
  rw [hH _ _ _ _ (by simpa using ho),bZ.block i (by rw [zK];have:=zZ hi;omega) hne]
  exact zV hi
 have Bg:j_ ob v slv (.pointer none) (.pointer none) w1:=(bQ.block ob (zZ tw) (by omega)).trans tw
 have hnb2:j_ ob v slv (.pointer none) (.pointer none) w2:=by
  unfold j_;rw [bZ.block ob (by rw [zK];have:=zZ Bg;omega) (fun e=>by have:=hZ ob e;omega)]
  exact zV Bg
 have eI:=hx.but bQ (fun i e=>by subst e;omega)
 refine ⟨bs++[b],rest,bF,_,vs++[vb],?_,?_,?_,hnb2.put2,?_,?_,?_,?_,?_⟩
 ·rw [gM ht hp,hq];rfl
 ·refine ((hb.trans bQ).trans' ((But.refl (fun b=>slv.ownBlock=some b) w1).alloc o |>.trans bZ) fun i hi e=>?_).setCell (p:=⟨ob,2,none⟩) (.inr (by simp;omega)) _
  have:=hZ i e;omega
 ·exact keep sr _ cN (fun e=>by have:=hZ sr e;omega) (by omega)
 ·refine dq.keep fun g x dH eM=>?_
  rw [hH _ _ _ _ (by
   rcases hg g dH with h | h
   ·have:=hZ g h;simp;omega
   ·simp;omega)]
  exact eM
 ·intro g h
  rcases hg g h with h | h
  ·exact hZ g h
  ·omega
 ·rw [xy]
  refine zH.append ?_ (zH.one ?_)
  ·refine (Rep.keep fun i x hi eM=>⟨⟨hi.1,fun e=>?_⟩,?_⟩).2 _ _ hr
   ·have hne:i≠sr:=by omega
    exact keep i x (by rw [bQ.block i (zZ eM) hne];exact eM) hi.2 (by omega)
   ·rcases hg i e with h | h
    ·exact hi.2 h
    ·have:=zZ eM;omega
  ·refine (Rep.keep fun i x hi eM=>⟨⟨by have:=hi;omega,fun e=>?_⟩,?_⟩).1 _ _ hv
   ·exact keep i x eM (fun e=>by have:=bY i e;have:=hi;omega) (by have:=hi;omega)
   ·rcases hg i e with h | h
    ·have:=bY i h;have:=hi;omega
    ·have:=zZ eM;omega
 ·obtain ⟨y1,y2,y3⟩:=eI
  have ck:∀ i u,w1.cell? ⟨i,0,none⟩=some u->slv.ownBlock≠some i->i≠ob->(w2.setCell ⟨ob,2,none⟩ (.slice a' (k+1) c')).cell? ⟨i,0,none⟩=some u:=by
   intro i u hi hne ho
   rw [World.cell?_of_block (w:=w1) (a:=⟨i,0,none⟩) ?_];exact hi
   have hl:=hU w1 _ hi
   obtain ⟨x,eM⟩:∃ x,w1.heap[i]? = some x:=⟨w1.heap[i],by simp at hl;simp [hl]⟩
   show (w2.setCell ⟨ob,2,none⟩ (.slice a' (k+1) c')).heap[i]? = w1.heap[i]?
   rw [keep i x eM hne ho,eM]
  exact ⟨ck _ _ y1 (fun e=>by have:=hZ _ e;omega) (by omega),ck _ _ y2 (fun e=>by have:=hZ _ e;omega) (by omega),ck _ _ y3 (fun e=>by have:=hZ _ e;omega) (by omega)⟩
 ·simp only [World.setCell];simp;omega
theorem body_ask (d:Nat) (hd:d+1<=1000) (ih:yz d) (sr left:Nat) (levels:List Ty) (l:Bs) (lv:Value) (F:Nat->Prop) (w:World) (hg:jE w) (hn:NotG sr)
 (hs:kS sr [.int .i64 ((left+1:Nat):Int)] 143 l w) (hl:left+1<=1000) (hr:Lim l.length) (hh:kC (d+1) levels)
 (dQ:Rep F w (.sl 53 1 levels.length (kZ levels)) lv) (hF:∀ b,F b->b≠sr) (r1:Bs) (v:Nat) (t:Ty) (h1:Cut [40] l r1) (nL:lvl (zN r1) levels.length=some v) (ht:levels[v]? = some t) :
 Calls Tryz.prog 87 #[.pointer (some ⟨sr,0,none⟩),lv,.int .i64 ((d:Int)+1)] w (jY sr w (rdB (d+1) levels (left+1) l)):=by
 have HM:=gl (xE (d+1) levels left h1.out)
 have hm:rdB (d+1) levels (left+1) l=gK (rdB d) levels v t left (zD r1):=by rw [HM.out,nL];simp only [ht]
 have HM:=gl hm;clear hm
 rw [rdAsk_eq] at HM
 have IH:=gl ih;clear ih
 obtain ⟨nQ,cW,nO⟩:=lvl_lt nL
 have nT:=gl cW;have lF:=gl nO;have hlvl':=gl nL;have HT:=gl ht
 have c1:=hs.cell1
 have f1:=hs.free 1
 have lsr:=uO hs
 have lsr1:sr<w.heap.size+1:=by omega
 have lsr2:sr<w.heap.size+1+1:=by omega
 obtain ⟨a0,k0,elv,_,_,bJ⟩:=zE dQ
 obtain ⟨bl,ol,u,dv,ea,hFl,_,tn,tV,be⟩:=bJ v nQ
 rw [vS,ht] at tn
 simp only [Option.map_some,Option.some.injEq] at tn
 subst tn;subst ea;subst elv
 obtain ⟨bt,st,eu,hFt,BO,fd⟩:=z8 be
 subst eu
 obtain ⟨sa,ks,est,tK,_,f_⟩:=zE fd
 subst est
 have BN:w.cell? ⟨bt,0,none⟩=some (.slice sa t.args.length ks):=by simp [World.cell?,BO]
 have nl:=hF bl hFl
 have nt:=hF bt hFt
 have HF:=gl hF;have sm:=gl f_
 have CL:=gl tV;have CT:=gl BN
 clear cW nO nL ht bJ be BO fd hF f_ tV BN
 have hlen:levels.length<=10000:=by have:=hh.2;omega
 have eN:t.args.length<=15:=by
  have h1:=hh.1 t (List.mem_of_getElem? HT.out)
  have h2:=kN t
  have hlen:∀ ts:List Ty,ts.length<=zk ts:=by
   intro ts
   induction ts with
   | nil=>simp
   | cons x xs ih=>simp [zk];omega
  have:=hlen t.args;omega
 go_enter Tryz.func87,Tryz.ntmps87
 go_wp2_with fail
 obtain ⟨W0,fS⟩:=zzM (((((w.setCell ⟨sr,1,none⟩ (.int .i64 left)).alloc (.cells #[.pointer (some ⟨sr,0,none⟩)] 141)).alloc (.cells #[.slice (some ⟨bl,ol,none⟩) levels.length k0] 56)).alloc (.cells #[.int .i64 ((d:Int)+1)] 3)))
 rw [<- fS]
 have tW:But (fun x=>x=sr) w W0:=by subst fS;exact ((((But.refl _ _).setS 1 _).alloc _).alloc _).alloc _
 have dG:kS sr [.int .i64 left] 143 l W0:=by subst fS;exact ((hs.put1).alloc _).alloc _ |>.alloc _
 have mM:pX w.heap.size sr (.slice (some ⟨bl,ol,none⟩) levels.length k0) (d+1) W0:=by subst fS;refine ⟨?_,?_,?_⟩ <;> go_simp
 have z0:W0.heap.size=w.heap.size+3:=by subst fS;simp
 clear fS c1 f1
 refine (je dG h1).mono ?_
 rintro en w1 ⟨rfl,bQ,cN⟩
 have eI:=mM.but bQ (fun i e=>by subst e;omega)
 have hb:=tW.trans bQ
 have z1:=bQ.size
 clear tW bQ dG mM
 obtain ⟨x1,x2,x3⟩:=id eI
 go_wp2_with fail
 refine (pO _ _ _ _ _ cN (hr.mono h1.le)).mono ?_
 rintro en w2 ⟨rfl,bZ,dO⟩
 have cK:=hr.mono h1.le
 have az:=cK.mono (show (zN r1).length<=r1.length by have:=word_le r1;omega)
 have dI:=eI.but bZ (fun i e=>by subst e;omega)
 have bj:=hb.trans bZ
 have z2:=bZ.size
 have tJ:=hg.but bj (fun i e=>by subst e;exact hn)
 clear x1 x2 x3 hb bZ cN eI
 go_wp2_with fail
 refine (atoi_ok _ _ az (v:Int) nT.out).mono ?_
 rintro en w3 ⟨rfl,bU⟩
 have z3:=bU.size
 have mP:=tJ.below bU
 have fu:=(bU.block sr (by omega)).trans dO
 have sn:=dI.but (But.ofBelow (m:=fun _=>False) bU) (fun i e=>e.elim)
 have hb:=bj.trans (But.ofBelow bU)
 clear bj bU dO dI tJ
 go_wp2_with fail
 refine (itoa_of nT.out w3 mP).mono ?_
 rintro en w4 ⟨rfl,bS⟩
 have z4:=bS.size
 have eR:=(bS.block sr (by omega)).trans fu
 have hg4:=mP.below bS
 have An:=sn.but (But.ofBelow (m:=fun _=>False) bS) (fun i e=>e.elim)
 obtain ⟨x1,x2,x3⟩:=id An
 have bj:=hb.trans (But.ofBelow bS)
 have hq:(Lib.itoa (v:Int) == zN r1)=true:=by rw [beq_iff_eq];exact lF.out
 have er:decide ((v:Int)<0)=false:=by rw [decide_eq_false_iff_not];omega
 have co:decide (levels.length<=v)=false:=by rw [decide_eq_false_iff_not];omega
 have sG:(((d:Int)+1) == 0)=false:=by rw [beq_eq_false_iff_ne];omega
 have s1:w.heap.size+1<w4.heap.size:=by omega
 have s2:w.heap.size<w4.heap.size:=by omega
 have s3:w.heap.size+1+1<w4.heap.size:=by omega
 have d1:w4.cell? ⟨bl,ol+v,none⟩=some (.pointer (some ⟨bt,0,none⟩)):=by rw [bj.cell (hU w _ CL.out) nl];exact CL.out
 have d2:w4.cell? ⟨bt,0,none⟩=some (.slice sa t.args.length ks):=by rw [bj.cell (hU w _ CT.out) nt];exact CT.out
 have d3:=hU w4 _ d1
 have d4:=hU w4 _ d2
 clear hb bS fu sn mP
 go_wp2_with fail
 have cO:xl sr w.heap.size w4.heap.size (w4.heap.size+1) v d (.slice (some ⟨bl,ol,none⟩) levels.length k0) levels t.args left (zD r1) w (rdB d) 0
  (w4.alloc (.cells #[.string ⟨#[]⟩,.int .i64 v,.slice none 0 0,.pointer none,.pointer none] 121)):=by
  refine ⟨[],zD r1,left,.slice none 0 0,[],by simp [kW,zf],bj.alloc _,kS.alloc eR _,zR _ _,World.ownsRow_nil _ _ _ _,fun g h=>by simp [Value.ownBlock] at h,zB.2 rfl,An.but ((But.refl (fun _=>False) _).alloc _) (fun i e=>e.elim),by simp⟩
 have hz4:w.heap.size+1+1<w4.heap.size:=s3
 clear x1 x2 x3 d1 d2 d3 d4 An eR bj hg4
 generalize hZ:w4.heap.size+1=Z at cO
 generalize hO:w4.heap.size=ob at *
 have HZ:=gl hZ;clear hZ
 have HO:=gl hO;clear hO
 go_loopw [93] (fun i wr=>∃ k:Nat,k<=t.args.length/\i=.int .i64 k/\xl sr w.heap.size ob Z v d (.slice (some ⟨bl,ol,none⟩) levels.length k0) levels t.args left (zD r1) w (rdB d) k wr)
  (fun i _=>t.args.length-(intOf i).toNat)
 case atStart=>exact ⟨0,Nat.zero_le _,rfl,cO⟩
 case round =>
  clear cO
  rename_i wr
  obtain ⟨k,hk,rfl,hrel⟩:=hrel
  obtain ⟨bs,lk,leftk,slv,vs,hp,hb,i5,tw,bA,hZb,d_,dB,ig⟩:=hrel
  have hple:=uq (gZ d) _ hp
  have Bl:leftk<=1000:=by omega
  have dP:=vq r1
  have r_:Lim lk.length:=hr.mono (by have:=h1.le;omega)
  have hgk:jE wr:=hg.but hb (fun i e=>by subst e;exact hn)
  have lP:Rep F wr (.sl 53 1 levels.length (kZ levels)) (.slice (some ⟨bl,ol,none⟩) levels.length k0):=Rep.but hb (fun b hb=>⟨HF.out b hb,hb⟩) dQ
  have hp':=gl hp;have iz:=gl hZb;clear hp hZb hple
  by_cases bY:k<t.args.length
  ·obtain ⟨ba,oa,uk,dk,esa,hFa,_,iE,t_,c_⟩:=sm.out k bY
   subst esa
   rw [vS,Option.map_eq_some_iff] at iE
   obtain ⟨tk,fU,rfl⟩:=iE
   obtain ⟨bk,sk,euk,hFk,BR,il⟩:=z8 c_
   subst euk
   obtain ⟨ask,ksk,esk⟩:∃ a c,sk=.slice a tk.args.length c:=by obtain ⟨a,c,e,_⟩:=zE il;exact ⟨a,c,e⟩
   subst esk
   have e1:wr.cell? ⟨ba,oa+k,none⟩=some (.pointer (some ⟨bk,0,none⟩)):=by rw [hb.cell (hU w _ t_) (HF.out ba hFa)];exact t_
   have e2:wr.cell? ⟨bk,0,none⟩=some (.slice ask tk.args.length ksk):=by
    have:w.cell? ⟨bk,0,none⟩=some (.slice ask tk.args.length ksk):=by simp [World.cell?,BR]
    rw [hb.cell (hU w _ this) (HF.out bk hFk)];exact this
   have Az:Rep F wr (.sl 53 1 tk.args.length (kZ tk.args)) (.slice ask tk.args.length ksk):=Rep.but hb (fun b hb=>⟨HF.out b hb,hb⟩) il
   have iB:kC d (levels++tk.args):=hh.next HT.out (List.mem_of_getElem? fU)
   have HTK:=gl fU
   clear fU t_ BR c_ il
   obtain ⟨y1,y2,y3⟩:=id dB
   go_wp2_with fail
   refine (gV d IH.out sr leftk levels tk.args lk _ _ F wr w.heap.size (w.heap.size+1) (w.heap.size+1+1) hgk hn i5 Bl r_ iB (by omega) lP Az HF.out y1 y2 y3 (by omega) (by omega) (by omega)).mono ?_
   rintro en w5 ⟨vb,r',left',rfl,bC,nM,rj,rZ⟩
   clear y1 y2 y3 e1 e2
   cases hq:qU (rdB d) (levels++tk.args) leftk lk with
   | none =>
     obtain rfl:=rj hq
     have HQ:=gl hq;clear hq rj rZ
     go_wp2_with fail
     go_ret
     refine jY.no ?_ (hb.trans bC) nM
     rw [HM.out,hands_none (k+1) (by rw [gM HTK.out hp'.out,HQ.out];rfl)];rfl
   | some x =>
     obtain ⟨b,rest,bF⟩:=x
     obtain ⟨rfl,rfl,oE⟩:=rZ b rest bF hq
     have HQ:=gl hq;clear hq rj rZ
     obtain ⟨ab,evb⟩:=zy oE
     subst evb
     have nA:j_ ob v slv (.pointer none) (.pointer none) w5:=(bC.block ob (zZ tw) (by have:=HO.out;omega)).trans tw
     obtain ⟨q1,_,_,q4,q5⟩:=nA.cells
     have q6:=q5 2
     have AQ:Own w5 79 1 slv k vs:=bA.keep fun g o dH ho=>by rw [bC.block g (zZ ho) (by have:=iz.out g dH;have:=HZ.out;omega)];exact ho
     clear q5
     go_wp2_with (at_builtin;refine zP rfl _ _ 119 rfl 79 (.pointer none) 1 8 Tryz.underlying119 Tryz.infoB rfl (by decide) slv k vs rfl ?c1 _ 1 [.pointer (some ⟨ab,0,none⟩)] rfl ?c2 ?c3 ?c4 ?_)
     case c1=>exact AQ.keep fun g o dH ho=>zV ho
     case c2=>exact zS.lit rfl
     case c3=>unfold maxLen;omega
     case c4=>omega
     intro a' c' w6 dq bP dH
     have tx:j_ ob v slv (.pointer none) (.pointer none) w6:=by
      unfold j_;rw [bP.block ob (by simp;omega) (fun e=>by have:=iz.out ob e;have:=HZ.out;omega)]
      exact zV nA
     have bg:=xl.next HTK.out hp'.out hb tw iz.out bA d_ dB ig HQ.out bC nM oE dq bP (fun g h=>(dH g h).imp_right fun e=>e.trans (by simp)) lsr (g_ _) hz4 (by have:=HZ.out;omega)
     obtain ⟨p1,_,_,p4,p5⟩:=tx.cells
     have p6:=p5 2
     have HG:=gl dH;clear dH p5
     go_wp2_with fail
     go_roundw
     case rel=>exact ⟨k+1,by omega,by go_num,bg⟩
     case measure=>simp [intOf];omega
  ·obtain rfl:k=t.args.length:=by omega
   have hp:zf (rdB d) (kW levels t.args) left (zD r1)=some (bs,lk,leftk):=by have:=hp'.out;rwa [List.take_length] at this
   have HP:=gl hp;clear hp hp' bY hk
   have lY:∀ W:World,Rep F W (.sl 53 1 ([]:List Ty).length (kZ [])) (.slice none 0 0):=fun W=>zp.2 ⟨rfl,none,0,rfl,g_ _,fun _=>rfl,.inl rfl⟩
   have hh0:=hh.same
   have Cw:=gl lY;clear lY
   obtain ⟨y1,y2,y3⟩:=id dB
   go_wp2_with fail
   refine (gV d IH.out sr leftk levels [] lk _ _ F wr w.heap.size (w.heap.size+1) (w.heap.size+1+1) hgk hn i5 Bl r_ hh0 (by omega) lP (Cw.out wr) HF.out y1 y2 y3 (by omega) (by omega) (by omega)).mono ?_
   rw [List.append_nil] at *
   rintro en w5 ⟨vb,r',left',rfl,bC,nM,rj,rZ⟩
   clear y1 y2 y3
   have nA:j_ ob v slv (.pointer none) (.pointer none) w5:=(bC.block ob (zZ tw) (by have:=HO.out;omega)).trans tw
   have BV:=dB.but bC (fun i e=>by subst e;omega)
   have cE:=hb.trans bC
   have z5:=bC.size
   have zr:=hb.size
   obtain ⟨_,q2,_,q4,q5⟩:=nA.cells
   have q6:=q5 3;clear q5
   cases hq:qU (rdB d) levels leftk lk with
   | none =>
     obtain rfl:=rj hq
     have HQ:=gl hq;clear hq rj rZ
     go_wp2_with fail
     go_ret
     refine jY.no ?_ (cE.setCell (p:=⟨ob,3,none⟩) (.inr (by simp;omega)) _) (r:=r') (left:=left') ?_
     ·rw [HM.out];simp only [HP.out,Option.bind_eq_bind,Option.bind_some,HQ.out,Option.bind_none]
     ·unfold kS;rw [hH _ _ _ _ (by simp;omega)];exact nM
   | some x =>
     obtain ⟨by1,rest1,cl⟩:=x
     obtain ⟨rfl,rfl,oE⟩:=rZ _ _ _ hq
     have hle5:=uX (gZ d) hq
     have HQ:=gl hq;clear hq rj rZ
     obtain ⟨ab,evb⟩:=zy oE
     subst evb
     have lX:=nA.put3 (u:=.pointer (some ⟨ab,0,none⟩))
     obtain ⟨WA,og⟩:=zzM (w5.setCell ⟨ob,3,none⟩ (.pointer (some ⟨ab,0,none⟩)))
     go_wp2_with fail
     rw [<- og] at lX ⊢
     have mh:But (fun x=>x=sr) w WA:=by subst og;exact cE.setCell (p:=⟨ob,3,none⟩) (.inr (by simp;omega)) _
     have kA:∀ i x,w5.heap[i]? = some x->i≠ob->WA.heap[i]? = some x:=by
      intro i x hx hne;subst og;rw [hH _ _ _ _ (by simpa using hne)];exact hx
     have zA:WA.heap.size=w5.heap.size:=by subst og;simp [World.setCell]
     have hsA:kS sr [.int .i64 (cl:Nat)] 143 r' WA:=kA _ _ nM (by omega)
     have BU:pX w.heap.size sr (.slice (some ⟨bl,ol,none⟩) levels.length k0) (d+1) WA:=by
      subst og
      exact BV.but (m:=fun i=>i=ob) ((But.refl (fun i=>i=ob) w5).setCell (p:=⟨ob,3,none⟩) (.inl rfl) _) (fun i e=>by subst e;omega)
     have hrsA:zH (fun b=>Z<=b/\slv.ownBlock≠some b) WA (qh bs) vs :=
      (Rep.keep fun i x hi hx=>⟨hi,kA i x (by rw [bC.block i (zZ hx) (by have:=HZ.out;omega)];exact hx) (by have:=HZ.out;omega)⟩).2 _ _ d_
     have AP:Own WA 79 1 slv t.args.length vs:=bA.keep fun g o dH ho=>kA g o (by rw [bC.block g (zZ ho) (by have:=iz.out g dH;have:=HZ.out;omega)];exact ho) (by have:=iz.out g dH;have:=HZ.out;omega)
     have hv5A:Rep (wr.heap.size<=·) WA (kD by1) (.pointer (some ⟨ab,0,none⟩)):=(Rep.keep fun i x hi hx=>⟨hi,kA i x hx (by have:=zZ tw;have:=hi;omega)⟩).1 _ _ oE
     have hgA:jE WA:=hg.but mh (fun i e=>by subst e;exact hn)
     have hlvA:Rep F WA (.sl 53 1 levels.length (kZ levels)) (.slice (some ⟨bl,ol,none⟩) levels.length k0):=Rep.but mh (fun b hb=>⟨HF.out b hb,hb⟩) dQ
     have KA:=gl kA
     clear og kA q2 q4 q6 nA bC BV nM d_ oE i5 dB lP hgk
     obtain ⟨y1,y2,y3⟩:=id BU
     refine (gV d IH.out sr cl levels [] r' _ _ F WA w.heap.size (w.heap.size+1) (w.heap.size+1+1) hgA hn hsA (by omega) (r_.mono (by omega)) (by rw [List.append_nil];exact hh0) (by omega) hlvA (Cw.out WA) HF.out y1 y2 y3 (by omega) (by omega) (by omega)).mono ?_
     rw [List.append_nil] at *
     rintro en w6 ⟨vn,r6,Ai,rfl,bP,nF,eS,dx⟩
     clear y1 y2 y3
     have tx:j_ ob v slv (.pointer (some ⟨ab,0,none⟩)) (.pointer none) w6:=(bP.block ob (zZ lX) (by have:=HO.out;omega)).trans lX
     have hbx6:=BU.but bP (fun i e=>by subst e;omega)
     obtain ⟨x1,_,_⟩:=id hbx6
     have ow:=mh.trans bP
     have z6:=bP.size
     obtain ⟨_,_,q3,q4,q5⟩:=tx.cells
     have q6:=q5 4;clear q5
     cases mz:qU (rdB d) levels cl r' with
     | none =>
       obtain rfl:=eS mz
       have tB:=gl mz;clear mz eS dx
       go_wp2_with fail
       go_ret
       refine jY.no ?_ (ow.setCell (p:=⟨ob,4,none⟩) (.inr (by simp;omega)) _) (r:=r6) (left:=Ai) ?_
       ·rw [HM.out];simp only [HP.out,Option.bind_eq_bind,Option.bind_some,HQ.out,tB.out,Option.bind_none]
       ·unfold kS;rw [hH _ _ _ _ (by simp;omega)];exact nF
     | some x =>
       obtain ⟨bn,rest2,bF⟩:=x
       obtain ⟨rfl,rfl,hv6⟩:=dx _ _ _ mz
       have hle6:=uX (gZ d) mz
       have tB:=gl mz;clear mz eS dx
       obtain ⟨an,evn⟩:=zy hv6
       subst evn
       have Bf:=tx.put4 (u:=.pointer (some ⟨an,0,none⟩))
       have hbD:But (fun x=>x=sr) w (w6.setCell ⟨ob,4,none⟩ (.pointer (some ⟨an,0,none⟩))):=ow.setCell (p:=⟨ob,4,none⟩) (.inr (by simp;omega)) _
       have hsD:kS sr [.int .i64 (bF:Nat)] 143 r6 (w6.setCell ⟨ob,4,none⟩ (.pointer (some ⟨an,0,none⟩))):=by
        unfold kS;rw [hH _ _ _ _ (by simp;omega)];exact nF
       go_wp2_with fail
       rcases zi [41] r6 with h7 | ⟨r7,h7⟩
       ·refine (uI hsD h7).mono ?_
        rintro en w7 ⟨rfl,bV,nc⟩
        go_wp2_with fail
        go_ret
        refine jY.no ?_ (hbD.trans bV) nc
        rw [HM.out];simp only [HP.out,Option.bind_eq_bind,Option.bind_some,HQ.out,tB.out,h7.out,Option.bind_none]
       refine (je hsD h7).mono ?_
       rintro en w7 ⟨rfl,bV,nc⟩
       go_wp2_with fail
       go_ret
       refine jY.yes (b:=.ask v bs by1 bn) (r:=r7) (left:=bF) ?_ (hbD.trans bV) nc ?_
       ·rw [HM.out];simp only [HP.out,Option.bind_eq_bind,Option.bind_some,HQ.out,tB.out,h7.out]
       ·have fc:∀ i x,w6.heap[i]? = some x->i≠ob->i≠sr->w7.heap[i]? = some x:=by
         intro i x hx hne A_
         rw [bV.block i (by have:=zZ hx;simpa [World.setCell] using this) A_,hH _ _ _ _ (by simpa using hne)];exact hx
        have keepA:∀ i x,WA.heap[i]? = some x->i≠ob->i≠sr->w7.heap[i]? = some x:=fun i x hx hne A_=>fc i x (by rw [bP.block i (zZ hx) A_];exact hx) hne A_
        have hnb7:j_ ob v slv (.pointer (some ⟨ab,0,none⟩)) (.pointer (some ⟨an,0,none⟩)) w7:=(bV.block ob (zZ Bf) (by omega)).trans Bf
        have hZo:=HZ.out
        have tX:bs.length=t.args.length:=by
         have:=(uq (gZ d) _ HP.out).2.2;simpa [kW] using this
        rw [kD,jU]
        refine ⟨ob,_,rfl,by omega,hnb7,?_⟩
        refine zQ.2 ⟨_,_,rfl,zF.2 rfl,zQ.2 ⟨_,_,rfl,zF.2 rfl,zQ.2 ⟨_,_,rfl,?_,zQ.2 ⟨_,_,rfl,?_,zQ.2 ⟨_,_,rfl,?_,zB.2 rfl⟩⟩⟩⟩⟩
        ·rw [tX]
         refine (AP.keep fun g o dH ho=>keepA g o ho (by have:=iz.out g dH;omega) (by have:=iz.out g dH;omega)).rep (fun g dH=>by have:=iz.out g dH;omega) ?_
         exact (Rep.keep fun i x hi hx=>⟨by omega,keepA i x hx (by omega) (by omega)⟩).2 _ _ hrsA
        ·exact (Rep.keep fun i x hi hx=>⟨by have:=hi;omega,keepA i x hx (by have:=hi;omega) (by have:=hi;omega)⟩).1 _ _ hv5A
        ·exact (Rep.keep fun i x hi hx=>⟨by have:=hi;omega,fc i x hx (by have:=hi;omega) (by have:=hi;omega)⟩).1 _ _ hv6
theorem body_step (d:Nat) (hd:d<=1000) (ih:∀ d',d=d'+1->yz d'):yz d:=by
 intro sr left levels l lv F w hg hn hs hl hr hh dQ hF
 have IH:=gl ih;clear ih
 have HF:=gl hF;clear hF
 have c1:=hs.cell1
 have f1:=hs.free 1
 have lsr:=uO hs
 have lsr1:sr<w.heap.size+1:=by omega
 have lsr2:sr<w.heap.size+1+1:=by omega
 obtain ⟨a0,k0,elv⟩:∃ a k,lv=.slice a levels.length k:=by obtain ⟨a,k,e,_⟩:=zE dQ;exact ⟨a,k,e⟩
 subst elv
 rcases left with _ | left
 ·clear IH
  go_enter Tryz.func87,Tryz.ntmps87
  go_wp2_with fail
  go_ret
  refine jY.no (by unfold rdB;rfl) (((((But.refl _ _).setS 1 _).alloc _).alloc _).alloc _) (((hs.put1).alloc _).alloc _ |>.alloc _)
 by_cases lh:∃ d' r1 v t,d=d'+1/\Cut [40] l r1/\lvl (zN r1) levels.length=some v/\levels[v]? = some t
 ·obtain ⟨d',r1,v,t,rfl,h1,h2,h3⟩:=lh
  exact body_ask d' hd (IH.out d' rfl) sr left levels l _ F w hg hn hs hl hr hh dQ HF.out r1 v t h1 h2 h3
 have CF:=gl lh;clear lh IH
 go_enter Tryz.func87,Tryz.ntmps87
 go_wp2_with fail
 obtain ⟨W0,fS⟩:=zzM (((((w.setCell ⟨sr,1,none⟩ (.int .i64 left)).alloc (.cells #[.pointer (some ⟨sr,0,none⟩)] 141)).alloc (.cells #[.slice a0 levels.length k0] 56)).alloc (.cells #[.int .i64 d] 3)))
 rw [<- fS]
 have tW:But (fun x=>x=sr) w W0:=by subst fS;exact ((((But.refl _ _).setS 1 _).alloc _).alloc _).alloc _
 have dG:kS sr [.int .i64 left] 143 l W0:=by subst fS;exact ((hs.put1).alloc _).alloc _ |>.alloc _
 have mM:pX w.heap.size sr (.slice a0 levels.length k0) d W0:=by subst fS;refine ⟨?_,?_,?_⟩ <;> go_simp
 have z0:W0.heap.size=w.heap.size+3:=by subst fS;simp
 have hb0':=tW
 clear fS c1 f1
 have n1:w.heap.size≠sr:=by omega
 have n2:w.heap.size+1≠sr:=by omega
 have n3:w.heap.size+1+1≠sr:=by omega
 rcases zi [40] l with h1 | ⟨r1,h1⟩
 ·refine (uI dG h1).mono ?_
  rintro en w1 ⟨rfl,bQ,cN⟩
  obtain ⟨x1,x2,x3⟩:=mM.but bQ (fun i e=>by subst e;omega)
  go_wp2_with fail
  refine (pO _ _ _ _ _ cN hr).mono ?_
  rintro en w2 ⟨rfl,bZ,dO⟩
  have hb:=(tW.trans bQ).trans bZ
  have hm:rdB d levels (left+1) l=(if zN l=[116] then some (Bd.leaf 116,zD l,left) else if zN l=[102] then some (.leaf 102,zD l,left) else if zN l=[117] then some (.leaf 117,zD l,left) else none):=by
   unfold rdB;simp only [h1.out]
  have HM:=gl hm;clear hm
  go_wp2_with fail
  ·have hw:zN l=[116]:=by assumption
   go_ret
   exact gP (o:=rdB d levels (left+1) l) (x:=116) rfl (by rw [HM.out,if_pos hw]) hb dO
  ·have hw:zN l=[102]:=by assumption
   go_ret
   exact gP (o:=rdB d levels (left+1) l) (x:=102) rfl (by rw [HM.out,if_neg (by rw [hw];decide),if_pos hw]) hb dO
  ·have hw:((!zN l == [116])=true/\(!zN l == [102])=true)/\(!zN l == [117])=true:=by assumption
   go_ret
   simp only [Bool.not_eq_true',beq_eq_false_iff_ne] at hw
   exact jY.no (by rw [HM.out,if_neg hw.1.1,if_neg hw.1.2,if_neg hw.2]) hb dO
  ·have hw:((!zN l == [116])=false\/(!zN l == [102])=false)\/(!zN l == [117])=false:=by assumption
   have aj:¬ zN l=[116]:=by assumption
   have hw2:¬ zN l=[102]:=by assumption
   have hw3:zN l=[117]:=by simpa [aj,hw2] using hw
   go_ret
   exact gP (o:=rdB d levels (left+1) l) (x:=117) (by rw [hw3]) (by rw [HM.out,if_neg aj,if_neg hw2,if_pos hw3]) hb dO
 refine (je dG h1).mono ?_
 rintro en w1 ⟨rfl,bQ,cN⟩
 have eI:=mM.but bQ (fun i e=>by subst e;omega)
 obtain ⟨x1,x2,x3⟩:=eI
 go_wp2_with fail
 refine (pO _ _ _ _ _ cN (hr.mono h1.le)).mono ?_
 rintro en w2 ⟨rfl,bZ,dO⟩
 have cK:=hr.mono h1.le
 have hb:=(tW.trans bQ).trans bZ
 have dI:=(mM.but bQ (fun i e=>by subst e;omega)).but bZ (fun i e=>by subst e;omega)
 clear x1 x2 x3
 have tJ:=hg.but hb (fun i e=>by subst e;exact hn)
 have az:=cK.mono (show (zN r1).length<=r1.length by have:=word_le r1;omega)
 have z2:=hb.size
 have z2':w.heap.size+3<=w2.heap.size:=by have:=bQ.size;have:=bZ.size;omega
 clear bQ bZ dG tW hb0' mM cN
 have HM:=gl (xE d levels left h1.out)
 go_wp2_with fail
 cases dc:lvl (zN r1) levels.length with
 | none =>
   have HN:rdB d levels (left+1) l=none:=by rw [HM.out,dc]
   rcases lvl_no dc with de | ⟨v,cW,hv⟩
   ·refine (atoi_no _ _ az tJ de).mono ?_
    rintro en w3 ⟨v,t,p,rfl,bU⟩
    have ij:=gl HN;clear HN dc de
    go_wp2_with fail
    go_ret
    exact jY.no ij.out (hb.trans (But.ofBelow bU)) ((bU.block sr (by omega)).trans dO)
   ·refine (atoi_ok _ _ az v cW).mono ?_
    rintro en w3 ⟨rfl,bU⟩
    have ij:=gl HN;clear HN dc
    have mP:=tJ.below bU
    have fu:=(bU.block sr (by omega)).trans dO
    have sn:=dI.but (But.ofBelow (m:=fun _=>False) bU) (fun i e=>e.elim)
    have nT:=gl cW;clear cW
    go_wp2_with fail
    refine (itoa_of nT.out w3 mP).mono ?_
    rintro en w4 ⟨rfl,bS⟩
    have z3:=bU.size
    have eR:=(bS.block sr (by omega)).trans fu
    obtain ⟨x1,x2,x3⟩:=sn.but (But.ofBelow (m:=fun _=>False) bS) (fun i e=>e.elim)
    have bj:=(hb.trans (But.ofBelow bU)).trans (But.ofBelow bS)
    rcases hv with hv | ⟨hv,aw⟩ | ⟨hv,aw,hv3⟩
    ·have hq:(Lib.itoa v == zN r1)=false:=by rw [beq_eq_false_iff_ne];exact hv
     clear hv
     go_wp2_with fail
     go_ret
     exact jY.no ij.out bj eR
    ·have hq:(Lib.itoa v == zN r1)=true:=by rw [beq_iff_eq];exact hv
     clear hv
     go_wp2_with fail
     go_ret
     exact jY.no ij.out bj eR
    ·have hq:(Lib.itoa v == zN r1)=true:=by rw [beq_iff_eq];exact hv
     clear hv
     go_wp2_with fail
     go_ret
     exact jY.no ij.out bj eR
 | some v =>
   obtain ⟨nQ,cW,nO⟩:=lvl_lt dc
   have BM:d=0:=by
    rcases Nat.eq_zero_or_pos d with h | h
    ·exact h
    ·exact absurd ⟨d-1,r1,v,levels[v],by omega,h1,dc,by simp [nQ]⟩ CF.out
   have HD:=gl BM;clear BM CF
   refine (atoi_ok _ _ az (v:Int) cW).mono ?_
   rintro en w3 ⟨rfl,bU⟩
   have mP:=tJ.below bU
   have fu:=(bU.block sr (by omega)).trans dO
   have sn:=dI.but (But.ofBelow (m:=fun _=>False) bU) (fun i e=>e.elim)
   have nT:=gl cW;clear cW
   have nL:=gl dc;clear dc
   have lF:=gl nO;clear nO
   go_wp2_with fail
   refine (itoa_of nT.out w3 mP).mono ?_
   rintro en w4 ⟨rfl,bS⟩
   have z3:=bU.size
   have z4:=bS.size
   have eR:=(bS.block sr (by omega)).trans fu
   have hg4:=mP.below bS
   have An:=sn.but (But.ofBelow (m:=fun _=>False) bS) (fun i e=>e.elim)
   obtain ⟨x1,x2,x3⟩:=An
   have bj:=(hb.trans (But.ofBelow bU)).trans (But.ofBelow bS)
   have hq:(Lib.itoa (v:Int) == zN r1)=true:=by rw [beq_iff_eq];exact lF.out
   have hlen:levels.length<=10000:=by have:=hh.2;omega
   clear hb bU bS dO dI sn fu tJ mP
   have sG:((d:Int) == 0)=true:=by rw [beq_iff_eq];have:=HD.out;omega
   go_wp2_with fail
   go_ret
   exact jY.no (by rw [HM.out,nL.out];have:=HD.out;subst this;rfl) bj eR
theorem body_any (d:Nat) (hd:d<=1000):yz d:=by
 induction d with
 | zero=>exact body_step 0 hd (fun d' h=>by omega)
 | succ d ih=>exact body_step (d+1) hd (fun d' h=>by obtain rfl:d=d':=by omega
                                                     exact ih (by omega))
def qX (t:Ty) (l:Bs):Option Bd:=match rdB 100 t.args 200 l with
 | some (b,[],_)=>some b
 | _=>none
def RPost {α:Type} (enc:α->DV) (w:World) (o:Option α) (en:Ending) (w':World):Prop :=
 ∃ v,en=.returned v/\Below w.heap.size w w'/\(o=none->v=.pointer none)/\(∀ b,o=some b->Rep (w.heap.size<=·) w' (enc b) v)
theorem wH {t:Ty} (h:zY t<=15):kC 100 t.args:=by
 have h1:=kN t
 have hlen:∀ ts:List Ty,ts.length<=zk ts:=by
  intro ts;induction ts with
  | nil=>simp
  | cons x xs ih=>simp [zk];omega
 have cI:∀ ts:List Ty,∀ a∈ts,1+zY a<=zk ts:=by
  intro ts
  induction ts with
  | nil=>simp
  | cons x xs ih =>
    intro a ha
    rcases List.mem_cons.1 ha with rfl | ha
    ·simp [zk]
    ·have:=ih a ha;simp [zk];omega
 refine ⟨fun a ha=>?_,?_⟩
 ·have:=cI _ a ha;omega
 ·have:=hlen t.args;omega
theorem uY (F:Nat->Prop) (t:Ty) (l:Bs) (kv:Value) (w:World) (hg:jE w) (hk:Rep F w (qj t) kv) (ht:zY t<=15) (hl:Lim l.length) :
 Calls Tryz.prog 54 #[kv,str l] w (RPost kD w (qX t l)):=by
 obtain ⟨bk,sk,rfl,hFk,hc,hs⟩:=z8 hk
 obtain ⟨a,c,e,_⟩:=zE hs
 subst e
 have c1:w.cell? ⟨bk,0,none⟩=some (.slice a t.args.length c):=by simp [World.cell?,hc]
 have lk:=zZ hc
 have HC:=gl hc;clear hc
 go_enter Tryz.func54,Tryz.ntmps54
 go_wp2_with fail
 have dG:kS w.heap.size [.int .i64 (200:Nat)] 143 l (w.alloc (.cells #[str l,.int .i64 200] 143)):=zR _ _
 have nI:Rep (fun b=>b<w.heap.size) (w.alloc (.cells #[str l,.int .i64 200] 143)) (.sl 53 1 t.args.length (kZ t.args)) (.slice a t.args.length c) :=
  (Rep.keep fun b o _ ho=>⟨zZ ho,zV ho⟩).1 _ _ hs
 refine (body_any 100 (by omega) w.heap.size 200 t.args l _ _ _ (hg.below ((hG _ _).alloc (g_ _) _)) (hg.new (g_ _)) dG (by omega) hl (wH ht) nI (fun b hb=>by have:=hb;omega)).mono ?_
 rintro en w1 ⟨v,r',left',rfl,bQ,cN,b8,cQ⟩
 have hb:Below w.heap.size w w1:=((hG w.heap.size w).alloc (g_ _) _).trans (bQ.toBelow (by simp) (fun i hi e=>by omega))
 have ca:=cN.cell
 have hz:w.heap.size<w1.heap.size:=uO cN
 cases hq:rdB 100 t.args 200 l with
 | none =>
   obtain rfl:=b8 hq
   have HQ:=gl hq;clear hq b8 cQ
   go_wp2_with fail
   go_ret
   exact ⟨_,rfl,hb,fun _=>rfl,fun b h=>by simp [qX,HQ.out] at h⟩
 | some x =>
   obtain ⟨b,rest,left⟩:=x
   obtain ⟨rfl,_,hv⟩:=cQ _ _ _ hq
   have HQ:=gl hq;clear hq b8 cQ
   obtain ⟨av,ev⟩:=zy hv
   subst ev
   cases r' with
   | cons x xs =>
     have hne:(!(x::xs).isEmpty)=true:=rfl
     go_wp2_with fail
     go_ret
     exact ⟨_,rfl,hb,fun _=>rfl,fun b h=>by simp [qX,HQ.out] at h⟩
   | nil =>
     go_wp2_with fail
     go_ret
     have HM:qX t l=some b:=by simp [qX,HQ.out]
     refine ⟨_,rfl,hb,fun h=>by simp [HM] at h,fun b' h=>?_⟩
     rw [HM] at h;simp at h;subst h
     exact (Rep.keep fun b o h ho=>⟨by have:=h;simp at this;omega,ho⟩).1 _ _ hv
def uz (s l:Bs):Option (Ty×Bd):=do
 let t<-qn s
 let b<-qX t l
 some (t,b)
def TSPost (w:World) (s l:Bs) (en:Ending) (w':World):Prop :=
 ∃ kv bv,en=.returned (.tuple #[kv,bv])/\Below w.heap.size w w'/\(uz s l=none->bv=.pointer none) /\
   (∀ t b,uz s l=some (t,b)->Rep (w.heap.size<=·) w' (qj t) kv/\Rep (w.heap.size<=·) w' (kD b) bv)
theorem rdKind_le {s:Bs} {t:Ty} (h:qn s=some t):zY t<=15:=by
 unfold qn at h
 split at h
 ·split at h
  ·rename_i cv;simp at h;subst h;exact cv
  ·simp at h
 ·simp at h
theorem vU (s l:Bs) (w:World) (hg:jE w) (hs:Lim s.length) (hl:Lim l.length) :
 Calls Tryz.prog 36 #[str s,str l] w (TSPost w s l):=by
 go_enter Tryz.func36,Tryz.ntmps36
 go_wp2_with fail
 refine (vX s w hs).mono ?_
 rintro en w1 ⟨kv,rfl,bQ,b8,cQ⟩
 cases hq:qn s with
 | none =>
   obtain rfl:=b8 hq
   have HQ:=gl hq;clear hq b8 cQ
   go_wp2_with fail
   go_ret2
   exact ⟨_,_,rfl,bQ,fun _=>rfl,fun t b h=>by simp [uz,HQ.out] at h⟩
 | some t =>
   have hv:=cQ _ hq
   have ht:=rdKind_le hq
   have HQ:=gl hq;clear hq b8 cQ
   obtain ⟨ak,_,ek,_⟩:=z8 hv
   subst ek
   go_wp2_with fail
   refine (uY _ t l _ w1 (hg.below bQ) hv ht hl).mono ?_
   rintro en w2 ⟨bv,rfl,bZ,dK,dD⟩
   go_wp2_with fail
   go_ret2
   refine ⟨_,_,rfl,zzT bQ bZ,fun h=>dK ?_,fun t' b h=>?_⟩
   ·cases hr:qX t l with
    | none=>rfl
    | some b=>simp [uz,HQ.out,hr] at h
   ·cases hr:qX t l with
    | none=>simp [uz,HQ.out,hr] at h
    | some b' =>
      simp [uz,HQ.out,hr] at h
      obtain ⟨rfl,rfl⟩:=h
      exact ⟨Rep.below bZ (fun _ h=>h) hv,(Rep.keep fun i o hi ho=>⟨by have:=bQ.size;have:=hi;omega,ho⟩).1 _ _ (dD _ hr)⟩
theorem yR (ts:List Bd):∀ k:Nat,(qh ts)[k]? = ts[k]?.map kD:=by
 induction ts with
 | nil=>intro k;simp [qh]
 | cons t ts ih=>intro k;cases k <;> simp [qh,ih]
theorem oneCell_encBs {F:Nat->Prop} {w:World} (ts:List Bd):∀ us,zH F w (qh ts) us->∀ u∈us,u.oneCell'=true:=by
 induction ts with
 | nil=>intro us h;rw [qh,zB] at h;subst h;simp
 | cons t ts ih =>
   intro us h u hu
   rw [qh,zQ] at h
   obtain ⟨v,vs',rfl,h1,h2⟩:=h
   rcases List.mem_cons.1 hu with rfl | hu
   ·obtain ⟨a,rfl⟩:=zy h1;rfl
   ·exact ih _ h2 u hu
theorem yu {F:Nat->Prop} {w:World} {c:UInt8} {v:Value} (h:Rep F w (kD (.leaf c)) v) :
 ∃ b sl,v=.pointer (some ⟨b,0,none⟩)/\F b/\w.heap[b]? = some (.cells #[str [c],.int .i64 (0:Nat),sl,.pointer none,.pointer none] 121 (0,0))/\Rep F w (.sl 79 1 0 []) sl:=by
 rw [kD,jU] at h
 obtain ⟨b,cs,hv,hb,hc,hr⟩:=h
 simp only [zQ,zB,zF] at hr
 obtain ⟨_,_,e1,rfl,_,_,rfl,rfl,sl,_,rfl,h3,_,_,rfl,rfl,_,_,rfl,rfl,rfl⟩:=hr
 have:cs=#[str [c],.int .i64 (0:Nat),sl,.pointer none,.pointer none]:=by apply Array.ext';simpa using e1
 subst this
 exact ⟨b,sl,hv,hb,hc,h3⟩
theorem vL {F:Nat->Prop} {w:World} {v:Nat} {ss:List Bd} {y n:Bd} {p:Value} (h:Rep F w (kD (.ask v ss y n)) p) :
 ∃ b sl yv nv,p=.pointer (some ⟨b,0,none⟩)/\F b/\w.heap[b]? = some (.cells #[str [],.int .i64 v,sl,yv,nv] 121 (0,0)) /\
   Rep F w (.sl 79 1 ss.length (qh ss)) sl/\Rep F w (kD y) yv/\Rep F w (kD n) nv:=by
 rw [kD,jU] at h
 obtain ⟨b,cs,hv,hb,hc,hr⟩:=h
 simp only [zQ,zB,zF] at hr
 obtain ⟨_,_,e1,rfl,_,_,rfl,rfl,sl,_,rfl,h3,yv,_,rfl,h4,nv,_,rfl,h5,rfl⟩:=hr
 have:cs=#[str [],.int .i64 v,sl,yv,nv]:=by apply Array.ext';simpa using e1
 subst this
 exact ⟨b,sl,yv,nv,hv,hb,hc,h3,h4,h5⟩
theorem vg (F:Nat->Prop) (w:World) (c:UInt8) (v:Value) (h:Rep F w (kD (.leaf c)) v) :
 Calls Tryz.prog 56 #[v] w fun en w'=>en=.returned (.bool false)/\w'=w:=by
 obtain ⟨b,sl,rfl,_,hc,_⟩:=yu h
 have c1:w.cell? ⟨b,0,none⟩=some (.string ⟨#[c]⟩):=by simp [World.cell?,hc]
 clear hc h
 go_enter Tryz.func56,Tryz.ntmps56
 go_wp2_with fail
 go_ret
 exact ⟨rfl,rfl⟩
theorem uv (F:Nat->Prop) (w:World) (v:Nat) (ss:List Bd) (y n:Bd) (p:Value) (h:Rep F w (kD (.ask v ss y n)) p) :
 Calls Tryz.prog 56 #[p] w fun en w'=>en=.returned (.bool true)/\w'=w:=by
 obtain ⟨b,sl,yv,nv,rfl,_,hc,_⟩:=vL h
 have c1:w.cell? ⟨b,0,none⟩=some (.string ⟨#[]⟩):=by simp [World.cell?,hc]
 clear hc h
 go_enter Tryz.func56,Tryz.ntmps56
 go_wp2_with fail
 go_ret
 exact ⟨rfl,rfl⟩
mutual
def qg:Ty->DV
 | .mk ts=>.sl 43 1 ts.length (kd ts)
def kd:List Ty->List DV
 | []=>[]
 | t::ts=>qg t::kd ts
end
def jK (L:Nat) (w:World) (o:Option (Ty×Bs)) (en:Ending) (w':World):Prop :=
 ∃ (v:Value) (k:Int) (t:Ty),en=.returned (.tuple #[.agg #[v],.int .i64 k])/\Below w.heap.size w w'/\Rep (w.heap.size<=·) w' (qg t) v/\(o=none->k = -1/\t=.mk [])/\(∀ t' rest,o=some (t',rest)->k=(L:Int)-rest.length/\t=t')
theorem Tryz.infoS:(Tryz.prog.info? 43).map (fun i=>(i.zero,i.size,i.bytes))=some (some (.agg #[.slice none 0 0]),1,24):=by kernel_rfl
theorem qo (ts:List Ty):∀ k:Nat,(kd ts)[k]? = ts[k]?.map qg:=by
 induction ts with
 | nil=>intro k;simp [kd]
 | cons t ts ih=>intro k;cases k <;> simp [kd,ih]
theorem encSs_append (a b:List Ty):kd (a++b)=kd a++kd b:=by
 induction a with
 | nil=>rfl
 | cons t ts ih=>simp [kd,ih]
theorem k8 (t:Ty):qg t=.sl 43 1 t.args.length (kd t.args):=by cases t;rw [qg];rfl
theorem zu {F:Nat->Prop} {w:World} {t:Ty} {v:Value} (h:Rep F w (qg t) v):∃ a c,v=.slice a t.args.length c:=by
 rw [k8] at h;obtain ⟨a,c,e,_⟩:=zE h;exact ⟨a,c,e⟩
theorem ve {F:Nat->Prop} {w:World} (ts:List Ty):∀ us,zH F w (kd ts) us->∀ u∈us,u.oneCell'=true:=by
 induction ts with
 | nil=>intro us h;rw [kd,zB] at h;subst h;simp
 | cons t ts ih =>
   intro us h u hu
   rw [kd,zQ] at h
   obtain ⟨v,vs',rfl,h1,h2⟩:=h
   rcases List.mem_cons.1 hu with rfl | hu
   ·obtain ⟨a,c,rfl⟩:=zu h1;rfl
   ·exact ih _ h2 u hu
theorem wB (F:Nat->Prop) (w:World):Rep F w (qg (.mk [])) (.slice none 0 0):=by
 rw [k8];exact zp.2 ⟨rfl,none,0,rfl,g_ _,fun _=>rfl,.inl rfl⟩
theorem jK.no {L:Nat} {w w':World} {o:Option (Ty×Bs)} (ho:o=none) (hb:Below w.heap.size w w') :
 jK L w o (.returned (.tuple #[.agg #[.slice none 0 0],.int .i64 (-1)])) w' :=
 ⟨_,_,.mk [],rfl,hb,wB _ _,fun _=>⟨rfl,rfl⟩,fun _ _ h=>by rw [ho] at h;simp at h⟩
theorem jK.yes {L:Nat} {w w':World} {o:Option (Ty×Bs)} {t:Ty} {rest:Bs} {v:Value} {k:Int} (ho:o=some (t,rest)) (hk:k=(L:Int)-rest.length) (hb:Below w.heap.size w w') (hv:Rep (w.heap.size<=·) w' (qg t) v) :
 jK L w o (.returned (.tuple #[.agg #[v],.int .i64 k])) w' :=
 ⟨_,_,t,rfl,hb,hv,fun h=>by rw [ho] at h;simp at h,fun _ _ h=>by rw [ho] at h;simp at h;obtain ⟨rfl,rfl⟩:=h;exact ⟨hk,rfl⟩⟩
def gb (l:Bs) (d:Nat):Prop:=∀ (i:Nat) (w:World),i<=l.length->d<=21 ->
    Calls Tryz.prog 59 #[str l,.int .i64 i,.int .i64 d] w (jK l.length w (rdS (21-d) (l.drop i)))
theorem wt (l:Bs) (hl:Lim l.length) (d:Nat) (ih:d<=20->gb l (d+1)):gb l d:=by
 intro i w hi hd
 have fH:=hl.le
 have IH:=gl ih;clear ih
 by_cases t8:d<=20
 rotate_left
 ·have h0:Hid (21-d=0):=by show 21-d=0;omega
  go_enter Tryz.func59,Tryz.ntmps59
  go_wp2_with fail
  refine bodyPost_ret (v:=.tuple #[.agg #[.slice none 0 0],.int .i64 (-1)]) (by simp [results,Tryz.results59,go_sem]) rfl ?_
  exact jK.no (by rw [h0.out];rfl) ((hG _ _).alloc (g_ _) _)
 obtain ⟨n,hn⟩:∃ n,21-d=n+1:=⟨20-d,by omega⟩
 have IH':=gl (IH.out t8);clear IH
 have HN:=gl hn
 have ij:Hid (21-(d+1)=n):=by show 21-(d+1)=n;omega
 clear hn
 by_cases bY:i<l.length
 rotate_left
 ·go_enter Tryz.func59,Tryz.ntmps59
  go_wp2_with fail
  refine bodyPost_ret (v:=.tuple #[.agg #[.slice none 0 0],.int .i64 (-1)]) (by simp [results,Tryz.results59,go_sem]) rfl ?_
  exact jK.no (by rw [HN.out,rdS_no (yw (by omega)),yw (by omega)];rfl) ((hG _ _).alloc (g_ _) _)
 by_cases hb:l[i]=98
 ·have f1:=uC bY (n:=98) (by decide) hb
  have hc:Cut [98] (l.drop i) (l.drop (i+1)):=by unfold Cut;rw [jb bY,if_pos hb]
  clear hb
  go_enter Tryz.func59,Tryz.ntmps59
  go_wp2_with fail
  refine bodyPost_ret (v:=.tuple #[.agg #[.slice none 0 0],.int .i64 ((i:Int)+1)]) (by simp [results,Tryz.results59,go_sem]) rfl ?_
  exact jK.yes (t:=.mk []) (by rw [HN.out,rdS_b hc]) (by simp;omega) ((hG _ _).alloc (g_ _) _) (wB _ _)
 have f1:=jM bY (n:=98) (by decide) hb
 have hc:y5 [98] (l.drop i):=by unfold y5;rw [jb bY,if_neg hb]
 have HM:=gl (rdS_no (n:=n) hc)
 clear hb hc
 by_cases h3:i+3<=l.length
 rotate_left
 ·have h3':(l.length:Int)<(i:Int)+3:=by omega
  have e9:Hid (cut [40,62,32] (l.drop i)=none):=by
   show cut [40,62,32] (l.drop i)=none
   cases hq:cut [40,62,32] (l.drop i) with
   | none=>rfl
   | some r=>have:=(cut_drop hq).2;simp at this;omega
  go_enter Tryz.func59,Tryz.ntmps59
  go_wp2_with fail
  refine bodyPost_ret (v:=.tuple #[.agg #[.slice none 0 0],.int .i64 (-1)]) (by simp [results,Tryz.results59,go_sem]) rfl ?_
  exact jK.no (by rw [HN.out,HM.out,e9.out];rfl) ((hG _ _).alloc (g_ _) _)
 have h3':(i:Int)+3<=(l.length:Int):=by omega
 have hx:(l.take (i+3)).drop i=(l.drop i).take 3:=by rw [List.drop_take];congr 1;omega
 rcases zi [40,62,32] (l.drop i) with h4 | ⟨r1,h4⟩
 ·have f2:(((⟨l.toArray⟩:ByteArray).extract i (i+3)).toList == [40,62,32])=false:=by
   rw [ext_list,hx,beq_eq_false_iff_ne]
   intro e
   have h5:=h4.out
   have hp:[40,62,32].isPrefixOf (l.drop i)=true:=by rw [List.isPrefixOf_iff_prefix,<- e];exact List.take_prefix _ _
   unfold cut at h5;rw [if_pos hp] at h5;simp at h5
  clear hx
  go_enter Tryz.func59,Tryz.ntmps59
  go_wp2_with fail
  refine bodyPost_ret (v:=.tuple #[.agg #[.slice none 0 0],.int .i64 (-1)]) (by simp [results,Tryz.results59,go_sem]) rfl ?_
  exact jK.no (by rw [HN.out,HM.out,h4.out];rfl) ((hG _ _).alloc (g_ _) _)
 have f2:(((⟨l.toArray⟩:ByteArray).extract i (i+3)).toList == [40,62,32])=true:=by
  rw [ext_list,hx,beq_iff_eq]
  have h5:=h4.out
  unfold cut at h5;split at h5
  ·rename_i hp
   exact (List.prefix_iff_eq_take.1 (List.isPrefixOf_iff_prefix.1 hp)).symm
  ·simp at h5
 have cK:=(cut_drop h4.out).1
 have hr1':r1=l.drop (i+3):=cK
 subst hr1'
 clear hx cK
 go_enter Tryz.func59,Tryz.ntmps59
 go_wp2_with fail
 rw [show (i:Int)+3=((i+3:Nat):Int) from by omega,show (d:Int)+1=((d+1:Nat):Int) from by omega]
 refine (IH'.out (i+3) _ h3 (by omega)).mono ?_
 rintro en w1 ⟨v1,k1,t1,rfl,bQ,co,b8,cQ⟩
 rw [ij.out] at b8 cQ
 have cE:Below w.heap.size w w1:=((hG w.heap.size w).alloc (g_ _) _).trans (bQ.mono (by simp))
 have z1:=bQ.size
 have d6:w.heap.size<w1.heap.size:=by simp at z1;omega
 have br:w1.cell? ⟨w.heap.size,0,none⟩=some (.slice none 0 0):=by rw [bQ.cell (by simp)];simp
 have cr:w1.frozen? ⟨w.heap.size,0,none⟩=false:=by rw [bQ.frozen (by simp)];simp
 obtain ⟨a1,c1,e1⟩:=zu co
 subst e1
 cases hq:rdS n (l.drop (i+3)) with
 | none =>
   obtain ⟨rfl,rfl⟩:=b8 hq
   have HQ:=gl hq;clear hq b8 cQ
   go_wp2_with fail
   refine bodyPost_ret (v:=.tuple #[.agg #[.slice none 0 0],.int .i64 (-1)]) (by simp [results,Tryz.results59,go_sem,d6,qz br]) rfl ?_
   exact jK.no (by rw [HN.out,HM.out,h4.out];simp [HQ.out]) (by repeat (first | exact cE | refine Below.alloc ?_ (by simp;omega) _ | refine Below.setCell ?_ (by simp) _ | refine Below.drew ?_))
 | some x =>
   obtain ⟨ta,r2⟩:=x
   obtain ⟨rfl,rfl⟩:=cQ _ _ hq
   have fm:=vu (p9 hq)
   have cH:=(rdS_le hq).1
   have HQ:=gl hq;clear hq b8 cQ
   obtain ⟨e,he⟩:=zzM (l.length-r2.length)
   have ez:e<=l.length:=by omega
   have hr2l:r2.length<=l.length:=by simp at cH;omega
   have hk:(l.length:Int)-(r2.length:Int)=(e:Int):=by omega
   rw [<- he] at fm
   rw [hk]
   have HSF:=gl fm
   clear hk fm cH
   by_cases BK:e<l.length
   rotate_left
   ·have nV:Hid (cut [32] r2=none):=by show cut [32] r2=none;rw [HSF.out];exact yw (by omega)
    have HE:=gl he;clear he
    go_wp2_with fail
    refine bodyPost_ret (v:=.tuple #[.agg #[.slice none 0 0],.int .i64 (-1)]) (by simp [results,Tryz.results59,go_sem,d6,qz br]) rfl ?_
    exact jK.no (by rw [HN.out,HM.out,h4.out];simp [HQ.out,nV.out]) (by repeat (first | exact cE | refine Below.alloc ?_ (by simp;omega) _ | refine Below.setCell ?_ (by simp) _ | refine Below.drew ?_))
   have HE:=gl he;clear he
   by_cases bC:l[e]=32
   rotate_left
   ·have f5:=yI BK (n:=32) (by decide) bC
    have nV:Hid (cut [32] r2=none):=by show cut [32] r2=none;rw [HSF.out,jb BK,if_neg bC]
    clear bC
    go_wp2_with fail
    refine bodyPost_ret (v:=.tuple #[.agg #[.slice none 0 0],.int .i64 (-1)]) (by simp [results,Tryz.results59,go_sem,d6,qz br]) rfl ?_
    exact jK.no (by rw [HN.out,HM.out,h4.out];simp [HQ.out,nV.out]) (by repeat (first | exact cE | refine Below.alloc ?_ (by simp;omega) _ | refine Below.setCell ?_ (by simp) _ | refine Below.drew ?_))
   have f5:=uB BK (n:=32) (by decide) bC
   have g1:decide ((e:Int)<0)=false:=by rw [decide_eq_false_iff_not];omega
   have g2:decide (l.length<=e)=false:=by rw [decide_eq_false_iff_not];omega
   have nV:Hid (cut [32] r2=some (l.drop (e+1))):=by show cut [32] r2=_;rw [HSF.out,jb BK,if_pos bC]
   clear bC
   go_wp2_with fail
   rw [show (e:Int)+1=((e+1:Nat):Int) from by omega,show (d:Int)+1=((d+1:Nat):Int) from by omega]
   refine (IH'.out (e+1) _ BK (by omega)).mono ?_
   rintro en w2 ⟨v2,k2,t2,rfl,bZ,aw,dK,dD⟩
   rw [ij.out] at dK dD
   obtain ⟨a2,c2,e2⟩:=zu aw
   subst e2
   have z2:=bZ.size
   rw [zK] at z2
   have mh:Below w.heap.size w w2:=(cE.alloc cE.size _).trans (bZ.mono (by rw [zK];omega))
   have cG:w.heap.size<w2.heap.size:=by omega
   have hz2':w1.heap.size<w2.heap.size:=by omega
   have dF:w2.cell? ⟨w.heap.size,0,none⟩=some (.slice none 0 0):=by rw [bZ.cell (by simp;omega)];exact zJ br
   have sX:w2.frozen? ⟨w.heap.size,0,none⟩=false:=by rw [bZ.frozen (by simp;omega)];rw [World.frozen?_of_block (w:=w1) (Below.heap_alloc _ _ _ d6)];exact cr
   have hcellA:w2.cell? ⟨w1.heap.size,0,none⟩=some (.slice a1 t1.args.length c1):=by rw [bZ.cell (by simp)];simp
   have nB:Rep (w1.heap.size<=·) w2 (qg t1) (.slice a1 t1.args.length c1)\/True:=.inr trivial
   clear nB br cr
   cases hq:rdS n (l.drop (e+1)) with
   | none =>
     obtain ⟨rfl,rfl⟩:=dK hq
     have tB:=gl hq;clear hq dK dD
     go_wp2_with fail
     refine bodyPost_ret (v:=.tuple #[.agg #[.slice none 0 0],.int .i64 (-1)]) (by simp [results,Tryz.results59,go_sem,cG,qz dF]) rfl ?_
     exact jK.no (by rw [HN.out,HM.out,h4.out];simp [HQ.out,nV.out,tB.out]) (by repeat (first | exact mh | refine Below.alloc ?_ (by simp;omega) _ | refine Below.setCell ?_ (by simp) _ | refine Below.drew ?_))
   | some x =>
     obtain ⟨tb,r4⟩:=x
     obtain ⟨rfl,rfl⟩:=dD _ _ hq
     have fm:=vu (p9 hq)
     have nd:=rdS_le hq
     have tB:=gl hq;clear hq dK dD
     obtain ⟨e2,he⟩:=zzM (l.length-r4.length)
     have ez:e2<=l.length:=by omega
     have hr2l:r4.length<=l.length:=by simp at nd;omega
     have hk:(l.length:Int)-(r4.length:Int)=(e2:Int):=by omega
     have htl:t2.args.length<=16777216:=by simp at nd;omega
     rw [<- he] at fm
     rw [hk]
     have oQ:=gl fm
     clear hk fm nd
     have HE2:=gl he;clear he
     by_cases tl:e2<l.length
     rotate_left
     ·have fD:Hid (cut [41] r4=none):=by show cut [41] r4=none;rw [oQ.out];exact yw (by omega)
      go_wp2_with fail
      refine bodyPost_ret (v:=.tuple #[.agg #[.slice none 0 0],.int .i64 (-1)]) (by simp [results,Tryz.results59,go_sem,cG,qz dF]) rfl ?_
      exact jK.no (by rw [HN.out,HM.out,h4.out];simp [HQ.out,nV.out,tB.out,fD.out]) (by repeat (first | exact mh | refine Below.alloc ?_ (by simp;omega) _ | refine Below.setCell ?_ (by simp) _ | refine Below.drew ?_))
     by_cases bP:l[e2]=41
     rotate_left
     ·have f6:=yI tl (n:=41) (by decide) bP
      have fD:Hid (cut [41] r4=none):=by show cut [41] r4=none;rw [oQ.out,jb tl,if_neg bP]
      clear bP
      go_wp2_with fail
      refine bodyPost_ret (v:=.tuple #[.agg #[.slice none 0 0],.int .i64 (-1)]) (by simp [results,Tryz.results59,go_sem,cG,qz dF]) rfl ?_
      exact jK.no (by rw [HN.out,HM.out,h4.out];simp [HQ.out,nV.out,tB.out,fD.out]) (by repeat (first | exact mh | refine Below.alloc ?_ (by simp;omega) _ | refine Below.setCell ?_ (by simp) _ | refine Below.drew ?_))
     have f6:=uB tl (n:=41) (by decide) bP
     have g3:decide ((e2:Int)<0)=false:=by rw [decide_eq_false_iff_not];omega
     have g4:decide (l.length<=e2)=false:=by rw [decide_eq_false_iff_not];omega
     have fD:Hid (cut [41] r4=some (l.drop (e2+1))):=by show cut [41] r4=_;rw [oQ.out,jb tl,if_pos bP]
     clear bP
     rw [k8] at aw
     obtain ⟨xs,si,cX⟩:=zS.ofRep aw (ve _)
     go_wp2_with (at_builtin;refine zP rfl _ _ 41 rfl 43 (.agg #[.slice none 0 0]) 1 24 Tryz.underlying41 Tryz.infoS rfl (by decide) _ 1 [.slice a1 t1.args.length c1] rfl ?c1 _ t2.args.length xs rfl ?c2 ?c3 ?c4 ?_)
     case c1=>exact Own.litAt #[.slice a1 t1.args.length c1] 1 _ (by simp) (by decide) rfl
     case c2=>exact cX.keep fun _ _ h=>zJ (zJ h)
     case c3=>unfold maxLen;omega
     case c4=>omega
     intro a' c' w3 ho bU mP
     have bE:Below w2.heap.size w2 ((w2.alloc (.cells #[.slice a2 t2.args.length c2] 43)).alloc (.cells #[.slice a1 t1.args.length c1] 43)):=((hG _ _).alloc (g_ _) _).alloc (by simp) _
     have dm:Below w2.heap.size w2 w3:=bE.trans (bU.toBelow (by simp;omega) (fun i hi e=>by simp [Value.ownBlock] at e;omega))
     have ow:Below w.heap.size w w3:=mh.trans (dm.mono (by omega))
     have lz:w3.cell? ⟨w.heap.size,0,none⟩=some (.slice none 0 0):=by rw [dm.cell cG];exact dF
     have hfree3:w3.frozen? ⟨w.heap.size,0,none⟩=false:=by rw [dm.frozen cG];exact sX
     have hv1W:Rep (w.heap.size<=·) w3 (qg t1) (.slice a1 t1.args.length c1):=by
      refine (Rep.keep fun b o h ho=>⟨by have:=vE h;omega,?_⟩).1 _ _ co
      rw [dm.block b (by have:=zZ ho;omega),bZ.block b (by have:=zZ ho;simp;omega)]
      exact zV ho
     have hxsW:zH (w.heap.size<=·) w3 (kd t2.args) xs :=
      (Rep.keep fun b o h ho=>⟨by have:=vE h;omega,by rw [dm.block b (zZ ho)];exact ho⟩).2 _ _ si
     have bA:∀ g,(Value.slice a' (1+t2.args.length) c').ownBlock=some g->w.heap.size<=g:=by
      intro g h
      rcases mP g h with h | h
      ·simp [Value.ownBlock] at h;omega
      ·have:=dm.size;omega
     have HG:=gl bA;have HG3:=gl mP;clear mP bA
     go_wp2_with fail
     refine bodyPost_ret (v:=.tuple #[.agg #[.slice a' (1+t2.args.length) c'],.int .i64 ((e2:Int)+1)]) (by simp [results,Tryz.results59,go_sem,qz lz]) rfl ?_
     refine jK.yes (t:=jP t1 t2) (rest:=l.drop (e2+1)) (by rw [HN.out,HM.out,h4.out];simp [HQ.out,nV.out,tB.out,fD.out]) (by simp;omega) (ow.setCell (g_ _) _) ?_
     refine (Rep.keep (w:=w3) (F:=fun b=>w.heap.size<=b/\b≠w.heap.size) fun b o h ho=>⟨h.1,?_⟩).1 _ _ ?_
     ·rw [hH _ _ _ _ (by simpa using h.2)];exact ho
     rw [k8,show (jP t1 t2).args.length=1+t2.args.length from by simp [jP,Ty.args,Nat.add_comm]]
     refine ho.rep (fun g h=>⟨HG.out g h,?_⟩) ?_
     ·rcases HG3.out g h with h | h
      ·simp [Value.ownBlock] at h;omega
      ·have:=dm.size;omega
     ·show zH _ _ (qg t1::kd t2.args) _
      refine zQ.2 ⟨_,_,rfl,?_,?_⟩
      ·refine (Rep.keep fun b o h ho=>⟨⟨by have:=vE h;omega,by have:=vE h;omega⟩,?_⟩).1 _ _ co
       rw [dm.block b (by have:=zZ ho;omega),bZ.block b (by have:=zZ ho;simp;omega)]
       exact zV ho
      ·exact (Rep.keep fun b o h ho=>⟨⟨by have:=vE h;omega,by have:=vE h;omega⟩,by rw [dm.block b (zZ ho)];exact ho⟩).2 _ _ si
theorem l1Read_any (l:Bs) (hl:Lim l.length) (n:Nat):∀ d,21-d=n->gb l d:=by
 induction n with
 | zero=>exact fun d h=>wt l hl d (fun h'=>by omega)
 | succ n ih=>exact fun d h=>wt l hl d (fun h'=>ih (d+1) (by omega))
def wT (t:Ty):Prop:=∀ (F:Nat->Prop) (w:World) (v:Value),Rep F w (qg t) v ->
 Calls Tryz.prog 60 #[.agg #[v]] w fun en w'=>en=.returned (.int .i64 (zY t))/\Below w.heap.size w w'
theorem zl (ts:List Ty):ts.length<=zk ts:=by
 induction ts with
 | nil=>simp
 | cons t ts ih=>simp [zk];omega
theorem l1Size_step (t:Ty) (hl:Lim (zY t)) (ih:∀ t',zY t'<zY t->wT t'):wT t:=by
 intro F w v hv
 obtain ⟨a,cap,e⟩:=zu hv
 subst e
 have At:=hv
 rw [k8] at At
 obtain ⟨_,_,e,_,hlen,bJ⟩:=zE At
 simp only [Value.slice.injEq] at e
 obtain ⟨rfl,_,rfl⟩:=e
 have IH:=gl ih;clear ih
 have fH:=hl.le
 have E1:=gl (kN t)
 have hlb:t.args.length<=16777216:=by have:=zl t.args;have:=E1.out;omega
 have AT:=gl bJ;clear bJ hlen At
 go_enter Tryz.func60,Tryz.ntmps60
 go_wp2_with fail
 go_loopw [3,4] (fun n i wr=>∃ k:Nat,k<=t.args.length/\i=.int .i64 k/\n=.int .i64 ((1+zk (t.args.take k):Nat):Int)/\Below w.heap.size w wr/\wr.cell? ⟨w.heap.size,0,none⟩=some (.slice a t.args.length cap)) (fun _ i _=>t.args.length-(intOf i).toNat)
 case atStart=>exact ⟨0,Nat.zero_le _,rfl,by simp [zk],(hG _ _).alloc (g_ _) _,by simp⟩
 case round =>
  rename_i wr
  obtain ⟨k,hk,rfl,rfl,hb,hc⟩:=hrel
  by_cases bY:k<t.args.length
  ·obtain ⟨b',o,u,d,rfl,_,bj,hd,hu,hr⟩:=AT.out k bY
   rw [qo,Option.map_eq_some_iff] at hd
   obtain ⟨t',d8,rfl⟩:=hd
   obtain ⟨ua,uc,rfl⟩:=zu hr
   have hu':wr.cell? ⟨b',o+k,none⟩=some (.slice ua t'.args.length uc):=by rw [hb.cell bj];exact hu
   have dg:=Rep.below (F':=F) hb (fun _ h=>h) hr
   have hs:=vB d8
   have cI:=jN t.args (k+1)
   have fF:=E1.out
   have IH':=gl (IH.out t' (by omega))
   have HS:=gl hs
   have b1:1+zk (t.args.take k)+(1+zY t')<=16777216:=by omega
   have hz:=hU wr _ hc
   clear hs d8 fF hu hr
   go_wp2_with fail
   refine (IH'.out _ _ _ dg).mono ?_
   rintro en w2 ⟨rfl,bZ⟩
   have bU:=zzT hb bZ
   have e9:w2.cell? ⟨w.heap.size,0,none⟩=some (.slice (some ⟨b',o,none⟩) t.args.length cap):=by rw [bZ.cell hz];exact hc
   go_wp2_with fail
   go_roundw
   case rel=>exact ⟨k+1,by omega,by go_num,by rw [HS.out] <;> go_num,bU,e9⟩
   case measure=>simp [intOf];omega
  ·obtain rfl:k=t.args.length:=by omega
   go_wp2_with fail
   go_ret
   exact ⟨vY (by rw [E1.out,List.take_length]),hb⟩
theorem l1Size_any (n:Nat):∀ t,zY t<=n->Lim n->wT t:=by
 induction n with
 | zero=>intro t h _;have:=kr t;omega
 | succ n ih=>exact fun t h hn=>l1Size_step t (hn.mono h) (fun t' h'=>ih t' (by omega) (hn.mono (by omega)))
def zW (l:Bs):Ty×Bool :=
 if 100<l.length then (.mk [],false) else
 match rdS 21 l with
 | none=>(.mk [],false)
 | some (t,rest)=>(t,rest.isEmpty && decide (zY t<=15))
def TypePost (l:Bs) (w:World) (en:Ending) (w':World):Prop :=
 ∃ v,en=.returned (.tuple #[.agg #[v],.bool (zW l).2])/\Below w.heap.size w w'/\Rep (w.heap.size<=·) w' (qg (zW l).1) v
set_option maxRecDepth 100000 in
theorem xZ (l:Bs) (hl:Lim l.length) (w:World):Calls Tryz.prog 39 #[str l] w (TypePost l w):=by
 have fH:=hl.le
 by_cases ef:100<l.length
 ·have Cj:(100:Int)<(l.length:Int):=by omega
  have HM:zW l=(.mk [],false):=by unfold zW;rw [if_pos ef]
  have HM:=gl HM
  go_enter Tryz.func39,Tryz.ntmps39
  go_wp2_with fail
  refine bodyPost_ret (v:=.tuple #[.agg #[.slice none 0 0],.bool false]) (by simp [results,Tryz.results39,go_sem]) rfl ?_
  refine ⟨_,by rw [HM.out],(hG _ _).alloc (g_ _) _,?_⟩
  rw [HM.out];exact wB _ _
 have Cj:¬ (100:Int)<(l.length:Int):=by omega
 have HM:zW l=(match rdS 21 l with
  | none=>(.mk [],false)
  | some (t,rest)=>(t,rest.isEmpty && decide (zY t<=15))):=by unfold zW;rw [if_neg ef]
 have HM:=gl HM
 go_enter Tryz.func39,Tryz.ntmps39
 go_wp2_with fail
 refine (l1Read_any l hl 21 0 rfl 0 _ (Nat.zero_le _) (by omega)).mono ?_
 rintro en w1 ⟨v1,k1,t1,rfl,bQ,co,b8,cQ⟩
 rw [show (21-0:Nat)=21 from rfl,List.drop_zero] at b8 cQ
 obtain ⟨a1,c1,e1⟩:=zu co
 subst e1
 have z1:=bQ.size
 rw [zK] at z1
 have d6:w.heap.size<w1.heap.size:=by omega
 have cE:Below w.heap.size w w1:=((hG w.heap.size w).alloc (g_ _) _).trans (bQ.mono (by simp))
 have br:w1.cell? ⟨w.heap.size,0,none⟩=some (.slice none 0 0):=by rw [bQ.cell (by simp)];simp
 have cr:w1.frozen? ⟨w.heap.size,0,none⟩=false:=by rw [bQ.frozen (by simp)];simp
 cases hq:rdS 21 l with
 | none =>
   obtain ⟨rfl,rfl⟩:=b8 hq
   have HQ:=gl hq;clear hq b8 cQ
   have g1:((-1:Int) == (l.length:Int))=false:=by rw [beq_eq_false_iff_ne];omega
   go_wp2_with fail
   go_region
   go_wp2_with fail
   refine bodyPost_ret (v:=.tuple #[.agg #[.slice a1 0 c1],.bool false]) (by simp [results,Tryz.results39,go_sem,d6,qz br,Ty.args]) rfl ?_
   refine ⟨_,by rw [HM.out,HQ.out],(by repeat (first | exact cE | refine Below.alloc ?_ (by simp;omega) _ | refine Below.setCell ?_ (by simp) _ | refine Below.drew ?_)),?_⟩
   rw [HM.out,HQ.out]
   rw [k8]
   refine zp.2 ⟨rfl,a1,c1,rfl,Nat.zero_le _,?_,.inl rfl⟩
   obtain ⟨_,_,_,e,_,h0,_⟩:=zp.1 (by rw [k8] at co;exact co)
   simp only [Value.slice.injEq] at e
   obtain ⟨rfl,_,rfl⟩:=e;exact h0
 | some x =>
   obtain ⟨t,rest⟩:=x
   obtain ⟨rfl,rfl⟩:=cQ _ _ hq
   have bJ:=rdS_atoms hq
   have HQ:=gl hq;clear hq b8 cQ
   obtain ⟨e,he⟩:=zzM (l.length-rest.length)
   rw [show (l.length:Int)-(rest.length:Int)=(e:Int) from by omega]
   have HE:=gl he;clear he
   cases rest with
   | cons x xs =>
     have g1:((e:Int) == (l.length:Int))=false:=by rw [beq_eq_false_iff_ne];have:=HE.out;simp at this bJ;omega
     go_wp2_with fail
     go_region
     go_wp2_with fail
     refine bodyPost_ret (v:=.tuple #[.agg #[.slice a1 t1.args.length c1],.bool false]) (by simp [results,Tryz.results39,go_sem,d6,qz br]) rfl ?_
     refine ⟨_,by rw [HM.out,HQ.out];rfl,(by repeat (first | exact cE | refine Below.alloc ?_ (by simp;omega) _ | refine Below.setCell ?_ (by simp) _ | refine Below.drew ?_)),?_⟩
     rw [HM.out,HQ.out]
     refine (Rep.keep fun b o h ho=>⟨by have:=vE h;omega,?_⟩).1 _ _ co
     have hb:b≠w.heap.size:=by have:=vE h;omega
     exact zV (by rw [hH _ _ _ _ (by simpa using hb)];exact ho)
   | nil =>
     obtain rfl:e=l.length:=by have:=HE.out;simpa using this
     have g1:((l.length:Int) == (l.length:Int))=true:=by simp
     have hlA:Lim (zY t1):=hl.mono (by simp at bJ;omega)
     have oM:Rep (w.heap.size < ·) (w1.alloc (.cells #[.slice a1 t1.args.length c1] 43)) (qg t1) (.slice a1 t1.args.length c1):=(Rep.keep fun b o h ho=>⟨by have:=vE h;omega,zV ho⟩).1 _ _ co
     have aZ:(w1.alloc (.cells #[.slice a1 t1.args.length c1] 43)).cell? ⟨w1.heap.size,0,none⟩=some (.slice a1 t1.args.length c1):=by simp
     go_wp2_with fail
     go_region_held3 (fun w'=>w'.cell? ⟨w1.heap.size,0,none⟩=some (.slice a1 t1.args.length c1))
      (first
       | exact (bZ.cell (by simp)).trans aZ
       | (rw [World.cell?_of_block (w:=w2) (hH _ _ _ _ (by simp;omega))];exact (bZ.cell (by simp)).trans aZ)
       | go_keep)
      (first
       | (go_at_call 60;refine (l1Size_any (zY t1) t1 (g_ _) hlA (w.heap.size < ·) _ _ (by exact oM.drew)).mono ?_;rintro en w2 ⟨rfl,bZ⟩;have z2:=bZ.size;have cG:w.heap.size<w2.heap.size:=(by simp at z2;omega);have dF:w2.cell? ⟨w.heap.size,0,none⟩=some (.slice none 0 0):=(bZ.cell (by simp;omega)).trans (zJ br);have sX:w2.frozen? ⟨w.heap.size,0,none⟩=false:=(bZ.frozen (by simp;omega)).trans ((World.frozen?_of_block (w:=w1) (Below.heap_alloc _ _ _ d6)).trans cr)))
     go_wp2_with fail
     refine bodyPost_ret (v:=.tuple #[.agg #[.slice a1 t1.args.length c1],.bool (decide ((zY t1:Int)<=15))]) (by simp [results,Tryz.results39,go_sem,qz dF]) rfl ?_
     have mh:Below w.heap.size w w2:=((cE.alloc cE.size _).drew).trans (bZ.mono (by simp;omega))
     refine ⟨.slice a1 t1.args.length c1,?_,mh.setCell (g_ _) _,?_⟩
     ·have e15:decide ((zY t1:Int)<=15)=decide (zY t1<=15):=by rw [decide_eq_decide];omega
      rw [HM.out,HQ.out,e15];rfl
     ·rw [HM.out,HQ.out]
      refine (Rep.keep fun b o h ho=>⟨by have:=vE h;omega,?_⟩).1 _ _ co
      have hb:b≠w.heap.size:=by have:=vE h;omega
      rw [hH _ _ _ _ (by simpa using hb),bZ.block b (by have:=zZ ho;simp;omega)]
      exact zV ho
theorem p_ (d:Nat):∀ {l:Bs} {t:Ty} {r:Bs} (e:Nat),d<=e->rdK d l=some (t,r)->rdK e l=some (t,r):=by
 induction d with
 | zero =>
   intro l t r e he h
   rcases zi [98] l with hc | ⟨r',hc⟩
   ·rw [jl hc] at h;simp at h
   ·rw [vJ hc] at h ⊢;exact h
 | succ d ih =>
   intro l t r e he h
   obtain ⟨e,rfl⟩:∃ e',e=e'+1:=⟨e-1,by omega⟩
   rcases zi [98] l with hc | ⟨r',hc⟩
   ·rw [qQ hc] at h ⊢
    simp only [Option.bind_eq_bind,Option.bind_eq_some_iff,Prod.exists] at h ⊢
    obtain ⟨r1,h1,a,r2,h2,r3,h3,b,r4,h4,r5,h5,h6⟩:=h
    exact ⟨r1,h1,a,r2,ih e (by omega) h2,r3,h3,b,r4,ih e (by omega) h4,r5,h5,h6⟩
   ·rw [vJ hc] at h ⊢;exact h
theorem xp {p l r:Bs} (h:cut p l=some r):l.length=p.length+r.length:=by
 unfold cut at h;split at h
 ·rename_i hp
  have:=List.IsPrefix.length_le (List.isPrefixOf_iff_prefix.1 hp)
  simp at h;subst h;simp;omega
 ·simp at h
theorem xm (a b:Ty):zY (jP a b)=1+zY a+zY b:=by cases b;simp [jP,zY,zk,Ty.args];omega
theorem rdK_shallow (e:Nat):∀ {l:Bs} {t:Ty} {r:Bs} (d:Nat),zY t<=2*d+1->rdK e l=some (t,r)->rdK d l=some (t,r):=by
 induction e with
 | zero =>
   intro l t r d hd h
   exact p_ 0 d (Nat.zero_le _) h
 | succ e ih =>
   intro l t r d hd h
   rcases zi [98] l with hc | ⟨r',hc⟩
   ·rw [qQ hc] at h
    simp only [Option.bind_eq_bind,Option.bind_eq_some_iff,Prod.exists] at h
    obtain ⟨r1,h1,a,r2,h2,r3,h3,b,r4,h4,r5,h5,h6⟩:=h
    simp at h6;obtain ⟨rfl,rfl⟩:=h6
    have bJ:=xm a b
    have pa:=kr a;have pb:=kr b
    obtain ⟨d,rfl⟩:∃ d',d=d'+1:=⟨d-1,by omega⟩
    rw [qQ hc]
    simp only [Option.bind_eq_bind,Option.bind_eq_some_iff,Prod.exists]
    exact ⟨r1,h1,a,r2,ih d (by omega) h2,r3,h3,b,r4,ih d (by omega) h4,r5,h5,rfl⟩
   ·rw [vJ hc] at h ⊢;exact h
theorem rdK_len (e:Nat):∀ {l:Bs} {t:Ty} {r:Bs},rdK e l=some (t,r)->l.length+5<=r.length+6*zY t:=by
 induction e with
 | zero =>
   intro l t r h
   rcases zi [98] l with hc | ⟨r',hc⟩
   ·rw [jl hc] at h;simp at h
   ·rw [vJ hc] at h;simp at h;obtain ⟨rfl,rfl⟩:=h
    have:=xp hc;simp [zY,zk] at *;omega
 | succ e ih =>
   intro l t r h
   rcases zi [98] l with hc | ⟨r',hc⟩
   ·rw [qQ hc] at h
    simp only [Option.bind_eq_bind,Option.bind_eq_some_iff,Prod.exists] at h
    obtain ⟨r1,h1,a,r2,h2,r3,h3,b,r4,h4,r5,h5,h6⟩:=h
    simp at h6;obtain ⟨rfl,rfl⟩:=h6
    have bJ:=xm a b
    have k1:=xp h1;have k2:=ih h2;have k3:=xp h3;have k4:=ih h4;have k5:=xp h5
    simp at k1 k3 k5;omega
   ·rw [vJ hc] at h;simp at h;obtain ⟨rfl,rfl⟩:=h
    have:=xp hc;simp [zY,zk] at *;omega
theorem wj (l:Bs):qn l=if (zW l).2 then some (zW l).1 else none:=by
 unfold qn zW
 by_cases ef:100<l.length
 ·rw [if_pos ef]
  simp only [Bool.false_eq_true,if_false]
  split
  ·rename_i t hq
   have:=rdK_len 15 hq
   rw [if_neg (by simp at this;omega)]
  ·rfl
 ·rw [if_neg ef]
  have e21:rdS 21 l=rdK 20 l:=rfl
  rw [e21]
  cases hq:rdK 20 l with
  | none =>
    simp only [Bool.false_eq_true,if_false]
    split
    ·rename_i t mz
     have:=p_ 15 20 (by omega) mz
     rw [hq] at this;simp at this
    ·rfl
  | some x =>
    obtain ⟨t,rest⟩:=x
    simp only
    by_cases ht:zY t<=15
    ·have mz:=rdK_shallow 20 15 (by omega) hq
     rw [mz]
     cases rest with
     | nil=>simp [ht]
     | cons x xs=>simp
    ·cases mz:rdK 15 l with
     | none=>simp [ht]
     | some y =>
       obtain ⟨t2,r2⟩:=y
       have:=p_ 15 20 (by omega) mz
       rw [hq] at this;simp at this;obtain ⟨rfl,rfl⟩:=this
       cases rest <;> simp [ht]
set_option maxRecDepth 100000 in
theorem gH (F:Nat->Prop) (hand:List Ty) (t:Ty) (hv tv:Value) (w:World) (hh:Rep F w (.sl 43 1 hand.length (kd hand)) hv) (ht:Rep F w (qg t) tv) (hl:Lim (hand.length+t.args.length)) :
 Calls Tryz.prog 62 #[hv,.agg #[tv]] w fun en w' =>
  ∃ a c,en=.returned (.slice a (hand++t.args).length c)/\Below w.heap.size w w'/\Rep (fun k=>F k\/w.heap.size<=k) w' (.sl 43 1 (hand++t.args).length (kd (hand++t.args))) (.slice a (hand++t.args).length c):=by
 have fH:=hl.le
 obtain ⟨xs1,eI,g1⟩:=zS.ofRep hh (ve _)
 have d8:=ht
 rw [k8] at d8
 obtain ⟨xs2,dI,g2⟩:=zS.ofRep d8 (ve _)
 obtain ⟨a1,c1,e1⟩:=g1.slice
 obtain ⟨a2,c2,e2⟩:=g2.slice
 subst e1;subst e2
 have aZ:(w.alloc (.cells #[.slice a2 t.args.length c2] 43)).cell? ⟨w.heap.size,0,none⟩=some (.slice a2 t.args.length c2):=by simp
 go_enter Tryz.func62,Tryz.ntmps62
 go_wp2_with fail
 go_region_held3 (fun w'=>w'.cell? ⟨w.heap.size,0,none⟩=some (.slice a2 t.args.length c2))
  (first
   | exact (ox.cell (by simp)).trans aZ
   | exact (dR.cell (by simp)).trans aZ
   | go_keep)
  (first
   | (refine zT (by rfl) (.tmp 7) (.tmp 9) _ (by rfl) 43 (.agg #[.slice none 0 0]) 1 24 Tryz.underlying41 Tryz.infoS rfl (by omega) (.slice ax hand.length cx) hand.length xs1 (by rfl) (by exact hox) (.slice a2 t.args.length c2) t.args.length xs2 (by rfl) (by exact (g2.alloc _).below dR) (by unfold maxLen;omega) (by omega) ?_;intro ay cy wy hoy eT hgy;obtain ⟨ox,hfy⟩:=ux dR hfx eT hgy)
   | (refine zT (by rfl) (.tmp 5) (.tmp 6) _ (by rfl) 43 (.agg #[.slice none 0 0]) 1 24 Tryz.underlying41 Tryz.infoS rfl (by omega) (.slice (some ⟨w.heap.size+1,0,none⟩) 0 0) 0 [] (by rfl) (by exact (Own.litAt #[] 0 _ (by simp) (by decide) rfl).drew) (.slice a1 hand.length c1) hand.length xs1 (by rfl) (by exact ((g1.alloc _).alloc _).drew) (by unfold maxLen;omega) (by omega) ?_;rw [Nat.zero_add,List.nil_append];intro ax cx wx hox dB tr;obtain ⟨dR,hfx⟩:=ux (((hG _ _).alloc (g_ _) _).drew) (gU (by simp)) dB tr))
 go_wp2_with fail
 go_ret
 have bQ:Below w.heap.size w (w.alloc (.cells #[.slice a2 t.args.length c2] 43)):=(hG _ _).alloc (g_ _) _
 have hbZ:Below w.heap.size w wy:=bQ.trans (ox.mono (by simp))
 rw [List.length_append]
 refine ⟨ay,cy,rfl,hbZ,?_⟩
 rw [encSs_append]
 exact hoy.rep (fun g h=>.inr (by have:=hfy g h;simp at this;omega)) (zH.append (eI.below hbZ (fun _ h=>.inl h)) (dI.below hbZ (fun _ h=>.inl h)))
end Go.Proofs.YtepgfdhkkjfmhacGreatDoor

/- Walks of functions that the statement reaches, and plain words. No conditions. -/
import Derived.Test.YtepgfdhkkjfmhabGreatDoorQ1
set_option linter.unusedVariables false
set_option linter.unusedSimpArgs false
set_option maxHeartbeats 4000000
namespace Go.Proofs.YtepgfdhkkjfmhabGreatDoor
open Go.RowKit
def u_ (l:Bs):Int:=if (zV l)=[] then -1 else (zY l).length
theorem vZ (l:Bs):zY l++zV l=l:=List.takeWhile_append_dropWhile
theorem word_take (l:Bs):l.take (zY l).length=zY l:=by
 have h:=vZ l
 have:=List.take_left (l₁:=zY l) (l₂:=zV l);rw [h] at this;exact this
theorem word_drop (l:Bs):l.drop (zY l).length=zV l:=by
 have h:=vZ l
 have:=List.drop_left (l₁:=zY l) (l₂:=zV l);rw [h] at this;exact this
theorem j6 (l:Bs):(zY l).length+(zV l).length=l.length:=by
 have:=congrArg List.length (vZ l);simpa using this
theorem indexAny_sep (l:Bs):Lib.indexAny l [32,40,41]=u_ l:=by
 induction l with
 | nil=>rfl
 | cons b l ih =>
   rw [Lib.indexAny]
   have hs:([32,40,41]:Bs).contains b=sep b:=by
    rw [Bool.eq_iff_iff];simp [sep,or_assoc]
   rw [hs]
   cases hb:sep b
   ·have e1:zY (b::l)=b::zY l:=by simp [zY,hb]
    have e2:zV (b::l)=zV l:=by simp [zV,hb]
    rw [ih]
    unfold u_
    rw [e1,e2]
    by_cases h:zV l=[]
    ·simp [h]
    ·simp only [h,if_false,Bool.false_eq_true]
     rw [if_neg (by rw [beq_iff_eq];omega)]
     simp
   ·have e1:zY (b::l)=[]:=by simp [zY,hb]
    have e2:zV (b::l)=b::l:=by simp [zV,hb]
    unfold u_
    rw [e1,e2];simp
theorem indexAny_any (l:Bs) (w:World) (hl:Lim l.length) :
 Calls Tryz.prog 96 #[str l,.string ⟨#[32,40,41]⟩] w fun en w'=>en=.returned (.int .i64 (u_ l))/\Below w.heap.size w w':=by
 have ct:=hl.le
 have bN:(⟨l.toArray⟩:ByteArray).size=l.length:=jv l
 rw [<- indexAny_sep]
 by_cases h8:l.length<=8
 ·have:=gL ⟨l.toArray⟩ (by omega) w
  simpa [str] using this
 ·refine (Tryz.strings_IndexAny_long (zero_of_info (n:=256) (by kernel_rfl)).1 ⟨l.toArray⟩ ⟨#[32,40,41]⟩ w (by show 2<=3;omega) (by omega) (by omega) (by show 3<4294967281;omega) (by
   intro j b hj
   have:b∈([32,40,41]:Bs):=List.mem_of_getElem? hj
   simp at this
   rcases this with rfl | rfl | rfl <;> decide)).mono ?_
  rintro e w' ⟨rfl,rfl⟩
  refine ⟨by simp,((bZ _ _).alloc (hG _) _).alloc (by simp) _⟩
theorem v_ (sc:Nat) (c:List Value) (e:TypeId) (r:Bs) (w:World) (h:kQ sc c e r w) (hr:Lim r.length) :
 Calls Tryz.prog 65 #[.pointer (some ⟨sc,0,none⟩)] w fun en w' =>
  en=.returned (str (zY r))/\But (· = sc) w w'/\kQ sc c e (zV r) w':=by
 have h1:=h.cell
 have h2:=h.free 0
 have fV:=ju h
 have hl:=hr.le
 have hw:=j6 r
 go_enter Tryz.func65,Tryz.ntmps65
 go_wp2_with fail
 refine (indexAny_any r w hr).mono ?_
 rintro en w1 ⟨rfl,hb⟩
 have c1:w1.cell? ⟨sc,0,none⟩=some (str r):=by rw [hb.cell fV];exact h1
 have c2:w1.frozen? ⟨sc,0,none⟩=false:=by rw [hb.frozen fV];exact h2
 have hS:kQ sc c e r w1:=by unfold kQ;rw [hb.block sc fV];exact h
 clear h1 h2
 by_cases h0:zV r=[]
 ·have hi:u_ r = -1:=by simp [u_,h0]
  rw [hi]
  have e1:zY r=r:=by have:=vZ r;rw [h0] at this;simpa using this
  have HE:=g_ e1;have H0:=g_ h0;clear e1 h0 hi
  go_wp2_with fail
  go_ret
  have e2:(⟨r.toArray⟩:ByteArray).extract 0 r.length=⟨(zY r).toArray⟩:=by rw [yD,HE.out];simp
  refine ⟨?_,(But.ofBelow hb).setS 0 _,?_⟩
  ·show Ending.returned (.string _)=_;rw [e2]
  ·have:=hS.put (r':=zV r);rw [H0.out] at this ⊢;exact this
 ·have hi:u_ r=(zY r).length:=by simp [u_,h0]
  rw [hi]
  have bX:(zY r).length<=r.length:=by omega
  have H0:=g_ h0;clear h0 hi
  go_wp2_with fail
  go_ret
  have e2:(⟨r.toArray⟩:ByteArray).extract 0 (zY r).length=⟨(zY r).toArray⟩:=by rw [yD,List.drop_zero,word_take]
  have e3:(⟨r.toArray⟩:ByteArray).extract (zY r).length r.length=⟨(zV r).toArray⟩:=by rw [yD,List.take_length,word_drop]
  refine ⟨?_,(But.ofBelow hb).setS 0 _,?_⟩
  ·show Ending.returned (.string _)=_;rw [e2]
  ·rw [e3];exact hS.put
structure jA (w:World):Prop where
 e0:∃ te pe,w.var? Tryz.prog "strconv.ErrSyntax" = some #[.iface te pe]
 e1:∃ te pe,w.var? Tryz.prog "strconv.ErrRange" = some #[.iface te pe]
 tab:Lib.TabIs Tryz.prog w "internal/strconv.uint64pow10" .u64 Lib.pow10Tab
def NotG (b:Nat):Prop:=b≠4/\b≠5/\b≠1
theorem Tryz.gn0:Tryz.prog.globalNamed "strconv.ErrSyntax" = some 4:=by kernel_rfl
theorem Tryz.gn1:Tryz.prog.globalNamed "strconv.ErrRange" = some 5:=by kernel_rfl
theorem Tryz.gn2:Tryz.prog.globalNamed "internal/strconv.uint64pow10" = some 1:=by kernel_rfl
theorem xe {P:Program} {w:World} {nm:String} {g:Nat} {x:Array Value} (hg:P.globalNamed nm=some g) (h:w.var? P nm=some x):g<w.heap.size:=by
 unfold World.var? at h
 rw [hg] at h
 simp only [Option.bind_some] at h
 rcases Nat.lt_or_ge g w.heap.size with h' | h'
 ·exact h'
 ·rw [Array.getElem?_eq_none h'] at h;simp at h
theorem pz {P:Program} {w w':World} {nm:String} {g:Nat} {x:Array Value} (hg:P.globalNamed nm=some g) (hk:w'.heap[g]? = w.heap[g]?) (h:w.var? P nm=some x):w'.var? P nm=some x:=by
 unfold World.var? at *
 rw [hg] at *
 simp only [Option.bind_some] at *
 rw [hk];exact h
theorem jA.but {m:Nat->Prop} {w w':World} (h:jA w) (hb:But m w w') (hm:∀ i,m i->NotG i):jA w':=by
 obtain ⟨⟨t0,p0,h0⟩,⟨t1,p1,h1⟩,h2⟩:=h
 have l0:=xe Tryz.gn0 h0
 have l1:=xe Tryz.gn1 h1
 have l2:=xe Tryz.gn2 h2
 exact ⟨⟨t0,p0,pz Tryz.gn0 (hb.block _ l0 fun e=>(hm _ e).1 rfl) h0⟩,⟨t1,p1,pz Tryz.gn1 (hb.block _ l1 fun e=>(hm _ e).2.1 rfl) h1⟩,pz Tryz.gn2 (hb.block _ l2 fun e=>(hm _ e).2.2 rfl) h2⟩
theorem jA.below {w w':World} (h:jA w) (hb:Below w.heap.size w w'):jA w':=h.but (m:=fun _=>False) (But.ofBelow hb) (fun _ e=>e.elim)
theorem jA.new {w:World} (h:jA w) {b:Nat} (hb:w.heap.size<=b):NotG b:=by
 obtain ⟨⟨t0,p0,h0⟩,⟨t1,p1,h1⟩,h2⟩:=h
 have l0:=xe Tryz.gn0 h0
 have l1:=xe Tryz.gn1 h1
 have l2:=xe Tryz.gn2 h2
 exact ⟨by omega,by omega,by omega⟩
theorem pK {B:Nat} {a w:World} (h:Below B a w) (n:Nat):Below B a (w.drewN n):=h.trans ⟨rfl,rfl,rfl,hG _,fun _ _=>rfl⟩
theorem below_grow (w:World) (os:Array Obj):Below w.heap.size w (Go.Sort.grow w os) :=
 ⟨rfl,rfl,rfl,by simp [Go.Sort.grow],fun k hk=>by simp [Go.Sort.grow,Array.getElem?_append_left hk]⟩
theorem below_freeze {B:Nat} {a w:World} (h:Below B a w) {p:Addr} (hp:B<=p.block) (n:Nat):Below B a (w.freeze p n):=by
 refine h.trans ⟨?_,?_,?_,?_,?_⟩
 ·unfold World.freeze;split <;> rfl
 ·unfold World.freeze;split <;> rfl
 ·unfold World.freeze;split <;> rfl
 ·unfold World.freeze;split <;> simp
 ·intro k hk
  unfold World.freeze;split
  ·rfl
  ·simp only [Array.getElem?_modify];rw [if_neg (by omega)]
theorem wH (w:World) (e:TypeId) (s:ByteArray):Below w.heap.size w (Lib.bytesWorld w e s) :=
 below_freeze (((bZ w.heap.size w).drew).alloc (hG _) _) (hG _) _
theorem atoi_ok (l:Bs) (w:World) (hl:Lim l.length) (v:Int) (h:Lib.atoiAll l=.ok v) :
 Calls Tryz.prog 91 #[str l] w fun en w'=>en=.returned (.tuple #[.int .i64 v,.nilIface])/\Below w.heap.size w w':=by
 have ct:=hl.le
 refine (Tryz.strconv_Atoi_ok ⟨l.toArray⟩ (by show l.toArray.size<=_;simp;omega) v h w).mono ?_
 rintro en w' ⟨rfl,rfl | ⟨t,rfl⟩⟩
 ·exact ⟨rfl,bZ _ _⟩
 ·exact ⟨rfl,wH _ _ _⟩
theorem atoi_no (l:Bs) (w:World) (hl:Lim l.length) (hg:jA w) (h:∀ v,Lib.atoiAll l≠.ok v) :
 Calls Tryz.prog 91 #[str l] w fun en w'=>∃ v t p,en=.returned (.tuple #[.int .i64 v,.iface t p])/\Below w.heap.size w w':=by
 have ct:=hl.le
 have hs:(⟨l.toArray⟩:ByteArray).size<=281474976710656:=by show l.toArray.size<=_;simp;omega
 cases ha:Lib.atoiAll l
 ·rename_i v;exact absurd ha (h v)
 ·obtain ⟨te,pe,h0⟩:=hg.e0
  refine (Tryz.strconv_Atoi_syntax_var ⟨l.toArray⟩ hs ha te pe w h0).mono ?_
  rintro en w' ⟨N,rfl,_,_,hb⟩
  exact ⟨_,_,_,rfl,hb⟩
 ·obtain ⟨te,pe,h0⟩:=hg.e1
  refine (Tryz.strconv_Atoi_range_var ⟨l.toArray⟩ hs ha te pe w h0).mono ?_
  rintro en w' ⟨N,rfl,_,_,hb⟩
  exact ⟨_,_,_,rfl,hb⟩
theorem gN (n:Int) (w:World) (hg:jA w) (h0 : -9223372036854775808<=n) (h1:n<=9223372036854775807) :
 Calls Tryz.prog 26 #[.int .i64 n] w fun en w'=>en=.returned (str (Lib.itoa n))/\Below w.heap.size w w':=by
 refine (Tryz.strconv_Itoa n h0 h1 w hg.tab).mono ?_
 rintro en w' ⟨rfl,k,os,rfl⟩
 exact ⟨rfl,(pK (bZ _ _) k).trans (below_grow (w.drewN k) os)⟩
theorem gc {l:Bs} {v:Int} (h:Lib.atoiAll l=.ok v) : -9223372036854775808<=v/\v<=9223372036854775807:=by
 unfold Lib.atoiAll at h
 split at h
 ·simp at h
 ·simp only at h
  split at h
  ·simp at h
  ·simp at h
  ·split at h
   ·simp at h
   ·split at h
    ·simp at h
    ·rename_i h1 h2
     simp only [Lib.NumEnd.ok.injEq] at h
     split at h <;> omega
theorem itoa_of {l:Bs} {v:Int} (h:Lib.atoiAll l=.ok v) (w:World) (hg:jA w) :
 Calls Tryz.prog 26 #[.int .i64 v] w fun en w'=>en=.returned (str (Lib.itoa v))/\Below w.heap.size w w' :=
 gN v w hg (gc h).1 (gc h).2
def jY (sr:Nat) (w:World) (o:Option (Bd×Bs×Nat)) (en:Ending) (w':World):Prop :=
 ∃ (v:Value) (r':Bs) (left':Int),en=.returned v/\But (fun x=>x=sr) w w'/\kQ sr [.int .i64 left'] 119 r' w'/\(o=none->v=.pointer none) /\
   (∀ b rest bD,o=some (b,rest,bD)->r'=rest/\left'=(bD:Nat)/\Rep (w.heap.size<=·) w' (jT b) v)
theorem ke {F:Nat->Prop} {w:World} {b:Bd} {v:Value} (h:Rep F w (jT b) v):∃ a,v=.pointer (some ⟨a,0,none⟩):=by
 cases b with
 | leaf c=>rw [jT,qm] at h;obtain ⟨a,c,h,_⟩:=h;exact ⟨a,h⟩
 | ask v ss y n=>rw [jT,qm] at h;obtain ⟨a,c,h,_⟩:=h;exact ⟨a,h⟩
theorem jY.no {sr:Nat} {w:World} {o:Option (Bd×Bs×Nat)} {w':World} {r:Bs} {left:Int} (ho:o=none) (hb:But (fun x=>x=sr) w w') (hs:kQ sr [.int .i64 left] 119 r w') :
 jY sr w o (.returned (.pointer none)) w' :=
 ⟨_,r,left,rfl,hb,hs,fun _=>rfl,fun _ _ _ h=>by rw [ho] at h;simp at h⟩
theorem jY.yes {sr:Nat} {w:World} {o:Option (Bd×Bs×Nat)} {w':World} {r:Bs} {left:Nat} {b:Bd} {v:Value} (ho:o=some (b,r,left)) (hb:But (fun x=>x=sr) w w') (hs:kQ sr [.int .i64 left] 119 r w')
 (hv:Rep (w.heap.size<=·) w' (jT b) v):jY sr w o (.returned v) w' :=
 ⟨_,r,left,rfl,hb,hs,fun h=>by rw [ho] at h;simp at h,fun _ _ _ h=>by rw [ho] at h;simp at h;obtain ⟨rfl,rfl,rfl⟩:=h;exact ⟨rfl,rfl,hv⟩⟩
def qV (d:Nat) (levels:List Ty):Prop:=(∀ t∈levels,zX t<=15)/\levels.length+15*d<=10000
def yW (d:Nat):Prop:=∀ (sr left:Nat) (levels:List Ty) (l:Bs) (lv:Value) (F:Nat->Prop) (w:World),jA w->NotG sr ->
 kQ sr [.int .i64 left] 119 l w->left<=1000->Lim l.length->qV d levels ->
 Rep F w (.sl 45 1 levels.length (kI levels)) lv->(∀ b,F b->b≠sr) ->
 Calls Tryz.prog 61 #[.pointer (some ⟨sr,0,none⟩),lv,.int .i64 d] w (jY sr w (rdB d levels left l))
theorem xI (a b:List Ty):kI (a++b)=kI a++kI b:=by
 induction a with
 | nil=>rfl
 | cons t ts ih=>simp [kI,ih]
theorem srcSl_but {F:Nat->Prop} {m:Nat->Prop} {w w':World} {e:TypeId} {sz n:Nat} {cs:List DV} {v:Value} {news:List Value} (hb:But m w w') (hF:∀ b,F b->¬ m b) (h:Rep F w (.sl e sz n cs) v) (hs:zp sz v n news w):zp sz v n news w':=by
 rw [kD] at h
 obtain ⟨hl,a,cap,rfl,hn,hz,h⟩:=h
 obtain ⟨h1,h2,h3⟩:=hs
 refine ⟨h1,h2,?_⟩
 rcases h with rfl | ⟨b,o,c,fr,rfl,bS,hc,hr⟩
 ·have:news=[]:=List.eq_nil_of_length_eq_zero (by simpa using h1)
  subst this
  rcases h3 with ⟨a',c',e',_⟩ | h3
  ·exact .inl ⟨a',c',e',by simp⟩
  ·exact .inr h3
 ·rcases h3 with ⟨a',c',e',h3⟩ | ⟨h3,_⟩
  ·simp at e'
   obtain ⟨e1,e2⟩:=e'
   subst e1
   refine .inl ⟨_,cap,rfl,fun j u hj=>?_⟩
   have:=h3 j u hj
   rw [hb.cell (h_ w _ this) ?_]
   ·exact this
   ·unfold Addr.add;split <;> exact hF b bS
  ·simp at h3
theorem part_pre {F:Nat->Prop} {sr:Nat} {left:Int} {levels more:List Ty} {r1:Bs} {xs1 xs2:List Value} {ac:Option Addr} {kc:Nat} {w w1 wx wc:World} (hg:jA w) (hn:NotG sr) (rN:sr<w.heap.size)
 (bU:But (fun x=>x=sr) w w1) (b8:kQ sr [.int .i64 left] 119 r1 w1)
 (hF:∀ b,F b->b≠sr) (G1:zC F w1 (kI levels) xs1) (G2:zC F w1 (kI more) xs2)
 (hx:Below w1.heap.size w1 wx) (rz:Own wc 45 1 (.slice ac (levels.length+more.length) kc) (levels.length+more.length) (xs1++xs2))
 (nn:Below wx.heap.size wx wc) (eQ:∀ g,(Value.slice ac (levels.length+more.length) kc).ownBlock=some g->wx.heap.size<=g) :
 Below w1.heap.size w1 wc/\jA wc/\kQ sr [.int .i64 left] 119 r1 wc /\
  Rep (fun b=>b≠sr) wc (.sl 45 1 (levels++more).length (kI (levels++more))) (.slice ac (levels.length+more.length) kc):=by
 have z1:=bU.size
 have hb:Below w1.heap.size w1 wc:=zzT hx nn
 refine ⟨hb,(hg.but bU fun i e=>by subst e;exact hn).below hb,(hb.block sr (by omega)).trans b8,?_⟩
 rw [List.length_append,xI]
 refine rz.rep (fun g h=>?_) (zC.append (G1.below hb hF) (G2.below hb hF))
 have:=eQ g h;have:=hx.size;omega
set_option maxRecDepth 100000 in
theorem gV (d:Nat) (ih:yW d) (sr left:Nat) (levels more:List Ty) (l:Bs) (lv mv:Value) (F:Nat->Prop) (w:World) (b1 b2 b3:Nat) (hg:jA w) (hn:NotG sr)
 (hs:kQ sr [.int .i64 left] 119 l w) (hl:left<=1000) (hr:Lim l.length) (hh:qV d (levels++more)) (hd:d<=1000)
 (cT:Rep F w (.sl 45 1 levels.length (kI levels)) lv) (hmv:Rep F w (.sl 45 1 more.length (kI more)) mv) (hF:∀ b,F b->b≠sr)
 (c1:w.cell? ⟨b1,0,none⟩=some (.pointer (some ⟨sr,0,none⟩))) (c2:w.cell? ⟨b2,0,none⟩=some lv) (c3:w.cell? ⟨b3,0,none⟩=some (.int .i64 ((d:Int)+1)))
 (n1:b1≠sr) (n2:b2≠sr) (n3:b3≠sr) :
 Calls Tryz.prog 92 #[mv,.pointer (some ⟨b1,0,none⟩),.pointer (some ⟨b2,0,none⟩),.pointer (some ⟨b3,0,none⟩)] w (jY sr w (qW (rdB d) (levels++more) left l)):=by
 have IH:=g_ ih;clear ih
 have HF:=g_ hF;clear hF
 have l1:=h_ w _ c1
 have l2:=h_ w _ c2
 have l3:=h_ w _ c3
 go_enter Tryz.func92,Tryz.ntmps92
 go_wp2_with fail
 rcases zq [32] l with h1 | ⟨r1,h1⟩
 ·refine (qd hs h1).mono ?_
  rintro en w1 ⟨rfl,bU,b8⟩
  go_wp2_with fail
  go_ret
  exact jY.no (by simp [qW,h1.out]) bU b8
 ·refine (qX hs h1).mono ?_
  rintro en w1 ⟨rfl,bU,b8⟩
  have d1:w1.cell? ⟨b1,0,none⟩=some (.pointer (some ⟨sr,0,none⟩)):=by rw [bU.cell l1 n1];exact c1
  have d2:w1.cell? ⟨b2,0,none⟩=some lv:=by rw [bU.cell l2 n2];exact c2
  have d3:w1.cell? ⟨b3,0,none⟩=some (.int .i64 ((d:Int)+1)):=by rw [bU.cell l3 n3];exact c3
  obtain ⟨xs1,eE,g1⟩:=zp.ofRep cT (vr _)
  obtain ⟨xs2,dB,g2⟩:=zp.ofRep hmv (vr _)
  have lim:levels.length+more.length<=10000:=by have:=hh.2;simp at this;omega
  have rN:=ju hs
  have z1:=bU.size
  have hF':=HF.out
  have G1:=g_ (zC.but bU (fun b hb=>⟨HF.out b hb,hb⟩) eE)
  have G2:=g_ (zC.but bU (fun b hb=>⟨HF.out b hb,hb⟩) dB)
  have W1:zp 1 lv levels.length xs1 w1:=srcSl_but bU hF' cT g1
  have W2:zp 1 mv more.length xs2 w1:=srcSl_but bU hF' hmv g2
  clear hF' eE dB g1 g2 c1 c2 c3
  obtain ⟨a1,k1,rfl⟩:=W1.slice
  obtain ⟨a2,k2,rfl⟩:=W2.slice
  have l1':b1<w1.heap.size:=by omega
  have l2':b2<w1.heap.size:=by omega
  have l3':b3<w1.heap.size:=by omega
  go_wp2_with fail
  have HW:=g_ (IntWalk.i64_in (d:Int) (by omega))
  go_region_held3 (fun w'=>w'.cell? ⟨b1,0,none⟩=some (.pointer (some ⟨sr,0,none⟩))/\w'.cell? ⟨b2,0,none⟩=some (.slice a1 levels.length k1)/\w'.cell? ⟨b3,0,none⟩=some (.int .i64 ((d:Int)+1)))
   (first
    | exact ⟨(de.cell l1' n1).trans d1,(de.cell l2' n2).trans d2,(de.cell l3' n3).trans d3⟩
    | exact ⟨(hbb.cell l1').trans d1,(hbb.cell l2').trans d2,(hbb.cell l3').trans d3⟩
    | go_keep)
   (first
    | (go_at_call 93;refine (concatK_any w1.heap.size levels.length more.length (.slice a1 levels.length k1) (.slice a2 more.length k2) xs1 xs2 _ (by simp) (by simp) (W1.keep fun _ _ h=>by simpa using zK h) (W2.keep fun _ _ h=>by simpa using zK h) (show _<=_ by omega) (show _<=_ by omega) (show _<=_ by omega)).mono ?_;rintro en wc ⟨ac,kc,rfl,rz,nn,eQ⟩;obtain ⟨hbb,hgc,fV,hrc⟩:=part_pre hg hn rN bU b8 HF.out G1.out G2.out (((bZ w1.heap.size w1).alloc (hG _) _).drew) rz nn eQ)
    | (go_at_call 61
       rw [HW.out]
       refine (IH.out sr left (levels++more) r1 _ (fun b=>b≠sr) wc hgc hn fV hl (hr.mono h1.le) hh hrc (fun b h=>h)).mono ?_
       rintro en wf ⟨v,r',left',rfl,hbf,dI,hnf,hyf⟩;have de:=(But.ofBelow (m:=fun x=>x=sr) hbb).trans hbf))
  go_wp2_with fail
  go_ret
  refine ⟨v,r',left',rfl,bU.trans de,dI,fun h=>hnf ?_,fun b rest bD h=>?_⟩
  ·simpa [qW,h1.out] using h
  ·obtain ⟨e1,e2,e3⟩:=hyf b rest bD (by simpa [qW,h1.out] using h)
   exact ⟨e1,e2,(Rep.keep fun b o h ho=>⟨by have:=h;have:=hbb.size;omega,ho⟩).1 _ _ e3⟩
theorem kQ.cell1 {sc:Nat} {c:List Value} {e:TypeId} {r:Bs} {u:Value} {w:World} (h:kQ sc (u::c) e r w):w.cell? ⟨sc,1,none⟩=some u:=by
 simp [World.cell?,kQ] at *;simp [h]
theorem kQ.put1 {sc:Nat} {c:List Value} {e:TypeId} {r:Bs} {u u':Value} {w:World} (h:kQ sc (u::c) e r w):kQ sc (u'::c) e r (w.setCell ⟨sc,1,none⟩ u'):=by
 unfold kQ at *
 have bX:=zZ h
 have h':w.heap[sc]=.cells (str r::u::c).toArray e (0,0):=by simpa [Array.getElem?_eq_getElem bX] using h
 show (w.heap.modify sc _)[sc]? = _
 rw [Array.getElem?_eq_getElem (by simpa using bX),Array.getElem_modify_self,h']
 simp
def pV (B sr:Nat) (lv:Value) (d:Nat) (w:World):Prop :=
 w.cell? ⟨B,0,none⟩=some (.pointer (some ⟨sr,0,none⟩))/\w.cell? ⟨B+1,0,none⟩=some lv/\w.cell? ⟨B+1+1,0,none⟩=some (.int .i64 (d:Int))
theorem pV.but {B sr:Nat} {lv:Value} {d:Nat} {m:Nat->Prop} {w w':World} (h:pV B sr lv d w) (hb:But m w w') (hm:∀ i,m i->i≠B/\i≠B+1/\i≠B+1+1):pV B sr lv d w':=by
 obtain ⟨h1,h2,h3⟩:=h
 refine ⟨?_,?_,?_⟩
 ·rw [hb.cell (h_ w _ h1) (fun e=>(hm _ e).1 rfl)];exact h1
 ·rw [hb.cell (h_ w _ h2) (fun e=>(hm _ e).2.1 rfl)];exact h2
 ·rw [hb.cell (h_ w _ h3) (fun e=>(hm _ e).2.2 rfl)];exact h3
def vP (ob v:Nat) (slv y n:Value) (w:World):Prop:=w.heap[ob]? = some (.cells #[str [],.int .i64 v,slv,y,n] 127 (0,0))
theorem vP.cells {ob v:Nat} {slv y n:Value} {w:World} (h:vP ob v slv y n w):w.cell? ⟨ob,2,none⟩=some slv/\w.cell? ⟨ob,3,none⟩=some y/\w.cell? ⟨ob,4,none⟩=some n/\ob<w.heap.size/\(∀ o,w.frozen? ⟨ob,o,none⟩=false):=by
 have hl:=zZ h
 unfold vP at h
 exact ⟨by simp [World.cell?,h],by simp [World.cell?,h],by simp [World.cell?,h],hl,fun o=>by simp [World.frozen?,h]⟩
theorem zh {w:World} {b o:Nat} {c:Array Value} {e:TypeId} {u:Value} (h:w.heap[b]? = some (.cells c e (0,0))):(w.setCell ⟨b,o,none⟩ u).heap[b]? = some (.cells (c.setIfInBounds o u) e (0,0)):=by
 have bX:=zZ h
 have h':w.heap[b]=.cells c e (0,0):=by simpa [Array.getElem?_eq_getElem bX] using h
 show (w.heap.modify b _)[b]? = _
 rw [Array.getElem?_eq_getElem (by simpa using bX),Array.getElem_modify_self,h']
 simp
theorem vP.put2 {ob v:Nat} {slv y n u:Value} {w:World} (h:vP ob v slv y n w):vP ob v u y n (w.setCell ⟨ob,2,none⟩ u):=by
 unfold vP;rw [zh h];rfl
theorem vP.put3 {ob v:Nat} {slv y n u:Value} {w:World} (h:vP ob v slv y n w):vP ob v slv u n (w.setCell ⟨ob,3,none⟩ u):=by
 unfold vP;rw [zh h];rfl
theorem vP.put4 {ob v:Nat} {slv y n u:Value} {w:World} (h:vP ob v slv y n w):vP ob v slv y u (w.setCell ⟨ob,4,none⟩ u):=by
 unfold vP;rw [zh h];rfl
def xm (sr B ob Z v d:Nat) (lv:Value) (levels ts:List Ty) (ed:Nat) (r0:Bs) (w:World) (rd:Rd) (k:Nat) (wr:World):Prop :=
 ∃ bs lk leftk slv vs,zx rd (zi levels (ts.take k)) ed r0=some (bs,lk,leftk)/\But (fun x=>x=sr) w wr/\kQ sr [.int .i64 (leftk:Nat)] 119 lk wr /\
   vP ob v slv (.pointer none) (.pointer none) wr/\Own wr 46 1 slv k vs/\(∀ g,slv.ownBlock=some g->Z<=g)/\zC (fun b=>Z<=b/\slv.ownBlock≠some b) wr (jm bs) vs/\pV B sr lv (d+1) wr/\Z<=wr.heap.size
theorem xO (a b:List Bd):jm (a++b)=jm a++jm b:=by
 induction a with
 | nil=>rfl
 | cons t ts ih=>simp [jm,ih]
theorem Tryz.infoB:(Tryz.prog.info? 46).map (fun i=>(i.zero,i.size,i.bytes))=some (some (.pointer none),1,8):=by kernel_rfl
theorem gW {sr left:Nat} {x:UInt8} {r:Bs} {w w2:World} {o:Option (Bd×Bs×Nat)} {u:Value} (hw:u=str [x]) (hm:o=some (.leaf x,r,left)) (hb:But (fun x=>x=sr) w w2) (hs:kQ sr [.int .i64 (left:Nat)] 119 r w2) :
 jY sr w o (.returned (.pointer (some ⟨w2.heap.size,0,none⟩))) (w2.alloc (.cells #[u,.int .i64 0,.slice none 0 0,.pointer none,.pointer none] 127)):=by
 refine jY.yes hm (hb.alloc _) (hs.alloc _) ?_
 rw [jT,qm]
 refine ⟨_,_,rfl,hb.size,zO _ _,?_⟩
 subst hw
 refine zJ.2 ⟨_,_,rfl,zj.2 rfl,zJ.2 ⟨_,_,rfl,zj.2 rfl,zJ.2 ⟨_,_,rfl,?_,zJ.2 ⟨_,_,rfl,zj.2 rfl,zJ.2 ⟨_,_,rfl,zj.2 rfl,zM.2 rfl⟩⟩⟩⟩⟩
 exact kD.2 ⟨rfl,none,0,rfl,hG _,fun _=>rfl,.inl rfl⟩
theorem qV.next {d:Nat} {levels:List Ty} {v:Nat} {t a:Ty} (h:qV (d+1) levels) (hv:levels[v]? = some t) (ha:a∈t.args):qV d (levels++a.args):=by
 have ht:=h.1 t (List.mem_of_getElem? hv)
 have cN:∀ ts:List Ty,∀ a∈ts,1+zX a<=zR ts:=by
  intro ts
  induction ts with
  | nil=>simp
  | cons x xs ih =>
    intro a ha
    rcases List.mem_cons.1 ha with rfl | ha
    ·simp [zR]
    ·have:=ih a ha;simp [zR];omega
 have bP:∀ ts:List Ty,ts.length<=zR ts:=by
  intro ts
  induction ts with
  | nil=>simp
  | cons x xs ih=>simp [zR];omega
 have h1:=cN _ a ha
 have h2:=kw t
 have h3:=kw a
 refine ⟨fun x hx=>?_,?_⟩
 ·rcases List.mem_append.1 hx with hx | hx
  ·exact h.1 x hx
  ·have:=cN _ x hx;omega
 ·have:=bP a.args;have:=h.2;simp;omega
theorem qV.same {d:Nat} {levels:List Ty} (h:qV (d+1) levels):qV d (levels++[]):=by
 refine ⟨fun x hx=>h.1 x (by simpa using hx),?_⟩
 have:=h.2;simp;omega
theorem xm.next {sr B ob Z v d:Nat} {lv:Value} {levels ts:List Ty} {ed:Nat} {r0:Bs} {w:World} {rd:Rd} {k:Nat} {wr w1 w2:World} {t:Ty} {bs:List Bd} {lk:Bs} {leftk:Nat} {slv:Value} {vs:List Value}
 {b:Bd} {rest:Bs} {bD:Nat} {vb:Value} {o:Obj} {a':Option Addr} {c':Nat}
 (ht:ts[k]? = some t) (hp:zx rd (zi levels (ts.take k)) ed r0=some (bs,lk,leftk)) (hb:But (fun x=>x=sr) w wr)
 (mm:vP ob v slv (.pointer none) (.pointer none) wr) (hZ:∀ g,slv.ownBlock=some g->Z<=g) (bG:Own wr 46 1 slv k vs) (hr:zC (fun b=>Z<=b/\slv.ownBlock≠some b) wr (jm bs) vs) (hx:pV B sr lv (d+1) wr)
 (hz:Z<=wr.heap.size) (hq:qW rd (levels++t.args) leftk lk=some (b,rest,bD))
 (bU:But (fun x=>x=sr) wr w1) (b8:kQ sr [.int .i64 (bD:Nat)] 119 rest w1) (hv:Rep (wr.heap.size<=·) w1 (jT b) vb)
 (b4:Own w2 46 1 (.slice a' (k+1) c') (k+1) (vs++[vb])) (bY:But (fun b=>slv.ownBlock=some b) (w1.alloc o) w2) (hg:∀ g,(Value.slice a' (k+1) c').ownBlock=some g->slv.ownBlock=some g\/g=(w1.alloc o).heap.size)
 (rN:sr<w.heap.size) (hB:w.heap.size<=B) (d7:B+1+1<ob) (hobZ:ob<Z) :
 xm sr B ob Z v d lv levels ts ed r0 w rd (k+1) (w2.setCell ⟨ob,2,none⟩ (.slice a' (k+1) c')):=by
 have z1:=bU.size;have z2:=bY.size;have zw:=hb.size
 rw [zQ] at hg z2
 have bX:∀ g,slv.ownBlock=some g->g<wr.heap.size:=fun g h=>bG.lt h
 have hnsr:∀ g,slv.ownBlock=some g->Z<=g:=hZ
 have keep:∀ i x,w1.heap[i]? = some x->slv.ownBlock≠some i->i≠ob->(w2.setCell ⟨ob,2,none⟩ (.slice a' (k+1) c')).heap[i]? = some x:=by
  intro i x hi hne ho
  rw [bQ _ _ _ _ (by simpa using ho),bY.block i (by rw [zQ];have:=zZ hi;omega) hne]
  exact zH hi
 have t6:vP ob v slv (.pointer none) (.pointer none) w1:=(bU.block ob (zZ mm) (by omega)).trans mm
 have hnb2:vP ob v slv (.pointer none) (.pointer none) w2:=by
  unfold vP;rw [bY.block ob (by rw [zQ];have:=zZ t6;omega) (fun e=>by have:=hZ ob e;omega)]
  exact zH t6
 have eE:=hx.but bU (fun i e=>by subst e;omega)
 refine ⟨bs++[b],rest,bD,_,vs++[vb],?_,?_,?_,hnb2.put2,?_,?_,?_,?_,?_⟩
 ·rw [gO ht hp,hq];rfl
 ·refine ((hb.trans bU).trans' ((But.refl (fun b=>slv.ownBlock=some b) w1).alloc o |>.trans bY) fun i hi e=>?_).setCell (p:=⟨ob,2,none⟩) (.inr (by simp;omega)) _
  have:=hZ i e;omega
 ·exact keep sr _ b8 (fun e=>by have:=hZ sr e;omega) (by omega)
 ·refine b4.keep fun g x b5 dC=>?_
  rw [bQ _ _ _ _ (by
   rcases hg g b5 with h | h
   ·have:=hZ g h;simp;omega
   ·simp;omega)]
  exact dC
 ·intro g h
  rcases hg g h with h | h
  ·exact hZ g h
  ·omega
 ·rw [xO]
  refine zC.append ?_ (zC.one ?_)
  ·refine (Rep.keep fun i x hi dC=>⟨⟨hi.1,fun e=>?_⟩,?_⟩).2 _ _ hr
   ·have hne:i≠sr:=by omega
    exact keep i x (by rw [bU.block i (zZ dC) hne];exact dC) hi.2 (by omega)
   ·rcases hg i e with h | h
    ·exact hi.2 h
    ·have:=zZ dC;omega
  ·refine (Rep.keep fun i x hi dC=>⟨⟨by have:=hi;omega,fun e=>?_⟩,?_⟩).1 _ _ hv
   ·exact keep i x dC (fun e=>by have:=bX i e;have:=hi;omega) (by have:=hi;omega)
   ·rcases hg i e with h | h
    ·have:=bX i h;have:=hi;omega
    ·have:=zZ dC;omega
 ·obtain ⟨y1,y2,y3⟩:=eE
  have ck:∀ i u,w1.cell? ⟨i,0,none⟩=some u->slv.ownBlock≠some i->i≠ob->(w2.setCell ⟨ob,2,none⟩ (.slice a' (k+1) c')).cell? ⟨i,0,none⟩=some u:=by
   intro i u hi hne ho
   rw [World.cell?_of_block (w:=w1) (a:=⟨i,0,none⟩) ?_];exact hi
   have hl:=h_ w1 _ hi
   obtain ⟨x,dC⟩:∃ x,w1.heap[i]? = some x:=⟨w1.heap[i],by simp at hl;simp [hl]⟩
   show (w2.setCell ⟨ob,2,none⟩ (.slice a' (k+1) c')).heap[i]? = w1.heap[i]?
   rw [keep i x dC hne ho,dC]
  exact ⟨ck _ _ y1 (fun e=>by have:=hZ _ e;omega) (by omega),ck _ _ y2 (fun e=>by have:=hZ _ e;omega) (by omega),ck _ _ y3 (fun e=>by have:=hZ _ e;omega) (by omega)⟩
 ·simp only [World.setCell];simp;omega
theorem body_ask (d:Nat) (hd:d+1<=1000) (ih:yW d) (sr left:Nat) (levels:List Ty) (l:Bs) (lv:Value) (F:Nat->Prop) (w:World) (hg:jA w) (hn:NotG sr)
 (hs:kQ sr [.int .i64 ((left+1:Nat):Int)] 119 l w) (hl:left+1<=1000) (hr:Lim l.length) (hh:qV (d+1) levels)
 (cT:Rep F w (.sl 45 1 levels.length (kI levels)) lv) (hF:∀ b,F b->b≠sr) (r1:Bs) (v:Nat) (t:Ty) (h1:Cut [40] l r1) (fG:lvl (zY r1) levels.length=some v) (ht:levels[v]? = some t) :
 Calls Tryz.prog 61 #[.pointer (some ⟨sr,0,none⟩),lv,.int .i64 ((d:Int)+1)] w (jY sr w (rdB (d+1) levels (left+1) l)):=by
 have HM:=g_ (xV (d+1) levels left h1.out)
 have hm:rdB (d+1) levels (left+1) l=gK (rdB d) levels v t left (zV r1):=by rw [HM.out,fG];simp only [ht]
 have HM:=g_ hm;clear hm
 rw [rdAsk_eq] at HM
 have IH:=g_ ih;clear ih
 obtain ⟨fI,cK,fB⟩:=lvl_lt fG
 have dN:=g_ cK;have rn:=g_ fB;have hlvl':=g_ fG;have HT:=g_ ht
 have c1:=hs.cell1
 have f1:=hs.free 1
 have lsr:=ju hs
 have lsr1:sr<w.heap.size+1:=by omega
 have lsr2:sr<w.heap.size+1+1:=by omega
 obtain ⟨a0,k0,elv,_,_,bL⟩:=zF cT
 obtain ⟨bl,ol,u,dv,ea,hFl,_,mo,mS,d6⟩:=bL v fI
 rw [vu,ht] at mo
 simp only [Option.map_some,Option.some.injEq] at mo
 subst mo;subst ea;subst elv
 obtain ⟨bt,st,eu,hFt,hct,dF⟩:=za d6
 subst eu
 obtain ⟨sa,ks,est,fm,_,cG⟩:=zF dF
 subst est
 have aS:w.cell? ⟨bt,0,none⟩=some (.slice sa t.args.length ks):=by simp [World.cell?,hct]
 have nl:=hF bl hFl
 have nt:=hF bt hFt
 have HF:=g_ hF;have mG:=g_ cG
 have CL:=g_ mS;have CT:=g_ aS
 clear cK fB fG ht bL d6 hct dF hF cG mS aS
 have bP:levels.length<=10000:=by have:=hh.2;omega
 have hta:t.args.length<=15:=by
  have h1:=hh.1 t (List.mem_of_getElem? HT.out)
  have h2:=kw t
  have bP:∀ ts:List Ty,ts.length<=zR ts:=by
   intro ts
   induction ts with
   | nil=>simp
   | cons x xs ih=>simp [zR];omega
  have:=bP t.args;omega
 go_enter Tryz.func61,Tryz.ntmps61
 go_wp2_with fail
 obtain ⟨W0,cp⟩:=zzM (((((w.setCell ⟨sr,1,none⟩ (.int .i64 left)).alloc (.cells #[.pointer (some ⟨sr,0,none⟩)] 117)).alloc (.cells #[.slice (some ⟨bl,ol,none⟩) levels.length k0] 86)).alloc (.cells #[.int .i64 ((d:Int)+1)] 3)))
 rw [<- cp]
 have fM:But (fun x=>x=sr) w W0:=by subst cp;exact ((((But.refl _ _).setS 1 _).alloc _).alloc _).alloc _
 have dO:kQ sr [.int .i64 left] 119 l W0:=by subst cp;exact ((hs.put1).alloc _).alloc _ |>.alloc _
 have rH:pV w.heap.size sr (.slice (some ⟨bl,ol,none⟩) levels.length k0) (d+1) W0:=by subst cp;refine ⟨?_,?_,?_⟩ <;> go_simp
 have z0:W0.heap.size=w.heap.size+3:=by subst cp;simp
 clear cp c1 f1
 refine (qX dO h1).mono ?_
 rintro en w1 ⟨rfl,bU,b8⟩
 have eE:=rH.but bU (fun i e=>by subst e;omega)
 have hb:=fM.trans bU
 have z1:=bU.size
 clear fM bU dO rH
 obtain ⟨x1,x2,x3⟩:=id eE
 go_wp2_with fail
 refine (v_ _ _ _ _ _ b8 (hr.mono h1.le)).mono ?_
 rintro en w2 ⟨rfl,bY,cv⟩
 have cW:=hr.mono h1.le
 have dZ:=cW.mono (show (zY r1).length<=r1.length by have:=j6 r1;omega)
 have dB:=eE.but bY (fun i e=>by subst e;omega)
 have bS:=hb.trans bY
 have z2:=bY.size
 have sK:=hg.but bS (fun i e=>by subst e;exact hn)
 clear x1 x2 x3 hb bY b8 eE
 go_wp2_with fail
 refine (atoi_ok _ _ dZ (v:Int) dN.out).mono ?_
 rintro en w3 ⟨rfl,bH⟩
 have z3:=bH.size
 have fC:=sK.below bH
 have cc:=(bH.block sr (by omega)).trans cv
 have rG:=dB.but (But.ofBelow (m:=fun _=>False) bH) (fun i e=>e.elim)
 have hb:=bS.trans (But.ofBelow bH)
 clear bS bH cv dB sK
 go_wp2_with fail
 refine (itoa_of dN.out w3 fC).mono ?_
 rintro en w4 ⟨rfl,bC⟩
 have z4:=bC.size
 have b7:=(bC.block sr (by omega)).trans cc
 have hg4:=fC.below bC
 have tB:=rG.but (But.ofBelow (m:=fun _=>False) bC) (fun i e=>e.elim)
 obtain ⟨x1,x2,x3⟩:=id tB
 have bS:=hb.trans (But.ofBelow bC)
 have hq:(Lib.itoa (v:Int) == zY r1)=true:=by rw [beq_iff_eq];exact rn.out
 have nN:decide ((v:Int)<0)=false:=by rw [decide_eq_false_iff_not];omega
 have dm:decide (levels.length<=v)=false:=by rw [decide_eq_false_iff_not];omega
 have eV:(((d:Int)+1) == 0)=false:=by rw [beq_eq_false_iff_ne];omega
 have s1:w.heap.size+1<w4.heap.size:=by omega
 have s2:w.heap.size<w4.heap.size:=by omega
 have s3:w.heap.size+1+1<w4.heap.size:=by omega
 have d1:w4.cell? ⟨bl,ol+v,none⟩=some (.pointer (some ⟨bt,0,none⟩)):=by rw [bS.cell (h_ w _ CL.out) nl];exact CL.out
 have d2:w4.cell? ⟨bt,0,none⟩=some (.slice sa t.args.length ks):=by rw [bS.cell (h_ w _ CT.out) nt];exact CT.out
 have d3:=h_ w4 _ d1
 have d4:=h_ w4 _ d2
 clear hb bC cc rG fC
 go_wp2_with fail
 have bT:xm sr w.heap.size w4.heap.size (w4.heap.size+1) v d (.slice (some ⟨bl,ol,none⟩) levels.length k0) levels t.args left (zV r1) w (rdB d) 0
  (w4.alloc (.cells #[.string ⟨#[]⟩,.int .i64 v,.slice none 0 0,.pointer none,.pointer none] 127)):=by
  refine ⟨[],zV r1,left,.slice none 0 0,[],by simp [zi,zx],bS.alloc _,kQ.alloc b7 _,zO _ _,World.ownsRow_nil _ _ _ _,fun g h=>by simp [Value.ownBlock] at h,zM.2 rfl,tB.but ((But.refl (fun _=>False) _).alloc _) (fun i e=>e.elim),by simp⟩
 have hz4:w.heap.size+1+1<w4.heap.size:=s3
 clear x1 x2 x3 d1 d2 d3 d4 tB b7 bS hg4
 generalize hZ:w4.heap.size+1=Z at bT
 generalize hO:w4.heap.size=ob at *
 have HZ:=g_ hZ;clear hZ
 have HO:=g_ hO;clear hO
 go_loopw [93] (fun i wr=>∃ k:Nat,k<=t.args.length/\i=.int .i64 k/\xm sr w.heap.size ob Z v d (.slice (some ⟨bl,ol,none⟩) levels.length k0) levels t.args left (zV r1) w (rdB d) k wr)
  (fun i _=>t.args.length-(intOf i).toNat)
 case atStart=>exact ⟨0,Nat.zero_le _,rfl,bT⟩
 case round =>
  clear bT
  rename_i wr
  obtain ⟨k,hk,rfl,hrel⟩:=hrel
  obtain ⟨bs,lk,leftk,slv,vs,hp,hb,dp,mm,bG,hZb,dt,dj,hzr⟩:=hrel
  have hple:=uH (gZ d) _ hp
  have aV:leftk<=1000:=by omega
  have mB:=vw r1
  have fd:Lim lk.length:=hr.mono (by have:=h1.le;omega)
  have hgk:jA wr:=hg.but hb (fun i e=>by subst e;exact hn)
  have rm:Rep F wr (.sl 45 1 levels.length (kI levels)) (.slice (some ⟨bl,ol,none⟩) levels.length k0):=Rep.but hb (fun b hb=>⟨HF.out b hb,hb⟩) cT
  have hp':=g_ hp;have rV:=g_ hZb;clear hp hZb hple
  by_cases bX:k<t.args.length
  ·obtain ⟨ba,oa,uk,dk,esa,hFa,_,nr,eU,db⟩:=mG.out k bX
   subst esa
   rw [vu,Option.map_eq_some_iff] at nr
   obtain ⟨tk,dn,rfl⟩:=nr
   obtain ⟨bk,sk,euk,hFk,aL,rS⟩:=za db
   subst euk
   obtain ⟨ask,ksk,esk⟩:∃ a c,sk=.slice a tk.args.length c:=by obtain ⟨a,c,e,_⟩:=zF rS;exact ⟨a,c,e⟩
   subst esk
   have e1:wr.cell? ⟨ba,oa+k,none⟩=some (.pointer (some ⟨bk,0,none⟩)):=by rw [hb.cell (h_ w _ eU) (HF.out ba hFa)];exact eU
   have e2:wr.cell? ⟨bk,0,none⟩=some (.slice ask tk.args.length ksk):=by
    have:w.cell? ⟨bk,0,none⟩=some (.slice ask tk.args.length ksk):=by simp [World.cell?,aL]
    rw [hb.cell (h_ w _ this) (HF.out bk hFk)];exact this
   have tT:Rep F wr (.sl 45 1 tk.args.length (kI tk.args)) (.slice ask tk.args.length ksk):=Rep.but hb (fun b hb=>⟨HF.out b hb,hb⟩) rS
   have nc:qV d (levels++tk.args):=hh.next HT.out (List.mem_of_getElem? dn)
   have HTK:=g_ dn
   clear dn eU aL db rS
   obtain ⟨y1,y2,y3⟩:=id dj
   go_wp2_with fail
   refine (gV d IH.out sr leftk levels tk.args lk _ _ F wr w.heap.size (w.heap.size+1) (w.heap.size+1+1) hgk hn dp aV fd nc (by omega) rm tT HF.out y1 y2 y3 (by omega) (by omega) (by omega)).mono ?_
   rintro en w5 ⟨vb,r',left',rfl,bF,dM,dh,dw⟩
   clear y1 y2 y3 e1 e2
   cases hq:qW (rdB d) (levels++tk.args) leftk lk with
   | none =>
     obtain rfl:=dh hq
     have HQ:=g_ hq;clear hq dh dw
     go_wp2_with fail
     go_ret
     refine jY.no ?_ (hb.trans bF) dM
     rw [HM.out,hands_none (k+1) (by rw [gO HTK.out hp'.out,HQ.out];rfl)];rfl
   | some x =>
     obtain ⟨b,rest,bD⟩:=x
     obtain ⟨rfl,rfl,em⟩:=dw b rest bD hq
     have HQ:=g_ hq;clear hq dh dw
     obtain ⟨ab,evb⟩:=ke em
     subst evb
     have fP:vP ob v slv (.pointer none) (.pointer none) w5:=(bF.block ob (zZ mm) (by have:=HO.out;omega)).trans mm
     obtain ⟨q1,_,_,q4,q5⟩:=fP.cells
     have q6:=q5 2
     have dV:Own w5 46 1 slv k vs:=bG.keep fun g o b5 ho=>by rw [bF.block g (zZ ho) (by have:=rV.out g b5;have:=HZ.out;omega)];exact ho
     clear q5
     go_wp2_with (at_builtin;refine zu rfl _ _ 125 rfl 46 (.pointer none) 1 8 Tryz.underlying125 Tryz.infoB rfl (by decide) slv k vs rfl ?c1 _ 1 [.pointer (some ⟨ab,0,none⟩)] rfl ?c2 ?c3 ?c4 ?_)
     case c1=>exact dV.keep fun g o b5 ho=>zH ho
     case c2=>exact zp.lit rfl
     case c3=>unfold maxLen;omega
     case c4=>omega
     intro a' c' w6 b4 bW b5
     have mf:vP ob v slv (.pointer none) (.pointer none) w6:=by
      unfold vP;rw [bW.block ob (by simp;omega) (fun e=>by have:=rV.out ob e;have:=HZ.out;omega)]
      exact zH fP
     have eZ:=xm.next HTK.out hp'.out hb mm rV.out bG dt dj hzr HQ.out bF dM em b4 bW (fun g h=>(b5 g h).imp_right fun e=>e.trans (by simp)) lsr (hG _) hz4 (by have:=HZ.out;omega)
     obtain ⟨p1,_,_,p4,p5⟩:=mf.cells
     have p6:=p5 2
     have HG:=g_ b5;clear b5 p5
     go_wp2_with fail
     go_roundw
     case rel=>exact ⟨k+1,by omega,by go_num,eZ⟩
     case measure=>simp [intOf];omega
  ·obtain rfl:k=t.args.length:=by omega
   have hp:zx (rdB d) (zi levels t.args) left (zV r1)=some (bs,lk,leftk):=by have:=hp'.out;rwa [List.take_length] at this
   have HP:=g_ hp;clear hp hp' bX hk
   have fW:∀ W:World,Rep F W (.sl 45 1 ([]:List Ty).length (kI [])) (.slice none 0 0):=fun W=>kD.2 ⟨rfl,none,0,rfl,hG _,fun _=>rfl,.inl rfl⟩
   have hh0:=hh.same
   have iT:=g_ fW;clear fW
   obtain ⟨y1,y2,y3⟩:=id dj
   go_wp2_with fail
   refine (gV d IH.out sr leftk levels [] lk _ _ F wr w.heap.size (w.heap.size+1) (w.heap.size+1+1) hgk hn dp aV fd hh0 (by omega) rm (iT.out wr) HF.out y1 y2 y3 (by omega) (by omega) (by omega)).mono ?_
   rw [List.append_nil] at *
   rintro en w5 ⟨vb,r',left',rfl,bF,dM,dh,dw⟩
   clear y1 y2 y3
   have fP:vP ob v slv (.pointer none) (.pointer none) w5:=(bF.block ob (zZ mm) (by have:=HO.out;omega)).trans mm
   have ah:=dj.but bF (fun i e=>by subst e;omega)
   have dS:=hb.trans bF
   have z5:=bF.size
   have zr:=hb.size
   obtain ⟨_,q2,_,q4,q5⟩:=fP.cells
   have q6:=q5 3;clear q5
   cases hq:qW (rdB d) levels leftk lk with
   | none =>
     obtain rfl:=dh hq
     have HQ:=g_ hq;clear hq dh dw
     go_wp2_with fail
     go_ret
     refine jY.no ?_ (dS.setCell (p:=⟨ob,3,none⟩) (.inr (by simp;omega)) _) (r:=r') (left:=left') ?_
     ·rw [HM.out];simp only [HP.out,Option.bind_eq_bind,Option.bind_some,HQ.out,Option.bind_none]
     ·unfold kQ;rw [bQ _ _ _ _ (by simp;omega)];exact dM
   | some x =>
     obtain ⟨by1,rest1,cL⟩:=x
     obtain ⟨rfl,rfl,em⟩:=dw _ _ _ hq
     have hle5:=uQ (gZ d) hq
     have HQ:=g_ hq;clear hq dh dw
     obtain ⟨ab,evb⟩:=ke em
     subst evb
     have rx:=fP.put3 (u:=.pointer (some ⟨ab,0,none⟩))
     obtain ⟨WA,sn⟩:=zzM (w5.setCell ⟨ob,3,none⟩ (.pointer (some ⟨ab,0,none⟩)))
     go_wp2_with fail
     rw [<- sn] at rx ⊢
     have eo:But (fun x=>x=sr) w WA:=by subst sn;exact dS.setCell (p:=⟨ob,3,none⟩) (.inr (by simp;omega)) _
     have kA:∀ i x,w5.heap[i]? = some x->i≠ob->WA.heap[i]? = some x:=by
      intro i x hx hne;subst sn;rw [bQ _ _ _ _ (by simpa using hne)];exact hx
     have zA:WA.heap.size=w5.heap.size:=by subst sn;simp [World.setCell]
     have hsA:kQ sr [.int .i64 (cL:Nat)] 119 r' WA:=kA _ _ dM (by omega)
     have aw:pV w.heap.size sr (.slice (some ⟨bl,ol,none⟩) levels.length k0) (d+1) WA:=by
      subst sn
      exact ah.but (m:=fun i=>i=ob) ((But.refl (fun i=>i=ob) w5).setCell (p:=⟨ob,3,none⟩) (.inl rfl) _) (fun i e=>by subst e;omega)
     have hrsA:zC (fun b=>Z<=b/\slv.ownBlock≠some b) WA (jm bs) vs :=
      (Rep.keep fun i x hi hx=>⟨hi,kA i x (by rw [bF.block i (zZ hx) (by have:=HZ.out;omega)];exact hx) (by have:=HZ.out;omega)⟩).2 _ _ dt
     have tp:Own WA 46 1 slv t.args.length vs:=bG.keep fun g o b5 ho=>kA g o (by rw [bF.block g (zZ ho) (by have:=rV.out g b5;have:=HZ.out;omega)];exact ho) (by have:=rV.out g b5;have:=HZ.out;omega)
     have hv5A:Rep (wr.heap.size<=·) WA (jT by1) (.pointer (some ⟨ab,0,none⟩)):=(Rep.keep fun i x hi hx=>⟨hi,kA i x hx (by have:=zZ mm;have:=hi;omega)⟩).1 _ _ em
     have hgA:jA WA:=hg.but eo (fun i e=>by subst e;exact hn)
     have hlvA:Rep F WA (.sl 45 1 levels.length (kI levels)) (.slice (some ⟨bl,ol,none⟩) levels.length k0):=Rep.but eo (fun b hb=>⟨HF.out b hb,hb⟩) cT
     have KA:=g_ kA
     clear sn kA q2 q4 q6 fP bF ah dM dt em dp dj rm hgk
     obtain ⟨y1,y2,y3⟩:=id aw
     refine (gV d IH.out sr cL levels [] r' _ _ F WA w.heap.size (w.heap.size+1) (w.heap.size+1+1) hgA hn hsA (by omega) (fd.mono (by omega)) (by rw [List.append_nil];exact hh0) (by omega) hlvA (iT.out WA) HF.out y1 y2 y3 (by omega) (by omega) (by omega)).mono ?_
     rw [List.append_nil] at *
     rintro en w6 ⟨vn,r6,tP,rfl,bW,dr,eL,eD⟩
     clear y1 y2 y3
     have mf:vP ob v slv (.pointer (some ⟨ab,0,none⟩)) (.pointer none) w6:=(bW.block ob (zZ rx) (by have:=HO.out;omega)).trans rx
     have hbx6:=aw.but bW (fun i e=>by subst e;omega)
     obtain ⟨x1,_,_⟩:=id hbx6
     have si:=eo.trans bW
     have z6:=bW.size
     obtain ⟨_,_,q3,q4,q5⟩:=mf.cells
     have q6:=q5 4;clear q5
     cases fY:qW (rdB d) levels cL r' with
     | none =>
       obtain rfl:=eL fY
       have mL:=g_ fY;clear fY eL eD
       go_wp2_with fail
       go_ret
       refine jY.no ?_ (si.setCell (p:=⟨ob,4,none⟩) (.inr (by simp;omega)) _) (r:=r6) (left:=tP) ?_
       ·rw [HM.out];simp only [HP.out,Option.bind_eq_bind,Option.bind_some,HQ.out,mL.out,Option.bind_none]
       ·unfold kQ;rw [bQ _ _ _ _ (by simp;omega)];exact dr
     | some x =>
       obtain ⟨bn,rest2,bD⟩:=x
       obtain ⟨rfl,rfl,hv6⟩:=eD _ _ _ fY
       have hle6:=uQ (gZ d) fY
       have mL:=g_ fY;clear fY eL eD
       obtain ⟨an,evn⟩:=ke hv6
       subst evn
       have tn:=mf.put4 (u:=.pointer (some ⟨an,0,none⟩))
       have hbD:But (fun x=>x=sr) w (w6.setCell ⟨ob,4,none⟩ (.pointer (some ⟨an,0,none⟩))):=si.setCell (p:=⟨ob,4,none⟩) (.inr (by simp;omega)) _
       have hsD:kQ sr [.int .i64 (bD:Nat)] 119 r6 (w6.setCell ⟨ob,4,none⟩ (.pointer (some ⟨an,0,none⟩))):=by
        unfold kQ;rw [bQ _ _ _ _ (by simp;omega)];exact dr
       go_wp2_with fail
       rcases zq [41] r6 with h7 | ⟨r7,h7⟩
       ·refine (qd hsD h7).mono ?_
        rintro en w7 ⟨rfl,bB,eF⟩
        go_wp2_with fail
        go_ret
        refine jY.no ?_ (hbD.trans bB) eF
        rw [HM.out];simp only [HP.out,Option.bind_eq_bind,Option.bind_some,HQ.out,mL.out,h7.out,Option.bind_none]
       refine (qX hsD h7).mono ?_
       rintro en w7 ⟨rfl,bB,eF⟩
       go_wp2_with fail
       go_ret
       refine jY.yes (b:=.ask v bs by1 bn) (r:=r7) (left:=bD) ?_ (hbD.trans bB) eF ?_
       ·rw [HM.out];simp only [HP.out,Option.bind_eq_bind,Option.bind_some,HQ.out,mL.out,h7.out]
       ·have nE:∀ i x,w6.heap[i]? = some x->i≠ob->i≠sr->w7.heap[i]? = some x:=by
         intro i x hx hne tf
         rw [bB.block i (by have:=zZ hx;simpa [World.setCell] using this) tf,bQ _ _ _ _ (by simpa using hne)];exact hx
        have keepA:∀ i x,WA.heap[i]? = some x->i≠ob->i≠sr->w7.heap[i]? = some x:=fun i x hx hne tf=>nE i x (by rw [bW.block i (zZ hx) tf];exact hx) hne tf
        have hnb7:vP ob v slv (.pointer (some ⟨ab,0,none⟩)) (.pointer (some ⟨an,0,none⟩)) w7:=(bB.block ob (zZ tn) (by omega)).trans tn
        have hZo:=HZ.out
        have ni:bs.length=t.args.length:=by
         have:=(uH (gZ d) _ HP.out).2.2;simpa [zi] using this
        rw [jT,qm]
        refine ⟨ob,_,rfl,by omega,hnb7,?_⟩
        refine zJ.2 ⟨_,_,rfl,zj.2 rfl,zJ.2 ⟨_,_,rfl,zj.2 rfl,zJ.2 ⟨_,_,rfl,?_,zJ.2 ⟨_,_,rfl,?_,zJ.2 ⟨_,_,rfl,?_,zM.2 rfl⟩⟩⟩⟩⟩
        ·rw [ni]
         refine (tp.keep fun g o b5 ho=>keepA g o ho (by have:=rV.out g b5;omega) (by have:=rV.out g b5;omega)).rep (fun g b5=>by have:=rV.out g b5;omega) ?_
         exact (Rep.keep fun i x hi hx=>⟨by omega,keepA i x hx (by omega) (by omega)⟩).2 _ _ hrsA
        ·exact (Rep.keep fun i x hi hx=>⟨by have:=hi;omega,keepA i x hx (by have:=hi;omega) (by have:=hi;omega)⟩).1 _ _ hv5A
        ·exact (Rep.keep fun i x hi hx=>⟨by have:=hi;omega,nE i x hx (by have:=hi;omega) (by have:=hi;omega)⟩).1 _ _ hv6
theorem body_step (d:Nat) (hd:d<=1000) (ih:∀ d',d=d'+1->yW d'):yW d:=by
 intro sr left levels l lv F w hg hn hs hl hr hh cT hF
 have IH:=g_ ih;clear ih
 have HF:=g_ hF;clear hF
 have c1:=hs.cell1
 have f1:=hs.free 1
 have lsr:=ju hs
 have lsr1:sr<w.heap.size+1:=by omega
 have lsr2:sr<w.heap.size+1+1:=by omega
 obtain ⟨a0,k0,elv⟩:∃ a k,lv=.slice a levels.length k:=by obtain ⟨a,k,e,_⟩:=zF cT;exact ⟨a,k,e⟩
 subst elv
 rcases left with _ | left
 ·clear IH
  go_enter Tryz.func61,Tryz.ntmps61
  go_wp2_with fail
  go_ret
  refine jY.no (by unfold rdB;rfl) (((((But.refl _ _).setS 1 _).alloc _).alloc _).alloc _) (((hs.put1).alloc _).alloc _ |>.alloc _)
 by_cases sC:∃ d' r1 v t,d=d'+1/\Cut [40] l r1/\lvl (zY r1) levels.length=some v/\levels[v]? = some t
 ·obtain ⟨d',r1,v,t,rfl,h1,h2,h3⟩:=sC
  exact body_ask d' hd (IH.out d' rfl) sr left levels l _ F w hg hn hs hl hr hh cT HF.out r1 v t h1 h2 h3
 have ij:=g_ sC;clear sC IH
 go_enter Tryz.func61,Tryz.ntmps61
 go_wp2_with fail
 obtain ⟨W0,cp⟩:=zzM (((((w.setCell ⟨sr,1,none⟩ (.int .i64 left)).alloc (.cells #[.pointer (some ⟨sr,0,none⟩)] 117)).alloc (.cells #[.slice a0 levels.length k0] 86)).alloc (.cells #[.int .i64 d] 3)))
 rw [<- cp]
 have fM:But (fun x=>x=sr) w W0:=by subst cp;exact ((((But.refl _ _).setS 1 _).alloc _).alloc _).alloc _
 have dO:kQ sr [.int .i64 left] 119 l W0:=by subst cp;exact ((hs.put1).alloc _).alloc _ |>.alloc _
 have rH:pV w.heap.size sr (.slice a0 levels.length k0) d W0:=by subst cp;refine ⟨?_,?_,?_⟩ <;> go_simp
 have z0:W0.heap.size=w.heap.size+3:=by subst cp;simp
 have hb0':=fM
 clear cp c1 f1
 have n1:w.heap.size≠sr:=by omega
 have n2:w.heap.size+1≠sr:=by omega
 have n3:w.heap.size+1+1≠sr:=by omega
 rcases zq [40] l with h1 | ⟨r1,h1⟩
 ·refine (qd dO h1).mono ?_
  rintro en w1 ⟨rfl,bU,b8⟩
  obtain ⟨x1,x2,x3⟩:=rH.but bU (fun i e=>by subst e;omega)
  go_wp2_with fail
  refine (v_ _ _ _ _ _ b8 hr).mono ?_
  rintro en w2 ⟨rfl,bY,cv⟩
  have hb:=(fM.trans bU).trans bY
  have hm:rdB d levels (left+1) l=(if zY l=[116] then some (Bd.leaf 116,zV l,left) else if zY l=[102] then some (.leaf 102,zV l,left) else if zY l=[117] then some (.leaf 117,zV l,left) else none):=by
   unfold rdB;simp only [h1.out]
  have HM:=g_ hm;clear hm
  go_wp2_with fail
  ·have hw:zY l=[116]:=by assumption
   go_ret
   exact gW (o:=rdB d levels (left+1) l) (x:=116) rfl (by rw [HM.out,if_pos hw]) hb cv
  ·have hw:zY l=[102]:=by assumption
   go_ret
   exact gW (o:=rdB d levels (left+1) l) (x:=102) rfl (by rw [HM.out,if_neg (by rw [hw];decide),if_pos hw]) hb cv
  ·have hw:((!zY l == [116])=true/\(!zY l == [102])=true)/\(!zY l == [117])=true:=by assumption
   go_ret
   simp only [Bool.not_eq_true',beq_eq_false_iff_ne] at hw
   exact jY.no (by rw [HM.out,if_neg hw.1.1,if_neg hw.1.2,if_neg hw.2]) hb cv
  ·have hw:((!zY l == [116])=false\/(!zY l == [102])=false)\/(!zY l == [117])=false:=by assumption
   have sI:¬ zY l=[116]:=by assumption
   have hw2:¬ zY l=[102]:=by assumption
   have hw3:zY l=[117]:=by simpa [sI,hw2] using hw
   go_ret
   exact gW (o:=rdB d levels (left+1) l) (x:=117) (by rw [hw3]) (by rw [HM.out,if_neg sI,if_neg hw2,if_pos hw3]) hb cv
 refine (qX dO h1).mono ?_
 rintro en w1 ⟨rfl,bU,b8⟩
 have eE:=rH.but bU (fun i e=>by subst e;omega)
 obtain ⟨x1,x2,x3⟩:=eE
 go_wp2_with fail
 refine (v_ _ _ _ _ _ b8 (hr.mono h1.le)).mono ?_
 rintro en w2 ⟨rfl,bY,cv⟩
 have cW:=hr.mono h1.le
 have hb:=(fM.trans bU).trans bY
 have dB:=(rH.but bU (fun i e=>by subst e;omega)).but bY (fun i e=>by subst e;omega)
 clear x1 x2 x3
 have sK:=hg.but hb (fun i e=>by subst e;exact hn)
 have dZ:=cW.mono (show (zY r1).length<=r1.length by have:=j6 r1;omega)
 have z2:=hb.size
 have z2':w.heap.size+3<=w2.heap.size:=by have:=bU.size;have:=bY.size;omega
 clear bU bY dO fM hb0' rH b8
 have HM:=g_ (xV d levels left h1.out)
 go_wp2_with fail
 cases eK:lvl (zY r1) levels.length with
 | none =>
   have HN:rdB d levels (left+1) l=none:=by rw [HM.out,eK]
   rcases lvl_no eK with cB | ⟨v,cK,hv⟩
   ·refine (atoi_no _ _ dZ sK cB).mono ?_
    rintro en w3 ⟨v,t,p,rfl,bH⟩
    have rY:=g_ HN;clear HN eK cB
    go_wp2_with fail
    go_ret
    exact jY.no rY.out (hb.trans (But.ofBelow bH)) ((bH.block sr (by omega)).trans cv)
   ·refine (atoi_ok _ _ dZ v cK).mono ?_
    rintro en w3 ⟨rfl,bH⟩
    have rY:=g_ HN;clear HN eK
    have fC:=sK.below bH
    have cc:=(bH.block sr (by omega)).trans cv
    have rG:=dB.but (But.ofBelow (m:=fun _=>False) bH) (fun i e=>e.elim)
    have dN:=g_ cK;clear cK
    go_wp2_with fail
    refine (itoa_of dN.out w3 fC).mono ?_
    rintro en w4 ⟨rfl,bC⟩
    have z3:=bH.size
    have b7:=(bC.block sr (by omega)).trans cc
    obtain ⟨x1,x2,x3⟩:=rG.but (But.ofBelow (m:=fun _=>False) bC) (fun i e=>e.elim)
    have bS:=(hb.trans (But.ofBelow bH)).trans (But.ofBelow bC)
    rcases hv with hv | ⟨hv,nM⟩ | ⟨hv,nM,hv3⟩
    ·have hq:(Lib.itoa v == zY r1)=false:=by rw [beq_eq_false_iff_ne];exact hv
     clear hv
     go_wp2_with fail
     go_ret
     exact jY.no rY.out bS b7
    ·have hq:(Lib.itoa v == zY r1)=true:=by rw [beq_iff_eq];exact hv
     clear hv
     go_wp2_with fail
     go_ret
     exact jY.no rY.out bS b7
    ·have hq:(Lib.itoa v == zY r1)=true:=by rw [beq_iff_eq];exact hv
     clear hv
     go_wp2_with fail
     go_ret
     exact jY.no rY.out bS b7
 | some v =>
   obtain ⟨fI,cK,fB⟩:=lvl_lt eK
   have aR:d=0:=by
    rcases Nat.eq_zero_or_pos d with h | h
    ·exact h
    ·exact absurd ⟨d-1,r1,v,levels[v],by omega,h1,eK,by simp [fI]⟩ ij.out
   have HD:=g_ aR;clear aR ij
   refine (atoi_ok _ _ dZ (v:Int) cK).mono ?_
   rintro en w3 ⟨rfl,bH⟩
   have fC:=sK.below bH
   have cc:=(bH.block sr (by omega)).trans cv
   have rG:=dB.but (But.ofBelow (m:=fun _=>False) bH) (fun i e=>e.elim)
   have dN:=g_ cK;clear cK
   have fG:=g_ eK;clear eK
   have rn:=g_ fB;clear fB
   go_wp2_with fail
   refine (itoa_of dN.out w3 fC).mono ?_
   rintro en w4 ⟨rfl,bC⟩
   have z3:=bH.size
   have z4:=bC.size
   have b7:=(bC.block sr (by omega)).trans cc
   have hg4:=fC.below bC
   have tB:=rG.but (But.ofBelow (m:=fun _=>False) bC) (fun i e=>e.elim)
   obtain ⟨x1,x2,x3⟩:=tB
   have bS:=(hb.trans (But.ofBelow bH)).trans (But.ofBelow bC)
   have hq:(Lib.itoa (v:Int) == zY r1)=true:=by rw [beq_iff_eq];exact rn.out
   have bP:levels.length<=10000:=by have:=hh.2;omega
   clear hb bH bC cv dB rG cc sK fC
   have eV:((d:Int) == 0)=true:=by rw [beq_iff_eq];have:=HD.out;omega
   go_wp2_with fail
   go_ret
   exact jY.no (by rw [HM.out,fG.out];have:=HD.out;subst this;rfl) bS b7
theorem body_any (d:Nat) (hd:d<=1000):yW d:=by
 induction d with
 | zero=>exact body_step 0 hd (fun d' h=>by omega)
 | succ d ih=>exact body_step (d+1) hd (fun d' h=>by obtain rfl:d=d':=by omega
                                                     exact ih (by omega))
def jH (t:Ty) (l:Bs):Option Bd:=match rdB 100 t.args 200 l with
 | some (b,[],_)=>some b
 | _=>none
def RPost {α:Type} (enc:α->DV) (w:World) (o:Option α) (en:Ending) (w':World):Prop :=
 ∃ v,en=.returned v/\Below w.heap.size w w'/\(o=none->v=.pointer none)/\(∀ b,o=some b->Rep (w.heap.size<=·) w' (enc b) v)
theorem handOk_of {t:Ty} (h:zX t<=15):qV 100 t.args:=by
 have h1:=kw t
 have bP:∀ ts:List Ty,ts.length<=zR ts:=by
  intro ts;induction ts with
  | nil=>simp
  | cons x xs ih=>simp [zR];omega
 have cN:∀ ts:List Ty,∀ a∈ts,1+zX a<=zR ts:=by
  intro ts
  induction ts with
  | nil=>simp
  | cons x xs ih =>
    intro a ha
    rcases List.mem_cons.1 ha with rfl | ha
    ·simp [zR]
    ·have:=ih a ha;simp [zR];omega
 refine ⟨fun a ha=>?_,?_⟩
 ·have:=cN _ a ha;omega
 ·have:=bP t.args;omega
theorem wQ (F:Nat->Prop) (t:Ty) (l:Bs) (kv:Value) (w:World) (hg:jA w) (hk:Rep F w (jd t) kv) (ht:zX t<=15) (hl:Lim l.length) :
 Calls Tryz.prog 38 #[kv,str l] w (RPost jT w (jH t l)):=by
 obtain ⟨bk,sk,rfl,hFk,hc,hs⟩:=za hk
 obtain ⟨a,c,e,_⟩:=zF hs
 subst e
 have c1:w.cell? ⟨bk,0,none⟩=some (.slice a t.args.length c):=by simp [World.cell?,hc]
 have lk:=zZ hc
 have HC:=g_ hc;clear hc
 go_enter Tryz.func38,Tryz.ntmps38
 go_wp2_with fail
 have dO:kQ w.heap.size [.int .i64 (200:Nat)] 119 l (w.alloc (.cells #[str l,.int .i64 200] 119)):=zO _ _
 have mr:Rep (fun b=>b<w.heap.size) (w.alloc (.cells #[str l,.int .i64 200] 119)) (.sl 45 1 t.args.length (kI t.args)) (.slice a t.args.length c) :=
  (Rep.keep fun b o _ ho=>⟨zZ ho,zH ho⟩).1 _ _ hs
 refine (body_any 100 (by omega) w.heap.size 200 t.args l _ _ _ (hg.below ((bZ _ _).alloc (hG _) _)) (hg.new (hG _)) dO (by omega) hl (handOk_of ht) mr (fun b hb=>by have:=hb;omega)).mono ?_
 rintro en w1 ⟨v,r',left',rfl,bU,b8,bz,b6⟩
 have hb:Below w.heap.size w w1:=((bZ w.heap.size w).alloc (hG _) _).trans (bU.toBelow (by simp) (fun i hi e=>by omega))
 have c_:=b8.cell
 have hz:w.heap.size<w1.heap.size:=ju b8
 cases hq:rdB 100 t.args 200 l with
 | none =>
   obtain rfl:=bz hq
   have HQ:=g_ hq;clear hq bz b6
   go_wp2_with fail
   go_ret
   exact ⟨_,rfl,hb,fun _=>rfl,fun b h=>by simp [jH,HQ.out] at h⟩
 | some x =>
   obtain ⟨b,rest,left⟩:=x
   obtain ⟨rfl,_,hv⟩:=b6 _ _ _ hq
   have HQ:=g_ hq;clear hq bz b6
   obtain ⟨av,ev⟩:=ke hv
   subst ev
   cases r' with
   | cons x xs =>
     have hne:(!(x::xs).isEmpty)=true:=rfl
     go_wp2_with fail
     go_ret
     exact ⟨_,rfl,hb,fun _=>rfl,fun b h=>by simp [jH,HQ.out] at h⟩
   | nil =>
     go_wp2_with fail
     go_ret
     have HM:jH t l=some b:=by simp [jH,HQ.out]
     refine ⟨_,rfl,hb,fun h=>by simp [HM] at h,fun b' h=>?_⟩
     rw [HM] at h;simp at h;subst h
     exact (Rep.keep fun b o h ho=>⟨by have:=h;simp at this;omega,ho⟩).1 _ _ hv
def yg (s l:Bs):Option (Ty×Bd):=do
 let t<-jx s
 let b<-jH t l
 some (t,b)
def TSPost (w:World) (s l:Bs) (en:Ending) (w':World):Prop :=
 ∃ kv bv,en=.returned (.tuple #[kv,bv])/\Below w.heap.size w w'/\(yg s l=none->bv=.pointer none) /\
   (∀ t b,yg s l=some (t,b)->Rep (w.heap.size<=·) w' (jd t) kv/\Rep (w.heap.size<=·) w' (jT b) bv)
theorem rdKind_le {s:Bs} {t:Ty} (h:jx s=some t):zX t<=15:=by
 unfold jx at h
 split at h
 ·split at h
  ·rename_i dL;simp at h;subst h;exact dL
  ·simp at h
 ·simp at h
theorem uG (s l:Bs) (w:World) (hg:jA w) (hs:Lim s.length) (hl:Lim l.length) :
 Calls Tryz.prog 16 #[str s,str l] w (TSPost w s l):=by
 go_enter Tryz.func16,Tryz.ntmps16
 go_wp2_with fail
 refine (xK s w hs).mono ?_
 rintro en w1 ⟨kv,rfl,bU,bz,b6⟩
 cases hq:jx s with
 | none =>
   obtain rfl:=bz hq
   have HQ:=g_ hq;clear hq bz b6
   go_wp2_with fail
   go_ret2
   exact ⟨_,_,rfl,bU,fun _=>rfl,fun t b h=>by simp [yg,HQ.out] at h⟩
 | some t =>
   have hv:=b6 _ hq
   have ht:=rdKind_le hq
   have HQ:=g_ hq;clear hq bz b6
   obtain ⟨ak,_,ek,_⟩:=za hv
   subst ek
   go_wp2_with fail
   refine (wQ _ t l _ w1 (hg.below bU) hv ht hl).mono ?_
   rintro en w2 ⟨bv,rfl,bY,cr,ef⟩
   go_wp2_with fail
   go_ret2
   refine ⟨_,_,rfl,zzT bU bY,fun h=>cr ?_,fun t' b h=>?_⟩
   ·cases hr:jH t l with
    | none=>rfl
    | some b=>simp [yg,HQ.out,hr] at h
   ·cases hr:jH t l with
    | none=>simp [yg,HQ.out,hr] at h
    | some b' =>
      simp [yg,HQ.out,hr] at h
      obtain ⟨rfl,rfl⟩:=h
      exact ⟨Rep.below bY (fun _ h=>h) hv,(Rep.keep fun i o hi ho=>⟨by have:=bU.size;have:=hi;omega,ho⟩).1 _ _ (ef _ hr)⟩
theorem encBs_at (ts:List Bd):∀ k:Nat,(jm ts)[k]? = ts[k]?.map jT:=by
 induction ts with
 | nil=>intro k;simp [jm]
 | cons t ts ih=>intro k;cases k <;> simp [jm,ih]
theorem oneCell_encBs {F:Nat->Prop} {w:World} (ts:List Bd):∀ us,zC F w (jm ts) us->∀ u∈us,u.oneCell'=true:=by
 induction ts with
 | nil=>intro us h;rw [jm,zM] at h;subst h;simp
 | cons t ts ih =>
   intro us h u hu
   rw [jm,zJ] at h
   obtain ⟨v,vs',rfl,h1,h2⟩:=h
   rcases List.mem_cons.1 hu with rfl | hu
   ·obtain ⟨a,rfl⟩:=ke h1;rfl
   ·exact ih _ h2 u hu
theorem leaf_open {F:Nat->Prop} {w:World} {c:UInt8} {v:Value} (h:Rep F w (jT (.leaf c)) v) :
 ∃ b sl,v=.pointer (some ⟨b,0,none⟩)/\F b/\w.heap[b]? = some (.cells #[str [c],.int .i64 (0:Nat),sl,.pointer none,.pointer none] 127 (0,0))/\Rep F w (.sl 46 1 0 []) sl:=by
 rw [jT,qm] at h
 obtain ⟨b,cs,hv,hb,hc,hr⟩:=h
 simp only [zJ,zM,zj] at hr
 obtain ⟨_,_,e1,rfl,_,_,rfl,rfl,sl,_,rfl,h3,_,_,rfl,rfl,_,_,rfl,rfl,rfl⟩:=hr
 have:cs=#[str [c],.int .i64 (0:Nat),sl,.pointer none,.pointer none]:=by apply Array.ext';simpa using e1
 subst this
 exact ⟨b,sl,hv,hb,hc,h3⟩
theorem gr {F:Nat->Prop} {w:World} {v:Nat} {ss:List Bd} {y n:Bd} {p:Value} (h:Rep F w (jT (.ask v ss y n)) p) :
 ∃ b sl yv nv,p=.pointer (some ⟨b,0,none⟩)/\F b/\w.heap[b]? = some (.cells #[str [],.int .i64 v,sl,yv,nv] 127 (0,0)) /\
   Rep F w (.sl 46 1 ss.length (jm ss)) sl/\Rep F w (jT y) yv/\Rep F w (jT n) nv:=by
 rw [jT,qm] at h
 obtain ⟨b,cs,hv,hb,hc,hr⟩:=h
 simp only [zJ,zM,zj] at hr
 obtain ⟨_,_,e1,rfl,_,_,rfl,rfl,sl,_,rfl,h3,yv,_,rfl,h4,nv,_,rfl,h5,rfl⟩:=hr
 have:cs=#[str [],.int .i64 v,sl,yv,nv]:=by apply Array.ext';simpa using e1
 subst this
 exact ⟨b,sl,yv,nv,hv,hb,hc,h3,h4,h5⟩
theorem wi (F:Nat->Prop) (w:World) (c:UInt8) (v:Value) (h:Rep F w (jT (.leaf c)) v) :
 Calls Tryz.prog 63 #[v] w fun en w'=>en=.returned (.bool false)/\w'=w:=by
 obtain ⟨b,sl,rfl,_,hc,_⟩:=leaf_open h
 have c1:w.cell? ⟨b,0,none⟩=some (.string ⟨#[c]⟩):=by simp [World.cell?,hc]
 clear hc h
 go_enter Tryz.func63,Tryz.ntmps63
 go_wp2_with fail
 go_ret
 exact ⟨rfl,rfl⟩
theorem gT (F:Nat->Prop) (w:World) (v:Nat) (ss:List Bd) (y n:Bd) (p:Value) (h:Rep F w (jT (.ask v ss y n)) p) :
 Calls Tryz.prog 63 #[p] w fun en w'=>en=.returned (.bool true)/\w'=w:=by
 obtain ⟨b,sl,yv,nv,rfl,_,hc,_⟩:=gr h
 have c1:w.cell? ⟨b,0,none⟩=some (.string ⟨#[]⟩):=by simp [World.cell?,hc]
 clear hc h
 go_enter Tryz.func63,Tryz.ntmps63
 go_wp2_with fail
 go_ret
 exact ⟨rfl,rfl⟩
mutual
def j0:Ty->DV
 | .mk ts=>.sl 35 1 ts.length (qT ts)
def qT:List Ty->List DV
 | []=>[]
 | t::ts=>j0 t::qT ts
end
def jZ (L:Nat) (w:World) (o:Option (Ty×Bs)) (en:Ending) (w':World):Prop :=
 ∃ (v:Value) (k:Int) (t:Ty),en=.returned (.tuple #[.agg #[v],.int .i64 k])/\Below w.heap.size w w'/\Rep (w.heap.size<=·) w' (j0 t) v/\(o=none->k = -1/\t=.mk [])/\(∀ t' rest,o=some (t',rest)->k=(L:Int)-rest.length/\t=t')
theorem Tryz.infoS:(Tryz.prog.info? 35).map (fun i=>(i.zero,i.size,i.bytes))=some (some (.agg #[.slice none 0 0]),1,24):=by kernel_rfl
theorem jh (ts:List Ty):∀ k:Nat,(qT ts)[k]? = ts[k]?.map j0:=by
 induction ts with
 | nil=>intro k;simp [qT]
 | cons t ts ih=>intro k;cases k <;> simp [qT,ih]
theorem encSs_append (a b:List Ty):qT (a++b)=qT a++qT b:=by
 induction a with
 | nil=>rfl
 | cons t ts ih=>simp [qT,ih]
theorem qA (t:Ty):j0 t=.sl 35 1 t.args.length (qT t.args):=by cases t;rw [j0];rfl
theorem zt {F:Nat->Prop} {w:World} {t:Ty} {v:Value} (h:Rep F w (j0 t) v):∃ a c,v=.slice a t.args.length c:=by
 rw [qA] at h;obtain ⟨a,c,e,_⟩:=zF h;exact ⟨a,c,e⟩
theorem vm {F:Nat->Prop} {w:World} (ts:List Ty):∀ us,zC F w (qT ts) us->∀ u∈us,u.oneCell'=true:=by
 induction ts with
 | nil=>intro us h;rw [qT,zM] at h;subst h;simp
 | cons t ts ih =>
   intro us h u hu
   rw [qT,zJ] at h
   obtain ⟨v,vs',rfl,h1,h2⟩:=h
   rcases List.mem_cons.1 hu with rfl | hu
   ·obtain ⟨a,c,rfl⟩:=zt h1;rfl
   ·exact ih _ h2 u hu
theorem wP (F:Nat->Prop) (w:World):Rep F w (j0 (.mk [])) (.slice none 0 0):=by
 rw [qA];exact kD.2 ⟨rfl,none,0,rfl,hG _,fun _=>rfl,.inl rfl⟩
theorem jZ.no {L:Nat} {w w':World} {o:Option (Ty×Bs)} (ho:o=none) (hb:Below w.heap.size w w') :
 jZ L w o (.returned (.tuple #[.agg #[.slice none 0 0],.int .i64 (-1)])) w' :=
 ⟨_,_,.mk [],rfl,hb,wP _ _,fun _=>⟨rfl,rfl⟩,fun _ _ h=>by rw [ho] at h;simp at h⟩
theorem jZ.yes {L:Nat} {w w':World} {o:Option (Ty×Bs)} {t:Ty} {rest:Bs} {v:Value} {k:Int} (ho:o=some (t,rest)) (hk:k=(L:Int)-rest.length) (hb:Below w.heap.size w w') (hv:Rep (w.heap.size<=·) w' (j0 t) v) :
 jZ L w o (.returned (.tuple #[.agg #[v],.int .i64 k])) w' :=
 ⟨_,_,t,rfl,hb,hv,fun h=>by rw [ho] at h;simp at h,fun _ _ h=>by rw [ho] at h;simp at h;obtain ⟨rfl,rfl⟩:=h;exact ⟨hk,rfl⟩⟩
def ge (l:Bs) (d:Nat):Prop:=∀ (i:Nat) (w:World),i<=l.length->d<=21 ->
    Calls Tryz.prog 31 #[str l,.int .i64 i,.int .i64 d] w (jZ l.length w (rdS (21-d) (l.drop i)))
theorem wt (l:Bs) (hl:Lim l.length) (d:Nat) (ih:d<=20->ge l (d+1)):ge l d:=by
 intro i w hi hd
 have ct:=hl.le
 have IH:=g_ ih;clear ih
 by_cases hd20:d<=20
 rotate_left
 ·have h0:Hid (21-d=0):=by show 21-d=0;omega
  go_enter Tryz.func31,Tryz.ntmps31
  go_wp2_with fail
  refine bodyPost_ret (v:=.tuple #[.agg #[.slice none 0 0],.int .i64 (-1)]) (by simp [results,Tryz.results31,go_sem]) rfl ?_
  exact jZ.no (by rw [h0.out];rfl) ((bZ _ _).alloc (hG _) _)
 obtain ⟨n,hn⟩:∃ n,21-d=n+1:=⟨20-d,by omega⟩
 have IH':=g_ (IH.out hd20);clear IH
 have HN:=g_ hn
 have rY:Hid (21-(d+1)=n):=by show 21-(d+1)=n;omega
 clear hn
 by_cases bX:i<l.length
 rotate_left
 ·go_enter Tryz.func31,Tryz.ntmps31
  go_wp2_with fail
  refine bodyPost_ret (v:=.tuple #[.agg #[.slice none 0 0],.int .i64 (-1)]) (by simp [results,Tryz.results31,go_sem]) rfl ?_
  exact jZ.no (by rw [HN.out,rdS_no (yF (by omega)),yF (by omega)];rfl) ((bZ _ _).alloc (hG _) _)
 by_cases hb:l[i]=98
 ·have f1:=vy bX (n:=98) (by decide) hb
  have hc:Cut [98] (l.drop i) (l.drop (i+1)):=by unfold Cut;rw [j_ bX,if_pos hb]
  clear hb
  go_enter Tryz.func31,Tryz.ntmps31
  go_wp2_with fail
  refine bodyPost_ret (v:=.tuple #[.agg #[.slice none 0 0],.int .i64 ((i:Int)+1)]) (by simp [results,Tryz.results31,go_sem]) rfl ?_
  exact jZ.yes (t:=.mk []) (by rw [HN.out,rdS_b hc]) (by simp;omega) ((bZ _ _).alloc (hG _) _) (wP _ _)
 have f1:=jU bX (n:=98) (by decide) hb
 have hc:yY [98] (l.drop i):=by unfold yY;rw [j_ bX,if_neg hb]
 have HM:=g_ (rdS_no (n:=n) hc)
 clear hb hc
 by_cases h3:i+3<=l.length
 rotate_left
 ·have h3':(l.length:Int)<(i:Int)+3:=by omega
  have da:Hid (cut [40,62,32] (l.drop i)=none):=by
   show cut [40,62,32] (l.drop i)=none
   cases hq:cut [40,62,32] (l.drop i) with
   | none=>rfl
   | some r=>have:=(cut_drop hq).2;simp at this;omega
  go_enter Tryz.func31,Tryz.ntmps31
  go_wp2_with fail
  refine bodyPost_ret (v:=.tuple #[.agg #[.slice none 0 0],.int .i64 (-1)]) (by simp [results,Tryz.results31,go_sem]) rfl ?_
  exact jZ.no (by rw [HN.out,HM.out,da.out];rfl) ((bZ _ _).alloc (hG _) _)
 have h3':(i:Int)+3<=(l.length:Int):=by omega
 have hx:(l.take (i+3)).drop i=(l.drop i).take 3:=by rw [List.drop_take];congr 1;omega
 rcases zq [40,62,32] (l.drop i) with h4 | ⟨r1,h4⟩
 ·have f2:(((⟨l.toArray⟩:ByteArray).extract i (i+3)).toList == [40,62,32])=false:=by
   rw [ext_list,hx,beq_eq_false_iff_ne]
   intro e
   have h5:=h4.out
   have hp:[40,62,32].isPrefixOf (l.drop i)=true:=by rw [List.isPrefixOf_iff_prefix,<- e];exact List.take_prefix _ _
   unfold cut at h5;rw [if_pos hp] at h5;simp at h5
  clear hx
  go_enter Tryz.func31,Tryz.ntmps31
  go_wp2_with fail
  refine bodyPost_ret (v:=.tuple #[.agg #[.slice none 0 0],.int .i64 (-1)]) (by simp [results,Tryz.results31,go_sem]) rfl ?_
  exact jZ.no (by rw [HN.out,HM.out,h4.out];rfl) ((bZ _ _).alloc (hG _) _)
 have f2:(((⟨l.toArray⟩:ByteArray).extract i (i+3)).toList == [40,62,32])=true:=by
  rw [ext_list,hx,beq_iff_eq]
  have h5:=h4.out
  unfold cut at h5;split at h5
  ·rename_i hp
   exact (List.prefix_iff_eq_take.1 (List.isPrefixOf_iff_prefix.1 hp)).symm
  ·simp at h5
 have cW:=(cut_drop h4.out).1
 have hr1':r1=l.drop (i+3):=cW
 subst hr1'
 clear hx cW
 go_enter Tryz.func31,Tryz.ntmps31
 go_wp2_with fail
 rw [show (i:Int)+3=((i+3:Nat):Int) from by omega,show (d:Int)+1=((d+1:Nat):Int) from by omega]
 refine (IH'.out (i+3) _ h3 (by omega)).mono ?_
 rintro en w1 ⟨v1,k1,t1,rfl,bU,dm,bz,b6⟩
 rw [rY.out] at bz b6
 have dS:Below w.heap.size w w1:=((bZ w.heap.size w).alloc (hG _) _).trans (bU.mono (by simp))
 have z1:=bU.size
 have mH:w.heap.size<w1.heap.size:=by simp at z1;omega
 have bA:w1.cell? ⟨w.heap.size,0,none⟩=some (.slice none 0 0):=by rw [bU.cell (by simp)];simp
 have cM:w1.frozen? ⟨w.heap.size,0,none⟩=false:=by rw [bU.frozen (by simp)];simp
 obtain ⟨a1,c1,e1⟩:=zt dm
 subst e1
 cases hq:rdS n (l.drop (i+3)) with
 | none =>
   obtain ⟨rfl,rfl⟩:=bz hq
   have HQ:=g_ hq;clear hq bz b6
   go_wp2_with fail
   refine bodyPost_ret (v:=.tuple #[.agg #[.slice none 0 0],.int .i64 (-1)]) (by simp [results,Tryz.results31,go_sem,mH,qj bA]) rfl ?_
   exact jZ.no (by rw [HN.out,HM.out,h4.out];simp [HQ.out]) (by repeat (first | exact dS | refine Below.alloc ?_ (by simp;omega) _ | refine Below.setCell ?_ (by simp) _ | refine Below.drew ?_))
 | some x =>
   obtain ⟨ta,r2⟩:=x
   obtain ⟨rfl,rfl⟩:=b6 _ _ hq
   have dI:=vK (po hq)
   have cJ:=(rdS_le hq).1
   have HQ:=g_ hq;clear hq bz b6
   obtain ⟨e,he⟩:=zzM (l.length-r2.length)
   have ml:e<=l.length:=by omega
   have hr2l:r2.length<=l.length:=by simp at cJ;omega
   have hk:(l.length:Int)-(r2.length:Int)=(e:Int):=by omega
   rw [<- he] at dI
   rw [hk]
   have HSF:=g_ dI
   clear hk dI cJ
   by_cases aM:e<l.length
   rotate_left
   ·have ns:Hid (cut [32] r2=none):=by show cut [32] r2=none;rw [HSF.out];exact yF (by omega)
    have HE:=g_ he;clear he
    go_wp2_with fail
    refine bodyPost_ret (v:=.tuple #[.agg #[.slice none 0 0],.int .i64 (-1)]) (by simp [results,Tryz.results31,go_sem,mH,qj bA]) rfl ?_
    exact jZ.no (by rw [HN.out,HM.out,h4.out];simp [HQ.out,ns.out]) (by repeat (first | exact dS | refine Below.alloc ?_ (by simp;omega) _ | refine Below.setCell ?_ (by simp) _ | refine Below.drew ?_))
   have HE:=g_ he;clear he
   by_cases bF:l[e]=32
   rotate_left
   ·have f5:=qv aM (n:=32) (by decide) bF
    have ns:Hid (cut [32] r2=none):=by show cut [32] r2=none;rw [HSF.out,j_ aM,if_neg bF]
    clear bF
    go_wp2_with fail
    refine bodyPost_ret (v:=.tuple #[.agg #[.slice none 0 0],.int .i64 (-1)]) (by simp [results,Tryz.results31,go_sem,mH,qj bA]) rfl ?_
    exact jZ.no (by rw [HN.out,HM.out,h4.out];simp [HQ.out,ns.out]) (by repeat (first | exact dS | refine Below.alloc ?_ (by simp;omega) _ | refine Below.setCell ?_ (by simp) _ | refine Below.drew ?_))
   have f5:=qg aM (n:=32) (by decide) bF
   have g1:decide ((e:Int)<0)=false:=by rw [decide_eq_false_iff_not];omega
   have g2:decide (l.length<=e)=false:=by rw [decide_eq_false_iff_not];omega
   have ns:Hid (cut [32] r2=some (l.drop (e+1))):=by show cut [32] r2=_;rw [HSF.out,j_ aM,if_pos bF]
   clear bF
   go_wp2_with fail
   rw [show (e:Int)+1=((e+1:Nat):Int) from by omega,show (d:Int)+1=((d+1:Nat):Int) from by omega]
   refine (IH'.out (e+1) _ aM (by omega)).mono ?_
   rintro en w2 ⟨v2,k2,t2,rfl,bY,nM,cr,ef⟩
   rw [rY.out] at cr ef
   obtain ⟨a2,c2,e2⟩:=zt nM
   subst e2
   have z2:=bY.size
   rw [zQ] at z2
   have eo:Below w.heap.size w w2:=(dS.alloc dS.size _).trans (bY.mono (by rw [zQ];omega))
   have rW:w.heap.size<w2.heap.size:=by omega
   have hz2':w1.heap.size<w2.heap.size:=by omega
   have cu:w2.cell? ⟨w.heap.size,0,none⟩=some (.slice none 0 0):=by rw [bY.cell (by simp;omega)];exact zK bA
   have fb:w2.frozen? ⟨w.heap.size,0,none⟩=false:=by rw [bY.frozen (by simp;omega)];rw [World.frozen?_of_block (w:=w1) (Below.heap_alloc _ _ _ mH)];exact cM
   have hcellA:w2.cell? ⟨w1.heap.size,0,none⟩=some (.slice a1 t1.args.length c1):=by rw [bY.cell (by simp)];simp
   have fJ:Rep (w1.heap.size<=·) w2 (j0 t1) (.slice a1 t1.args.length c1)\/True:=.inr trivial
   clear fJ bA cM
   cases hq:rdS n (l.drop (e+1)) with
   | none =>
     obtain ⟨rfl,rfl⟩:=cr hq
     have mL:=g_ hq;clear hq cr ef
     go_wp2_with fail
     refine bodyPost_ret (v:=.tuple #[.agg #[.slice none 0 0],.int .i64 (-1)]) (by simp [results,Tryz.results31,go_sem,rW,qj cu]) rfl ?_
     exact jZ.no (by rw [HN.out,HM.out,h4.out];simp [HQ.out,ns.out,mL.out]) (by repeat (first | exact eo | refine Below.alloc ?_ (by simp;omega) _ | refine Below.setCell ?_ (by simp) _ | refine Below.drew ?_))
   | some x =>
     obtain ⟨tb,r4⟩:=x
     obtain ⟨rfl,rfl⟩:=ef _ _ hq
     have dI:=vK (po hq)
     have eR:=rdS_le hq
     have mL:=g_ hq;clear hq cr ef
     obtain ⟨e2,he⟩:=zzM (l.length-r4.length)
     have ml:e2<=l.length:=by omega
     have hr2l:r4.length<=l.length:=by simp at eR;omega
     have hk:(l.length:Int)-(r4.length:Int)=(e2:Int):=by omega
     have rF:t2.args.length<=16777216:=by simp at eR;omega
     rw [<- he] at dI
     rw [hk]
     have sF:=g_ dI
     clear hk dI eR
     have HE2:=g_ he;clear he
     by_cases mn:e2<l.length
     rotate_left
     ·have co:Hid (cut [41] r4=none):=by show cut [41] r4=none;rw [sF.out];exact yF (by omega)
      go_wp2_with fail
      refine bodyPost_ret (v:=.tuple #[.agg #[.slice none 0 0],.int .i64 (-1)]) (by simp [results,Tryz.results31,go_sem,rW,qj cu]) rfl ?_
      exact jZ.no (by rw [HN.out,HM.out,h4.out];simp [HQ.out,ns.out,mL.out,co.out]) (by repeat (first | exact eo | refine Below.alloc ?_ (by simp;omega) _ | refine Below.setCell ?_ (by simp) _ | refine Below.drew ?_))
     by_cases bW:l[e2]=41
     rotate_left
     ·have f6:=qv mn (n:=41) (by decide) bW
      have co:Hid (cut [41] r4=none):=by show cut [41] r4=none;rw [sF.out,j_ mn,if_neg bW]
      clear bW
      go_wp2_with fail
      refine bodyPost_ret (v:=.tuple #[.agg #[.slice none 0 0],.int .i64 (-1)]) (by simp [results,Tryz.results31,go_sem,rW,qj cu]) rfl ?_
      exact jZ.no (by rw [HN.out,HM.out,h4.out];simp [HQ.out,ns.out,mL.out,co.out]) (by repeat (first | exact eo | refine Below.alloc ?_ (by simp;omega) _ | refine Below.setCell ?_ (by simp) _ | refine Below.drew ?_))
     have f6:=qg mn (n:=41) (by decide) bW
     have g3:decide ((e2:Int)<0)=false:=by rw [decide_eq_false_iff_not];omega
     have g4:decide (l.length<=e2)=false:=by rw [decide_eq_false_iff_not];omega
     have co:Hid (cut [41] r4=some (l.drop (e2+1))):=by show cut [41] r4=_;rw [sF.out,j_ mn,if_pos bW]
     clear bW
     rw [qA] at nM
     obtain ⟨xs,rP,be⟩:=zp.ofRep nM (vm _)
     go_wp2_with (at_builtin;refine zu rfl _ _ 33 rfl 35 (.agg #[.slice none 0 0]) 1 24 Tryz.underlying33 Tryz.infoS rfl (by decide) _ 1 [.slice a1 t1.args.length c1] rfl ?c1 _ t2.args.length xs rfl ?c2 ?c3 ?c4 ?_)
     case c1=>exact Own.litAt #[.slice a1 t1.args.length c1] 1 _ (by simp) (by decide) rfl
     case c2=>exact be.keep fun _ _ h=>zK (zK h)
     case c3=>unfold maxLen;omega
     case c4=>omega
     intro a' c' w3 ho bH fC
     have bE:Below w2.heap.size w2 ((w2.alloc (.cells #[.slice a2 t2.args.length c2] 35)).alloc (.cells #[.slice a1 t1.args.length c1] 35)):=((bZ _ _).alloc (hG _) _).alloc (by simp) _
     have ca:Below w2.heap.size w2 w3:=bE.trans (bH.toBelow (by simp;omega) (fun i hi e=>by simp [Value.ownBlock] at e;omega))
     have si:Below w.heap.size w w3:=eo.trans (ca.mono (by omega))
     have sU:w3.cell? ⟨w.heap.size,0,none⟩=some (.slice none 0 0):=by rw [ca.cell rW];exact cu
     have hfree3:w3.frozen? ⟨w.heap.size,0,none⟩=false:=by rw [ca.frozen rW];exact fb
     have hv1W:Rep (w.heap.size<=·) w3 (j0 t1) (.slice a1 t1.args.length c1):=by
      refine (Rep.keep fun b o h ho=>⟨by have:=vz h;omega,?_⟩).1 _ _ dm
      rw [ca.block b (by have:=zZ ho;omega),bY.block b (by have:=zZ ho;simp;omega)]
      exact zH ho
     have hxsW:zC (w.heap.size<=·) w3 (qT t2.args) xs :=
      (Rep.keep fun b o h ho=>⟨by have:=vz h;omega,by rw [ca.block b (zZ ho)];exact ho⟩).2 _ _ rP
     have bG:∀ g,(Value.slice a' (1+t2.args.length) c').ownBlock=some g->w.heap.size<=g:=by
      intro g h
      rcases fC g h with h | h
      ·simp [Value.ownBlock] at h;omega
      ·have:=ca.size;omega
     have HG:=g_ bG;have HG3:=g_ fC;clear fC bG
     go_wp2_with fail
     refine bodyPost_ret (v:=.tuple #[.agg #[.slice a' (1+t2.args.length) c'],.int .i64 ((e2:Int)+1)]) (by simp [results,Tryz.results31,go_sem,qj sU]) rfl ?_
     refine jZ.yes (t:=jW t1 t2) (rest:=l.drop (e2+1)) (by rw [HN.out,HM.out,h4.out];simp [HQ.out,ns.out,mL.out,co.out]) (by simp;omega) (si.setCell (hG _) _) ?_
     refine (Rep.keep (w:=w3) (F:=fun b=>w.heap.size<=b/\b≠w.heap.size) fun b o h ho=>⟨h.1,?_⟩).1 _ _ ?_
     ·rw [bQ _ _ _ _ (by simpa using h.2)];exact ho
     rw [qA,show (jW t1 t2).args.length=1+t2.args.length from by simp [jW,Ty.args,Nat.add_comm]]
     refine ho.rep (fun g h=>⟨HG.out g h,?_⟩) ?_
     ·rcases HG3.out g h with h | h
      ·simp [Value.ownBlock] at h;omega
      ·have:=ca.size;omega
     ·show zC _ _ (j0 t1::qT t2.args) _
      refine zJ.2 ⟨_,_,rfl,?_,?_⟩
      ·refine (Rep.keep fun b o h ho=>⟨⟨by have:=vz h;omega,by have:=vz h;omega⟩,?_⟩).1 _ _ dm
       rw [ca.block b (by have:=zZ ho;omega),bY.block b (by have:=zZ ho;simp;omega)]
       exact zH ho
      ·exact (Rep.keep fun b o h ho=>⟨⟨by have:=vz h;omega,by have:=vz h;omega⟩,by rw [ca.block b (zZ ho)];exact ho⟩).2 _ _ rP
theorem l1Read_any (l:Bs) (hl:Lim l.length) (n:Nat):∀ d,21-d=n->ge l d:=by
 induction n with
 | zero=>exact fun d h=>wt l hl d (fun h'=>by omega)
 | succ n ih=>exact fun d h=>wt l hl d (fun h'=>ih (d+1) (by omega))
def wE (t:Ty):Prop:=∀ (F:Nat->Prop) (w:World) (v:Value),Rep F w (j0 t) v ->
 Calls Tryz.prog 32 #[.agg #[v]] w fun en w'=>en=.returned (.int .i64 (zX t))/\Below w.heap.size w w'
theorem kF (ts:List Ty):ts.length<=zR ts:=by
 induction ts with
 | nil=>simp
 | cons t ts ih=>simp [zR];omega
theorem l1Size_step (t:Ty) (hl:Lim (zX t)) (ih:∀ t',zX t'<zX t->wE t'):wE t:=by
 intro F w v hv
 obtain ⟨a,cap,e⟩:=zt hv
 subst e
 have mw:=hv
 rw [qA] at mw
 obtain ⟨_,_,e,_,bP,bL⟩:=zF mw
 simp only [Value.slice.injEq] at e
 obtain ⟨rfl,_,rfl⟩:=e
 have IH:=g_ ih;clear ih
 have ct:=hl.le
 have E1:=g_ (kw t)
 have hlb:t.args.length<=16777216:=by have:=kF t.args;have:=E1.out;omega
 have AT:=g_ bL;clear bL bP mw
 go_enter Tryz.func32,Tryz.ntmps32
 go_wp2_with fail
 go_loopw [3,4] (fun n i wr=>∃ k:Nat,k<=t.args.length/\i=.int .i64 k/\n=.int .i64 ((1+zR (t.args.take k):Nat):Int)/\Below w.heap.size w wr/\wr.cell? ⟨w.heap.size,0,none⟩=some (.slice a t.args.length cap)) (fun _ i _=>t.args.length-(intOf i).toNat)
 case atStart=>exact ⟨0,Nat.zero_le _,rfl,by simp [zR],(bZ _ _).alloc (hG _) _,by simp⟩
 case round =>
  rename_i wr
  obtain ⟨k,hk,rfl,rfl,hb,hc⟩:=hrel
  by_cases bX:k<t.args.length
  ·obtain ⟨b',o,u,d,rfl,_,bS,hd,hu,hr⟩:=AT.out k bX
   rw [jh,Option.map_eq_some_iff] at hd
   obtain ⟨t',cO,rfl⟩:=hd
   obtain ⟨ua,uc,rfl⟩:=zt hr
   have hu':wr.cell? ⟨b',o+k,none⟩=some (.slice ua t'.args.length uc):=by rw [hb.cell bS];exact hu
   have dJ:=Rep.below (F':=F) hb (fun _ h=>h) hr
   have hs:=uA cO
   have cN:=vB t.args (k+1)
   have cw:=E1.out
   have IH':=g_ (IH.out t' (by omega))
   have HS:=g_ hs
   have b1:1+zR (t.args.take k)+(1+zX t')<=16777216:=by omega
   have hz:=h_ wr _ hc
   clear hs cO cw hu hr
   go_wp2_with fail
   refine (IH'.out _ _ _ dJ).mono ?_
   rintro en w2 ⟨rfl,bY⟩
   have bH:=zzT hb bY
   have da:w2.cell? ⟨w.heap.size,0,none⟩=some (.slice (some ⟨b',o,none⟩) t.args.length cap):=by rw [bY.cell hz];exact hc
   go_wp2_with fail
   go_roundw
   case rel=>exact ⟨k+1,by omega,by go_num,by rw [HS.out] <;> go_num,bH,da⟩
   case measure=>simp [intOf];omega
  ·obtain rfl:k=t.args.length:=by omega
   go_wp2_with fail
   go_ret
   exact ⟨j8 (by rw [E1.out,List.take_length]),hb⟩
theorem l1Size_any (n:Nat):∀ t,zX t<=n->Lim n->wE t:=by
 induction n with
 | zero=>intro t h _;have:=kx t;omega
 | succ n ih=>exact fun t h hn=>l1Size_step t (hn.mono h) (fun t' h'=>ih t' (by omega) (hn.mono (by omega)))
def zU (l:Bs):Ty×Bool :=
 if 100<l.length then (.mk [],false) else
 match rdS 21 l with
 | none=>(.mk [],false)
 | some (t,rest)=>(t,rest.isEmpty && decide (zX t<=15))
def TypePost (l:Bs) (w:World) (en:Ending) (w':World):Prop :=
 ∃ v,en=.returned (.tuple #[.agg #[v],.bool (zU l).2])/\Below w.heap.size w w'/\Rep (w.heap.size<=·) w' (j0 (zU l).1) v
set_option maxRecDepth 100000 in
theorem uE (l:Bs) (hl:Lim l.length) (w:World):Calls Tryz.prog 11 #[str l] w (TypePost l w):=by
 have ct:=hl.le
 by_cases mV:100<l.length
 ·have iE:(100:Int)<(l.length:Int):=by omega
  have HM:zU l=(.mk [],false):=by unfold zU;rw [if_pos mV]
  have HM:=g_ HM
  go_enter Tryz.func11,Tryz.ntmps11
  go_wp2_with fail
  refine bodyPost_ret (v:=.tuple #[.agg #[.slice none 0 0],.bool false]) (by simp [results,Tryz.results11,go_sem]) rfl ?_
  refine ⟨_,by rw [HM.out],(bZ _ _).alloc (hG _) _,?_⟩
  rw [HM.out];exact wP _ _
 have iE:¬ (100:Int)<(l.length:Int):=by omega
 have HM:zU l=(match rdS 21 l with
  | none=>(.mk [],false)
  | some (t,rest)=>(t,rest.isEmpty && decide (zX t<=15))):=by unfold zU;rw [if_neg mV]
 have HM:=g_ HM
 go_enter Tryz.func11,Tryz.ntmps11
 go_wp2_with fail
 refine (l1Read_any l hl 21 0 rfl 0 _ (Nat.zero_le _) (by omega)).mono ?_
 rintro en w1 ⟨v1,k1,t1,rfl,bU,dm,bz,b6⟩
 rw [show (21-0:Nat)=21 from rfl,List.drop_zero] at bz b6
 obtain ⟨a1,c1,e1⟩:=zt dm
 subst e1
 have z1:=bU.size
 rw [zQ] at z1
 have mH:w.heap.size<w1.heap.size:=by omega
 have dS:Below w.heap.size w w1:=((bZ w.heap.size w).alloc (hG _) _).trans (bU.mono (by simp))
 have bA:w1.cell? ⟨w.heap.size,0,none⟩=some (.slice none 0 0):=by rw [bU.cell (by simp)];simp
 have cM:w1.frozen? ⟨w.heap.size,0,none⟩=false:=by rw [bU.frozen (by simp)];simp
 cases hq:rdS 21 l with
 | none =>
   obtain ⟨rfl,rfl⟩:=bz hq
   have HQ:=g_ hq;clear hq bz b6
   have g1:((-1:Int) == (l.length:Int))=false:=by rw [beq_eq_false_iff_ne];omega
   go_wp2_with fail
   go_region
   go_wp2_with fail
   refine bodyPost_ret (v:=.tuple #[.agg #[.slice a1 0 c1],.bool false]) (by simp [results,Tryz.results11,go_sem,mH,qj bA,Ty.args]) rfl ?_
   refine ⟨_,by rw [HM.out,HQ.out],(by repeat (first | exact dS | refine Below.alloc ?_ (by simp;omega) _ | refine Below.setCell ?_ (by simp) _ | refine Below.drew ?_)),?_⟩
   rw [HM.out,HQ.out]
   rw [qA]
   refine kD.2 ⟨rfl,a1,c1,rfl,Nat.zero_le _,?_,.inl rfl⟩
   obtain ⟨_,_,_,e,_,h0,_⟩:=kD.1 (by rw [qA] at dm;exact dm)
   simp only [Value.slice.injEq] at e
   obtain ⟨rfl,_,rfl⟩:=e;exact h0
 | some x =>
   obtain ⟨t,rest⟩:=x
   obtain ⟨rfl,rfl⟩:=b6 _ _ hq
   have bL:=rdS_atoms hq
   have HQ:=g_ hq;clear hq bz b6
   obtain ⟨e,he⟩:=zzM (l.length-rest.length)
   rw [show (l.length:Int)-(rest.length:Int)=(e:Int) from by omega]
   have HE:=g_ he;clear he
   cases rest with
   | cons x xs =>
     have g1:((e:Int) == (l.length:Int))=false:=by rw [beq_eq_false_iff_ne];have:=HE.out;simp at this bL;omega
     go_wp2_with fail
     go_region
     go_wp2_with fail
     refine bodyPost_ret (v:=.tuple #[.agg #[.slice a1 t1.args.length c1],.bool false]) (by simp [results,Tryz.results11,go_sem,mH,qj bA]) rfl ?_
     refine ⟨_,by rw [HM.out,HQ.out];rfl,(by repeat (first | exact dS | refine Below.alloc ?_ (by simp;omega) _ | refine Below.setCell ?_ (by simp) _ | refine Below.drew ?_)),?_⟩
     rw [HM.out,HQ.out]
     refine (Rep.keep fun b o h ho=>⟨by have:=vz h;omega,?_⟩).1 _ _ dm
     have hb:b≠w.heap.size:=by have:=vz h;omega
     exact zH (by rw [bQ _ _ _ _ (by simpa using hb)];exact ho)
   | nil =>
     obtain rfl:e=l.length:=by have:=HE.out;simpa using this
     have g1:((l.length:Int) == (l.length:Int))=true:=by simp
     have hlA:Lim (zX t1):=hl.mono (by simp at bL;omega)
     have mg:Rep (w.heap.size < ·) (w1.alloc (.cells #[.slice a1 t1.args.length c1] 35)) (j0 t1) (.slice a1 t1.args.length c1):=(Rep.keep fun b o h ho=>⟨by have:=vz h;omega,zH ho⟩).1 _ _ dm
     have aq:(w1.alloc (.cells #[.slice a1 t1.args.length c1] 35)).cell? ⟨w1.heap.size,0,none⟩=some (.slice a1 t1.args.length c1):=by simp
     go_wp2_with fail
     go_region_held3 (fun w'=>w'.cell? ⟨w1.heap.size,0,none⟩=some (.slice a1 t1.args.length c1))
      (first
       | exact (bY.cell (by simp)).trans aq
       | (rw [World.cell?_of_block (w:=w2) (bQ _ _ _ _ (by simp;omega))];exact (bY.cell (by simp)).trans aq)
       | go_keep)
      (first
       | (go_at_call 32;refine (l1Size_any (zX t1) t1 (hG _) hlA (w.heap.size < ·) _ _ (by exact mg.drew)).mono ?_;rintro en w2 ⟨rfl,bY⟩;have z2:=bY.size;have rW:w.heap.size<w2.heap.size:=(by simp at z2;omega);have cu:w2.cell? ⟨w.heap.size,0,none⟩=some (.slice none 0 0):=(bY.cell (by simp;omega)).trans (zK bA);have fb:w2.frozen? ⟨w.heap.size,0,none⟩=false:=(bY.frozen (by simp;omega)).trans ((World.frozen?_of_block (w:=w1) (Below.heap_alloc _ _ _ mH)).trans cM)))
     go_wp2_with fail
     refine bodyPost_ret (v:=.tuple #[.agg #[.slice a1 t1.args.length c1],.bool (decide ((zX t1:Int)<=15))]) (by simp [results,Tryz.results11,go_sem,qj cu]) rfl ?_
     have eo:Below w.heap.size w w2:=((dS.alloc dS.size _).drew).trans (bY.mono (by simp;omega))
     refine ⟨.slice a1 t1.args.length c1,?_,eo.setCell (hG _) _,?_⟩
     ·have e15:decide ((zX t1:Int)<=15)=decide (zX t1<=15):=by rw [decide_eq_decide];omega
      rw [HM.out,HQ.out,e15];rfl
     ·rw [HM.out,HQ.out]
      refine (Rep.keep fun b o h ho=>⟨by have:=vz h;omega,?_⟩).1 _ _ dm
      have hb:b≠w.heap.size:=by have:=vz h;omega
      rw [bQ _ _ _ _ (by simpa using hb),bY.block b (by have:=zZ ho;simp;omega)]
      exact zH ho
theorem p_ (d:Nat):∀ {l:Bs} {t:Ty} {r:Bs} (e:Nat),d<=e->rdK d l=some (t,r)->rdK e l=some (t,r):=by
 induction d with
 | zero =>
   intro l t r e he h
   rcases zq [98] l with hc | ⟨r',hc⟩
   ·rw [vV hc] at h;simp at h
   ·rw [vE hc] at h ⊢;exact h
 | succ d ih =>
   intro l t r e he h
   obtain ⟨e,rfl⟩:∃ e',e=e'+1:=⟨e-1,by omega⟩
   rcases zq [98] l with hc | ⟨r',hc⟩
   ·rw [qK hc] at h ⊢
    simp only [Option.bind_eq_bind,Option.bind_eq_some_iff,Prod.exists] at h ⊢
    obtain ⟨r1,h1,a,r2,h2,r3,h3,b,r4,h4,r5,h5,h6⟩:=h
    exact ⟨r1,h1,a,r2,ih e (by omega) h2,r3,h3,b,r4,ih e (by omega) h4,r5,h5,h6⟩
   ·rw [vE hc] at h ⊢;exact h
theorem xq {p l r:Bs} (h:cut p l=some r):l.length=p.length+r.length:=by
 unfold cut at h;split at h
 ·rename_i hp
  have:=List.IsPrefix.length_le (List.isPrefixOf_iff_prefix.1 hp)
  simp at h;subst h;simp;omega
 ·simp at h
theorem xw (a b:Ty):zX (jW a b)=1+zX a+zX b:=by cases b;simp [jW,zX,zR,Ty.args];omega
theorem rdK_shallow (e:Nat):∀ {l:Bs} {t:Ty} {r:Bs} (d:Nat),zX t<=2*d+1->rdK e l=some (t,r)->rdK d l=some (t,r):=by
 induction e with
 | zero =>
   intro l t r d hd h
   exact p_ 0 d (Nat.zero_le _) h
 | succ e ih =>
   intro l t r d hd h
   rcases zq [98] l with hc | ⟨r',hc⟩
   ·rw [qK hc] at h
    simp only [Option.bind_eq_bind,Option.bind_eq_some_iff,Prod.exists] at h
    obtain ⟨r1,h1,a,r2,h2,r3,h3,b,r4,h4,r5,h5,h6⟩:=h
    simp at h6;obtain ⟨rfl,rfl⟩:=h6
    have bL:=xw a b
    have pa:=kx a;have pb:=kx b
    obtain ⟨d,rfl⟩:∃ d',d=d'+1:=⟨d-1,by omega⟩
    rw [qK hc]
    simp only [Option.bind_eq_bind,Option.bind_eq_some_iff,Prod.exists]
    exact ⟨r1,h1,a,r2,ih d (by omega) h2,r3,h3,b,r4,ih d (by omega) h4,r5,h5,rfl⟩
   ·rw [vE hc] at h ⊢;exact h
theorem rdK_len (e:Nat):∀ {l:Bs} {t:Ty} {r:Bs},rdK e l=some (t,r)->l.length+5<=r.length+6*zX t:=by
 induction e with
 | zero =>
   intro l t r h
   rcases zq [98] l with hc | ⟨r',hc⟩
   ·rw [vV hc] at h;simp at h
   ·rw [vE hc] at h;simp at h;obtain ⟨rfl,rfl⟩:=h
    have:=xq hc;simp [zX,zR] at *;omega
 | succ e ih =>
   intro l t r h
   rcases zq [98] l with hc | ⟨r',hc⟩
   ·rw [qK hc] at h
    simp only [Option.bind_eq_bind,Option.bind_eq_some_iff,Prod.exists] at h
    obtain ⟨r1,h1,a,r2,h2,r3,h3,b,r4,h4,r5,h5,h6⟩:=h
    simp at h6;obtain ⟨rfl,rfl⟩:=h6
    have bL:=xw a b
    have k1:=xq h1;have k2:=ih h2;have k3:=xq h3;have k4:=ih h4;have k5:=xq h5
    simp at k1 k3 k5;omega
   ·rw [vE hc] at h;simp at h;obtain ⟨rfl,rfl⟩:=h
    have:=xq hc;simp [zX,zR] at *;omega
theorem wI (l:Bs):jx l=if (zU l).2 then some (zU l).1 else none:=by
 unfold jx zU
 by_cases mV:100<l.length
 ·rw [if_pos mV]
  simp only [Bool.false_eq_true,if_false]
  split
  ·rename_i t hq
   have:=rdK_len 15 hq
   rw [if_neg (by simp at this;omega)]
  ·rfl
 ·rw [if_neg mV]
  have e21:rdS 21 l=rdK 20 l:=rfl
  rw [e21]
  cases hq:rdK 20 l with
  | none =>
    simp only [Bool.false_eq_true,if_false]
    split
    ·rename_i t fY
     have:=p_ 15 20 (by omega) fY
     rw [hq] at this;simp at this
    ·rfl
  | some x =>
    obtain ⟨t,rest⟩:=x
    simp only
    by_cases ht:zX t<=15
    ·have fY:=rdK_shallow 20 15 (by omega) hq
     rw [fY]
     cases rest with
     | nil=>simp [ht]
     | cons x xs=>simp
    ·cases fY:rdK 15 l with
     | none=>simp [ht]
     | some y =>
       obtain ⟨t2,r2⟩:=y
       have:=p_ 15 20 (by omega) fY
       rw [hq] at this;simp at this;obtain ⟨rfl,rfl⟩:=this
       cases rest <;> simp [ht]
set_option maxRecDepth 100000 in
theorem yr (F:Nat->Prop) (hand:List Ty) (t:Ty) (hv tv:Value) (w:World) (hh:Rep F w (.sl 35 1 hand.length (qT hand)) hv) (ht:Rep F w (j0 t) tv) (hl:Lim (hand.length+t.args.length)) :
 Calls Tryz.prog 36 #[hv,.agg #[tv]] w fun en w' =>
  ∃ a c,en=.returned (.slice a (hand++t.args).length c)/\Below w.heap.size w w'/\Rep (fun k=>F k\/w.heap.size<=k) w' (.sl 35 1 (hand++t.args).length (qT (hand++t.args))) (.slice a (hand++t.args).length c):=by
 have ct:=hl.le
 obtain ⟨xs1,eE,g1⟩:=zp.ofRep hh (vm _)
 have cO:=ht
 rw [qA] at cO
 obtain ⟨xs2,dB,g2⟩:=zp.ofRep cO (vm _)
 obtain ⟨a1,c1,e1⟩:=g1.slice
 obtain ⟨a2,c2,e2⟩:=g2.slice
 subst e1;subst e2
 have aq:(w.alloc (.cells #[.slice a2 t.args.length c2] 35)).cell? ⟨w.heap.size,0,none⟩=some (.slice a2 t.args.length c2):=by simp
 go_enter Tryz.func36,Tryz.ntmps36
 go_wp2_with fail
 go_region_held3 (fun w'=>w'.cell? ⟨w.heap.size,0,none⟩=some (.slice a2 t.args.length c2))
  (first
   | exact (se.cell (by simp)).trans aq
   | exact (rZ.cell (by simp)).trans aq
   | go_keep)
  (first
   | (refine qC (by rfl) (.tmp 7) (.tmp 9) _ (by rfl) 35 (.agg #[.slice none 0 0]) 1 24 Tryz.underlying33 Tryz.infoS rfl (by omega) (.slice ax hand.length cx) hand.length xs1 (by rfl) (by exact hox) (.slice a2 t.args.length c2) t.args.length xs2 (by rfl) (by exact (g2.alloc _).below rZ) (by unfold maxLen;omega) (by omega) ?_;intro ay cy wy hoy dW hgy;obtain ⟨se,hfy⟩:=xR rZ hfx dW hgy)
   | (refine qC (by rfl) (.tmp 5) (.tmp 6) _ (by rfl) 35 (.agg #[.slice none 0 0]) 1 24 Tryz.underlying33 Tryz.infoS rfl (by omega) (.slice (some ⟨w.heap.size+1,0,none⟩) 0 0) 0 [] (by rfl) (by exact (Own.litAt #[] 0 _ (by simp) (by decide) rfl).drew) (.slice a1 hand.length c1) hand.length xs1 (by rfl) (by exact ((g1.alloc _).alloc _).drew) (by unfold maxLen;omega) (by omega) ?_;rw [Nat.zero_add,List.nil_append];intro ax cx wx hox dj hgx;obtain ⟨rZ,hfx⟩:=xR (((bZ _ _).alloc (hG _) _).drew) (own_some (by simp)) dj hgx))
 go_wp2_with fail
 go_ret
 have bU:Below w.heap.size w (w.alloc (.cells #[.slice a2 t.args.length c2] 35)):=(bZ _ _).alloc (hG _) _
 have hbZ:Below w.heap.size w wy:=bU.trans (se.mono (by simp))
 rw [List.length_append]
 refine ⟨ay,cy,rfl,hbZ,?_⟩
 rw [encSs_append]
 exact hoy.rep (fun g h=>.inr (by have:=hfy g h;simp at this;omega)) (zC.append (eE.below hbZ (fun _ h=>.inl h)) (dB.below hbZ (fun _ h=>.inl h)))
end Go.Proofs.YtepgfdhkkjfmhabGreatDoor

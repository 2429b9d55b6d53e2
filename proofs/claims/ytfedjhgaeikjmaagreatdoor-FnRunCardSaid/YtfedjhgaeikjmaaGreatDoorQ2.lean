/- Walks of functions that the statement reaches, and plain words. No conditions. -/
import Derived.Test.YtfedjhgaeikjmaaGreatDoorQ1
set_option linter.unusedVariables false
set_option linter.unusedSimpArgs false
set_option maxHeartbeats 4000000
namespace Go.Proofs.YtfedjhgaeikjmaaGreatDoor
open Go.RowKit
def yy (l:Bs):Int:=if (zH l)=[] then -1 else (zN l).length
theorem vx (l:Bs):zN l++zH l=l:=List.takeWhile_append_dropWhile
theorem word_take (l:Bs):l.take (zN l).length=zN l:=by
 have h:=vx l
 have:=List.take_left (l₁:=zN l) (l₂:=zH l);rw [h] at this;exact this
theorem word_drop (l:Bs):l.drop (zN l).length=zH l:=by
 have h:=vx l
 have:=List.drop_left (l₁:=zN l) (l₂:=zH l);rw [h] at this;exact this
theorem word_le (l:Bs):(zN l).length+(zH l).length=l.length:=by
 have:=congrArg List.length (vx l);simpa using this
theorem indexAny_sep (l:Bs):Lib.indexAny l [32,40,41]=yy l:=by
 induction l with
 | nil=>rfl
 | cons b l ih =>
   rw [Lib.indexAny]
   have hs:([32,40,41]:Bs).contains b=sep b:=by
    rw [Bool.eq_iff_iff];simp [sep,or_assoc]
   rw [hs]
   cases hb:sep b
   ·have e1:zN (b::l)=b::zN l:=by simp [zN,hb]
    have e2:zH (b::l)=zH l:=by simp [zH,hb]
    rw [ih]
    unfold yy
    rw [e1,e2]
    by_cases h:zH l=[]
    ·simp [h]
    ·simp only [h,if_false,Bool.false_eq_true]
     rw [if_neg (by rw [beq_iff_eq];omega)]
     simp
   ·have e1:zN (b::l)=[]:=by simp [zN,hb]
    have e2:zH (b::l)=b::l:=by simp [zH,hb]
    unfold yy
    rw [e1,e2];simp
theorem indexAny_any (l:Bs) (w:World) (hl:Lim l.length) :
 Calls Tryz.prog 141 #[str l,.string ⟨#[32,40,41]⟩] w fun en w'=>en=.returned (.int .i64 (yy l))/\Below w.heap.size w w':=by
 have eS:=hl.le
 have eX:(⟨l.toArray⟩:ByteArray).size=l.length:=xd l
 rw [<- indexAny_sep]
 by_cases h8:l.length<=8
 ·have:=bQ ⟨l.toArray⟩ (by omega) w
  simpa [str] using this
 ·refine (Tryz.strings_IndexAny_long (zero_of_info (n:=256) (by kernel_rfl)).1 ⟨l.toArray⟩ ⟨#[32,40,41]⟩ w (by show 2<=3;omega) (by omega) (by omega) (by show 3<4294967281;omega) (by
   intro j b hj
   have:b∈([32,40,41]:Bs):=List.mem_of_getElem? hj
   simp at this
   rcases this with rfl | rfl | rfl <;> decide)).mono ?_
  rintro e w' ⟨rfl,rfl⟩
  refine ⟨by simp,((bi _ _).alloc (br _) _).alloc (by simp) _⟩
theorem gW (sc:Nat) (c:List Value) (e:TypeId) (r:Bs) (w:World) (h:kS sc c e r w) (hr:Lim r.length) :
 Calls Tryz.prog 130 #[.pointer (some ⟨sc,0,none⟩)] w fun en w' =>
  en=.returned (str (zN r))/\But (· = sc) w w'/\kS sc c e (zH r) w':=by
 have h1:=h.cell
 have h2:=h.free 0
 have nu:=uq h
 have hl:=hr.le
 have hw:=word_le r
 go_enter Tryz.func130,Tryz.ntmps130
 go_wp2_with fail
 refine (indexAny_any r w hr).mono ?_
 rintro en w1 ⟨rfl,hb⟩
 have c1:w1.cell? ⟨sc,0,none⟩=some (str r):=by rw [hb.cell nu];exact h1
 have c2:w1.frozen? ⟨sc,0,none⟩=false:=by rw [hb.frozen nu];exact h2
 have hS:kS sc c e r w1:=by unfold kS;rw [hb.block sc nu];exact h
 clear h1 h2
 by_cases h0:zH r=[]
 ·have hi:yy r = -1:=by simp [yy,h0]
  rw [hi]
  have e1:zN r=r:=by have:=vx r;rw [h0] at this;simpa using this
  have HE:=bc e1;have H0:=bc h0;clear e1 h0 hi
  go_wp2_with fail
  go_ret
  have e2:(⟨r.toArray⟩:ByteArray).extract 0 r.length=⟨(zN r).toArray⟩:=by rw [vB,HE.out];simp
  refine ⟨?_,(But.ofBelow hb).setS 0 _,?_⟩
  ·show Ending.returned (.string _)=_;rw [e2]
  ·have:=hS.put (r':=zH r);rw [H0.out] at this ⊢;exact this
 ·have hi:yy r=(zN r).length:=by simp [yy,h0]
  rw [hi]
  have cZ:(zN r).length<=r.length:=by omega
  have H0:=bc h0;clear h0 hi
  go_wp2_with fail
  go_ret
  have e2:(⟨r.toArray⟩:ByteArray).extract 0 (zN r).length=⟨(zN r).toArray⟩:=by rw [vB,List.drop_zero,word_take]
  have e3:(⟨r.toArray⟩:ByteArray).extract (zN r).length r.length=⟨(zH r).toArray⟩:=by rw [vB,List.take_length,word_drop]
  refine ⟨?_,(But.ofBelow hb).setS 0 _,?_⟩
  ·show Ending.returned (.string _)=_;rw [e2]
  ·rw [e3];exact hS.put
structure qF (w:World):Prop where
 e0:∃ te pe,w.var? Tryz.prog "strconv.ErrSyntax" = some #[.iface te pe]
 e1:∃ te pe,w.var? Tryz.prog "strconv.ErrRange" = some #[.iface te pe]
 tab:Lib.TabIs Tryz.prog w "internal/strconv.uint64pow10" .u64 Lib.pow10Tab
def p_ (b:Nat):Prop:=b≠1/\b≠2/\b≠3
theorem Tryz.gn0:Tryz.prog.globalNamed "strconv.ErrSyntax" = some 1:=by kernel_rfl
theorem Tryz.gn1:Tryz.prog.globalNamed "strconv.ErrRange" = some 2:=by kernel_rfl
theorem Tryz.gn2:Tryz.prog.globalNamed "internal/strconv.uint64pow10" = some 3:=by kernel_rfl
theorem wj {P:Program} {w:World} {nm:String} {g:Nat} {x:Array Value} (hg:P.globalNamed nm=some g) (h:w.var? P nm=some x):g<w.heap.size:=by
 unfold World.var? at h
 rw [hg] at h
 simp only [Option.bind_some] at h
 rcases Nat.lt_or_ge g w.heap.size with h' | h'
 ·exact h'
 ·rw [Array.getElem?_eq_none h'] at h;simp at h
theorem gD {P:Program} {w w':World} {nm:String} {g:Nat} {x:Array Value} (hg:P.globalNamed nm=some g) (hk:w'.heap[g]? = w.heap[g]?) (h:w.var? P nm=some x):w'.var? P nm=some x:=by
 unfold World.var? at *
 rw [hg] at *
 simp only [Option.bind_some] at *
 rw [hk];exact h
theorem qF.but {m:Nat->Prop} {w w':World} (h:qF w) (hb:But m w w') (hm:∀ i,m i->p_ i):qF w':=by
 obtain ⟨⟨t0,p0,h0⟩,⟨t1,p1,h1⟩,h2⟩:=h
 have l0:=wj Tryz.gn0 h0
 have l1:=wj Tryz.gn1 h1
 have l2:=wj Tryz.gn2 h2
 exact ⟨⟨t0,p0,gD Tryz.gn0 (hb.block _ l0 fun e=>(hm _ e).1 rfl) h0⟩,⟨t1,p1,gD Tryz.gn1 (hb.block _ l1 fun e=>(hm _ e).2.1 rfl) h1⟩,gD Tryz.gn2 (hb.block _ l2 fun e=>(hm _ e).2.2 rfl) h2⟩
theorem qF.below {w w':World} (h:qF w) (hb:Below w.heap.size w w'):qF w':=h.but (m:=fun _=>False) (But.ofBelow hb) (fun _ e=>e.elim)
theorem qF.new {w:World} (h:qF w) {b:Nat} (hb:w.heap.size<=b):p_ b:=by
 obtain ⟨⟨t0,p0,h0⟩,⟨t1,p1,h1⟩,h2⟩:=h
 have l0:=wj Tryz.gn0 h0
 have l1:=wj Tryz.gn1 h1
 have l2:=wj Tryz.gn2 h2
 exact ⟨by omega,by omega,by omega⟩
theorem below_drewN {B:Nat} {a w:World} (h:Below B a w) (n:Nat):Below B a (w.drewN n):=h.trans ⟨rfl,rfl,rfl,br _,fun _ _=>rfl⟩
theorem below_grow (w:World) (os:Array Obj):Below w.heap.size w (Go.Sort.grow w os) :=
 ⟨rfl,rfl,rfl,by simp [Go.Sort.grow],fun k hk=>by simp [Go.Sort.grow,Array.getElem?_append_left hk]⟩
theorem below_freeze {B:Nat} {a w:World} (h:Below B a w) {p:Addr} (hp:B<=p.block) (n:Nat):Below B a (w.freeze p n):=by
 refine h.trans ⟨?_,?_,?_,?_,?_⟩
 ·unfold World.freeze;split <;> rfl
 ·unfold World.freeze;split <;> rfl
 ·unfold World.freeze;split <;> rfl
 ·unfold World.freeze;split <;> simp
 ·intro k hk
  unfold World.freeze;split
  ·rfl
  ·simp only [Array.getElem?_modify];rw [if_neg (by omega)]
theorem wn (w:World) (e:TypeId) (s:ByteArray):Below w.heap.size w (Lib.bytesWorld w e s) :=
 below_freeze (((bi w.heap.size w).drew).alloc (br _) _) (br _) _
theorem atoi_ok (l:Bs) (w:World) (hl:Lim l.length) (v:Int) (h:Lib.atoiAll l=.ok v) :
 Calls Tryz.prog 131 #[str l] w fun en w'=>en=.returned (.tuple #[.int .i64 v,.nilIface])/\Below w.heap.size w w':=by
 have eS:=hl.le
 refine (Tryz.strconv_Atoi_ok ⟨l.toArray⟩ (by show l.toArray.size<=_;simp;omega) v h w).mono ?_
 rintro en w' ⟨rfl,rfl | ⟨t,rfl⟩⟩
 ·exact ⟨rfl,bi _ _⟩
 ·exact ⟨rfl,wn _ _ _⟩
theorem atoi_no (l:Bs) (w:World) (hl:Lim l.length) (hg:qF w) (h:∀ v,Lib.atoiAll l≠.ok v) :
 Calls Tryz.prog 131 #[str l] w fun en w'=>∃ v t p,en=.returned (.tuple #[.int .i64 v,.iface t p])/\Below w.heap.size w w':=by
 have eS:=hl.le
 have hs:(⟨l.toArray⟩:ByteArray).size<=281474976710656:=by show l.toArray.size<=_;simp;omega
 cases ha:Lib.atoiAll l
 ·rename_i v;exact absurd ha (h v)
 ·obtain ⟨te,pe,h0⟩:=hg.e0
  refine (Tryz.strconv_Atoi_syntax_var ⟨l.toArray⟩ hs ha te pe w h0).mono ?_
  rintro en w' ⟨N,rfl,_,_,hb⟩
  exact ⟨_,_,_,rfl,hb⟩
 ·obtain ⟨te,pe,h0⟩:=hg.e1
  refine (Tryz.strconv_Atoi_range_var ⟨l.toArray⟩ hs ha te pe w h0).mono ?_
  rintro en w' ⟨N,rfl,_,_,hb⟩
  exact ⟨_,_,_,rfl,hb⟩
theorem itoa_any (n:Int) (w:World) (hg:qF w) (h0 : -9223372036854775808<=n) (h1:n<=9223372036854775807) :
 Calls Tryz.prog 105 #[.int .i64 n] w fun en w'=>en=.returned (str (Lib.itoa n))/\Below w.heap.size w w':=by
 refine (Tryz.strconv_Itoa n h0 h1 w hg.tab).mono ?_
 rintro en w' ⟨rfl,k,os,rfl⟩
 exact ⟨rfl,(below_drewN (bi _ _) k).trans (below_grow (w.drewN k) os)⟩
theorem bS {l:Bs} {v:Int} (h:Lib.atoiAll l=.ok v) : -9223372036854775808<=v/\v<=9223372036854775807:=by
 unfold Lib.atoiAll at h
 split at h
 ·simp at h
 ·simp only at h
  split at h
  ·simp at h
  ·simp at h
  ·split at h
   ·simp at h
   ·split at h
    ·simp at h
    ·rename_i h1 h2
     simp only [Lib.NumEnd.ok.injEq] at h
     split at h <;> omega
theorem itoa_of {l:Bs} {v:Int} (h:Lib.atoiAll l=.ok v) (w:World) (hg:qF w) :
 Calls Tryz.prog 105 #[.int .i64 v] w fun en w'=>en=.returned (str (Lib.itoa v))/\Below w.heap.size w w' :=
 itoa_any v w hg (bS h).1 (bS h).2
def qo (sr:Nat) (w:World) (o:Option (Bd×Bs×Nat)) (en:Ending) (w':World):Prop :=
 ∃ (v:Value) (r':Bs) (left':Int),en=.returned v/\But (fun x=>x=sr) w w'/\kS sr [.int .i64 left'] 158 r' w'/\(o=none->v=.pointer none) /\
   (∀ b rest cG,o=some (b,rest,cG)->r'=rest/\left'=(cG:Nat)/\Rep (w.heap.size<=·) w' (kp b) v)
theorem kU {F:Nat->Prop} {w:World} {b:Bd} {v:Value} (h:Rep F w (kp b) v):∃ a,v=.pointer (some ⟨a,0,none⟩):=by
 cases b with
 | leaf c=>rw [kp,vM] at h;obtain ⟨a,c,h,_⟩:=h;exact ⟨a,h⟩
 | ask v ss y n=>rw [kp,vM] at h;obtain ⟨a,c,h,_⟩:=h;exact ⟨a,h⟩
theorem qo.no {sr:Nat} {w:World} {o:Option (Bd×Bs×Nat)} {w':World} {r:Bs} {left:Int} (ho:o=none) (hb:But (fun x=>x=sr) w w') (hs:kS sr [.int .i64 left] 158 r w') :
 qo sr w o (.returned (.pointer none)) w' :=
 ⟨_,r,left,rfl,hb,hs,fun _=>rfl,fun _ _ _ h=>by rw [ho] at h;simp at h⟩
theorem qo.yes {sr:Nat} {w:World} {o:Option (Bd×Bs×Nat)} {w':World} {r:Bs} {left:Nat} {b:Bd} {v:Value} (ho:o=some (b,r,left)) (hb:But (fun x=>x=sr) w w') (hs:kS sr [.int .i64 left] 158 r w')
 (hv:Rep (w.heap.size<=·) w' (kp b) v):qo sr w o (.returned v) w' :=
 ⟨_,r,left,rfl,hb,hs,fun h=>by rw [ho] at h;simp at h,fun _ _ _ h=>by rw [ho] at h;simp at h;obtain ⟨rfl,rfl,rfl⟩:=h;exact ⟨rfl,rfl,hv⟩⟩
def kd (d:Nat) (levels:List Ty):Prop:=(∀ t∈levels,zV t<=15)/\levels.length+15*d<=10000
def ye (d:Nat):Prop:=∀ (sr left:Nat) (levels:List Ty) (l:Bs) (lv:Value) (F:Nat->Prop) (w:World),qF w->p_ sr ->
 kS sr [.int .i64 left] 158 l w->left<=1000->Lim l.length->kd d levels ->
 Rep F w (.sl 54 1 levels.length (qB levels)) lv->(∀ b,F b->b≠sr) ->
 Calls Tryz.prog 98 #[.pointer (some ⟨sr,0,none⟩),lv,.int .i64 d] w (qo sr w (rdB d levels left l))
theorem encKs_append (a b:List Ty):qB (a++b)=qB a++qB b:=by
 induction a with
 | nil=>rfl
 | cons t ts ih=>simp [qB,ih]
theorem srcSl_but {F:Nat->Prop} {m:Nat->Prop} {w w':World} {e:TypeId} {sz n:Nat} {cs:List DV} {v:Value} {news:List Value} (hb:But m w w') (hF:∀ b,F b->¬ m b) (h:Rep F w (.sl e sz n cs) v) (hs:zM sz v n news w):zM sz v n news w':=by
 rw [kP] at h
 obtain ⟨hl,a,cap,rfl,hn,hz,h⟩:=h
 obtain ⟨h1,h2,h3⟩:=hs
 refine ⟨h1,h2,?_⟩
 rcases h with rfl | ⟨b,o,c,fr,rfl,co,hc,hr⟩
 ·have:news=[]:=List.eq_nil_of_length_eq_zero (by simpa using h1)
  subst this
  rcases h3 with ⟨a',c',e',_⟩ | h3
  ·exact .inl ⟨a',c',e',by simp⟩
  ·exact .inr h3
 ·rcases h3 with ⟨a',c',e',h3⟩ | ⟨h3,_⟩
  ·simp at e'
   obtain ⟨e1,e2⟩:=e'
   subst e1
   refine .inl ⟨_,cap,rfl,fun j u hj=>?_⟩
   have:=h3 j u hj
   rw [hb.cell (be w _ this) ?_]
   ·exact this
   ·unfold Addr.add;split <;> exact hF b co
  ·simp at h3
theorem part_pre {F:Nat->Prop} {sr:Nat} {left:Int} {levels more:List Ty} {r1:Bs} {xs1 xs2:List Value} {ac:Option Addr} {kc:Nat} {w w1 wx wc:World} (hg:qF w) (hn:p_ sr) (oO:sr<w.heap.size)
 (b9:But (fun x=>x=sr) w w1) (dO:kS sr [.int .i64 left] 158 r1 w1)
 (hF:∀ b,F b->b≠sr) (G1:zG F w1 (qB levels) xs1) (G2:zG F w1 (qB more) xs2)
 (hx:Below w1.heap.size w1 wx) (hoc:Own wc 54 1 (.slice ac (levels.length+more.length) kc) (levels.length+more.length) (xs1++xs2))
 (sQ:Below wx.heap.size wx wc) (hfc:∀ g,(Value.slice ac (levels.length+more.length) kc).ownBlock=some g->wx.heap.size<=g) :
 Below w1.heap.size w1 wc/\qF wc/\kS sr [.int .i64 left] 158 r1 wc /\
  Rep (fun b=>b≠sr) wc (.sl 54 1 (levels++more).length (qB (levels++more))) (.slice ac (levels.length+more.length) kc):=by
 have z1:=b9.size
 have hb:Below w1.heap.size w1 wc:=zzT hx sQ
 refine ⟨hb,(hg.but b9 fun i e=>by subst e;exact hn).below hb,(hb.block sr (by omega)).trans dO,?_⟩
 rw [List.length_append,encKs_append]
 refine hoc.rep (fun g h=>?_) (zG.append (G1.below hb hF) (G2.below hb hF))
 have:=hfc g h;have:=hx.size;omega
set_option maxRecDepth 100000 in
theorem gt (d:Nat) (ih:ye d) (sr left:Nat) (levels more:List Ty) (l:Bs) (lv mv:Value) (F:Nat->Prop) (w:World) (b1 b2 b3:Nat) (hg:qF w) (hn:p_ sr)
 (hs:kS sr [.int .i64 left] 158 l w) (hl:left<=1000) (hr:Lim l.length) (hh:kd d (levels++more)) (hd:d<=1000)
 (dx:Rep F w (.sl 54 1 levels.length (qB levels)) lv) (aX:Rep F w (.sl 54 1 more.length (qB more)) mv) (hF:∀ b,F b->b≠sr)
 (c1:w.cell? ⟨b1,0,none⟩=some (.pointer (some ⟨sr,0,none⟩))) (c2:w.cell? ⟨b2,0,none⟩=some lv) (c3:w.cell? ⟨b3,0,none⟩=some (.int .i64 ((d:Int)+1)))
 (n1:b1≠sr) (n2:b2≠sr) (n3:b3≠sr) :
 Calls Tryz.prog 132 #[mv,.pointer (some ⟨b1,0,none⟩),.pointer (some ⟨b2,0,none⟩),.pointer (some ⟨b3,0,none⟩)] w (qo sr w (ki (rdB d) (levels++more) left l)):=by
 have IH:=bc ih;clear ih
 have HF:=bc hF;clear hF
 have l1:=be w _ c1
 have l2:=be w _ c2
 have l3:=be w _ c3
 go_enter Tryz.func132,Tryz.ntmps132
 go_wp2_with fail
 rcases ze [32] l with h1 | ⟨r1,h1⟩
 ·refine (uz hs h1).mono ?_
  rintro en w1 ⟨rfl,b9,dO⟩
  go_wp2_with fail
  go_ret
  exact qo.no (by simp [ki,h1.out]) b9 dO
 ·refine (jn hs h1).mono ?_
  rintro en w1 ⟨rfl,b9,dO⟩
  have d1:w1.cell? ⟨b1,0,none⟩=some (.pointer (some ⟨sr,0,none⟩)):=by rw [b9.cell l1 n1];exact c1
  have d2:w1.cell? ⟨b2,0,none⟩=some lv:=by rw [b9.cell l2 n2];exact c2
  have d3:w1.cell? ⟨b3,0,none⟩=some (.int .i64 ((d:Int)+1)):=by rw [b9.cell l3 n3];exact c3
  obtain ⟨xs1,fI,g1⟩:=zM.ofRep dx (uZ _)
  obtain ⟨xs2,fR,g2⟩:=zM.ofRep aX (uZ _)
  have lim:levels.length+more.length<=10000:=by have:=hh.2;simp at this;omega
  have oO:=uq hs
  have z1:=b9.size
  have hF':=HF.out
  have G1:=bc (zG.but b9 (fun b hb=>⟨HF.out b hb,hb⟩) fI)
  have G2:=bc (zG.but b9 (fun b hb=>⟨HF.out b hb,hb⟩) fR)
  have W1:zM 1 lv levels.length xs1 w1:=srcSl_but b9 hF' dx g1
  have W2:zM 1 mv more.length xs2 w1:=srcSl_but b9 hF' aX g2
  clear hF' fI fR g1 g2 c1 c2 c3
  obtain ⟨a1,k1,rfl⟩:=W1.slice
  obtain ⟨a2,k2,rfl⟩:=W2.slice
  have l1':b1<w1.heap.size:=by omega
  have l2':b2<w1.heap.size:=by omega
  have l3':b3<w1.heap.size:=by omega
  go_wp2_with fail
  have HW:=bc (IntWalk.i64_in (d:Int) (by omega))
  go_region_held3 (fun w'=>w'.cell? ⟨b1,0,none⟩=some (.pointer (some ⟨sr,0,none⟩))/\w'.cell? ⟨b2,0,none⟩=some (.slice a1 levels.length k1)/\w'.cell? ⟨b3,0,none⟩=some (.int .i64 ((d:Int)+1)))
   (first
    | exact ⟨(fA.cell l1' n1).trans d1,(fA.cell l2' n2).trans d2,(fA.cell l3' n3).trans d3⟩
    | exact ⟨(hbb.cell l1').trans d1,(hbb.cell l2').trans d2,(hbb.cell l3').trans d3⟩
    | go_keep)
   (first
    | (go_at_call 133;refine (concatK_any w1.heap.size levels.length more.length (.slice a1 levels.length k1) (.slice a2 more.length k2) xs1 xs2 _ (by simp) (by simp) (W1.keep fun _ _ h=>by simpa using zU h) (W2.keep fun _ _ h=>by simpa using zU h) (show _<=_ by omega) (show _<=_ by omega) (show _<=_ by omega)).mono ?_;rintro en wc ⟨ac,kc,rfl,hoc,sQ,hfc⟩;obtain ⟨hbb,od,nu,hrc⟩:=part_pre hg hn oO b9 dO HF.out G1.out G2.out (((bi w1.heap.size w1).alloc (br _) _).drew) hoc sQ hfc)
    | (go_at_call 98
       rw [HW.out]
       refine (IH.out sr left (levels++more) r1 _ (fun b=>b≠sr) wc od hn nu hl (hr.mono h1.le) hh hrc (fun b h=>h)).mono ?_
       rintro en wf ⟨v,r',left',rfl,hbf,fU,Bg,hyf⟩;have fA:=(But.ofBelow (m:=fun x=>x=sr) hbb).trans hbf))
  go_wp2_with fail
  go_ret
  refine ⟨v,r',left',rfl,b9.trans fA,fU,fun h=>Bg ?_,fun b rest cG h=>?_⟩
  ·simpa [ki,h1.out] using h
  ·obtain ⟨e1,e2,e3⟩:=hyf b rest cG (by simpa [ki,h1.out] using h)
   exact ⟨e1,e2,(Rep.keep fun b o h ho=>⟨by have:=h;have:=hbb.size;omega,ho⟩).1 _ _ e3⟩
theorem kS.cell1 {sc:Nat} {c:List Value} {e:TypeId} {r:Bs} {u:Value} {w:World} (h:kS sc (u::c) e r w):w.cell? ⟨sc,1,none⟩=some u:=by
 simp [World.cell?,kS] at *;simp [h]
theorem kS.put1 {sc:Nat} {c:List Value} {e:TypeId} {r:Bs} {u u':Value} {w:World} (h:kS sc (u::c) e r w):kS sc (u'::c) e r (w.setCell ⟨sc,1,none⟩ u'):=by
 unfold kS at *
 have cZ:=zZ h
 have h':w.heap[sc]=.cells (str r::u::c).toArray e (0,0):=by simpa [Array.getElem?_eq_getElem cZ] using h
 show (w.heap.modify sc _)[sc]? = _
 rw [Array.getElem?_eq_getElem (by simpa using cZ),Array.getElem_modify_self,h']
 simp
def ph (B sr:Nat) (lv:Value) (d:Nat) (w:World):Prop :=
 w.cell? ⟨B,0,none⟩=some (.pointer (some ⟨sr,0,none⟩))/\w.cell? ⟨B+1,0,none⟩=some lv/\w.cell? ⟨B+1+1,0,none⟩=some (.int .i64 (d:Int))
theorem ph.but {B sr:Nat} {lv:Value} {d:Nat} {m:Nat->Prop} {w w':World} (h:ph B sr lv d w) (hb:But m w w') (hm:∀ i,m i->i≠B/\i≠B+1/\i≠B+1+1):ph B sr lv d w':=by
 obtain ⟨h1,h2,h3⟩:=h
 refine ⟨?_,?_,?_⟩
 ·rw [hb.cell (be w _ h1) (fun e=>(hm _ e).1 rfl)];exact h1
 ·rw [hb.cell (be w _ h2) (fun e=>(hm _ e).2.1 rfl)];exact h2
 ·rw [hb.cell (be w _ h3) (fun e=>(hm _ e).2.2 rfl)];exact h3
def vZ (ob v:Nat) (slv y n:Value) (w:World):Prop:=w.heap[ob]? = some (.cells #[str [],.int .i64 v,slv,y,n] 105 (0,0))
theorem vZ.cells {ob v:Nat} {slv y n:Value} {w:World} (h:vZ ob v slv y n w):w.cell? ⟨ob,2,none⟩=some slv/\w.cell? ⟨ob,3,none⟩=some y/\w.cell? ⟨ob,4,none⟩=some n/\ob<w.heap.size/\(∀ o,w.frozen? ⟨ob,o,none⟩=false):=by
 have hl:=zZ h
 unfold vZ at h
 exact ⟨by simp [World.cell?,h],by simp [World.cell?,h],by simp [World.cell?,h],hl,fun o=>by simp [World.frozen?,h]⟩
theorem zO {w:World} {b o:Nat} {c:Array Value} {e:TypeId} {u:Value} (h:w.heap[b]? = some (.cells c e (0,0))):(w.setCell ⟨b,o,none⟩ u).heap[b]? = some (.cells (c.setIfInBounds o u) e (0,0)):=by
 have cZ:=zZ h
 have h':w.heap[b]=.cells c e (0,0):=by simpa [Array.getElem?_eq_getElem cZ] using h
 show (w.heap.modify b _)[b]? = _
 rw [Array.getElem?_eq_getElem (by simpa using cZ),Array.getElem_modify_self,h']
 simp
theorem vZ.put2 {ob v:Nat} {slv y n u:Value} {w:World} (h:vZ ob v slv y n w):vZ ob v u y n (w.setCell ⟨ob,2,none⟩ u):=by
 unfold vZ;rw [zO h];rfl
theorem vZ.put3 {ob v:Nat} {slv y n u:Value} {w:World} (h:vZ ob v slv y n w):vZ ob v slv u n (w.setCell ⟨ob,3,none⟩ u):=by
 unfold vZ;rw [zO h];rfl
theorem vZ.put4 {ob v:Nat} {slv y n u:Value} {w:World} (h:vZ ob v slv y n w):vZ ob v slv y u (w.setCell ⟨ob,4,none⟩ u):=by
 unfold vZ;rw [zO h];rfl
def wO (sr B ob Z v d:Nat) (lv:Value) (levels ts:List Ty) (nz:Nat) (r0:Bs) (w:World) (rd:Rd) (k:Nat) (wr:World):Prop :=
 ∃ bs lk leftk slv vs,zh rd (zu levels (ts.take k)) nz r0=some (bs,lk,leftk)/\But (fun x=>x=sr) w wr/\kS sr [.int .i64 (leftk:Nat)] 158 lk wr /\
   vZ ob v slv (.pointer none) (.pointer none) wr/\Own wr 55 1 slv k vs/\(∀ g,slv.ownBlock=some g->Z<=g)/\zG (fun b=>Z<=b/\slv.ownBlock≠some b) wr (qJ bs) vs/\ph B sr lv (d+1) wr/\Z<=wr.heap.size
theorem wP (a b:List Bd):qJ (a++b)=qJ a++qJ b:=by
 induction a with
 | nil=>rfl
 | cons t ts ih=>simp [qJ,ih]
theorem Tryz.infoB:(Tryz.prog.info? 55).map (fun i=>(i.zero,i.size,i.bytes))=some (some (.pointer none),1,8):=by kernel_rfl
theorem g_ {sr left:Nat} {x:UInt8} {r:Bs} {w w2:World} {o:Option (Bd×Bs×Nat)} {u:Value} (hw:u=str [x]) (hm:o=some (.leaf x,r,left)) (hb:But (fun x=>x=sr) w w2) (hs:kS sr [.int .i64 (left:Nat)] 158 r w2) :
 qo sr w o (.returned (.pointer (some ⟨w2.heap.size,0,none⟩))) (w2.alloc (.cells #[u,.int .i64 0,.slice none 0 0,.pointer none,.pointer none] 105)):=by
 refine qo.yes hm (hb.alloc _) (hs.alloc _) ?_
 rw [kp,vM]
 refine ⟨_,_,rfl,hb.size,zS _ _,?_⟩
 subst hw
 refine zJ.2 ⟨_,_,rfl,zI.2 rfl,zJ.2 ⟨_,_,rfl,zI.2 rfl,zJ.2 ⟨_,_,rfl,?_,zJ.2 ⟨_,_,rfl,zI.2 rfl,zJ.2 ⟨_,_,rfl,zI.2 rfl,zC.2 rfl⟩⟩⟩⟩⟩
 exact kP.2 ⟨rfl,none,0,rfl,br _,fun _=>rfl,.inl rfl⟩
theorem kd.next {d:Nat} {levels:List Ty} {v:Nat} {t a:Ty} (h:kd (d+1) levels) (hv:levels[v]? = some t) (ha:a∈t.args):kd d (levels++a.args):=by
 have ht:=h.1 t (List.mem_of_getElem? hv)
 have d_:∀ ts:List Ty,∀ a∈ts,1+zV a<=zE ts:=by
  intro ts
  induction ts with
  | nil=>simp
  | cons x xs ih =>
    intro a ha
    rcases List.mem_cons.1 ha with rfl | ha
    ·simp [zE]
    ·have:=ih a ha;simp [zE];omega
 have b_:∀ ts:List Ty,ts.length<=zE ts:=by
  intro ts
  induction ts with
  | nil=>simp
  | cons x xs ih=>simp [zE];omega
 have h1:=d_ _ a ha
 have h2:=zp t
 have h3:=zp a
 refine ⟨fun x hx=>?_,?_⟩
 ·rcases List.mem_append.1 hx with hx | hx
  ·exact h.1 x hx
  ·have:=d_ _ x hx;omega
 ·have:=b_ a.args;have:=h.2;simp;omega
theorem kd.same {d:Nat} {levels:List Ty} (h:kd (d+1) levels):kd d (levels++[]):=by
 refine ⟨fun x hx=>h.1 x (by simpa using hx),?_⟩
 have:=h.2;simp;omega
theorem wO.next {sr B ob Z v d:Nat} {lv:Value} {levels ts:List Ty} {nz:Nat} {r0:Bs} {w:World} {rd:Rd} {k:Nat} {wr w1 w2:World} {t:Ty} {bs:List Bd} {lk:Bs} {leftk:Nat} {slv:Value} {vs:List Value}
 {b:Bd} {rest:Bs} {cG:Nat} {vb:Value} {o:Obj} {a':Option Addr} {c':Nat}
 (ht:ts[k]? = some t) (hp:zh rd (zu levels (ts.take k)) nz r0=some (bs,lk,leftk)) (hb:But (fun x=>x=sr) w wr)
 (eK:vZ ob v slv (.pointer none) (.pointer none) wr) (hZ:∀ g,slv.ownBlock=some g->Z<=g) (cV:Own wr 55 1 slv k vs) (hr:zG (fun b=>Z<=b/\slv.ownBlock≠some b) wr (qJ bs) vs) (hx:ph B sr lv (d+1) wr)
 (hz:Z<=wr.heap.size) (hq:ki rd (levels++t.args) leftk lk=some (b,rest,cG))
 (b9:But (fun x=>x=sr) wr w1) (dO:kS sr [.int .i64 (cG:Nat)] 158 rest w1) (hv:Rep (wr.heap.size<=·) w1 (kp b) vb)
 (sN:Own w2 55 1 (.slice a' (k+1) c') (k+1) (vs++[vb])) (b8:But (fun b=>slv.ownBlock=some b) (w1.alloc o) w2) (hg:∀ g,(Value.slice a' (k+1) c').ownBlock=some g->slv.ownBlock=some g\/g=(w1.alloc o).heap.size)
 (oO:sr<w.heap.size) (hB:w.heap.size<=B) (rc:B+1+1<ob) (hobZ:ob<Z) :
 wO sr B ob Z v d lv levels ts nz r0 w rd (k+1) (w2.setCell ⟨ob,2,none⟩ (.slice a' (k+1) c')):=by
 have z1:=b9.size;have z2:=b8.size;have zw:=hb.size
 rw [zK] at hg z2
 have cZ:∀ g,slv.ownBlock=some g->g<wr.heap.size:=fun g h=>cV.lt h
 have hnsr:∀ g,slv.ownBlock=some g->Z<=g:=hZ
 have keep:∀ i x,w1.heap[i]? = some x->slv.ownBlock≠some i->i≠ob->(w2.setCell ⟨ob,2,none⟩ (.slice a' (k+1) c')).heap[i]? = some x:=by
  intro i x hi cX ho
  rw [b5 _ _ _ _ (by simpa using ho),b8.block i (by rw [zK];have:=zZ hi;omega) cX]
  exact zX hi
 have Bk:vZ ob v slv (.pointer none) (.pointer none) w1:=(b9.block ob (zZ eK) (by omega)).trans eK
 have hnb2:vZ ob v slv (.pointer none) (.pointer none) w2:=by
  unfold vZ;rw [b8.block ob (by rw [zK];have:=zZ Bk;omega) (fun e=>by have:=hZ ob e;omega)]
  exact zX Bk
 have fI:=hx.but b9 (fun i e=>by subst e;omega)
 refine ⟨bs++[b],rest,cG,_,vs++[vb],?_,?_,?_,hnb2.put2,?_,?_,?_,?_,?_⟩
 ·rw [bU ht hp,hq];rfl
 ·refine ((hb.trans b9).trans' ((But.refl (fun b=>slv.ownBlock=some b) w1).alloc o |>.trans b8) fun i hi e=>?_).setCell (p:=⟨ob,2,none⟩) (.inr (by simp;omega)) _
  have:=hZ i e;omega
 ·exact keep sr _ dO (fun e=>by have:=hZ sr e;omega) (by omega)
 ·refine sN.keep fun g x ch rV=>?_
  rw [b5 _ _ _ _ (by
   rcases hg g ch with h | h
   ·have:=hZ g h;simp;omega
   ·simp;omega)]
  exact rV
 ·intro g h
  rcases hg g h with h | h
  ·exact hZ g h
  ·omega
 ·rw [wP]
  refine zG.append ?_ (zG.one ?_)
  ·refine (Rep.keep fun i x hi rV=>⟨⟨hi.1,fun e=>?_⟩,?_⟩).2 _ _ hr
   ·have cX:i≠sr:=by omega
    exact keep i x (by rw [b9.block i (zZ rV) cX];exact rV) hi.2 (by omega)
   ·rcases hg i e with h | h
    ·exact hi.2 h
    ·have:=zZ rV;omega
  ·refine (Rep.keep fun i x hi rV=>⟨⟨by have:=hi;omega,fun e=>?_⟩,?_⟩).1 _ _ hv
   ·exact keep i x rV (fun e=>by have:=cZ i e;have:=hi;omega) (by have:=hi;omega)
   ·rcases hg i e with h | h
    ·have:=cZ i h;have:=hi;omega
    ·have:=zZ rV;omega
 ·obtain ⟨y1,y2,y3⟩:=fI
  have ck:∀ i u,w1.cell? ⟨i,0,none⟩=some u->slv.ownBlock≠some i->i≠ob->(w2.setCell ⟨ob,2,none⟩ (.slice a' (k+1) c')).cell? ⟨i,0,none⟩=some u:=by
   intro i u hi cX ho
   rw [World.cell?_of_block (w:=w1) (a:=⟨i,0,none⟩) ?_];exact hi
   have hl:=be w1 _ hi
   obtain ⟨x,rV⟩:∃ x,w1.heap[i]? = some x:=⟨w1.heap[i],by simp at hl;simp [hl]⟩
   show (w2.setCell ⟨ob,2,none⟩ (.slice a' (k+1) c')).heap[i]? = w1.heap[i]?
   rw [keep i x rV cX ho,rV]
  exact ⟨ck _ _ y1 (fun e=>by have:=hZ _ e;omega) (by omega),ck _ _ y2 (fun e=>by have:=hZ _ e;omega) (by omega),ck _ _ y3 (fun e=>by have:=hZ _ e;omega) (by omega)⟩
 ·simp only [World.setCell];simp;omega
theorem body_ask (d:Nat) (hd:d+1<=1000) (ih:ye d) (sr left:Nat) (levels:List Ty) (l:Bs) (lv:Value) (F:Nat->Prop) (w:World) (hg:qF w) (hn:p_ sr)
 (hs:kS sr [.int .i64 ((left+1:Nat):Int)] 158 l w) (hl:left+1<=1000) (hr:Lim l.length) (hh:kd (d+1) levels)
 (dx:Rep F w (.sl 54 1 levels.length (qB levels)) lv) (hF:∀ b,F b->b≠sr) (r1:Bs) (v:Nat) (t:Ty) (h1:Cut [40] l r1) (rD:lvl (zN r1) levels.length=some v) (ht:levels[v]? = some t) :
 Calls Tryz.prog 98 #[.pointer (some ⟨sr,0,none⟩),lv,.int .i64 ((d:Int)+1)] w (qo sr w (rdB (d+1) levels (left+1) l)):=by
 have HM:=bc (xi (d+1) levels left h1.out)
 have hm:rdB (d+1) levels (left+1) l=gj (rdB d) levels v t left (zH r1):=by rw [HM.out,rD];simp only [ht]
 have HM:=bc hm;clear hm
 rw [rdAsk_eq] at HM
 have IH:=bc ih;clear ih
 obtain ⟨fS,cH,rM⟩:=lvl_lt rD
 have fG:=bc cH;have lA:=bc rM;have hlvl':=bc rD;have HT:=bc ht
 have c1:=hs.cell1
 have f1:=hs.free 1
 have lsr:=uq hs
 have lsr1:sr<w.heap.size+1:=by omega
 have lsr2:sr<w.heap.size+1+1:=by omega
 obtain ⟨a0,k0,elv,_,_,hat⟩:=zF dx
 obtain ⟨bl,ol,u,dv,ea,hFl,_,aR,fK,mP⟩:=hat v fS
 rw [yx,ht] at aR
 simp only [Option.map_some,Option.some.injEq] at aR
 subst aR;subst ea;subst elv
 obtain ⟨bt,st,eu,hFt,iv,dC⟩:=zv mP
 subst eu
 obtain ⟨sa,ks,est,hks,_,dV⟩:=zF dC
 subst est
 have BX:w.cell? ⟨bt,0,none⟩=some (.slice sa t.args.length ks):=by simp [World.cell?,iv]
 have nl:=hF bl hFl
 have nt:=hF bt hFt
 have HF:=bc hF;have tF:=bc dV
 have CL:=bc fK;have CT:=bc BX
 clear cH rM rD ht hat mP iv dC hF dV fK BX
 have b_:levels.length<=10000:=by have:=hh.2;omega
 have t6:t.args.length<=15:=by
  have h1:=hh.1 t (List.mem_of_getElem? HT.out)
  have h2:=zp t
  have b_:∀ ts:List Ty,ts.length<=zE ts:=by
   intro ts
   induction ts with
   | nil=>simp
   | cons x xs ih=>simp [zE];omega
  have:=b_ t.args;omega
 go_enter Tryz.func98,Tryz.ntmps98
 go_wp2_with fail
 obtain ⟨W0,fg⟩:=zzM (((((w.setCell ⟨sr,1,none⟩ (.int .i64 left)).alloc (.cells #[.pointer (some ⟨sr,0,none⟩)] 156)).alloc (.cells #[.slice (some ⟨bl,ol,none⟩) levels.length k0] 86)).alloc (.cells #[.int .i64 ((d:Int)+1)] 3)))
 rw [<- fg]
 have fw:But (fun x=>x=sr) w W0:=by subst fg;exact ((((But.refl _ _).setS 1 _).alloc _).alloc _).alloc _
 have fY:kS sr [.int .i64 left] 158 l W0:=by subst fg;exact ((hs.put1).alloc _).alloc _ |>.alloc _
 have lZ:ph w.heap.size sr (.slice (some ⟨bl,ol,none⟩) levels.length k0) (d+1) W0:=by subst fg;refine ⟨?_,?_,?_⟩ <;> go_simp
 have z0:W0.heap.size=w.heap.size+3:=by subst fg;simp
 clear fg c1 f1
 refine (jn fY h1).mono ?_
 rintro en w1 ⟨rfl,b9,dO⟩
 have fI:=lZ.but b9 (fun i e=>by subst e;omega)
 have hb:=fw.trans b9
 have z1:=b9.size
 clear fw b9 fY lZ
 obtain ⟨x1,x2,x3⟩:=id fI
 go_wp2_with fail
 refine (gW _ _ _ _ _ dO (hr.mono h1.le)).mono ?_
 rintro en w2 ⟨rfl,b8,d9⟩
 have cw:=hr.mono h1.le
 have tn:=cw.mono (show (zN r1).length<=r1.length by have:=word_le r1;omega)
 have fR:=fI.but b8 (fun i e=>by subst e;omega)
 have co:=hb.trans b8
 have z2:=b8.size
 have mB:=hg.but co (fun i e=>by subst e;exact hn)
 clear x1 x2 x3 hb b8 dO fI
 go_wp2_with fail
 refine (atoi_ok _ _ tn (v:Int) fG.out).mono ?_
 rintro en w3 ⟨rfl,cP⟩
 have z3:=cP.size
 have rR:=mB.below cP
 have fO:=(cP.block sr (by omega)).trans d9
 have tT:=fR.but (But.ofBelow (m:=fun _=>False) cP) (fun i e=>e.elim)
 have hb:=co.trans (But.ofBelow cP)
 clear co cP d9 fR mB
 go_wp2_with fail
 refine (itoa_of fG.out w3 rR).mono ?_
 rintro en w4 ⟨rfl,cA⟩
 have z4:=cA.size
 have mW:=(cA.block sr (by omega)).trans fO
 have hg4:=rR.below cA
 have Av:=tT.but (But.ofBelow (m:=fun _=>False) cA) (fun i e=>e.elim)
 obtain ⟨x1,x2,x3⟩:=id Av
 have co:=hb.trans (But.ofBelow cA)
 have hq:(Lib.itoa (v:Int) == zN r1)=true:=by rw [beq_iff_eq];exact lA.out
 have iV:decide ((v:Int)<0)=false:=by rw [decide_eq_false_iff_not];omega
 have mN:decide (levels.length<=v)=false:=by rw [decide_eq_false_iff_not];omega
 have si:(((d:Int)+1) == 0)=false:=by rw [beq_eq_false_iff_ne];omega
 have s1:w.heap.size+1<w4.heap.size:=by omega
 have s2:w.heap.size<w4.heap.size:=by omega
 have s3:w.heap.size+1+1<w4.heap.size:=by omega
 have d1:w4.cell? ⟨bl,ol+v,none⟩=some (.pointer (some ⟨bt,0,none⟩)):=by rw [co.cell (be w _ CL.out) nl];exact CL.out
 have d2:w4.cell? ⟨bt,0,none⟩=some (.slice sa t.args.length ks):=by rw [co.cell (be w _ CT.out) nt];exact CT.out
 have d3:=be w4 _ d1
 have d4:=be w4 _ d2
 clear hb cA fO tT rR
 go_wp2_with fail
 have di:wO sr w.heap.size w4.heap.size (w4.heap.size+1) v d (.slice (some ⟨bl,ol,none⟩) levels.length k0) levels t.args left (zH r1) w (rdB d) 0
  (w4.alloc (.cells #[.string ⟨#[]⟩,.int .i64 v,.slice none 0 0,.pointer none,.pointer none] 105)):=by
  refine ⟨[],zH r1,left,.slice none 0 0,[],by simp [zu,zh],co.alloc _,kS.alloc mW _,zS _ _,World.ownsRow_nil _ _ _ _,fun g h=>by simp [Value.ownBlock] at h,zC.2 rfl,Av.but ((But.refl (fun _=>False) _).alloc _) (fun i e=>e.elim),by simp⟩
 have hz4:w.heap.size+1+1<w4.heap.size:=s3
 clear x1 x2 x3 d1 d2 d3 d4 Av mW co hg4
 generalize hZ:w4.heap.size+1=Z at di
 generalize hO:w4.heap.size=ob at *
 have HZ:=bc hZ;clear hZ
 have HO:=bc hO;clear hO
 go_loopw [93] (fun i wr=>∃ k:Nat,k<=t.args.length/\i=.int .i64 k/\wO sr w.heap.size ob Z v d (.slice (some ⟨bl,ol,none⟩) levels.length k0) levels t.args left (zH r1) w (rdB d) k wr)
  (fun i _=>t.args.length-(intOf i).toNat)
 case atStart=>exact ⟨0,Nat.zero_le _,rfl,di⟩
 case round =>
  clear di
  rename_i wr
  obtain ⟨k,hk,rfl,hrel⟩:=hrel
  obtain ⟨bs,lk,leftk,slv,vs,hp,hb,tA,eK,cV,hZb,cO,mA,hzr⟩:=hrel
  have hple:=ug (gq d) _ hp
  have Br:leftk<=1000:=by omega
  have oS:=vp r1
  have sx:Lim lk.length:=hr.mono (by have:=h1.le;omega)
  have hgk:qF wr:=hg.but hb (fun i e=>by subst e;exact hn)
  have lR:Rep F wr (.sl 54 1 levels.length (qB levels)) (.slice (some ⟨bl,ol,none⟩) levels.length k0):=Rep.but hb (fun b hb=>⟨HF.out b hb,hb⟩) dx
  have ou:=bc hp;have ic:=bc hZb;clear hp hZb hple
  by_cases cZ:k<t.args.length
  ·obtain ⟨ba,oa,uk,dk,esa,hFa,_,n5,rL,mG⟩:=tF.out k cZ
   subst esa
   rw [yx,Option.map_eq_some_iff] at n5
   obtain ⟨tk,dI,rfl⟩:=n5
   obtain ⟨bk,sk,euk,hFk,BZ,lU⟩:=zv mG
   subst euk
   obtain ⟨ask,ksk,esk⟩:∃ a c,sk=.slice a tk.args.length c:=by obtain ⟨a,c,e,_⟩:=zF lU;exact ⟨a,c,e⟩
   subst esk
   have e1:wr.cell? ⟨ba,oa+k,none⟩=some (.pointer (some ⟨bk,0,none⟩)):=by rw [hb.cell (be w _ rL) (HF.out ba hFa)];exact rL
   have e2:wr.cell? ⟨bk,0,none⟩=some (.slice ask tk.args.length ksk):=by
    have:w.cell? ⟨bk,0,none⟩=some (.slice ask tk.args.length ksk):=by simp [World.cell?,BZ]
    rw [hb.cell (be w _ this) (HF.out bk hFk)];exact this
   have AG:Rep F wr (.sl 54 1 tk.args.length (qB tk.args)) (.slice ask tk.args.length ksk):=Rep.but hb (fun b hb=>⟨HF.out b hb,hb⟩) lU
   have iz:kd d (levels++tk.args):=hh.next HT.out (List.mem_of_getElem? dI)
   have HTK:=bc dI
   clear dI rL BZ mG lU
   obtain ⟨y1,y2,y3⟩:=id mA
   go_wp2_with fail
   refine (gt d IH.out sr leftk levels tk.args lk _ _ F wr w.heap.size (w.heap.size+1) (w.heap.size+1+1) hgk hn tA Br sx iz (by omega) lR AG HF.out y1 y2 y3 (by omega) (by omega) (by omega)).mono ?_
   rintro en w5 ⟨vb,r',left',rfl,cF,tL,sI,sY⟩
   clear y1 y2 y3 e1 e2
   cases hq:ki (rdB d) (levels++tk.args) leftk lk with
   | none =>
     obtain rfl:=sI hq
     have HQ:=bc hq;clear hq sI sY
     go_wp2_with fail
     go_ret
     refine qo.no ?_ (hb.trans cF) tL
     rw [HM.out,hands_none (k+1) (by rw [bU HTK.out ou.out,HQ.out];rfl)];rfl
   | some x =>
     obtain ⟨b,rest,cG⟩:=x
     obtain ⟨rfl,rfl,oI⟩:=sY b rest cG hq
     have HQ:=bc hq;clear hq sI sY
     obtain ⟨ab,evb⟩:=kU oI
     subst evb
     have rC:vZ ob v slv (.pointer none) (.pointer none) w5:=(cF.block ob (zZ eK) (by have:=HO.out;omega)).trans eK
     obtain ⟨q1,_,_,q4,q5⟩:=rC.cells
     have q6:=q5 2
     have A1:Own w5 55 1 slv k vs:=cV.keep fun g o ch ho=>by rw [cF.block g (zZ ho) (by have:=ic.out g ch;have:=HZ.out;omega)];exact ho
     clear q5
     go_wp2_with (at_builtin;refine zW rfl _ _ 103 rfl 55 (.pointer none) 1 8 Tryz.underlying103 Tryz.infoB rfl (by decide) slv k vs rfl ?c1 _ 1 [.pointer (some ⟨ab,0,none⟩)] rfl ?c2 ?c3 ?c4 ?_)
     case c1=>exact A1.keep fun g o ch ho=>zX ho
     case c2=>exact zM.lit rfl
     case c3=>unfold maxLen;omega
     case c4=>omega
     intro a' c' w6 sN cW ch
     have aY:vZ ob v slv (.pointer none) (.pointer none) w6:=by
      unfold vZ;rw [cW.block ob (by simp;omega) (fun e=>by have:=ic.out ob e;have:=HZ.out;omega)]
      exact zX rC
     have Bh:=wO.next HTK.out ou.out hb eK ic.out cV cO mA hzr HQ.out cF tL oI sN cW (fun g h=>(ch g h).imp_right fun e=>e.trans (by simp)) lsr (br _) hz4 (by have:=HZ.out;omega)
     obtain ⟨p1,_,_,p4,p5⟩:=aY.cells
     have p6:=p5 2
     have HG:=bc ch;clear ch p5
     go_wp2_with fail
     go_roundw
     case rel=>exact ⟨k+1,by omega,by go_num,Bh⟩
     case measure=>simp [intOf];omega
  ·obtain rfl:k=t.args.length:=by omega
   have hp:zh (rdB d) (zu levels t.args) left (zH r1)=some (bs,lk,leftk):=by have:=ou.out;rwa [List.take_length] at this
   have HP:=bc hp;clear hp ou cZ hk
   have fH:∀ W:World,Rep F W (.sl 54 1 ([]:List Ty).length (qB [])) (.slice none 0 0):=fun W=>kP.2 ⟨rfl,none,0,rfl,br _,fun _=>rfl,.inl rfl⟩
   have hh0:=hh.same
   have De:=bc fH;clear fH
   obtain ⟨y1,y2,y3⟩:=id mA
   go_wp2_with fail
   refine (gt d IH.out sr leftk levels [] lk _ _ F wr w.heap.size (w.heap.size+1) (w.heap.size+1+1) hgk hn tA Br sx hh0 (by omega) lR (De.out wr) HF.out y1 y2 y3 (by omega) (by omega) (by omega)).mono ?_
   rw [List.append_nil] at *
   rintro en w5 ⟨vb,r',left',rfl,cF,tL,sI,sY⟩
   clear y1 y2 y3
   have rC:vZ ob v slv (.pointer none) (.pointer none) w5:=(cF.block ob (zZ eK) (by have:=HO.out;omega)).trans eK
   have B5:=mA.but cF (fun i e=>by subst e;omega)
   have dM:=hb.trans cF
   have z5:=cF.size
   have zr:=hb.size
   obtain ⟨_,q2,_,q4,q5⟩:=rC.cells
   have q6:=q5 3;clear q5
   cases hq:ki (rdB d) levels leftk lk with
   | none =>
     obtain rfl:=sI hq
     have HQ:=bc hq;clear hq sI sY
     go_wp2_with fail
     go_ret
     refine qo.no ?_ (dM.setCell (p:=⟨ob,3,none⟩) (.inr (by simp;omega)) _) (r:=r') (left:=left') ?_
     ·rw [HM.out];simp only [HP.out,Option.bind_eq_bind,Option.bind_some,HQ.out,Option.bind_none]
     ·unfold kS;rw [b5 _ _ _ _ (by simp;omega)];exact tL
   | some x =>
     obtain ⟨by1,rest1,da⟩:=x
     obtain ⟨rfl,rfl,oI⟩:=sY _ _ _ hq
     have hle5:=uF (gq d) hq
     have HQ:=bc hq;clear hq sI sY
     obtain ⟨ab,evb⟩:=kU oI
     subst evb
     have lN:=rC.put3 (u:=.pointer (some ⟨ab,0,none⟩))
     obtain ⟨WA,Aa⟩:=zzM (w5.setCell ⟨ob,3,none⟩ (.pointer (some ⟨ab,0,none⟩)))
     go_wp2_with fail
     rw [<- Aa] at lN ⊢
     have nL:But (fun x=>x=sr) w WA:=by subst Aa;exact dM.setCell (p:=⟨ob,3,none⟩) (.inr (by simp;omega)) _
     have kA:∀ i x,w5.heap[i]? = some x->i≠ob->WA.heap[i]? = some x:=by
      intro i x hx cX;subst Aa;rw [b5 _ _ _ _ (by simpa using cX)];exact hx
     have zA:WA.heap.size=w5.heap.size:=by subst Aa;simp [World.setCell]
     have hsA:kS sr [.int .i64 (da:Nat)] 158 r' WA:=kA _ _ tL (by omega)
     have B4:ph w.heap.size sr (.slice (some ⟨bl,ol,none⟩) levels.length k0) (d+1) WA:=by
      subst Aa
      exact B5.but (m:=fun i=>i=ob) ((But.refl (fun i=>i=ob) w5).setCell (p:=⟨ob,3,none⟩) (.inl rfl) _) (fun i e=>by subst e;omega)
     have hrsA:zG (fun b=>Z<=b/\slv.ownBlock≠some b) WA (qJ bs) vs :=
      (Rep.keep fun i x hi hx=>⟨hi,kA i x (by rw [cF.block i (zZ hx) (by have:=HZ.out;omega)];exact hx) (by have:=HZ.out;omega)⟩).2 _ _ cO
     have A0:Own WA 55 1 slv t.args.length vs:=cV.keep fun g o ch ho=>kA g o (by rw [cF.block g (zZ ho) (by have:=ic.out g ch;have:=HZ.out;omega)];exact ho) (by have:=ic.out g ch;have:=HZ.out;omega)
     have hv5A:Rep (wr.heap.size<=·) WA (kp by1) (.pointer (some ⟨ab,0,none⟩)):=(Rep.keep fun i x hi hx=>⟨hi,kA i x hx (by have:=zZ eK;have:=hi;omega)⟩).1 _ _ oI
     have hgA:qF WA:=hg.but nL (fun i e=>by subst e;exact hn)
     have hlvA:Rep F WA (.sl 54 1 levels.length (qB levels)) (.slice (some ⟨bl,ol,none⟩) levels.length k0):=Rep.but nL (fun b hb=>⟨HF.out b hb,hb⟩) dx
     have KA:=bc kA
     clear Aa kA q2 q4 q6 rC cF B5 tL cO oI tA mA lR hgk
     obtain ⟨y1,y2,y3⟩:=id B4
     refine (gt d IH.out sr da levels [] r' _ _ F WA w.heap.size (w.heap.size+1) (w.heap.size+1+1) hgA hn hsA (by omega) (sx.mono (by omega)) (by rw [List.append_nil];exact hh0) (by omega) hlvA (De.out WA) HF.out y1 y2 y3 (by omega) (by omega) (by omega)).mono ?_
     rw [List.append_nil] at *
     rintro en w6 ⟨vn,r6,As,rfl,cW,rW,nf,sU⟩
     clear y1 y2 y3
     have aY:vZ ob v slv (.pointer (some ⟨ab,0,none⟩)) (.pointer none) w6:=(cW.block ob (zZ lN) (by have:=HO.out;omega)).trans lN
     have hbx6:=B4.but cW (fun i e=>by subst e;omega)
     obtain ⟨x1,_,_⟩:=id hbx6
     have nJ:=nL.trans cW
     have z6:=cW.size
     obtain ⟨_,_,q3,q4,q5⟩:=aY.cells
     have q6:=q5 4;clear q5
     cases rH:ki (rdB d) levels da r' with
     | none =>
       obtain rfl:=nf rH
       have tf:=bc rH;clear rH nf sU
       go_wp2_with fail
       go_ret
       refine qo.no ?_ (nJ.setCell (p:=⟨ob,4,none⟩) (.inr (by simp;omega)) _) (r:=r6) (left:=As) ?_
       ·rw [HM.out];simp only [HP.out,Option.bind_eq_bind,Option.bind_some,HQ.out,tf.out,Option.bind_none]
       ·unfold kS;rw [b5 _ _ _ _ (by simp;omega)];exact rW
     | some x =>
       obtain ⟨bn,rest2,cG⟩:=x
       obtain ⟨rfl,rfl,hv6⟩:=sU _ _ _ rH
       have hle6:=uF (gq d) rH
       have tf:=bc rH;clear rH nf sU
       obtain ⟨an,evn⟩:=kU hv6
       subst evn
       have Bj:=aY.put4 (u:=.pointer (some ⟨an,0,none⟩))
       have hbD:But (fun x=>x=sr) w (w6.setCell ⟨ob,4,none⟩ (.pointer (some ⟨an,0,none⟩))):=nJ.setCell (p:=⟨ob,4,none⟩) (.inr (by simp;omega)) _
       have hsD:kS sr [.int .i64 (cG:Nat)] 158 r6 (w6.setCell ⟨ob,4,none⟩ (.pointer (some ⟨an,0,none⟩))):=by
        unfold kS;rw [b5 _ _ _ _ (by simp;omega)];exact rW
       go_wp2_with fail
       rcases ze [41] r6 with h7 | ⟨r7,h7⟩
       ·refine (uz hsD h7).mono ?_
        rintro en w7 ⟨rfl,cJ,t_⟩
        go_wp2_with fail
        go_ret
        refine qo.no ?_ (hbD.trans cJ) t_
        rw [HM.out];simp only [HP.out,Option.bind_eq_bind,Option.bind_some,HQ.out,tf.out,h7.out,Option.bind_none]
       refine (jn hsD h7).mono ?_
       rintro en w7 ⟨rfl,cJ,t_⟩
       go_wp2_with fail
       go_ret
       refine qo.yes (b:=.ask v bs by1 bn) (r:=r7) (left:=cG) ?_ (hbD.trans cJ) t_ ?_
       ·rw [HM.out];simp only [HP.out,Option.bind_eq_bind,Option.bind_some,HQ.out,tf.out,h7.out]
       ·have de:∀ i x,w6.heap[i]? = some x->i≠ob->i≠sr->w7.heap[i]? = some x:=by
         intro i x hx cX sA
         rw [cJ.block i (by have:=zZ hx;simpa [World.setCell] using this) sA,b5 _ _ _ _ (by simpa using cX)];exact hx
        have keepA:∀ i x,WA.heap[i]? = some x->i≠ob->i≠sr->w7.heap[i]? = some x:=fun i x hx cX sA=>de i x (by rw [cW.block i (zZ hx) sA];exact hx) cX sA
        have hnb7:vZ ob v slv (.pointer (some ⟨ab,0,none⟩)) (.pointer (some ⟨an,0,none⟩)) w7:=(cJ.block ob (zZ Bj) (by omega)).trans Bj
        have hZo:=HZ.out
        have db:bs.length=t.args.length:=by
         have:=(ug (gq d) _ HP.out).2.2;simpa [zu] using this
        rw [kp,vM]
        refine ⟨ob,_,rfl,by omega,hnb7,?_⟩
        refine zJ.2 ⟨_,_,rfl,zI.2 rfl,zJ.2 ⟨_,_,rfl,zI.2 rfl,zJ.2 ⟨_,_,rfl,?_,zJ.2 ⟨_,_,rfl,?_,zJ.2 ⟨_,_,rfl,?_,zC.2 rfl⟩⟩⟩⟩⟩
        ·rw [db]
         refine (A0.keep fun g o ch ho=>keepA g o ho (by have:=ic.out g ch;omega) (by have:=ic.out g ch;omega)).rep (fun g ch=>by have:=ic.out g ch;omega) ?_
         exact (Rep.keep fun i x hi hx=>⟨by omega,keepA i x hx (by omega) (by omega)⟩).2 _ _ hrsA
        ·exact (Rep.keep fun i x hi hx=>⟨by have:=hi;omega,keepA i x hx (by have:=hi;omega) (by have:=hi;omega)⟩).1 _ _ hv5A
        ·exact (Rep.keep fun i x hi hx=>⟨by have:=hi;omega,de i x hx (by have:=hi;omega) (by have:=hi;omega)⟩).1 _ _ hv6
theorem body_step (d:Nat) (hd:d<=1000) (ih:∀ d',d=d'+1->ye d'):ye d:=by
 intro sr left levels l lv F w hg hn hs hl hr hh dx hF
 have IH:=bc ih;clear ih
 have HF:=bc hF;clear hF
 have c1:=hs.cell1
 have f1:=hs.free 1
 have lsr:=uq hs
 have lsr1:sr<w.heap.size+1:=by omega
 have lsr2:sr<w.heap.size+1+1:=by omega
 obtain ⟨a0,k0,elv⟩:∃ a k,lv=.slice a levels.length k:=by obtain ⟨a,k,e,_⟩:=zF dx;exact ⟨a,k,e⟩
 subst elv
 rcases left with _ | left
 ·clear IH
  go_enter Tryz.func98,Tryz.ntmps98
  go_wp2_with fail
  go_ret
  refine qo.no (by unfold rdB;rfl) (((((But.refl _ _).setS 1 _).alloc _).alloc _).alloc _) (((hs.put1).alloc _).alloc _ |>.alloc _)
 by_cases oZ:∃ d' r1 v t,d=d'+1/\Cut [40] l r1/\lvl (zN r1) levels.length=some v/\levels[v]? = some t
 ·obtain ⟨d',r1,v,t,rfl,h1,h2,h3⟩:=oZ
  exact body_ask d' hd (IH.out d' rfl) sr left levels l _ F w hg hn hs hl hr hh dx HF.out r1 v t h1 h2 h3
 have Dm:=bc oZ;clear oZ IH
 go_enter Tryz.func98,Tryz.ntmps98
 go_wp2_with fail
 obtain ⟨W0,fg⟩:=zzM (((((w.setCell ⟨sr,1,none⟩ (.int .i64 left)).alloc (.cells #[.pointer (some ⟨sr,0,none⟩)] 156)).alloc (.cells #[.slice a0 levels.length k0] 86)).alloc (.cells #[.int .i64 d] 3)))
 rw [<- fg]
 have fw:But (fun x=>x=sr) w W0:=by subst fg;exact ((((But.refl _ _).setS 1 _).alloc _).alloc _).alloc _
 have fY:kS sr [.int .i64 left] 158 l W0:=by subst fg;exact ((hs.put1).alloc _).alloc _ |>.alloc _
 have lZ:ph w.heap.size sr (.slice a0 levels.length k0) d W0:=by subst fg;refine ⟨?_,?_,?_⟩ <;> go_simp
 have z0:W0.heap.size=w.heap.size+3:=by subst fg;simp
 have hb0':=fw
 clear fg c1 f1
 have n1:w.heap.size≠sr:=by omega
 have n2:w.heap.size+1≠sr:=by omega
 have n3:w.heap.size+1+1≠sr:=by omega
 rcases ze [40] l with h1 | ⟨r1,h1⟩
 ·refine (uz fY h1).mono ?_
  rintro en w1 ⟨rfl,b9,dO⟩
  obtain ⟨x1,x2,x3⟩:=lZ.but b9 (fun i e=>by subst e;omega)
  go_wp2_with fail
  refine (gW _ _ _ _ _ dO hr).mono ?_
  rintro en w2 ⟨rfl,b8,d9⟩
  have hb:=(fw.trans b9).trans b8
  have hm:rdB d levels (left+1) l=(if zN l=[116] then some (Bd.leaf 116,zH l,left) else if zN l=[102] then some (.leaf 102,zH l,left) else if zN l=[117] then some (.leaf 117,zH l,left) else none):=by
   unfold rdB;simp only [h1.out]
  have HM:=bc hm;clear hm
  go_wp2_with fail
  ·have hw:zN l=[116]:=by assumption
   go_ret
   exact g_ (o:=rdB d levels (left+1) l) (x:=116) rfl (by rw [HM.out,if_pos hw]) hb d9
  ·have hw:zN l=[102]:=by assumption
   go_ret
   exact g_ (o:=rdB d levels (left+1) l) (x:=102) rfl (by rw [HM.out,if_neg (by rw [hw];decide),if_pos hw]) hb d9
  ·have hw:((!zN l == [116])=true/\(!zN l == [102])=true)/\(!zN l == [117])=true:=by assumption
   go_ret
   simp only [Bool.not_eq_true',beq_eq_false_iff_ne] at hw
   exact qo.no (by rw [HM.out,if_neg hw.1.1,if_neg hw.1.2,if_neg hw.2]) hb d9
  ·have hw:((!zN l == [116])=false\/(!zN l == [102])=false)\/(!zN l == [117])=false:=by assumption
   have d8:¬ zN l=[116]:=by assumption
   have oT:¬ zN l=[102]:=by assumption
   have hw3:zN l=[117]:=by simpa [d8,oT] using hw
   go_ret
   exact g_ (o:=rdB d levels (left+1) l) (x:=117) (by rw [hw3]) (by rw [HM.out,if_neg d8,if_neg oT,if_pos hw3]) hb d9
 refine (jn fY h1).mono ?_
 rintro en w1 ⟨rfl,b9,dO⟩
 have fI:=lZ.but b9 (fun i e=>by subst e;omega)
 obtain ⟨x1,x2,x3⟩:=fI
 go_wp2_with fail
 refine (gW _ _ _ _ _ dO (hr.mono h1.le)).mono ?_
 rintro en w2 ⟨rfl,b8,d9⟩
 have cw:=hr.mono h1.le
 have hb:=(fw.trans b9).trans b8
 have fR:=(lZ.but b9 (fun i e=>by subst e;omega)).but b8 (fun i e=>by subst e;omega)
 clear x1 x2 x3
 have mB:=hg.but hb (fun i e=>by subst e;exact hn)
 have tn:=cw.mono (show (zN r1).length<=r1.length by have:=word_le r1;omega)
 have z2:=hb.size
 have z2':w.heap.size+3<=w2.heap.size:=by have:=b9.size;have:=b8.size;omega
 clear b9 b8 fY fw hb0' lZ dO
 have HM:=bc (xi d levels left h1.out)
 go_wp2_with fail
 cases eR:lvl (zN r1) levels.length with
 | none =>
   have HN:rdB d levels (left+1) l=none:=by rw [HM.out,eR]
   rcases lvl_no eR with f7 | ⟨v,cH,hv⟩
   ·refine (atoi_no _ _ tn mB f7).mono ?_
    rintro en w3 ⟨v,t,p,rfl,cP⟩
    have im:=bc HN;clear HN eR f7
    go_wp2_with fail
    go_ret
    exact qo.no im.out (hb.trans (But.ofBelow cP)) ((cP.block sr (by omega)).trans d9)
   ·refine (atoi_ok _ _ tn v cH).mono ?_
    rintro en w3 ⟨rfl,cP⟩
    have im:=bc HN;clear HN eR
    have rR:=mB.below cP
    have fO:=(cP.block sr (by omega)).trans d9
    have tT:=fR.but (But.ofBelow (m:=fun _=>False) cP) (fun i e=>e.elim)
    have fG:=bc cH;clear cH
    go_wp2_with fail
    refine (itoa_of fG.out w3 rR).mono ?_
    rintro en w4 ⟨rfl,cA⟩
    have z3:=cP.size
    have mW:=(cA.block sr (by omega)).trans fO
    obtain ⟨x1,x2,x3⟩:=tT.but (But.ofBelow (m:=fun _=>False) cA) (fun i e=>e.elim)
    have co:=(hb.trans (But.ofBelow cP)).trans (But.ofBelow cA)
    rcases hv with hv | ⟨hv,iJ⟩ | ⟨hv,iJ,hv3⟩
    ·have hq:(Lib.itoa v == zN r1)=false:=by rw [beq_eq_false_iff_ne];exact hv
     clear hv
     go_wp2_with fail
     go_ret
     exact qo.no im.out co mW
    ·have hq:(Lib.itoa v == zN r1)=true:=by rw [beq_iff_eq];exact hv
     clear hv
     go_wp2_with fail
     go_ret
     exact qo.no im.out co mW
    ·have hq:(Lib.itoa v == zN r1)=true:=by rw [beq_iff_eq];exact hv
     clear hv
     go_wp2_with fail
     go_ret
     exact qo.no im.out co mW
 | some v =>
   obtain ⟨fS,cH,rM⟩:=lvl_lt eR
   have BV:d=0:=by
    rcases Nat.eq_zero_or_pos d with h | h
    ·exact h
    ·exact absurd ⟨d-1,r1,v,levels[v],by omega,h1,eR,by simp [fS]⟩ Dm.out
   have HD:=bc BV;clear BV Dm
   refine (atoi_ok _ _ tn (v:Int) cH).mono ?_
   rintro en w3 ⟨rfl,cP⟩
   have rR:=mB.below cP
   have fO:=(cP.block sr (by omega)).trans d9
   have tT:=fR.but (But.ofBelow (m:=fun _=>False) cP) (fun i e=>e.elim)
   have fG:=bc cH;clear cH
   have rD:=bc eR;clear eR
   have lA:=bc rM;clear rM
   go_wp2_with fail
   refine (itoa_of fG.out w3 rR).mono ?_
   rintro en w4 ⟨rfl,cA⟩
   have z3:=cP.size
   have z4:=cA.size
   have mW:=(cA.block sr (by omega)).trans fO
   have hg4:=rR.below cA
   have Av:=tT.but (But.ofBelow (m:=fun _=>False) cA) (fun i e=>e.elim)
   obtain ⟨x1,x2,x3⟩:=Av
   have co:=(hb.trans (But.ofBelow cP)).trans (But.ofBelow cA)
   have hq:(Lib.itoa (v:Int) == zN r1)=true:=by rw [beq_iff_eq];exact lA.out
   have b_:levels.length<=10000:=by have:=hh.2;omega
   clear hb cP cA d9 fR tT fO mB rR
   have si:((d:Int) == 0)=true:=by rw [beq_iff_eq];have:=HD.out;omega
   go_wp2_with fail
   go_ret
   exact qo.no (by rw [HM.out,rD.out];have:=HD.out;subst this;rfl) co mW
theorem body_any (d:Nat) (hd:d<=1000):ye d:=by
 induction d with
 | zero=>exact body_step 0 hd (fun d' h=>by omega)
 | succ d ih=>exact body_step (d+1) hd (fun d' h=>by obtain rfl:d=d':=by omega
                                                     exact ih (by omega))
def kX (t:Ty) (l:Bs):Option Bd:=match rdB 100 t.args 200 l with
 | some (b,[],_)=>some b
 | _=>none
def RPost {α:Type} (enc:α->DV) (w:World) (o:Option α) (en:Ending) (w':World):Prop :=
 ∃ v,en=.returned v/\Below w.heap.size w w'/\(o=none->v=.pointer none)/\(∀ b,o=some b->Rep (w.heap.size<=·) w' (enc b) v)
theorem handOk_of {t:Ty} (h:zV t<=15):kd 100 t.args:=by
 have h1:=zp t
 have b_:∀ ts:List Ty,ts.length<=zE ts:=by
  intro ts;induction ts with
  | nil=>simp
  | cons x xs ih=>simp [zE];omega
 have d_:∀ ts:List Ty,∀ a∈ts,1+zV a<=zE ts:=by
  intro ts
  induction ts with
  | nil=>simp
  | cons x xs ih =>
    intro a ha
    rcases List.mem_cons.1 ha with rfl | ha
    ·simp [zE]
    ·have:=ih a ha;simp [zE];omega
 refine ⟨fun a ha=>?_,?_⟩
 ·have:=d_ _ a ha;omega
 ·have:=b_ t.args;omega
theorem uE (F:Nat->Prop) (t:Ty) (l:Bs) (kv:Value) (w:World) (hg:qF w) (hk:Rep F w (jS t) kv) (ht:zV t<=15) (hl:Lim l.length) :
 Calls Tryz.prog 60 #[kv,str l] w (RPost kp w (kX t l)):=by
 obtain ⟨bk,sk,rfl,hFk,hc,hs⟩:=zv hk
 obtain ⟨a,c,e,_⟩:=zF hs
 subst e
 have c1:w.cell? ⟨bk,0,none⟩=some (.slice a t.args.length c):=by simp [World.cell?,hc]
 have lk:=zZ hc
 have HC:=bc hc;clear hc
 go_enter Tryz.func60,Tryz.ntmps60
 go_wp2_with fail
 have fY:kS w.heap.size [.int .i64 (200:Nat)] 158 l (w.alloc (.cells #[str l,.int .i64 200] 158)):=zS _ _
 have aD:Rep (fun b=>b<w.heap.size) (w.alloc (.cells #[str l,.int .i64 200] 158)) (.sl 54 1 t.args.length (qB t.args)) (.slice a t.args.length c) :=
  (Rep.keep fun b o _ ho=>⟨zZ ho,zX ho⟩).1 _ _ hs
 refine (body_any 100 (by omega) w.heap.size 200 t.args l _ _ _ (hg.below ((bi _ _).alloc (br _) _)) (hg.new (br _)) fY (by omega) hl (handOk_of ht) aD (fun b hb=>by have:=hb;omega)).mono ?_
 rintro en w1 ⟨v,r',left',rfl,b9,dO,cT,dH⟩
 have hb:Below w.heap.size w w1:=((bi w.heap.size w).alloc (br _) _).trans (b9.toBelow (by simp) (fun i hi e=>by omega))
 have me:=dO.cell
 have hz:w.heap.size<w1.heap.size:=uq dO
 cases hq:rdB 100 t.args 200 l with
 | none =>
   obtain rfl:=cT hq
   have HQ:=bc hq;clear hq cT dH
   go_wp2_with fail
   go_ret
   exact ⟨_,rfl,hb,fun _=>rfl,fun b h=>by simp [kX,HQ.out] at h⟩
 | some x =>
   obtain ⟨b,rest,left⟩:=x
   obtain ⟨rfl,_,hv⟩:=dH _ _ _ hq
   have HQ:=bc hq;clear hq cT dH
   obtain ⟨av,ev⟩:=kU hv
   subst ev
   cases r' with
   | cons x xs =>
     have cX:(!(x::xs).isEmpty)=true:=rfl
     go_wp2_with fail
     go_ret
     exact ⟨_,rfl,hb,fun _=>rfl,fun b h=>by simp [kX,HQ.out] at h⟩
   | nil =>
     go_wp2_with fail
     go_ret
     have HM:kX t l=some b:=by simp [kX,HQ.out]
     refine ⟨_,rfl,hb,fun h=>by simp [HM] at h,fun b' h=>?_⟩
     rw [HM] at h;simp at h;subst h
     exact (Rep.keep fun b o h ho=>⟨by have:=h;simp at this;omega,ho⟩).1 _ _ hv
def xS (s l:Bs):Option (Ty×Bd):=do
 let t<-qk s
 let b<-kX t l
 some (t,b)
def TSPost (w:World) (s l:Bs) (en:Ending) (w':World):Prop :=
 ∃ kv bv,en=.returned (.tuple #[kv,bv])/\Below w.heap.size w w'/\(xS s l=none->bv=.pointer none) /\
   (∀ t b,xS s l=some (t,b)->Rep (w.heap.size<=·) w' (jS t) kv/\Rep (w.heap.size<=·) w' (kp b) bv)
theorem rdKind_le {s:Bs} {t:Ty} (h:qk s=some t):zV t<=15:=by
 unfold qk at h
 split at h
 ·split at h
  ·rename_i cQ;simp at h;subst h;exact cQ
  ·simp at h
 ·simp at h
theorem xg (s l:Bs) (w:World) (hg:qF w) (hs:Lim s.length) (hl:Lim l.length) :
 Calls Tryz.prog 29 #[str s,str l] w (TSPost w s l):=by
 go_enter Tryz.func29,Tryz.ntmps29
 go_wp2_with fail
 refine (xt s w hs).mono ?_
 rintro en w1 ⟨kv,rfl,b9,cT,dH⟩
 cases hq:qk s with
 | none =>
   obtain rfl:=cT hq
   have HQ:=bc hq;clear hq cT dH
   go_wp2_with fail
   go_ret2
   exact ⟨_,_,rfl,b9,fun _=>rfl,fun t b h=>by simp [xS,HQ.out] at h⟩
 | some t =>
   have hv:=dH _ hq
   have ht:=rdKind_le hq
   have HQ:=bc hq;clear hq cT dH
   obtain ⟨ak,_,ek,_⟩:=zv hv
   subst ek
   go_wp2_with fail
   refine (uE _ t l _ w1 (hg.below b9) hv ht hl).mono ?_
   rintro en w2 ⟨bv,rfl,b8,fB,eE⟩
   go_wp2_with fail
   go_ret2
   refine ⟨_,_,rfl,zzT b9 b8,fun h=>fB ?_,fun t' b h=>?_⟩
   ·cases hr:kX t l with
    | none=>rfl
    | some b=>simp [xS,HQ.out,hr] at h
   ·cases hr:kX t l with
    | none=>simp [xS,HQ.out,hr] at h
    | some b' =>
      simp [xS,HQ.out,hr] at h
      obtain ⟨rfl,rfl⟩:=h
      exact ⟨Rep.below b8 (fun _ h=>h) hv,(Rep.keep fun i o hi ho=>⟨by have:=b9.size;have:=hi;omega,ho⟩).1 _ _ (eE _ hr)⟩
theorem bC (ts:List Bd):∀ k:Nat,(qJ ts)[k]? = ts[k]?.map kp:=by
 induction ts with
 | nil=>intro k;simp [qJ]
 | cons t ts ih=>intro k;cases k <;> simp [qJ,ih]
theorem oneCell_encBs {F:Nat->Prop} {w:World} (ts:List Bd):∀ us,zG F w (qJ ts) us->∀ u∈us,u.oneCell'=true:=by
 induction ts with
 | nil=>intro us h;rw [qJ,zC] at h;subst h;simp
 | cons t ts ih =>
   intro us h u hu
   rw [qJ,zJ] at h
   obtain ⟨v,vs',rfl,h1,h2⟩:=h
   rcases List.mem_cons.1 hu with rfl | hu
   ·obtain ⟨a,rfl⟩:=kU h1;rfl
   ·exact ih _ h2 u hu
theorem y6 {F:Nat->Prop} {w:World} {c:UInt8} {v:Value} (h:Rep F w (kp (.leaf c)) v) :
 ∃ b sl,v=.pointer (some ⟨b,0,none⟩)/\F b/\w.heap[b]? = some (.cells #[str [c],.int .i64 (0:Nat),sl,.pointer none,.pointer none] 105 (0,0))/\Rep F w (.sl 55 1 0 []) sl:=by
 rw [kp,vM] at h
 obtain ⟨b,cs,hv,hb,hc,hr⟩:=h
 simp only [zJ,zC,zI] at hr
 obtain ⟨_,_,e1,rfl,_,_,rfl,rfl,sl,_,rfl,h3,_,_,rfl,rfl,_,_,rfl,rfl,rfl⟩:=hr
 have:cs=#[str [c],.int .i64 (0:Nat),sl,.pointer none,.pointer none]:=by apply Array.ext';simpa using e1
 subst this
 exact ⟨b,sl,hv,hb,hc,h3⟩
theorem yd {F:Nat->Prop} {w:World} {v:Nat} {ss:List Bd} {y n:Bd} {p:Value} (h:Rep F w (kp (.ask v ss y n)) p) :
 ∃ b sl yv nv,p=.pointer (some ⟨b,0,none⟩)/\F b/\w.heap[b]? = some (.cells #[str [],.int .i64 v,sl,yv,nv] 105 (0,0)) /\
   Rep F w (.sl 55 1 ss.length (qJ ss)) sl/\Rep F w (kp y) yv/\Rep F w (kp n) nv:=by
 rw [kp,vM] at h
 obtain ⟨b,cs,hv,hb,hc,hr⟩:=h
 simp only [zJ,zC,zI] at hr
 obtain ⟨_,_,e1,rfl,_,_,rfl,rfl,sl,_,rfl,h3,yv,_,rfl,h4,nv,_,rfl,h5,rfl⟩:=hr
 have:cs=#[str [],.int .i64 v,sl,yv,nv]:=by apply Array.ext';simpa using e1
 subst this
 exact ⟨b,sl,yv,nv,hv,hb,hc,h3,h4,h5⟩
theorem yu (F:Nat->Prop) (w:World) (c:UInt8) (v:Value) (h:Rep F w (kp (.leaf c)) v) :
 Calls Tryz.prog 61 #[v] w fun en w'=>en=.returned (.bool false)/\w'=w:=by
 obtain ⟨b,sl,rfl,_,hc,_⟩:=y6 h
 have c1:w.cell? ⟨b,0,none⟩=some (.string ⟨#[c]⟩):=by simp [World.cell?,hc]
 clear hc h
 go_enter Tryz.func61,Tryz.ntmps61
 go_wp2_with fail
 go_ret
 exact ⟨rfl,rfl⟩
theorem bZ (F:Nat->Prop) (w:World) (v:Nat) (ss:List Bd) (y n:Bd) (p:Value) (h:Rep F w (kp (.ask v ss y n)) p) :
 Calls Tryz.prog 61 #[p] w fun en w'=>en=.returned (.bool true)/\w'=w:=by
 obtain ⟨b,sl,yv,nv,rfl,_,hc,_⟩:=yd h
 have c1:w.cell? ⟨b,0,none⟩=some (.string ⟨#[]⟩):=by simp [World.cell?,hc]
 clear hc h
 go_enter Tryz.func61,Tryz.ntmps61
 go_wp2_with fail
 go_ret
 exact ⟨rfl,rfl⟩
mutual
def jX:Ty->DV
 | .mk ts=>.sl 61 1 ts.length (qz ts)
def qz:List Ty->List DV
 | []=>[]
 | t::ts=>jX t::qz ts
end
def qg (L:Nat) (w:World) (o:Option (Ty×Bs)) (en:Ending) (w':World):Prop :=
 ∃ (v:Value) (k:Int) (t:Ty),en=.returned (.tuple #[.agg #[v],.int .i64 k])/\Below w.heap.size w w'/\Rep (w.heap.size<=·) w' (jX t) v/\(o=none->k = -1/\t=.mk [])/\(∀ t' rest,o=some (t',rest)->k=(L:Int)-rest.length/\t=t')
theorem Tryz.infoS:(Tryz.prog.info? 61).map (fun i=>(i.zero,i.size,i.bytes))=some (some (.agg #[.slice none 0 0]),1,24):=by kernel_rfl
theorem jv (ts:List Ty):∀ k:Nat,(qz ts)[k]? = ts[k]?.map jX:=by
 induction ts with
 | nil=>intro k;simp [qz]
 | cons t ts ih=>intro k;cases k <;> simp [qz,ih]
theorem encSs_append (a b:List Ty):qz (a++b)=qz a++qz b:=by
 induction a with
 | nil=>rfl
 | cons t ts ih=>simp [qz,ih]
theorem qY (t:Ty):jX t=.sl 61 1 t.args.length (qz t.args):=by cases t;rw [jX];rfl
theorem zl {F:Nat->Prop} {w:World} {t:Ty} {v:Value} (h:Rep F w (jX t) v):∃ a c,v=.slice a t.args.length c:=by
 rw [qY] at h;obtain ⟨a,c,e,_⟩:=zF h;exact ⟨a,c,e⟩
theorem v_ {F:Nat->Prop} {w:World} (ts:List Ty):∀ us,zG F w (qz ts) us->∀ u∈us,u.oneCell'=true:=by
 induction ts with
 | nil=>intro us h;rw [qz,zC] at h;subst h;simp
 | cons t ts ih =>
   intro us h u hu
   rw [qz,zJ] at h
   obtain ⟨v,vs',rfl,h1,h2⟩:=h
   rcases List.mem_cons.1 hu with rfl | hu
   ·obtain ⟨a,c,rfl⟩:=zl h1;rfl
   ·exact ih _ h2 u hu
theorem wi (F:Nat->Prop) (w:World):Rep F w (jX (.mk [])) (.slice none 0 0):=by
 rw [qY];exact kP.2 ⟨rfl,none,0,rfl,br _,fun _=>rfl,.inl rfl⟩
theorem qg.no {L:Nat} {w w':World} {o:Option (Ty×Bs)} (ho:o=none) (hb:Below w.heap.size w w') :
 qg L w o (.returned (.tuple #[.agg #[.slice none 0 0],.int .i64 (-1)])) w' :=
 ⟨_,_,.mk [],rfl,hb,wi _ _,fun _=>⟨rfl,rfl⟩,fun _ _ h=>by rw [ho] at h;simp at h⟩
theorem qg.yes {L:Nat} {w w':World} {o:Option (Ty×Bs)} {t:Ty} {rest:Bs} {v:Value} {k:Int} (ho:o=some (t,rest)) (hk:k=(L:Int)-rest.length) (hb:Below w.heap.size w w') (hv:Rep (w.heap.size<=·) w' (jX t) v) :
 qg L w o (.returned (.tuple #[.agg #[v],.int .i64 k])) w' :=
 ⟨_,_,t,rfl,hb,hv,fun h=>by rw [ho] at h;simp at h,fun _ _ h=>by rw [ho] at h;simp at h;obtain ⟨rfl,rfl⟩:=h;exact ⟨hk,rfl⟩⟩
def bO (l:Bs) (d:Nat):Prop:=∀ (i:Nat) (w:World),i<=l.length->d<=21 ->
    Calls Tryz.prog 100 #[str l,.int .i64 i,.int .i64 d] w (qg l.length w (rdS (21-d) (l.drop i)))
theorem pO (l:Bs) (hl:Lim l.length) (d:Nat) (ih:d<=20->bO l (d+1)):bO l d:=by
 intro i w hi hd
 have eS:=hl.le
 have IH:=bc ih;clear ih
 by_cases hd20:d<=20
 rotate_left
 ·have h0:Hid (21-d=0):=by show 21-d=0;omega
  go_enter Tryz.func100,Tryz.ntmps100
  go_wp2_with fail
  refine bodyPost_ret (v:=.tuple #[.agg #[.slice none 0 0],.int .i64 (-1)]) (by simp [results,Tryz.results100,go_sem]) rfl ?_
  exact qg.no (by rw [h0.out];rfl) ((bi _ _).alloc (br _) _)
 obtain ⟨n,hn⟩:∃ n,21-d=n+1:=⟨20-d,by omega⟩
 have IH':=bc (IH.out hd20);clear IH
 have HN:=bc hn
 have im:Hid (21-(d+1)=n):=by show 21-(d+1)=n;omega
 clear hn
 by_cases cZ:i<l.length
 rotate_left
 ·go_enter Tryz.func100,Tryz.ntmps100
  go_wp2_with fail
  refine bodyPost_ret (v:=.tuple #[.agg #[.slice none 0 0],.int .i64 (-1)]) (by simp [results,Tryz.results100,go_sem]) rfl ?_
  exact qg.no (by rw [HN.out,rdS_no (y9 (by omega)),y9 (by omega)];rfl) ((bi _ _).alloc (br _) _)
 by_cases hb:l[i]=98
 ·have f1:=j7 cZ (n:=98) (by decide) hb
  have hc:Cut [98] (l.drop i) (l.drop (i+1)):=by unfold Cut;rw [jl cZ,if_pos hb]
  clear hb
  go_enter Tryz.func100,Tryz.ntmps100
  go_wp2_with fail
  refine bodyPost_ret (v:=.tuple #[.agg #[.slice none 0 0],.int .i64 ((i:Int)+1)]) (by simp [results,Tryz.results100,go_sem]) rfl ?_
  exact qg.yes (t:=.mk []) (by rw [HN.out,rdS_b hc]) (by simp;omega) ((bi _ _).alloc (br _) _) (wi _ _)
 have f1:=qt cZ (n:=98) (by decide) hb
 have hc:xC [98] (l.drop i):=by unfold xC;rw [jl cZ,if_neg hb]
 have HM:=bc (rdS_no (n:=n) hc)
 clear hb hc
 by_cases h3:i+3<=l.length
 rotate_left
 ·have h3':(l.length:Int)<(i:Int)+3:=by omega
  have fQ:Hid (cut [40,62,32] (l.drop i)=none):=by
   show cut [40,62,32] (l.drop i)=none
   cases hq:cut [40,62,32] (l.drop i) with
   | none=>rfl
   | some r=>have:=(cut_drop hq).2;simp at this;omega
  go_enter Tryz.func100,Tryz.ntmps100
  go_wp2_with fail
  refine bodyPost_ret (v:=.tuple #[.agg #[.slice none 0 0],.int .i64 (-1)]) (by simp [results,Tryz.results100,go_sem]) rfl ?_
  exact qg.no (by rw [HN.out,HM.out,fQ.out];rfl) ((bi _ _).alloc (br _) _)
 have h3':(i:Int)+3<=(l.length:Int):=by omega
 have hx:(l.take (i+3)).drop i=(l.drop i).take 3:=by rw [List.drop_take];congr 1;omega
 rcases ze [40,62,32] (l.drop i) with h4 | ⟨r1,h4⟩
 ·have f2:(((⟨l.toArray⟩:ByteArray).extract i (i+3)).toList == [40,62,32])=false:=by
   rw [ext_list,hx,beq_eq_false_iff_ne]
   intro e
   have h5:=h4.out
   have hp:[40,62,32].isPrefixOf (l.drop i)=true:=by rw [List.isPrefixOf_iff_prefix,<- e];exact List.take_prefix _ _
   unfold cut at h5;rw [if_pos hp] at h5;simp at h5
  clear hx
  go_enter Tryz.func100,Tryz.ntmps100
  go_wp2_with fail
  refine bodyPost_ret (v:=.tuple #[.agg #[.slice none 0 0],.int .i64 (-1)]) (by simp [results,Tryz.results100,go_sem]) rfl ?_
  exact qg.no (by rw [HN.out,HM.out,h4.out];rfl) ((bi _ _).alloc (br _) _)
 have f2:(((⟨l.toArray⟩:ByteArray).extract i (i+3)).toList == [40,62,32])=true:=by
  rw [ext_list,hx,beq_iff_eq]
  have h5:=h4.out
  unfold cut at h5;split at h5
  ·rename_i hp
   exact (List.prefix_iff_eq_take.1 (List.isPrefixOf_iff_prefix.1 hp)).symm
  ·simp at h5
 have cw:=(cut_drop h4.out).1
 have hr1':r1=l.drop (i+3):=cw
 subst hr1'
 clear hx cw
 go_enter Tryz.func100,Tryz.ntmps100
 go_wp2_with fail
 rw [show (i:Int)+3=((i+3:Nat):Int) from by omega,show (d:Int)+1=((d+1:Nat):Int) from by omega]
 refine (IH'.out (i+3) _ h3 (by omega)).mono ?_
 rintro en w1 ⟨v1,k1,t1,rfl,b9,mN,cT,dH⟩
 rw [im.out] at cT dH
 have dM:Below w.heap.size w w1:=((bi w.heap.size w).alloc (br _) _).trans (b9.mono (by simp))
 have z1:=b9.size
 have du:w.heap.size<w1.heap.size:=by simp at z1;omega
 have dL:w1.cell? ⟨w.heap.size,0,none⟩=some (.slice none 0 0):=by rw [b9.cell (by simp)];simp
 have fD:w1.frozen? ⟨w.heap.size,0,none⟩=false:=by rw [b9.frozen (by simp)];simp
 obtain ⟨a1,c1,e1⟩:=zl mN
 subst e1
 cases hq:rdS n (l.drop (i+3)) with
 | none =>
   obtain ⟨rfl,rfl⟩:=cT hq
   have HQ:=bc hq;clear hq cT dH
   go_wp2_with fail
   refine bodyPost_ret (v:=.tuple #[.agg #[.slice none 0 0],.int .i64 (-1)]) (by simp [results,Tryz.results100,go_sem,du,qC dL]) rfl ?_
   exact qg.no (by rw [HN.out,HM.out,h4.out];simp [HQ.out]) (by repeat (first | exact dM | refine Below.alloc ?_ (by simp;omega) _ | refine Below.setCell ?_ (by simp) _ | refine Below.drew ?_))
 | some x =>
   obtain ⟨ta,r2⟩:=x
   obtain ⟨rfl,rfl⟩:=dH _ _ hq
   have fU:=vg (gI hq)
   have dR:=(rdS_le hq).1
   have HQ:=bc hq;clear hq cT dH
   obtain ⟨e,he⟩:=zzM (l.length-r2.length)
   have mK:e<=l.length:=by omega
   have hr2l:r2.length<=l.length:=by simp at dR;omega
   have hk:(l.length:Int)-(r2.length:Int)=(e:Int):=by omega
   rw [<- he] at fU
   rw [hk]
   have HSF:=bc fU
   clear hk fU dR
   by_cases BU:e<l.length
   rotate_left
   ·have iu:Hid (cut [32] r2=none):=by show cut [32] r2=none;rw [HSF.out];exact y9 (by omega)
    have HE:=bc he;clear he
    go_wp2_with fail
    refine bodyPost_ret (v:=.tuple #[.agg #[.slice none 0 0],.int .i64 (-1)]) (by simp [results,Tryz.results100,go_sem,du,qC dL]) rfl ?_
    exact qg.no (by rw [HN.out,HM.out,h4.out];simp [HQ.out,iu.out]) (by repeat (first | exact dM | refine Below.alloc ?_ (by simp;omega) _ | refine Below.setCell ?_ (by simp) _ | refine Below.drew ?_))
   have HE:=bc he;clear he
   by_cases cF:l[e]=32
   rotate_left
   ·have f5:=yp BU (n:=32) (by decide) cF
    have iu:Hid (cut [32] r2=none):=by show cut [32] r2=none;rw [HSF.out,jl BU,if_neg cF]
    clear cF
    go_wp2_with fail
    refine bodyPost_ret (v:=.tuple #[.agg #[.slice none 0 0],.int .i64 (-1)]) (by simp [results,Tryz.results100,go_sem,du,qC dL]) rfl ?_
    exact qg.no (by rw [HN.out,HM.out,h4.out];simp [HQ.out,iu.out]) (by repeat (first | exact dM | refine Below.alloc ?_ (by simp;omega) _ | refine Below.setCell ?_ (by simp) _ | refine Below.drew ?_))
   have f5:=uA BU (n:=32) (by decide) cF
   have g1:decide ((e:Int)<0)=false:=by rw [decide_eq_false_iff_not];omega
   have g2:decide (l.length<=e)=false:=by rw [decide_eq_false_iff_not];omega
   have iu:Hid (cut [32] r2=some (l.drop (e+1))):=by show cut [32] r2=_;rw [HSF.out,jl BU,if_pos cF]
   clear cF
   go_wp2_with fail
   rw [show (e:Int)+1=((e+1:Nat):Int) from by omega,show (d:Int)+1=((d+1:Nat):Int) from by omega]
   refine (IH'.out (e+1) _ BU (by omega)).mono ?_
   rintro en w2 ⟨v2,k2,t2,rfl,b8,iJ,fB,eE⟩
   rw [im.out] at fB eE
   obtain ⟨a2,c2,e2⟩:=zl iJ
   subst e2
   have z2:=b8.size
   rw [zK] at z2
   have nL:Below w.heap.size w w2:=(dM.alloc dM.size _).trans (b8.mono (by rw [zK];omega))
   have nj:w.heap.size<w2.heap.size:=by omega
   have hz2':w1.heap.size<w2.heap.size:=by omega
   have eQ:w2.cell? ⟨w.heap.size,0,none⟩=some (.slice none 0 0):=by rw [b8.cell (by simp;omega)];exact zU dL
   have sm:w2.frozen? ⟨w.heap.size,0,none⟩=false:=by rw [b8.frozen (by simp;omega)];rw [World.frozen?_of_block (w:=w1) (Below.heap_alloc _ _ _ du)];exact fD
   have hcellA:w2.cell? ⟨w1.heap.size,0,none⟩=some (.slice a1 t1.args.length c1):=by rw [b8.cell (by simp)];simp
   have rU:Rep (w1.heap.size<=·) w2 (jX t1) (.slice a1 t1.args.length c1)\/True:=.inr trivial
   clear rU dL fD
   cases hq:rdS n (l.drop (e+1)) with
   | none =>
     obtain ⟨rfl,rfl⟩:=fB hq
     have tf:=bc hq;clear hq fB eE
     go_wp2_with fail
     refine bodyPost_ret (v:=.tuple #[.agg #[.slice none 0 0],.int .i64 (-1)]) (by simp [results,Tryz.results100,go_sem,nj,qC eQ]) rfl ?_
     exact qg.no (by rw [HN.out,HM.out,h4.out];simp [HQ.out,iu.out,tf.out]) (by repeat (first | exact nL | refine Below.alloc ?_ (by simp;omega) _ | refine Below.setCell ?_ (by simp) _ | refine Below.drew ?_))
   | some x =>
     obtain ⟨tb,r4⟩:=x
     obtain ⟨rfl,rfl⟩:=eE _ _ hq
     have fU:=vg (gI hq)
     have sM:=rdS_le hq
     have tf:=bc hq;clear hq fB eE
     obtain ⟨e2,he⟩:=zzM (l.length-r4.length)
     have mK:e2<=l.length:=by omega
     have hr2l:r4.length<=l.length:=by simp at sM;omega
     have hk:(l.length:Int)-(r4.length:Int)=(e2:Int):=by omega
     have htl:t2.args.length<=16777216:=by simp at sM;omega
     rw [<- he] at fU
     rw [hk]
     have oP:=bc fU
     clear hk fU sM
     have HE2:=bc he;clear he
     by_cases aN:e2<l.length
     rotate_left
     ·have mD:Hid (cut [41] r4=none):=by show cut [41] r4=none;rw [oP.out];exact y9 (by omega)
      go_wp2_with fail
      refine bodyPost_ret (v:=.tuple #[.agg #[.slice none 0 0],.int .i64 (-1)]) (by simp [results,Tryz.results100,go_sem,nj,qC eQ]) rfl ?_
      exact qg.no (by rw [HN.out,HM.out,h4.out];simp [HQ.out,iu.out,tf.out,mD.out]) (by repeat (first | exact nL | refine Below.alloc ?_ (by simp;omega) _ | refine Below.setCell ?_ (by simp) _ | refine Below.drew ?_))
     by_cases cW:l[e2]=41
     rotate_left
     ·have f6:=yp aN (n:=41) (by decide) cW
      have mD:Hid (cut [41] r4=none):=by show cut [41] r4=none;rw [oP.out,jl aN,if_neg cW]
      clear cW
      go_wp2_with fail
      refine bodyPost_ret (v:=.tuple #[.agg #[.slice none 0 0],.int .i64 (-1)]) (by simp [results,Tryz.results100,go_sem,nj,qC eQ]) rfl ?_
      exact qg.no (by rw [HN.out,HM.out,h4.out];simp [HQ.out,iu.out,tf.out,mD.out]) (by repeat (first | exact nL | refine Below.alloc ?_ (by simp;omega) _ | refine Below.setCell ?_ (by simp) _ | refine Below.drew ?_))
     have f6:=uA aN (n:=41) (by decide) cW
     have g3:decide ((e2:Int)<0)=false:=by rw [decide_eq_false_iff_not];omega
     have g4:decide (l.length<=e2)=false:=by rw [decide_eq_false_iff_not];omega
     have mD:Hid (cut [41] r4=some (l.drop (e2+1))):=by show cut [41] r4=_;rw [oP.out,jl aN,if_pos cW]
     clear cW
     rw [qY] at iJ
     obtain ⟨xs,eF,mI⟩:=zM.ofRep iJ (v_ _)
     go_wp2_with (at_builtin;refine zW rfl _ _ 59 rfl 61 (.agg #[.slice none 0 0]) 1 24 Tryz.underlying59 Tryz.infoS rfl (by decide) _ 1 [.slice a1 t1.args.length c1] rfl ?c1 _ t2.args.length xs rfl ?c2 ?c3 ?c4 ?_)
     case c1=>exact Own.litAt #[.slice a1 t1.args.length c1] 1 _ (by simp) (by decide) rfl
     case c2=>exact mI.keep fun _ _ h=>zU (zU h)
     case c3=>unfold maxLen;omega
     case c4=>omega
     intro a' c' w3 ho cP rR
     have cK:Below w2.heap.size w2 ((w2.alloc (.cells #[.slice a2 t2.args.length c2] 61)).alloc (.cells #[.slice a1 t1.args.length c1] 61)):=((bi _ _).alloc (br _) _).alloc (by simp) _
     have eL:Below w2.heap.size w2 w3:=cK.trans (cP.toBelow (by simp;omega) (fun i hi e=>by simp [Value.ownBlock] at e;omega))
     have nJ:Below w.heap.size w w3:=nL.trans (eL.mono (by omega))
     have ld:w3.cell? ⟨w.heap.size,0,none⟩=some (.slice none 0 0):=by rw [eL.cell nj];exact eQ
     have hfree3:w3.frozen? ⟨w.heap.size,0,none⟩=false:=by rw [eL.frozen nj];exact sm
     have hv1W:Rep (w.heap.size<=·) w3 (jX t1) (.slice a1 t1.args.length c1):=by
      refine (Rep.keep fun b o h ho=>⟨by have:=vS h;omega,?_⟩).1 _ _ mN
      rw [eL.block b (by have:=zZ ho;omega),b8.block b (by have:=zZ ho;simp;omega)]
      exact zX ho
     have hxsW:zG (w.heap.size<=·) w3 (qz t2.args) xs :=
      (Rep.keep fun b o h ho=>⟨by have:=vS h;omega,by rw [eL.block b (zZ ho)];exact ho⟩).2 _ _ eF
     have cV:∀ g,(Value.slice a' (1+t2.args.length) c').ownBlock=some g->w.heap.size<=g:=by
      intro g h
      rcases rR g h with h | h
      ·simp [Value.ownBlock] at h;omega
      ·have:=eL.size;omega
     have HG:=bc cV;have HG3:=bc rR;clear rR cV
     go_wp2_with fail
     refine bodyPost_ret (v:=.tuple #[.agg #[.slice a' (1+t2.args.length) c'],.int .i64 ((e2:Int)+1)]) (by simp [results,Tryz.results100,go_sem,qC ld]) rfl ?_
     refine qg.yes (t:=jQ t1 t2) (rest:=l.drop (e2+1)) (by rw [HN.out,HM.out,h4.out];simp [HQ.out,iu.out,tf.out,mD.out]) (by simp;omega) (nJ.setCell (br _) _) ?_
     refine (Rep.keep (w:=w3) (F:=fun b=>w.heap.size<=b/\b≠w.heap.size) fun b o h ho=>⟨h.1,?_⟩).1 _ _ ?_
     ·rw [b5 _ _ _ _ (by simpa using h.2)];exact ho
     rw [qY,show (jQ t1 t2).args.length=1+t2.args.length from by simp [jQ,Ty.args,Nat.add_comm]]
     refine ho.rep (fun g h=>⟨HG.out g h,?_⟩) ?_
     ·rcases HG3.out g h with h | h
      ·simp [Value.ownBlock] at h;omega
      ·have:=eL.size;omega
     ·show zG _ _ (jX t1::qz t2.args) _
      refine zJ.2 ⟨_,_,rfl,?_,?_⟩
      ·refine (Rep.keep fun b o h ho=>⟨⟨by have:=vS h;omega,by have:=vS h;omega⟩,?_⟩).1 _ _ mN
       rw [eL.block b (by have:=zZ ho;omega),b8.block b (by have:=zZ ho;simp;omega)]
       exact zX ho
      ·exact (Rep.keep fun b o h ho=>⟨⟨by have:=vS h;omega,by have:=vS h;omega⟩,by rw [eL.block b (zZ ho)];exact ho⟩).2 _ _ eF
theorem l1Read_any (l:Bs) (hl:Lim l.length) (n:Nat):∀ d,21-d=n->bO l d:=by
 induction n with
 | zero=>exact fun d h=>pO l hl d (fun h'=>by omega)
 | succ n ih=>exact fun d h=>pO l hl d (fun h'=>ih (d+1) (by omega))
def pJ (t:Ty):Prop:=∀ (F:Nat->Prop) (w:World) (v:Value),Rep F w (jX t) v ->
 Calls Tryz.prog 101 #[.agg #[v]] w fun en w'=>en=.returned (.int .i64 (zV t))/\Below w.heap.size w w'
theorem zc (ts:List Ty):ts.length<=zE ts:=by
 induction ts with
 | nil=>simp
 | cons t ts ih=>simp [zE];omega
theorem l1Size_step (t:Ty) (hl:Lim (zV t)) (ih:∀ t',zV t'<zV t->pJ t'):pJ t:=by
 intro F w v hv
 obtain ⟨a,cap,e⟩:=zl hv
 subst e
 have dB:=hv
 rw [qY] at dB
 obtain ⟨_,_,e,_,b_,hat⟩:=zF dB
 simp only [Value.slice.injEq] at e
 obtain ⟨rfl,_,rfl⟩:=e
 have IH:=bc ih;clear ih
 have eS:=hl.le
 have E1:=bc (zp t)
 have lS:t.args.length<=16777216:=by have:=zc t.args;have:=E1.out;omega
 have AT:=bc hat;clear hat b_ dB
 go_enter Tryz.func101,Tryz.ntmps101
 go_wp2_with fail
 go_loopw [3,4] (fun n i wr=>∃ k:Nat,k<=t.args.length/\i=.int .i64 k/\n=.int .i64 ((1+zE (t.args.take k):Nat):Int)/\Below w.heap.size w wr/\wr.cell? ⟨w.heap.size,0,none⟩=some (.slice a t.args.length cap)) (fun _ i _=>t.args.length-(intOf i).toNat)
 case atStart=>exact ⟨0,Nat.zero_le _,rfl,by simp [zE],(bi _ _).alloc (br _) _,by simp⟩
 case round =>
  rename_i wr
  obtain ⟨k,hk,rfl,rfl,hb,hc⟩:=hrel
  by_cases cZ:k<t.args.length
  ·obtain ⟨b',o,u,d,rfl,_,co,hd,hu,hr⟩:=AT.out k cZ
   rw [jv,Option.map_eq_some_iff] at hd
   obtain ⟨t',eM,rfl⟩:=hd
   obtain ⟨ua,uc,rfl⟩:=zl hr
   have fm:wr.cell? ⟨b',o+k,none⟩=some (.slice ua t'.args.length uc):=by rw [hb.cell co];exact hu
   have fl:=Rep.below (F':=F) hb (fun _ h=>h) hr
   have hs:=vE eM
   have d_:=jD t.args (k+1)
   have mF:=E1.out
   have IH':=bc (IH.out t' (by omega))
   have HS:=bc hs
   have b1:1+zE (t.args.take k)+(1+zV t')<=16777216:=by omega
   have hz:=be wr _ hc
   clear hs eM mF hu hr
   go_wp2_with fail
   refine (IH'.out _ _ _ fl).mono ?_
   rintro en w2 ⟨rfl,b8⟩
   have cP:=zzT hb b8
   have fQ:w2.cell? ⟨w.heap.size,0,none⟩=some (.slice (some ⟨b',o,none⟩) t.args.length cap):=by rw [b8.cell hz];exact hc
   go_wp2_with fail
   go_roundw
   case rel=>exact ⟨k+1,by omega,by go_num,by rw [HS.out] <;> go_num,cP,fQ⟩
   case measure=>simp [intOf];omega
  ·obtain rfl:k=t.args.length:=by omega
   go_wp2_with fail
   go_ret
   exact ⟨uv (by rw [E1.out,List.take_length]),hb⟩
theorem l1Size_any (n:Nat):∀ t,zV t<=n->Lim n->pJ t:=by
 induction n with
 | zero=>intro t h _;have:=kL t;omega
 | succ n ih=>exact fun t h hn=>l1Size_step t (hn.mono h) (fun t' h'=>ih t' (by omega) (hn.mono (by omega)))
def zQ (l:Bs):Ty×Bool :=
 if 100<l.length then (.mk [],false) else
 match rdS 21 l with
 | none=>(.mk [],false)
 | some (t,rest)=>(t,rest.isEmpty && decide (zV t<=15))
def TypePost (l:Bs) (w:World) (en:Ending) (w':World):Prop :=
 ∃ v,en=.returned (.tuple #[.agg #[v],.bool (zQ l).2])/\Below w.heap.size w w'/\Rep (w.heap.size<=·) w' (jX (zQ l).1) v
set_option maxRecDepth 100000 in
theorem xO (l:Bs) (hl:Lim l.length) (w:World):Calls Tryz.prog 63 #[str l] w (TypePost l w):=by
 have eS:=hl.le
 by_cases tD:100<l.length
 ·have CK:(100:Int)<(l.length:Int):=by omega
  have HM:zQ l=(.mk [],false):=by unfold zQ;rw [if_pos tD]
  have HM:=bc HM
  go_enter Tryz.func63,Tryz.ntmps63
  go_wp2_with fail
  refine bodyPost_ret (v:=.tuple #[.agg #[.slice none 0 0],.bool false]) (by simp [results,Tryz.results63,go_sem]) rfl ?_
  refine ⟨_,by rw [HM.out],(bi _ _).alloc (br _) _,?_⟩
  rw [HM.out];exact wi _ _
 have CK:¬ (100:Int)<(l.length:Int):=by omega
 have HM:zQ l=(match rdS 21 l with
  | none=>(.mk [],false)
  | some (t,rest)=>(t,rest.isEmpty && decide (zV t<=15))):=by unfold zQ;rw [if_neg tD]
 have HM:=bc HM
 go_enter Tryz.func63,Tryz.ntmps63
 go_wp2_with fail
 refine (l1Read_any l hl 21 0 rfl 0 _ (Nat.zero_le _) (by omega)).mono ?_
 rintro en w1 ⟨v1,k1,t1,rfl,b9,mN,cT,dH⟩
 rw [show (21-0:Nat)=21 from rfl,List.drop_zero] at cT dH
 obtain ⟨a1,c1,e1⟩:=zl mN
 subst e1
 have z1:=b9.size
 rw [zK] at z1
 have du:w.heap.size<w1.heap.size:=by omega
 have dM:Below w.heap.size w w1:=((bi w.heap.size w).alloc (br _) _).trans (b9.mono (by simp))
 have dL:w1.cell? ⟨w.heap.size,0,none⟩=some (.slice none 0 0):=by rw [b9.cell (by simp)];simp
 have fD:w1.frozen? ⟨w.heap.size,0,none⟩=false:=by rw [b9.frozen (by simp)];simp
 cases hq:rdS 21 l with
 | none =>
   obtain ⟨rfl,rfl⟩:=cT hq
   have HQ:=bc hq;clear hq cT dH
   have g1:((-1:Int) == (l.length:Int))=false:=by rw [beq_eq_false_iff_ne];omega
   go_wp2_with fail
   go_region
   go_wp2_with fail
   refine bodyPost_ret (v:=.tuple #[.agg #[.slice a1 0 c1],.bool false]) (by simp [results,Tryz.results63,go_sem,du,qC dL,Ty.args]) rfl ?_
   refine ⟨_,by rw [HM.out,HQ.out],(by repeat (first | exact dM | refine Below.alloc ?_ (by simp;omega) _ | refine Below.setCell ?_ (by simp) _ | refine Below.drew ?_)),?_⟩
   rw [HM.out,HQ.out]
   rw [qY]
   refine kP.2 ⟨rfl,a1,c1,rfl,Nat.zero_le _,?_,.inl rfl⟩
   obtain ⟨_,_,_,e,_,h0,_⟩:=kP.1 (by rw [qY] at mN;exact mN)
   simp only [Value.slice.injEq] at e
   obtain ⟨rfl,_,rfl⟩:=e;exact h0
 | some x =>
   obtain ⟨t,rest⟩:=x
   obtain ⟨rfl,rfl⟩:=dH _ _ hq
   have hat:=rdS_atoms hq
   have HQ:=bc hq;clear hq cT dH
   obtain ⟨e,he⟩:=zzM (l.length-rest.length)
   rw [show (l.length:Int)-(rest.length:Int)=(e:Int) from by omega]
   have HE:=bc he;clear he
   cases rest with
   | cons x xs =>
     have g1:((e:Int) == (l.length:Int))=false:=by rw [beq_eq_false_iff_ne];have:=HE.out;simp at this hat;omega
     go_wp2_with fail
     go_region
     go_wp2_with fail
     refine bodyPost_ret (v:=.tuple #[.agg #[.slice a1 t1.args.length c1],.bool false]) (by simp [results,Tryz.results63,go_sem,du,qC dL]) rfl ?_
     refine ⟨_,by rw [HM.out,HQ.out];rfl,(by repeat (first | exact dM | refine Below.alloc ?_ (by simp;omega) _ | refine Below.setCell ?_ (by simp) _ | refine Below.drew ?_)),?_⟩
     rw [HM.out,HQ.out]
     refine (Rep.keep fun b o h ho=>⟨by have:=vS h;omega,?_⟩).1 _ _ mN
     have hb:b≠w.heap.size:=by have:=vS h;omega
     exact zX (by rw [b5 _ _ _ _ (by simpa using hb)];exact ho)
   | nil =>
     obtain rfl:e=l.length:=by have:=HE.out;simpa using this
     have g1:((l.length:Int) == (l.length:Int))=true:=by simp
     have hlA:Lim (zV t1):=hl.mono (by simp at hat;omega)
     have oz:Rep (w.heap.size < ·) (w1.alloc (.cells #[.slice a1 t1.args.length c1] 61)) (jX t1) (.slice a1 t1.args.length c1):=(Rep.keep fun b o h ho=>⟨by have:=vS h;omega,zX ho⟩).1 _ _ mN
     have B2:(w1.alloc (.cells #[.slice a1 t1.args.length c1] 61)).cell? ⟨w1.heap.size,0,none⟩=some (.slice a1 t1.args.length c1):=by simp
     go_wp2_with fail
     go_region_held3 (fun w'=>w'.cell? ⟨w1.heap.size,0,none⟩=some (.slice a1 t1.args.length c1))
      (first
       | exact (b8.cell (by simp)).trans B2
       | (rw [World.cell?_of_block (w:=w2) (b5 _ _ _ _ (by simp;omega))];exact (b8.cell (by simp)).trans B2)
       | go_keep)
      (first
       | (go_at_call 101;refine (l1Size_any (zV t1) t1 (br _) hlA (w.heap.size < ·) _ _ (by exact oz.drew)).mono ?_;rintro en w2 ⟨rfl,b8⟩;have z2:=b8.size;have nj:w.heap.size<w2.heap.size:=(by simp at z2;omega);have eQ:w2.cell? ⟨w.heap.size,0,none⟩=some (.slice none 0 0):=(b8.cell (by simp;omega)).trans (zU dL);have sm:w2.frozen? ⟨w.heap.size,0,none⟩=false:=(b8.frozen (by simp;omega)).trans ((World.frozen?_of_block (w:=w1) (Below.heap_alloc _ _ _ du)).trans fD)))
     go_wp2_with fail
     refine bodyPost_ret (v:=.tuple #[.agg #[.slice a1 t1.args.length c1],.bool (decide ((zV t1:Int)<=15))]) (by simp [results,Tryz.results63,go_sem,qC eQ]) rfl ?_
     have nL:Below w.heap.size w w2:=((dM.alloc dM.size _).drew).trans (b8.mono (by simp;omega))
     refine ⟨.slice a1 t1.args.length c1,?_,nL.setCell (br _) _,?_⟩
     ·have e15:decide ((zV t1:Int)<=15)=decide (zV t1<=15):=by rw [decide_eq_decide];omega
      rw [HM.out,HQ.out,e15];rfl
     ·rw [HM.out,HQ.out]
      refine (Rep.keep fun b o h ho=>⟨by have:=vS h;omega,?_⟩).1 _ _ mN
      have hb:b≠w.heap.size:=by have:=vS h;omega
      rw [b5 _ _ _ _ (by simpa using hb),b8.block b (by have:=zZ ho;simp;omega)]
      exact zX ho
theorem gO (d:Nat):∀ {l:Bs} {t:Ty} {r:Bs} (e:Nat),d<=e->rdK d l=some (t,r)->rdK e l=some (t,r):=by
 induction d with
 | zero =>
   intro l t r e he h
   rcases ze [98] l with hc | ⟨r',hc⟩
   ·rw [jo hc] at h;simp at h
   ·rw [vW hc] at h ⊢;exact h
 | succ d ih =>
   intro l t r e he h
   obtain ⟨e,rfl⟩:∃ e',e=e'+1:=⟨e-1,by omega⟩
   rcases ze [98] l with hc | ⟨r',hc⟩
   ·rw [kf hc] at h ⊢
    simp only [Option.bind_eq_bind,Option.bind_eq_some_iff,Prod.exists] at h ⊢
    obtain ⟨r1,h1,a,r2,h2,r3,h3,b,r4,h4,r5,h5,h6⟩:=h
    exact ⟨r1,h1,a,r2,ih e (by omega) h2,r3,h3,b,r4,ih e (by omega) h4,r5,h5,h6⟩
   ·rw [vW hc] at h ⊢;exact h
theorem wB {p l r:Bs} (h:cut p l=some r):l.length=p.length+r.length:=by
 unfold cut at h;split at h
 ·rename_i hp
  have:=List.IsPrefix.length_le (List.isPrefixOf_iff_prefix.1 hp)
  simp at h;subst h;simp;omega
 ·simp at h
theorem wF (a b:Ty):zV (jQ a b)=1+zV a+zV b:=by cases b;simp [jQ,zV,zE,Ty.args];omega
theorem rdK_shallow (e:Nat):∀ {l:Bs} {t:Ty} {r:Bs} (d:Nat),zV t<=2*d+1->rdK e l=some (t,r)->rdK d l=some (t,r):=by
 induction e with
 | zero =>
   intro l t r d hd h
   exact gO 0 d (Nat.zero_le _) h
 | succ e ih =>
   intro l t r d hd h
   rcases ze [98] l with hc | ⟨r',hc⟩
   ·rw [kf hc] at h
    simp only [Option.bind_eq_bind,Option.bind_eq_some_iff,Prod.exists] at h
    obtain ⟨r1,h1,a,r2,h2,r3,h3,b,r4,h4,r5,h5,h6⟩:=h
    simp at h6;obtain ⟨rfl,rfl⟩:=h6
    have hat:=wF a b
    have pa:=kL a;have pb:=kL b
    obtain ⟨d,rfl⟩:∃ d',d=d'+1:=⟨d-1,by omega⟩
    rw [kf hc]
    simp only [Option.bind_eq_bind,Option.bind_eq_some_iff,Prod.exists]
    exact ⟨r1,h1,a,r2,ih d (by omega) h2,r3,h3,b,r4,ih d (by omega) h4,r5,h5,rfl⟩
   ·rw [vW hc] at h ⊢;exact h
theorem rdK_len (e:Nat):∀ {l:Bs} {t:Ty} {r:Bs},rdK e l=some (t,r)->l.length+5<=r.length+6*zV t:=by
 induction e with
 | zero =>
   intro l t r h
   rcases ze [98] l with hc | ⟨r',hc⟩
   ·rw [jo hc] at h;simp at h
   ·rw [vW hc] at h;simp at h;obtain ⟨rfl,rfl⟩:=h
    have:=wB hc;simp [zV,zE] at *;omega
 | succ e ih =>
   intro l t r h
   rcases ze [98] l with hc | ⟨r',hc⟩
   ·rw [kf hc] at h
    simp only [Option.bind_eq_bind,Option.bind_eq_some_iff,Prod.exists] at h
    obtain ⟨r1,h1,a,r2,h2,r3,h3,b,r4,h4,r5,h5,h6⟩:=h
    simp at h6;obtain ⟨rfl,rfl⟩:=h6
    have hat:=wF a b
    have k1:=wB h1;have k2:=ih h2;have k3:=wB h3;have k4:=ih h4;have k5:=wB h5
    simp at k1 k3 k5;omega
   ·rw [vW hc] at h;simp at h;obtain ⟨rfl,rfl⟩:=h
    have:=wB hc;simp [zV,zE] at *;omega
theorem yF (l:Bs):qk l=if (zQ l).2 then some (zQ l).1 else none:=by
 unfold qk zQ
 by_cases tD:100<l.length
 ·rw [if_pos tD]
  simp only [Bool.false_eq_true,if_false]
  split
  ·rename_i t hq
   have:=rdK_len 15 hq
   rw [if_neg (by simp at this;omega)]
  ·rfl
 ·rw [if_neg tD]
  have e21:rdS 21 l=rdK 20 l:=rfl
  rw [e21]
  cases hq:rdK 20 l with
  | none =>
    simp only [Bool.false_eq_true,if_false]
    split
    ·rename_i t rH
     have:=gO 15 20 (by omega) rH
     rw [hq] at this;simp at this
    ·rfl
  | some x =>
    obtain ⟨t,rest⟩:=x
    simp only
    by_cases ht:zV t<=15
    ·have rH:=rdK_shallow 20 15 (by omega) hq
     rw [rH]
     cases rest with
     | nil=>simp [ht]
     | cons x xs=>simp
    ·cases rH:rdK 15 l with
     | none=>simp [ht]
     | some y =>
       obtain ⟨t2,r2⟩:=y
       have:=gO 15 20 (by omega) rH
       rw [hq] at this;simp at this;obtain ⟨rfl,rfl⟩:=this
       cases rest <;> simp [ht]
set_option maxRecDepth 100000 in
theorem hU (F:Nat->Prop) (hand:List Ty) (t:Ty) (hv tv:Value) (w:World) (hh:Rep F w (.sl 61 1 hand.length (qz hand)) hv) (ht:Rep F w (jX t) tv) (hl:Lim (hand.length+t.args.length)) :
 Calls Tryz.prog 97 #[hv,.agg #[tv]] w fun en w' =>
  ∃ a c,en=.returned (.slice a (hand++t.args).length c)/\Below w.heap.size w w'/\Rep (fun k=>F k\/w.heap.size<=k) w' (.sl 61 1 (hand++t.args).length (qz (hand++t.args))) (.slice a (hand++t.args).length c):=by
 have eS:=hl.le
 obtain ⟨xs1,fI,g1⟩:=zM.ofRep hh (v_ _)
 have eM:=ht
 rw [qY] at eM
 obtain ⟨xs2,fR,g2⟩:=zM.ofRep eM (v_ _)
 obtain ⟨a1,c1,e1⟩:=g1.slice
 obtain ⟨a2,c2,e2⟩:=g2.slice
 subst e1;subst e2
 have B2:(w.alloc (.cells #[.slice a2 t.args.length c2] 61)).cell? ⟨w.heap.size,0,none⟩=some (.slice a2 t.args.length c2):=by simp
 go_enter Tryz.func97,Tryz.ntmps97
 go_wp2_with fail
 go_region_held3 (fun w'=>w'.cell? ⟨w.heap.size,0,none⟩=some (.slice a2 t.args.length c2))
  (first
   | exact (o9.cell (by simp)).trans B2
   | exact (l6.cell (by simp)).trans B2
   | go_keep)
  (first
   | (refine kK (by rfl) (.tmp 7) (.tmp 9) _ (by rfl) 61 (.agg #[.slice none 0 0]) 1 24 Tryz.underlying59 Tryz.infoS rfl (by omega) (.slice ax hand.length cx) hand.length xs1 (by rfl) (by exact hox) (.slice a2 t.args.length c2) t.args.length xs2 (by rfl) (by exact (g2.alloc _).below l6) (by unfold maxLen;omega) (by omega) ?_;intro ay cy wy hoy dm hgy;obtain ⟨o9,oo⟩:=uo l6 hfx dm hgy)
   | (refine kK (by rfl) (.tmp 5) (.tmp 6) _ (by rfl) 61 (.agg #[.slice none 0 0]) 1 24 Tryz.underlying59 Tryz.infoS rfl (by omega) (.slice (some ⟨w.heap.size+1,0,none⟩) 0 0) 0 [] (by rfl) (by exact (Own.litAt #[] 0 _ (by simp) (by decide) rfl).drew) (.slice a1 hand.length c1) hand.length xs1 (by rfl) (by exact ((g1.alloc _).alloc _).drew) (by unfold maxLen;omega) (by omega) ?_;rw [Nat.zero_add,List.nil_append];intro ax cx wx hox mA hgx;obtain ⟨l6,hfx⟩:=uo (((bi _ _).alloc (br _) _).drew) (own_some (by simp)) mA hgx))
 go_wp2_with fail
 go_ret
 have b9:Below w.heap.size w (w.alloc (.cells #[.slice a2 t.args.length c2] 61)):=(bi _ _).alloc (br _) _
 have hbZ:Below w.heap.size w wy:=b9.trans (o9.mono (by simp))
 rw [List.length_append]
 refine ⟨ay,cy,rfl,hbZ,?_⟩
 rw [encSs_append]
 exact hoy.rep (fun g h=>.inr (by have:=oo g h;simp at this;omega)) (zG.append (fI.below hbZ (fun _ h=>.inl h)) (fR.below hbZ (fun _ h=>.inl h)))
end Go.Proofs.YtfedjhgaeikjmaaGreatDoor

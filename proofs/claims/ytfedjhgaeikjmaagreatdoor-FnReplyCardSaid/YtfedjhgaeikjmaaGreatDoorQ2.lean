/- Walks of functions that the statement reaches, and plain words. No conditions. -/
import Derived.Test.YtfedjhgaeikjmaaGreatDoorQ1
set_option linter.unusedVariables false
set_option linter.unusedSimpArgs false
set_option maxHeartbeats 4000000
namespace Go.Proofs.YtfedjhgaeikjmaaGreatDoor
open Go.RowKit
def yM (l:Bs):Int:=if (zF l)=[] then -1 else (zk l).length
theorem vd (l:Bs):zk l++zF l=l:=List.takeWhile_append_dropWhile
theorem word_take (l:Bs):l.take (zk l).length=zk l:=by
 have h:=vd l
 have:=List.take_left (l₁:=zk l) (l₂:=zF l);rw [h] at this;exact this
theorem word_drop (l:Bs):l.drop (zk l).length=zF l:=by
 have h:=vd l
 have:=List.drop_left (l₁:=zk l) (l₂:=zF l);rw [h] at this;exact this
theorem word_le (l:Bs):(zk l).length+(zF l).length=l.length:=by
 have:=congrArg List.length (vd l);simpa using this
theorem indexAny_sep (l:Bs):Lib.indexAny l [32,40,41]=yM l:=by
 induction l with
 | nil=>rfl
 | cons b l ih =>
   rw [Lib.indexAny]
   have hs:([32,40,41]:Bs).contains b=sep b:=by
    rw [Bool.eq_iff_iff];simp [sep,or_assoc]
   rw [hs]
   cases hb:sep b
   ·have e1:zk (b::l)=b::zk l:=by simp [zk,hb]
    have e2:zF (b::l)=zF l:=by simp [zF,hb]
    rw [ih]
    unfold yM
    rw [e1,e2]
    by_cases h:zF l=[]
    ·simp [h]
    ·simp only [h,if_false,Bool.false_eq_true]
     rw [if_neg (by rw [beq_iff_eq];omega)]
     simp
   ·have e1:zk (b::l)=[]:=by simp [zk,hb]
    have e2:zF (b::l)=b::l:=by simp [zF,hb]
    unfold yM
    rw [e1,e2];simp
theorem indexAny_any (l:Bs) (w:World) (hl:Lim l.length) :
 Calls Tryz.prog 141 #[str l,.string ⟨#[32,40,41]⟩] w fun en w'=>en=.returned (.int .i64 (yM l))/\Below w.heap.size w w':=by
 have dd:=hl.le
 have er:(⟨l.toArray⟩:ByteArray).size=l.length:=xy l
 rw [<- indexAny_sep]
 by_cases h8:l.length<=8
 ·have:=hE ⟨l.toArray⟩ (by omega) w
  simpa [str] using this
 ·refine (Tryz.strings_IndexAny_long (zero_of_info (n:=256) (by kernel_rfl)).1 ⟨l.toArray⟩ ⟨#[32,40,41]⟩ w (by show 2<=3;omega) (by omega) (by omega) (by show 3<4294967281;omega) (by
   intro j b hj
   have:b∈([32,40,41]:Bs):=List.mem_of_getElem? hj
   simp at this
   rcases this with rfl | rfl | rfl <;> decide)).mono ?_
  rintro e w' ⟨rfl,rfl⟩
  refine ⟨by simp,((bh _ _).alloc (bw _) _).alloc (by simp) _⟩
theorem gG (sc:Nat) (c:List Value) (e:TypeId) (r:Bs) (w:World) (h:kL sc c e r w) (hr:Lim r.length) :
 Calls Tryz.prog 130 #[.pointer (some ⟨sc,0,none⟩)] w fun en w' =>
  en=.returned (str (zk r))/\But (· = sc) w w'/\kL sc c e (zF r) w':=by
 have h1:=h.cell
 have h2:=h.free 0
 have i_:=uL h
 have hl:=hr.le
 have hw:=word_le r
 go_enter Tryz.func130,Tryz.ntmps130
 go_wp2_with fail
 refine (indexAny_any r w hr).mono ?_
 rintro en w1 ⟨rfl,hb⟩
 have c1:w1.cell? ⟨sc,0,none⟩=some (str r):=by rw [hb.cell i_];exact h1
 have c2:w1.frozen? ⟨sc,0,none⟩=false:=by rw [hb.frozen i_];exact h2
 have hS:kL sc c e r w1:=by unfold kL;rw [hb.block sc i_];exact h
 clear h1 h2
 by_cases h0:zF r=[]
 ·have hi:yM r = -1:=by simp [yM,h0]
  rw [hi]
  have e1:zk r=r:=by have:=vd r;rw [h0] at this;simpa using this
  have HE:=bz e1;have H0:=bz h0;clear e1 h0 hi
  go_wp2_with fail
  go_ret
  have e2:(⟨r.toArray⟩:ByteArray).extract 0 r.length=⟨(zk r).toArray⟩:=by rw [vE,HE.out];simp
  refine ⟨?_,(But.ofBelow hb).setS 0 _,?_⟩
  ·show Ending.returned (.string _)=_;rw [e2]
  ·have:=hS.put (r':=zF r);rw [H0.out] at this ⊢;exact this
 ·have hi:yM r=(zk r).length:=by simp [yM,h0]
  rw [hi]
  have cQ:(zk r).length<=r.length:=by omega
  have H0:=bz h0;clear h0 hi
  go_wp2_with fail
  go_ret
  have e2:(⟨r.toArray⟩:ByteArray).extract 0 (zk r).length=⟨(zk r).toArray⟩:=by rw [vE,List.drop_zero,word_take]
  have e3:(⟨r.toArray⟩:ByteArray).extract (zk r).length r.length=⟨(zF r).toArray⟩:=by rw [vE,List.take_length,word_drop]
  refine ⟨?_,(But.ofBelow hb).setS 0 _,?_⟩
  ·show Ending.returned (.string _)=_;rw [e2]
  ·rw [e3];exact hS.put
structure jD (w:World):Prop where
 e0:∃ te pe,w.var? Tryz.prog "strconv.ErrSyntax" = some #[.iface te pe]
 e1:∃ te pe,w.var? Tryz.prog "strconv.ErrRange" = some #[.iface te pe]
 tab:Lib.TabIs Tryz.prog w "internal/strconv.uint64pow10" .u64 Lib.pow10Tab
def NotG (b:Nat):Prop:=b≠1/\b≠2/\b≠3
theorem Tryz.gn0:Tryz.prog.globalNamed "strconv.ErrSyntax" = some 1:=by kernel_rfl
theorem Tryz.gn1:Tryz.prog.globalNamed "strconv.ErrRange" = some 2:=by kernel_rfl
theorem Tryz.gn2:Tryz.prog.globalNamed "internal/strconv.uint64pow10" = some 3:=by kernel_rfl
theorem wN {P:Program} {w:World} {nm:String} {g:Nat} {x:Array Value} (hg:P.globalNamed nm=some g) (h:w.var? P nm=some x):g<w.heap.size:=by
 unfold World.var? at h
 rw [hg] at h
 simp only [Option.bind_some] at h
 rcases Nat.lt_or_ge g w.heap.size with h' | h'
 ·exact h'
 ·rw [Array.getElem?_eq_none h'] at h;simp at h
theorem gR {P:Program} {w w':World} {nm:String} {g:Nat} {x:Array Value} (hg:P.globalNamed nm=some g) (hk:w'.heap[g]? = w.heap[g]?) (h:w.var? P nm=some x):w'.var? P nm=some x:=by
 unfold World.var? at *
 rw [hg] at *
 simp only [Option.bind_some] at *
 rw [hk];exact h
theorem jD.but {m:Nat->Prop} {w w':World} (h:jD w) (hb:But m w w') (hm:∀ i,m i->NotG i):jD w':=by
 obtain ⟨⟨t0,p0,h0⟩,⟨t1,p1,h1⟩,h2⟩:=h
 have l0:=wN Tryz.gn0 h0
 have l1:=wN Tryz.gn1 h1
 have l2:=wN Tryz.gn2 h2
 exact ⟨⟨t0,p0,gR Tryz.gn0 (hb.block _ l0 fun e=>(hm _ e).1 rfl) h0⟩,⟨t1,p1,gR Tryz.gn1 (hb.block _ l1 fun e=>(hm _ e).2.1 rfl) h1⟩,gR Tryz.gn2 (hb.block _ l2 fun e=>(hm _ e).2.2 rfl) h2⟩
theorem jD.below {w w':World} (h:jD w) (hb:Below w.heap.size w w'):jD w':=h.but (m:=fun _=>False) (But.ofBelow hb) (fun _ e=>e.elim)
theorem jD.new {w:World} (h:jD w) {b:Nat} (hb:w.heap.size<=b):NotG b:=by
 obtain ⟨⟨t0,p0,h0⟩,⟨t1,p1,h1⟩,h2⟩:=h
 have l0:=wN Tryz.gn0 h0
 have l1:=wN Tryz.gn1 h1
 have l2:=wN Tryz.gn2 h2
 exact ⟨by omega,by omega,by omega⟩
theorem below_drewN {B:Nat} {a w:World} (h:Below B a w) (n:Nat):Below B a (w.drewN n):=h.trans ⟨rfl,rfl,rfl,bw _,fun _ _=>rfl⟩
theorem below_grow (w:World) (os:Array Obj):Below w.heap.size w (Go.Sort.grow w os) :=
 ⟨rfl,rfl,rfl,by simp [Go.Sort.grow],fun k hk=>by simp [Go.Sort.grow,Array.getElem?_append_left hk]⟩
theorem below_freeze {B:Nat} {a w:World} (h:Below B a w) {p:Addr} (hp:B<=p.block) (n:Nat):Below B a (w.freeze p n):=by
 refine h.trans ⟨?_,?_,?_,?_,?_⟩
 ·unfold World.freeze;split <;> rfl
 ·unfold World.freeze;split <;> rfl
 ·unfold World.freeze;split <;> rfl
 ·unfold World.freeze;split <;> simp
 ·intro k hk
  unfold World.freeze;split
  ·rfl
  ·simp only [Array.getElem?_modify];rw [if_neg (by omega)]
theorem wl (w:World) (e:TypeId) (s:ByteArray):Below w.heap.size w (Lib.bytesWorld w e s) :=
 below_freeze (((bh w.heap.size w).drew).alloc (bw _) _) (bw _) _
theorem atoi_ok (l:Bs) (w:World) (hl:Lim l.length) (v:Int) (h:Lib.atoiAll l=.ok v) :
 Calls Tryz.prog 131 #[str l] w fun en w'=>en=.returned (.tuple #[.int .i64 v,.nilIface])/\Below w.heap.size w w':=by
 have dd:=hl.le
 refine (Tryz.strconv_Atoi_ok ⟨l.toArray⟩ (by show l.toArray.size<=_;simp;omega) v h w).mono ?_
 rintro en w' ⟨rfl,rfl | ⟨t,rfl⟩⟩
 ·exact ⟨rfl,bh _ _⟩
 ·exact ⟨rfl,wl _ _ _⟩
theorem atoi_no (l:Bs) (w:World) (hl:Lim l.length) (hg:jD w) (h:∀ v,Lib.atoiAll l≠.ok v) :
 Calls Tryz.prog 131 #[str l] w fun en w'=>∃ v t p,en=.returned (.tuple #[.int .i64 v,.iface t p])/\Below w.heap.size w w':=by
 have dd:=hl.le
 have hs:(⟨l.toArray⟩:ByteArray).size<=281474976710656:=by show l.toArray.size<=_;simp;omega
 cases ha:Lib.atoiAll l
 ·rename_i v;exact absurd ha (h v)
 ·obtain ⟨te,pe,h0⟩:=hg.e0
  refine (Tryz.strconv_Atoi_syntax_var ⟨l.toArray⟩ hs ha te pe w h0).mono ?_
  rintro en w' ⟨N,rfl,_,_,hb⟩
  exact ⟨_,_,_,rfl,hb⟩
 ·obtain ⟨te,pe,h0⟩:=hg.e1
  refine (Tryz.strconv_Atoi_range_var ⟨l.toArray⟩ hs ha te pe w h0).mono ?_
  rintro en w' ⟨N,rfl,_,_,hb⟩
  exact ⟨_,_,_,rfl,hb⟩
theorem itoa_any (n:Int) (w:World) (hg:jD w) (h0 : -9223372036854775808<=n) (h1:n<=9223372036854775807) :
 Calls Tryz.prog 105 #[.int .i64 n] w fun en w'=>en=.returned (str (Lib.itoa n))/\Below w.heap.size w w':=by
 refine (Tryz.strconv_Itoa n h0 h1 w hg.tab).mono ?_
 rintro en w' ⟨rfl,k,os,rfl⟩
 exact ⟨rfl,(below_drewN (bh _ _) k).trans (below_grow (w.drewN k) os)⟩
theorem bD {l:Bs} {v:Int} (h:Lib.atoiAll l=.ok v) : -9223372036854775808<=v/\v<=9223372036854775807:=by
 unfold Lib.atoiAll at h
 split at h
 ·simp at h
 ·simp only at h
  split at h
  ·simp at h
  ·simp at h
  ·split at h
   ·simp at h
   ·split at h
    ·simp at h
    ·rename_i h1 h2
     simp only [Lib.NumEnd.ok.injEq] at h
     split at h <;> omega
theorem itoa_of {l:Bs} {v:Int} (h:Lib.atoiAll l=.ok v) (w:World) (hg:jD w) :
 Calls Tryz.prog 105 #[.int .i64 v] w fun en w'=>en=.returned (str (Lib.itoa v))/\Below w.heap.size w w' :=
 itoa_any v w hg (bD h).1 (bD h).2
def jF (sr:Nat) (w:World) (o:Option (Bd×Bs×Nat)) (en:Ending) (w':World):Prop :=
 ∃ (v:Value) (r':Bs) (left':Int),en=.returned v/\But (fun x=>x=sr) w w'/\kL sr [.int .i64 left'] 158 r' w'/\(o=none->v=.pointer none) /\
   (∀ b rest cM,o=some (b,rest,cM)->r'=rest/\left'=(cM:Nat)/\Rep (w.heap.size<=·) w' (qa b) v)
theorem qk {F:Nat->Prop} {w:World} {b:Bd} {v:Value} (h:Rep F w (qa b) v):∃ a,v=.pointer (some ⟨a,0,none⟩):=by
 cases b with
 | leaf c=>rw [qa,vF] at h;obtain ⟨a,c,h,_⟩:=h;exact ⟨a,h⟩
 | ask v ss y n=>rw [qa,vF] at h;obtain ⟨a,c,h,_⟩:=h;exact ⟨a,h⟩
theorem jF.no {sr:Nat} {w:World} {o:Option (Bd×Bs×Nat)} {w':World} {r:Bs} {left:Int} (ho:o=none) (hb:But (fun x=>x=sr) w w') (hs:kL sr [.int .i64 left] 158 r w') :
 jF sr w o (.returned (.pointer none)) w' :=
 ⟨_,r,left,rfl,hb,hs,fun _=>rfl,fun _ _ _ h=>by rw [ho] at h;simp at h⟩
theorem jF.yes {sr:Nat} {w:World} {o:Option (Bd×Bs×Nat)} {w':World} {r:Bs} {left:Nat} {b:Bd} {v:Value} (ho:o=some (b,r,left)) (hb:But (fun x=>x=sr) w w') (hs:kL sr [.int .i64 left] 158 r w')
 (hv:Rep (w.heap.size<=·) w' (qa b) v):jF sr w o (.returned v) w' :=
 ⟨_,r,left,rfl,hb,hs,fun h=>by rw [ho] at h;simp at h,fun _ _ _ h=>by rw [ho] at h;simp at h;obtain ⟨rfl,rfl,rfl⟩:=h;exact ⟨rfl,rfl,hv⟩⟩
def qK (d:Nat) (levels:List Ty):Prop:=(∀ t∈levels,zP t<=15)/\levels.length+15*d<=10000
def yj (d:Nat):Prop:=∀ (sr left:Nat) (levels:List Ty) (l:Bs) (lv:Value) (F:Nat->Prop) (w:World),jD w->NotG sr ->
 kL sr [.int .i64 left] 158 l w->left<=1000->Lim l.length->qK d levels ->
 Rep F w (.sl 54 1 levels.length (qz levels)) lv->(∀ b,F b->b≠sr) ->
 Calls Tryz.prog 98 #[.pointer (some ⟨sr,0,none⟩),lv,.int .i64 d] w (jF sr w (rdB d levels left l))
theorem encKs_append (a b:List Ty):qz (a++b)=qz a++qz b:=by
 induction a with
 | nil=>rfl
 | cons t ts ih=>simp [qz,ih]
theorem srcSl_but {F:Nat->Prop} {m:Nat->Prop} {w w':World} {e:TypeId} {sz n:Nat} {cs:List DV} {v:Value} {news:List Value} (hb:But m w w') (hF:∀ b,F b->¬ m b) (h:Rep F w (.sl e sz n cs) v) (hs:zM sz v n news w):zM sz v n news w':=by
 rw [qu] at h
 obtain ⟨hl,a,cap,rfl,hn,hz,h⟩:=h
 obtain ⟨h1,h2,h3⟩:=hs
 refine ⟨h1,h2,?_⟩
 rcases h with rfl | ⟨b,o,c,fr,rfl,dK,hc,hr⟩
 ·have:news=[]:=List.eq_nil_of_length_eq_zero (by simpa using h1)
  subst this
  rcases h3 with ⟨a',c',e',_⟩ | h3
  ·exact .inl ⟨a',c',e',by simp⟩
  ·exact .inr h3
 ·rcases h3 with ⟨a',c',e',h3⟩ | ⟨h3,_⟩
  ·simp at e'
   obtain ⟨e1,e2⟩:=e'
   subst e1
   refine .inl ⟨_,cap,rfl,fun j u hj=>?_⟩
   have:=h3 j u hj
   rw [hb.cell (bp w _ this) ?_]
   ·exact this
   ·unfold Addr.add;split <;> exact hF b dK
  ·simp at h3
theorem part_pre {F:Nat->Prop} {sr:Nat} {left:Int} {levels more:List Ty} {r1:Bs} {xs1 xs2:List Value} {ac:Option Addr} {kc:Nat} {w w1 wx wc:World} (hg:jD w) (hn:NotG sr) (B3:sr<w.heap.size)
 (bi:But (fun x=>x=sr) w w1) (dQ:kL sr [.int .i64 left] 158 r1 w1)
 (hF:∀ b,F b->b≠sr) (G1:zv F w1 (qz levels) xs1) (G2:zv F w1 (qz more) xs2)
 (hx:Below w1.heap.size w1 wx) (hoc:Own wc 54 1 (.slice ac (levels.length+more.length) kc) (levels.length+more.length) (xs1++xs2))
 (rI:Below wx.heap.size wx wc) (hfc:∀ g,(Value.slice ac (levels.length+more.length) kc).ownBlock=some g->wx.heap.size<=g) :
 Below w1.heap.size w1 wc/\jD wc/\kL sr [.int .i64 left] 158 r1 wc /\
  Rep (fun b=>b≠sr) wc (.sl 54 1 (levels++more).length (qz (levels++more))) (.slice ac (levels.length+more.length) kc):=by
 have z1:=bi.size
 have hb:Below w1.heap.size w1 wc:=zzT hx rI
 refine ⟨hb,(hg.but bi fun i e=>by subst e;exact hn).below hb,(hb.block sr (by omega)).trans dQ,?_⟩
 rw [List.length_append,encKs_append]
 refine hoc.rep (fun g h=>?_) (zv.append (G1.below hb hF) (G2.below hb hF))
 have:=hfc g h;have:=hx.size;omega
set_option maxRecDepth 100000 in
theorem gt (d:Nat) (ih:yj d) (sr left:Nat) (levels more:List Ty) (l:Bs) (lv mv:Value) (F:Nat->Prop) (w:World) (b1 b2 b3:Nat) (hg:jD w) (hn:NotG sr)
 (hs:kL sr [.int .i64 left] 158 l w) (hl:left<=1000) (hr:Lim l.length) (hh:qK d (levels++more)) (hd:d<=1000)
 (dT:Rep F w (.sl 54 1 levels.length (qz levels)) lv) (mI:Rep F w (.sl 54 1 more.length (qz more)) mv) (hF:∀ b,F b->b≠sr)
 (c1:w.cell? ⟨b1,0,none⟩=some (.pointer (some ⟨sr,0,none⟩))) (c2:w.cell? ⟨b2,0,none⟩=some lv) (c3:w.cell? ⟨b3,0,none⟩=some (.int .i64 ((d:Int)+1)))
 (n1:b1≠sr) (n2:b2≠sr) (n3:b3≠sr) :
 Calls Tryz.prog 132 #[mv,.pointer (some ⟨b1,0,none⟩),.pointer (some ⟨b2,0,none⟩),.pointer (some ⟨b3,0,none⟩)] w (jF sr w (qX (rdB d) (levels++more) left l)):=by
 have IH:=bz ih;clear ih
 have HF:=bz hF;clear hF
 have l1:=bp w _ c1
 have l2:=bp w _ c2
 have l3:=bp w _ c3
 go_enter Tryz.func132,Tryz.ntmps132
 go_wp2_with fail
 rcases zo [32] l with h1 | ⟨r1,h1⟩
 ·refine (uT hs h1).mono ?_
  rintro en w1 ⟨rfl,bi,dQ⟩
  go_wp2_with fail
  go_ret
  exact jF.no (by simp [qX,h1.out]) bi dQ
 ·refine (j5 hs h1).mono ?_
  rintro en w1 ⟨rfl,bi,dQ⟩
  have d1:w1.cell? ⟨b1,0,none⟩=some (.pointer (some ⟨sr,0,none⟩)):=by rw [bi.cell l1 n1];exact c1
  have d2:w1.cell? ⟨b2,0,none⟩=some lv:=by rw [bi.cell l2 n2];exact c2
  have d3:w1.cell? ⟨b3,0,none⟩=some (.int .i64 ((d:Int)+1)):=by rw [bi.cell l3 n3];exact c3
  obtain ⟨xs1,mh,g1⟩:=zM.ofRep dT (uK _)
  obtain ⟨xs2,fZ,g2⟩:=zM.ofRep mI (uK _)
  have lim:levels.length+more.length<=10000:=by have:=hh.2;simp at this;omega
  have B3:=uL hs
  have z1:=bi.size
  have hF':=HF.out
  have G1:=bz (zv.but bi (fun b hb=>⟨HF.out b hb,hb⟩) mh)
  have G2:=bz (zv.but bi (fun b hb=>⟨HF.out b hb,hb⟩) fZ)
  have W1:zM 1 lv levels.length xs1 w1:=srcSl_but bi hF' dT g1
  have W2:zM 1 mv more.length xs2 w1:=srcSl_but bi hF' mI g2
  clear hF' mh fZ g1 g2 c1 c2 c3
  obtain ⟨a1,k1,rfl⟩:=W1.slice
  obtain ⟨a2,k2,rfl⟩:=W2.slice
  have l1':b1<w1.heap.size:=by omega
  have l2':b2<w1.heap.size:=by omega
  have l3':b3<w1.heap.size:=by omega
  go_wp2_with fail
  have HW:=bz (IntWalk.i64_in (d:Int) (by omega))
  go_region_held3 (fun w'=>w'.cell? ⟨b1,0,none⟩=some (.pointer (some ⟨sr,0,none⟩))/\w'.cell? ⟨b2,0,none⟩=some (.slice a1 levels.length k1)/\w'.cell? ⟨b3,0,none⟩=some (.int .i64 ((d:Int)+1)))
   (first
    | exact ⟨(rU.cell l1' n1).trans d1,(rU.cell l2' n2).trans d2,(rU.cell l3' n3).trans d3⟩
    | exact ⟨(hbb.cell l1').trans d1,(hbb.cell l2').trans d2,(hbb.cell l3').trans d3⟩
    | go_keep)
   (first
    | (go_at_call 133;refine (concatK_any w1.heap.size levels.length more.length (.slice a1 levels.length k1) (.slice a2 more.length k2) xs1 xs2 _ (by simp) (by simp) (W1.keep fun _ _ h=>by simpa using zH h) (W2.keep fun _ _ h=>by simpa using zH h) (show _<=_ by omega) (show _<=_ by omega) (show _<=_ by omega)).mono ?_;rintro en wc ⟨ac,kc,rfl,hoc,rI,hfc⟩;obtain ⟨hbb,iI,i_,hrc⟩:=part_pre hg hn B3 bi dQ HF.out G1.out G2.out (((bh w1.heap.size w1).alloc (bw _) _).drew) hoc rI hfc)
    | (go_at_call 98
       rw [HW.out]
       refine (IH.out sr left (levels++more) r1 _ (fun b=>b≠sr) wc iI hn i_ hl (hr.mono h1.le) hh hrc (fun b h=>h)).mono ?_
       rintro en wf ⟨v,r',left',rfl,hbf,nM,hnf,hyf⟩;have rU:=(But.ofBelow (m:=fun x=>x=sr) hbb).trans hbf))
  go_wp2_with fail
  go_ret
  refine ⟨v,r',left',rfl,bi.trans rU,nM,fun h=>hnf ?_,fun b rest cM h=>?_⟩
  ·simpa [qX,h1.out] using h
  ·obtain ⟨e1,e2,e3⟩:=hyf b rest cM (by simpa [qX,h1.out] using h)
   exact ⟨e1,e2,(Rep.keep fun b o h ho=>⟨by have:=h;have:=hbb.size;omega,ho⟩).1 _ _ e3⟩
theorem kL.cell1 {sc:Nat} {c:List Value} {e:TypeId} {r:Bs} {u:Value} {w:World} (h:kL sc (u::c) e r w):w.cell? ⟨sc,1,none⟩=some u:=by
 simp [World.cell?,kL] at *;simp [h]
theorem kL.put1 {sc:Nat} {c:List Value} {e:TypeId} {r:Bs} {u u':Value} {w:World} (h:kL sc (u::c) e r w):kL sc (u'::c) e r (w.setCell ⟨sc,1,none⟩ u'):=by
 unfold kL at *
 have cQ:=zZ h
 have h':w.heap[sc]=.cells (str r::u::c).toArray e (0,0):=by simpa [Array.getElem?_eq_getElem cQ] using h
 show (w.heap.modify sc _)[sc]? = _
 rw [Array.getElem?_eq_getElem (by simpa using cQ),Array.getElem_modify_self,h']
 simp
def pO (B sr:Nat) (lv:Value) (d:Nat) (w:World):Prop :=
 w.cell? ⟨B,0,none⟩=some (.pointer (some ⟨sr,0,none⟩))/\w.cell? ⟨B+1,0,none⟩=some lv/\w.cell? ⟨B+1+1,0,none⟩=some (.int .i64 (d:Int))
theorem pO.but {B sr:Nat} {lv:Value} {d:Nat} {m:Nat->Prop} {w w':World} (h:pO B sr lv d w) (hb:But m w w') (hm:∀ i,m i->i≠B/\i≠B+1/\i≠B+1+1):pO B sr lv d w':=by
 obtain ⟨h1,h2,h3⟩:=h
 refine ⟨?_,?_,?_⟩
 ·rw [hb.cell (bp w _ h1) (fun e=>(hm _ e).1 rfl)];exact h1
 ·rw [hb.cell (bp w _ h2) (fun e=>(hm _ e).2.1 rfl)];exact h2
 ·rw [hb.cell (bp w _ h3) (fun e=>(hm _ e).2.2 rfl)];exact h3
def vQ (ob v:Nat) (slv y n:Value) (w:World):Prop:=w.heap[ob]? = some (.cells #[str [],.int .i64 v,slv,y,n] 105 (0,0))
theorem vQ.cells {ob v:Nat} {slv y n:Value} {w:World} (h:vQ ob v slv y n w):w.cell? ⟨ob,2,none⟩=some slv/\w.cell? ⟨ob,3,none⟩=some y/\w.cell? ⟨ob,4,none⟩=some n/\ob<w.heap.size/\(∀ o,w.frozen? ⟨ob,o,none⟩=false):=by
 have hl:=zZ h
 unfold vQ at h
 exact ⟨by simp [World.cell?,h],by simp [World.cell?,h],by simp [World.cell?,h],hl,fun o=>by simp [World.frozen?,h]⟩
theorem k8 {w:World} {b o:Nat} {c:Array Value} {e:TypeId} {u:Value} (h:w.heap[b]? = some (.cells c e (0,0))):(w.setCell ⟨b,o,none⟩ u).heap[b]? = some (.cells (c.setIfInBounds o u) e (0,0)):=by
 have cQ:=zZ h
 have h':w.heap[b]=.cells c e (0,0):=by simpa [Array.getElem?_eq_getElem cQ] using h
 show (w.heap.modify b _)[b]? = _
 rw [Array.getElem?_eq_getElem (by simpa using cQ),Array.getElem_modify_self,h']
 simp
theorem vQ.put2 {ob v:Nat} {slv y n u:Value} {w:World} (h:vQ ob v slv y n w):vQ ob v u y n (w.setCell ⟨ob,2,none⟩ u):=by
 unfold vQ;rw [k8 h];rfl
theorem vQ.put3 {ob v:Nat} {slv y n u:Value} {w:World} (h:vQ ob v slv y n w):vQ ob v slv u n (w.setCell ⟨ob,3,none⟩ u):=by
 unfold vQ;rw [k8 h];rfl
theorem vQ.put4 {ob v:Nat} {slv y n u:Value} {w:World} (h:vQ ob v slv y n w):vQ ob v slv y u (w.setCell ⟨ob,4,none⟩ u):=by
 unfold vQ;rw [k8 h];rfl
def wF (sr B ob Z v d:Nat) (lv:Value) (levels ts:List Ty) (rx:Nat) (r0:Bs) (w:World) (rd:Rd) (k:Nat) (wr:World):Prop :=
 ∃ bs lk leftk slv vs,zt rd (kC levels (ts.take k)) rx r0=some (bs,lk,leftk)/\But (fun x=>x=sr) w wr/\kL sr [.int .i64 (leftk:Nat)] 158 lk wr /\
   vQ ob v slv (.pointer none) (.pointer none) wr/\Own wr 55 1 slv k vs/\(∀ g,slv.ownBlock=some g->Z<=g)/\zv (fun b=>Z<=b/\slv.ownBlock≠some b) wr (uB bs) vs/\pO B sr lv (d+1) wr/\Z<=wr.heap.size
theorem encBs_append (a b:List Bd):uB (a++b)=uB a++uB b:=by
 induction a with
 | nil=>rfl
 | cons t ts ih=>simp [uB,ih]
theorem Tryz.infoB:(Tryz.prog.info? 55).map (fun i=>(i.zero,i.size,i.bytes))=some (some (.pointer none),1,8):=by kernel_rfl
theorem g_ {sr left:Nat} {x:UInt8} {r:Bs} {w w2:World} {o:Option (Bd×Bs×Nat)} {u:Value} (hw:u=str [x]) (hm:o=some (.leaf x,r,left)) (hb:But (fun x=>x=sr) w w2) (hs:kL sr [.int .i64 (left:Nat)] 158 r w2) :
 jF sr w o (.returned (.pointer (some ⟨w2.heap.size,0,none⟩))) (w2.alloc (.cells #[u,.int .i64 0,.slice none 0 0,.pointer none,.pointer none] 105)):=by
 refine jF.yes hm (hb.alloc _) (hs.alloc _) ?_
 rw [qa,vF]
 refine ⟨_,_,rfl,hb.size,zR _ _,?_⟩
 subst hw
 refine zG.2 ⟨_,_,rfl,z8.2 rfl,zG.2 ⟨_,_,rfl,z8.2 rfl,zG.2 ⟨_,_,rfl,?_,zG.2 ⟨_,_,rfl,z8.2 rfl,zG.2 ⟨_,_,rfl,z8.2 rfl,zm.2 rfl⟩⟩⟩⟩⟩
 exact qu.2 ⟨rfl,none,0,rfl,bw _,fun _=>rfl,.inl rfl⟩
theorem qK.next {d:Nat} {levels:List Ty} {v:Nat} {t a:Ty} (h:qK (d+1) levels) (hv:levels[v]? = some t) (ha:a∈t.args):qK d (levels++a.args):=by
 have ht:=h.1 t (List.mem_of_getElem? hv)
 have tQ:∀ ts:List Ty,∀ a∈ts,1+zP a<=zu ts:=by
  intro ts
  induction ts with
  | nil=>simp
  | cons x xs ih =>
    intro a ha
    rcases List.mem_cons.1 ha with rfl | ha
    ·simp [zu]
    ·have:=ih a ha;simp [zu];omega
 have cU:∀ ts:List Ty,ts.length<=zu ts:=by
  intro ts
  induction ts with
  | nil=>simp
  | cons x xs ih=>simp [zu];omega
 have h1:=tQ _ a ha
 have h2:=qE t
 have h3:=qE a
 refine ⟨fun x hx=>?_,?_⟩
 ·rcases List.mem_append.1 hx with hx | hx
  ·exact h.1 x hx
  ·have:=tQ _ x hx;omega
 ·have:=cU a.args;have:=h.2;simp;omega
theorem qK.same {d:Nat} {levels:List Ty} (h:qK (d+1) levels):qK d (levels++[]):=by
 refine ⟨fun x hx=>h.1 x (by simpa using hx),?_⟩
 have:=h.2;simp;omega
theorem wF.next {sr B ob Z v d:Nat} {lv:Value} {levels ts:List Ty} {rx:Nat} {r0:Bs} {w:World} {rd:Rd} {k:Nat} {wr w1 w2:World} {t:Ty} {bs:List Bd} {lk:Bs} {leftk:Nat} {slv:Value} {vs:List Value}
 {b:Bd} {rest:Bs} {cM:Nat} {vb:Value} {o:Obj} {a':Option Addr} {c':Nat}
 (ht:ts[k]? = some t) (hp:zt rd (kC levels (ts.take k)) rx r0=some (bs,lk,leftk)) (hb:But (fun x=>x=sr) w wr)
 (tZ:vQ ob v slv (.pointer none) (.pointer none) wr) (hZ:∀ g,slv.ownBlock=some g->Z<=g) (cL:Own wr 55 1 slv k vs) (hr:zv (fun b=>Z<=b/\slv.ownBlock≠some b) wr (uB bs) vs) (hx:pO B sr lv (d+1) wr)
 (hz:Z<=wr.heap.size) (hq:qX rd (levels++t.args) leftk lk=some (b,rest,cM))
 (bi:But (fun x=>x=sr) wr w1) (dQ:kL sr [.int .i64 (cM:Nat)] 158 rest w1) (hv:Rep (wr.heap.size<=·) w1 (qa b) vb)
 (tx:Own w2 55 1 (.slice a' (k+1) c') (k+1) (vs++[vb])) (cK:But (fun b=>slv.ownBlock=some b) (w1.alloc o) w2) (hg:∀ g,(Value.slice a' (k+1) c').ownBlock=some g->slv.ownBlock=some g\/g=(w1.alloc o).heap.size)
 (B3:sr<w.heap.size) (hB:w.heap.size<=B) (oN:B+1+1<ob) (hobZ:ob<Z) :
 wF sr B ob Z v d lv levels ts rx r0 w rd (k+1) (w2.setCell ⟨ob,2,none⟩ (.slice a' (k+1) c')):=by
 have z1:=bi.size;have z2:=cK.size;have zw:=hb.size
 rw [zK] at hg z2
 have cQ:∀ g,slv.ownBlock=some g->g<wr.heap.size:=fun g h=>cL.lt h
 have hnsr:∀ g,slv.ownBlock=some g->Z<=g:=hZ
 have keep:∀ i x,w1.heap[i]? = some x->slv.ownBlock≠some i->i≠ob->(w2.setCell ⟨ob,2,none⟩ (.slice a' (k+1) c')).heap[i]? = some x:=by
  intro i x hi cE ho
  rw [bf _ _ _ _ (by simpa using ho),cK.block i (by rw [zK];have:=zZ hi;omega) cE]
  exact zD hi
 have D6:vQ ob v slv (.pointer none) (.pointer none) w1:=(bi.block ob (zZ tZ) (by omega)).trans tZ
 have hnb2:vQ ob v slv (.pointer none) (.pointer none) w2:=by
  unfold vQ;rw [cK.block ob (by rw [zK];have:=zZ D6;omega) (fun e=>by have:=hZ ob e;omega)]
  exact zD D6
 have mh:=hx.but bi (fun i e=>by subst e;omega)
 refine ⟨bs++[b],rest,cM,_,vs++[vb],?_,?_,?_,hnb2.put2,?_,?_,?_,?_,?_⟩
 ·rw [bQ ht hp,hq];rfl
 ·refine ((hb.trans bi).trans' ((But.refl (fun b=>slv.ownBlock=some b) w1).alloc o |>.trans cK) fun i hi e=>?_).setCell (p:=⟨ob,2,none⟩) (.inr (by simp;omega)) _
  have:=hZ i e;omega
 ·exact keep sr _ dQ (fun e=>by have:=hZ sr e;omega) (by omega)
 ·refine tx.keep fun g x dR fj=>?_
  rw [bf _ _ _ _ (by
   rcases hg g dR with h | h
   ·have:=hZ g h;simp;omega
   ·simp;omega)]
  exact fj
 ·intro g h
  rcases hg g h with h | h
  ·exact hZ g h
  ·omega
 ·rw [encBs_append]
  refine zv.append ?_ (zv.one ?_)
  ·refine (Rep.keep fun i x hi fj=>⟨⟨hi.1,fun e=>?_⟩,?_⟩).2 _ _ hr
   ·have cE:i≠sr:=by omega
    exact keep i x (by rw [bi.block i (zZ fj) cE];exact fj) hi.2 (by omega)
   ·rcases hg i e with h | h
    ·exact hi.2 h
    ·have:=zZ fj;omega
  ·refine (Rep.keep fun i x hi fj=>⟨⟨by have:=hi;omega,fun e=>?_⟩,?_⟩).1 _ _ hv
   ·exact keep i x fj (fun e=>by have:=cQ i e;have:=hi;omega) (by have:=hi;omega)
   ·rcases hg i e with h | h
    ·have:=cQ i h;have:=hi;omega
    ·have:=zZ fj;omega
 ·obtain ⟨y1,y2,y3⟩:=mh
  have ck:∀ i u,w1.cell? ⟨i,0,none⟩=some u->slv.ownBlock≠some i->i≠ob->(w2.setCell ⟨ob,2,none⟩ (.slice a' (k+1) c')).cell? ⟨i,0,none⟩=some u:=by
   intro i u hi cE ho
   rw [World.cell?_of_block (w:=w1) (a:=⟨i,0,none⟩) ?_];exact hi
   have hl:=bp w1 _ hi
   obtain ⟨x,fj⟩:∃ x,w1.heap[i]? = some x:=⟨w1.heap[i],by simp at hl;simp [hl]⟩
   show (w2.setCell ⟨ob,2,none⟩ (.slice a' (k+1) c')).heap[i]? = w1.heap[i]?
   rw [keep i x fj cE ho,fj]
  exact ⟨ck _ _ y1 (fun e=>by have:=hZ _ e;omega) (by omega),ck _ _ y2 (fun e=>by have:=hZ _ e;omega) (by omega),ck _ _ y3 (fun e=>by have:=hZ _ e;omega) (by omega)⟩
 ·simp only [World.setCell];simp;omega
theorem body_ask (d:Nat) (hd:d+1<=1000) (ih:yj d) (sr left:Nat) (levels:List Ty) (l:Bs) (lv:Value) (F:Nat->Prop) (w:World) (hg:jD w) (hn:NotG sr)
 (hs:kL sr [.int .i64 ((left+1:Nat):Int)] 158 l w) (hl:left+1<=1000) (hr:Lim l.length) (hh:qK (d+1) levels)
 (dT:Rep F w (.sl 54 1 levels.length (qz levels)) lv) (hF:∀ b,F b->b≠sr) (r1:Bs) (v:Nat) (t:Ty) (h1:Cut [40] l r1) (sA:lvl (zk r1) levels.length=some v) (ht:levels[v]? = some t) :
 Calls Tryz.prog 98 #[.pointer (some ⟨sr,0,none⟩),lv,.int .i64 ((d:Int)+1)] w (jF sr w (rdB (d+1) levels (left+1) l)):=by
 have HM:=bz (xf (d+1) levels left h1.out)
 have hm:rdB (d+1) levels (left+1) l=gx (rdB d) levels v t left (zF r1):=by rw [HM.out,sA];simp only [ht]
 have HM:=bz hm;clear hm
 rw [rdAsk_eq] at HM
 have IH:=bz ih;clear ih
 obtain ⟨fv,cD,sL⟩:=lvl_lt sA
 have sR:=bz cD;have AR:=bz sL;have hlvl':=bz sA;have HT:=bz ht
 have c1:=hs.cell1
 have f1:=hs.free 1
 have lsr:=uL hs
 have lsr1:sr<w.heap.size+1:=by omega
 have lsr2:sr<w.heap.size+1+1:=by omega
 obtain ⟨a0,k0,elv,_,_,hat⟩:=zI dT
 obtain ⟨bl,ol,u,dv,ea,hFl,_,lT,ik,nN⟩:=hat v fv
 rw [wV,ht] at lT
 simp only [Option.map_some,Option.some.injEq] at lT
 subst lT;subst ea;subst elv
 obtain ⟨bt,st,eu,hFt,EI,dw⟩:=zf nN
 subst eu
 obtain ⟨sa,ks,est,hks,_,cO⟩:=zI dw
 subst est
 have EH:w.cell? ⟨bt,0,none⟩=some (.slice sa t.args.length ks):=by simp [World.cell?,EI]
 have nl:=hF bl hFl
 have nt:=hF bt hFt
 have HF:=bz hF;have iW:=bz cO
 have CL:=bz ik;have CT:=bz EH
 clear cD sL sA ht hat nN EI dw hF cO ik EH
 have cU:levels.length<=10000:=by have:=hh.2;omega
 have BZ:t.args.length<=15:=by
  have h1:=hh.1 t (List.mem_of_getElem? HT.out)
  have h2:=qE t
  have cU:∀ ts:List Ty,ts.length<=zu ts:=by
   intro ts
   induction ts with
   | nil=>simp
   | cons x xs ih=>simp [zu];omega
  have:=cU t.args;omega
 go_enter Tryz.func98,Tryz.ntmps98
 go_wp2_with fail
 obtain ⟨W0,fR⟩:=zzM (((((w.setCell ⟨sr,1,none⟩ (.int .i64 left)).alloc (.cells #[.pointer (some ⟨sr,0,none⟩)] 156)).alloc (.cells #[.slice (some ⟨bl,ol,none⟩) levels.length k0] 86)).alloc (.cells #[.int .i64 ((d:Int)+1)] 3)))
 rw [<- fR]
 have eI:But (fun x=>x=sr) w W0:=by subst fR;exact ((((But.refl _ _).setS 1 _).alloc _).alloc _).alloc _
 have dz:kL sr [.int .i64 left] 158 l W0:=by subst fR;exact ((hs.put1).alloc _).alloc _ |>.alloc _
 have iC:pO w.heap.size sr (.slice (some ⟨bl,ol,none⟩) levels.length k0) (d+1) W0:=by subst fR;refine ⟨?_,?_,?_⟩ <;> go_simp
 have z0:W0.heap.size=w.heap.size+3:=by subst fR;simp
 clear fR c1 f1
 refine (j5 dz h1).mono ?_
 rintro en w1 ⟨rfl,bi,dQ⟩
 have mh:=iC.but bi (fun i e=>by subst e;omega)
 have hb:=eI.trans bi
 have z1:=bi.size
 clear eI bi dz iC
 obtain ⟨x1,x2,x3⟩:=id mh
 go_wp2_with fail
 refine (gG _ _ _ _ _ dQ (hr.mono h1.le)).mono ?_
 rintro en w2 ⟨rfl,cK,dt⟩
 have dj:=hr.mono h1.le
 have oW:=dj.mono (show (zk r1).length<=r1.length by have:=word_le r1;omega)
 have fZ:=mh.but cK (fun i e=>by subst e;omega)
 have dK:=hb.trans cK
 have z2:=cK.size
 have nO:=hg.but dK (fun i e=>by subst e;exact hn)
 clear x1 x2 x3 hb cK dQ mh
 go_wp2_with fail
 refine (atoi_ok _ _ oW (v:Int) sR.out).mono ?_
 rintro en w3 ⟨rfl,cH⟩
 have z3:=cH.size
 have sO:=nO.below cH
 have mP:=(cH.block sr (by omega)).trans dt
 have oX:=fZ.but (But.ofBelow (m:=fun _=>False) cH) (fun i e=>e.elim)
 have hb:=dK.trans (But.ofBelow cH)
 clear dK cH dt fZ nO
 go_wp2_with fail
 refine (itoa_of sR.out w3 sO).mono ?_
 rintro en w4 ⟨rfl,cm⟩
 have z4:=cm.size
 have me:=(cm.block sr (by omega)).trans mP
 have Eq:=sO.below cm
 have oY:=oX.but (But.ofBelow (m:=fun _=>False) cm) (fun i e=>e.elim)
 obtain ⟨x1,x2,x3⟩:=id oY
 have dK:=hb.trans (But.ofBelow cm)
 have hq:(Lib.itoa (v:Int) == zk r1)=true:=by rw [beq_iff_eq];exact AR.out
 have nE:decide ((v:Int)<0)=false:=by rw [decide_eq_false_iff_not];omega
 have mX:decide (levels.length<=v)=false:=by rw [decide_eq_false_iff_not];omega
 have rA:(((d:Int)+1) == 0)=false:=by rw [beq_eq_false_iff_ne];omega
 have s1:w.heap.size+1<w4.heap.size:=by omega
 have s2:w.heap.size<w4.heap.size:=by omega
 have s3:w.heap.size+1+1<w4.heap.size:=by omega
 have d1:w4.cell? ⟨bl,ol+v,none⟩=some (.pointer (some ⟨bt,0,none⟩)):=by rw [dK.cell (bp w _ CL.out) nl];exact CL.out
 have d2:w4.cell? ⟨bt,0,none⟩=some (.slice sa t.args.length ks):=by rw [dK.cell (bp w _ CT.out) nt];exact CT.out
 have d3:=bp w4 _ d1
 have d4:=bp w4 _ d2
 clear hb cm mP oX sO
 go_wp2_with fail
 have eF:wF sr w.heap.size w4.heap.size (w4.heap.size+1) v d (.slice (some ⟨bl,ol,none⟩) levels.length k0) levels t.args left (zF r1) w (rdB d) 0
  (w4.alloc (.cells #[.string ⟨#[]⟩,.int .i64 v,.slice none 0 0,.pointer none,.pointer none] 105)):=by
  refine ⟨[],zF r1,left,.slice none 0 0,[],by simp [kC,zt],dK.alloc _,kL.alloc me _,zR _ _,World.ownsRow_nil _ _ _ _,fun g h=>by simp [Value.ownBlock] at h,zm.2 rfl,oY.but ((But.refl (fun _=>False) _).alloc _) (fun i e=>e.elim),by simp⟩
 have hz4:w.heap.size+1+1<w4.heap.size:=s3
 clear x1 x2 x3 d1 d2 d3 d4 oY me dK Eq
 generalize hZ:w4.heap.size+1=Z at eF
 generalize hO:w4.heap.size=ob at *
 have HZ:=bz hZ;clear hZ
 have HO:=bz hO;clear hO
 go_loopw [93] (fun i wr=>∃ k:Nat,k<=t.args.length/\i=.int .i64 k/\wF sr w.heap.size ob Z v d (.slice (some ⟨bl,ol,none⟩) levels.length k0) levels t.args left (zF r1) w (rdB d) k wr)
  (fun i _=>t.args.length-(intOf i).toNat)
 case atStart=>exact ⟨0,Nat.zero_le _,rfl,eF⟩
 case round =>
  clear eF
  rename_i wr
  obtain ⟨k,hk,rfl,hrel⟩:=hrel
  obtain ⟨bs,lk,leftk,slv,vs,hp,hb,Aq,tZ,cL,hZb,s7,ed,sG⟩:=hrel
  have hple:=uO (gy d) _ hp
  have Eg:leftk<=1000:=by omega
  have i8:=vf r1
  have aV:Lim lk.length:=hr.mono (by have:=h1.le;omega)
  have hgk:jD wr:=hg.but hb (fun i e=>by subst e;exact hn)
  have AL:Rep F wr (.sl 54 1 levels.length (qz levels)) (.slice (some ⟨bl,ol,none⟩) levels.length k0):=Rep.but hb (fun b hb=>⟨HF.out b hb,hb⟩) dT
  have B8:=bz hp;have Ab:=bz hZb;clear hp hZb hple
  by_cases cQ:k<t.args.length
  ·obtain ⟨ba,oa,uk,dk,esa,hFa,_,oy,lA,tO⟩:=iW.out k cQ
   subst esa
   rw [wV,Option.map_eq_some_iff] at oy
   obtain ⟨tk,mV,rfl⟩:=oy
   obtain ⟨bk,sk,euk,hFk,EL,Ao⟩:=zf tO
   subst euk
   obtain ⟨ask,ksk,esk⟩:∃ a c,sk=.slice a tk.args.length c:=by obtain ⟨a,c,e,_⟩:=zI Ao;exact ⟨a,c,e⟩
   subst esk
   have e1:wr.cell? ⟨ba,oa+k,none⟩=some (.pointer (some ⟨bk,0,none⟩)):=by rw [hb.cell (bp w _ lA) (HF.out ba hFa)];exact lA
   have e2:wr.cell? ⟨bk,0,none⟩=some (.slice ask tk.args.length ksk):=by
    have:w.cell? ⟨bk,0,none⟩=some (.slice ask tk.args.length ksk):=by simp [World.cell?,EL]
    rw [hb.cell (bp w _ this) (HF.out bk hFk)];exact this
   have Dv:Rep F wr (.sl 54 1 tk.args.length (qz tk.args)) (.slice ask tk.args.length ksk):=Rep.but hb (fun b hb=>⟨HF.out b hb,hb⟩) Ao
   have ov:qK d (levels++tk.args):=hh.next HT.out (List.mem_of_getElem? mV)
   have Ct:=bz mV
   clear mV lA EL tO Ao
   obtain ⟨y1,y2,y3⟩:=id ed
   go_wp2_with fail
   refine (gt d IH.out sr leftk levels tk.args lk _ _ F wr w.heap.size (w.heap.size+1) (w.heap.size+1+1) hgk hn Aq Eg aV ov (by omega) AL Dv HF.out y1 y2 y3 (by omega) (by omega) (by omega)).mono ?_
   rintro en w5 ⟨vb,r',left',rfl,cz,sM,tf,tC⟩
   clear y1 y2 y3 e1 e2
   cases hq:qX (rdB d) (levels++tk.args) leftk lk with
   | none =>
     obtain rfl:=tf hq
     have HQ:=bz hq;clear hq tf tC
     go_wp2_with fail
     go_ret
     refine jF.no ?_ (hb.trans cz) sM
     rw [HM.out,hands_none (k+1) (by rw [bQ Ct.out B8.out,HQ.out];rfl)];rfl
   | some x =>
     obtain ⟨b,rest,cM⟩:=x
     obtain ⟨rfl,rfl,BY⟩:=tC b rest cM hq
     have HQ:=bz hq;clear hq tf tC
     obtain ⟨ab,evb⟩:=qk BY
     subst evb
     have sS:vQ ob v slv (.pointer none) (.pointer none) w5:=(cz.block ob (zZ tZ) (by have:=HO.out;omega)).trans tZ
     obtain ⟨q1,_,_,q4,q5⟩:=sS.cells
     have q6:=q5 2
     have DN:Own w5 55 1 slv k vs:=cL.keep fun g o dR ho=>by rw [cz.block g (zZ ho) (by have:=Ab.out g dR;have:=HZ.out;omega)];exact ho
     clear q5
     go_wp2_with (at_builtin;refine zC rfl _ _ 103 rfl 55 (.pointer none) 1 8 Tryz.underlying103 Tryz.infoB rfl (by decide) slv k vs rfl ?c1 _ 1 [.pointer (some ⟨ab,0,none⟩)] rfl ?c2 ?c3 ?c4 ?_)
     case c1=>exact DN.keep fun g o dR ho=>zD ho
     case c2=>exact zM.lit rfl
     case c3=>unfold maxLen;omega
     case c4=>omega
     intro a' c' w6 tx cI dR
     have lW:vQ ob v slv (.pointer none) (.pointer none) w6:=by
      unfold vQ;rw [cI.block ob (by simp;omega) (fun e=>by have:=Ab.out ob e;have:=HZ.out;omega)]
      exact zD sS
     have D2:=wF.next Ct.out B8.out hb tZ Ab.out cL s7 ed sG HQ.out cz sM BY tx cI (fun g h=>(dR g h).imp_right fun e=>e.trans (by simp)) lsr (bw _) hz4 (by have:=HZ.out;omega)
     obtain ⟨p1,_,_,p4,p5⟩:=lW.cells
     have p6:=p5 2
     have HG:=bz dR;clear dR p5
     go_wp2_with fail
     go_roundw
     case rel=>exact ⟨k+1,by omega,by go_num,D2⟩
     case measure=>simp [intOf];omega
  ·obtain rfl:k=t.args.length:=by omega
   have hp:zt (rdB d) (kC levels t.args) left (zF r1)=some (bs,lk,leftk):=by have:=B8.out;rwa [List.take_length] at this
   have HP:=bz hp;clear hp B8 cQ hk
   have AH:∀ W:World,Rep F W (.sl 54 1 ([]:List Ty).length (qz [])) (.slice none 0 0):=fun W=>qu.2 ⟨rfl,none,0,rfl,bw _,fun _=>rfl,.inl rfl⟩
   have hh0:=hh.same
   have FZ:=bz AH;clear AH
   obtain ⟨y1,y2,y3⟩:=id ed
   go_wp2_with fail
   refine (gt d IH.out sr leftk levels [] lk _ _ F wr w.heap.size (w.heap.size+1) (w.heap.size+1+1) hgk hn Aq Eg aV hh0 (by omega) AL (FZ.out wr) HF.out y1 y2 y3 (by omega) (by omega) (by omega)).mono ?_
   rw [List.append_nil] at *
   rintro en w5 ⟨vb,r',left',rfl,cz,sM,tf,tC⟩
   clear y1 y2 y3
   have sS:vQ ob v slv (.pointer none) (.pointer none) w5:=(cz.block ob (zZ tZ) (by have:=HO.out;omega)).trans tZ
   have EW:=ed.but cz (fun i e=>by subst e;omega)
   have dg:=hb.trans cz
   have z5:=cz.size
   have zr:=hb.size
   obtain ⟨_,q2,_,q4,q5⟩:=sS.cells
   have q6:=q5 3;clear q5
   cases hq:qX (rdB d) levels leftk lk with
   | none =>
     obtain rfl:=tf hq
     have HQ:=bz hq;clear hq tf tC
     go_wp2_with fail
     go_ret
     refine jF.no ?_ (dg.setCell (p:=⟨ob,3,none⟩) (.inr (by simp;omega)) _) (r:=r') (left:=left') ?_
     ·rw [HM.out];simp only [HP.out,Option.bind_eq_bind,Option.bind_some,HQ.out,Option.bind_none]
     ·unfold kL;rw [bf _ _ _ _ (by simp;omega)];exact sM
   | some x =>
     obtain ⟨by1,rest1,eE⟩:=x
     obtain ⟨rfl,rfl,BY⟩:=tC _ _ _ hq
     have hle5:=uP (gy d) hq
     have HQ:=bz hq;clear hq tf tC
     obtain ⟨ab,evb⟩:=qk BY
     subst evb
     have AI:=sS.put3 (u:=.pointer (some ⟨ab,0,none⟩))
     obtain ⟨WA,Ck⟩:=zzM (w5.setCell ⟨ob,3,none⟩ (.pointer (some ⟨ab,0,none⟩)))
     go_wp2_with fail
     rw [<- Ck] at AI ⊢
     have fi:But (fun x=>x=sr) w WA:=by subst Ck;exact dg.setCell (p:=⟨ob,3,none⟩) (.inr (by simp;omega)) _
     have kA:∀ i x,w5.heap[i]? = some x->i≠ob->WA.heap[i]? = some x:=by
      intro i x hx cE;subst Ck;rw [bf _ _ _ _ (by simpa using cE)];exact hx
     have zA:WA.heap.size=w5.heap.size:=by subst Ck;simp [World.setCell]
     have hsA:kL sr [.int .i64 (eE:Nat)] 158 r' WA:=kA _ _ sM (by omega)
     have EU:pO w.heap.size sr (.slice (some ⟨bl,ol,none⟩) levels.length k0) (d+1) WA:=by
      subst Ck
      exact EW.but (m:=fun i=>i=ob) ((But.refl (fun i=>i=ob) w5).setCell (p:=⟨ob,3,none⟩) (.inl rfl) _) (fun i e=>by subst e;omega)
     have hrsA:zv (fun b=>Z<=b/\slv.ownBlock≠some b) WA (uB bs) vs :=
      (Rep.keep fun i x hi hx=>⟨hi,kA i x (by rw [cz.block i (zZ hx) (by have:=HZ.out;omega)];exact hx) (by have:=HZ.out;omega)⟩).2 _ _ s7
     have DM:Own WA 55 1 slv t.args.length vs:=cL.keep fun g o dR ho=>kA g o (by rw [cz.block g (zZ ho) (by have:=Ab.out g dR;have:=HZ.out;omega)];exact ho) (by have:=Ab.out g dR;have:=HZ.out;omega)
     have hv5A:Rep (wr.heap.size<=·) WA (qa by1) (.pointer (some ⟨ab,0,none⟩)):=(Rep.keep fun i x hi hx=>⟨hi,kA i x hx (by have:=zZ tZ;have:=hi;omega)⟩).1 _ _ BY
     have dG:jD WA:=hg.but fi (fun i e=>by subst e;exact hn)
     have hlvA:Rep F WA (.sl 54 1 levels.length (qz levels)) (.slice (some ⟨bl,ol,none⟩) levels.length k0):=Rep.but fi (fun b hb=>⟨HF.out b hb,hb⟩) dT
     have KA:=bz kA
     clear Ck kA q2 q4 q6 sS cz EW sM s7 BY Aq ed AL hgk
     obtain ⟨y1,y2,y3⟩:=id EU
     refine (gt d IH.out sr eE levels [] r' _ _ F WA w.heap.size (w.heap.size+1) (w.heap.size+1+1) dG hn hsA (by omega) (aV.mono (by omega)) (by rw [List.append_nil];exact hh0) (by omega) hlvA (FZ.out WA) HF.out y1 y2 y3 (by omega) (by omega) (by omega)).mono ?_
     rw [List.append_nil] at *
     rintro en w6 ⟨vn,r6,Dh,rfl,cI,sF,td,tB⟩
     clear y1 y2 y3
     have lW:vQ ob v slv (.pointer (some ⟨ab,0,none⟩)) (.pointer none) w6:=(cI.block ob (zZ AI) (by have:=HO.out;omega)).trans AI
     have hbx6:=EU.but cI (fun i e=>by subst e;omega)
     obtain ⟨x1,_,_⟩:=id hbx6
     have Cj:=fi.trans cI
     have z6:=cI.size
     obtain ⟨_,_,q3,q4,q5⟩:=lW.cells
     have q6:=q5 4;clear q5
     cases rQ:qX (rdB d) levels eE r' with
     | none =>
       obtain rfl:=td rQ
       have iy:=bz rQ;clear rQ td tB
       go_wp2_with fail
       go_ret
       refine jF.no ?_ (Cj.setCell (p:=⟨ob,4,none⟩) (.inr (by simp;omega)) _) (r:=r6) (left:=Dh) ?_
       ·rw [HM.out];simp only [HP.out,Option.bind_eq_bind,Option.bind_some,HQ.out,iy.out,Option.bind_none]
       ·unfold kL;rw [bf _ _ _ _ (by simp;omega)];exact sF
     | some x =>
       obtain ⟨bn,rest2,cM⟩:=x
       obtain ⟨rfl,rfl,hv6⟩:=tB _ _ _ rQ
       have hle6:=uP (gy d) rQ
       have iy:=bz rQ;clear rQ td tB
       obtain ⟨an,evn⟩:=qk hv6
       subst evn
       have D5:=lW.put4 (u:=.pointer (some ⟨an,0,none⟩))
       have hbD:But (fun x=>x=sr) w (w6.setCell ⟨ob,4,none⟩ (.pointer (some ⟨an,0,none⟩))):=Cj.setCell (p:=⟨ob,4,none⟩) (.inr (by simp;omega)) _
       have hsD:kL sr [.int .i64 (cM:Nat)] 158 r6 (w6.setCell ⟨ob,4,none⟩ (.pointer (some ⟨an,0,none⟩))):=by
        unfold kL;rw [bf _ _ _ _ (by simp;omega)];exact sF
       go_wp2_with fail
       rcases zo [41] r6 with h7 | ⟨r7,h7⟩
       ·refine (uT hsD h7).mono ?_
        rintro en w7 ⟨rfl,cP,lZ⟩
        go_wp2_with fail
        go_ret
        refine jF.no ?_ (hbD.trans cP) lZ
        rw [HM.out];simp only [HP.out,Option.bind_eq_bind,Option.bind_some,HQ.out,iy.out,h7.out,Option.bind_none]
       refine (j5 hsD h7).mono ?_
       rintro en w7 ⟨rfl,cP,lZ⟩
       go_wp2_with fail
       go_ret
       refine jF.yes (b:=.ask v bs by1 bn) (r:=r7) (left:=cM) ?_ (hbD.trans cP) lZ ?_
       ·rw [HM.out];simp only [HP.out,Option.bind_eq_bind,Option.bind_some,HQ.out,iy.out,h7.out]
       ·have oU:∀ i x,w6.heap[i]? = some x->i≠ob->i≠sr->w7.heap[i]? = some x:=by
         intro i x hx cE DW
         rw [cP.block i (by have:=zZ hx;simpa [World.setCell] using this) DW,bf _ _ _ _ (by simpa using cE)];exact hx
        have keepA:∀ i x,WA.heap[i]? = some x->i≠ob->i≠sr->w7.heap[i]? = some x:=fun i x hx cE DW=>oU i x (by rw [cI.block i (zZ hx) DW];exact hx) cE DW
        have hnb7:vQ ob v slv (.pointer (some ⟨ab,0,none⟩)) (.pointer (some ⟨an,0,none⟩)) w7:=(cP.block ob (zZ D5) (by omega)).trans D5
        have hZo:=HZ.out
        have eD:bs.length=t.args.length:=by
         have:=(uO (gy d) _ HP.out).2.2;simpa [kC] using this
        rw [qa,vF]
        refine ⟨ob,_,rfl,by omega,hnb7,?_⟩
        refine zG.2 ⟨_,_,rfl,z8.2 rfl,zG.2 ⟨_,_,rfl,z8.2 rfl,zG.2 ⟨_,_,rfl,?_,zG.2 ⟨_,_,rfl,?_,zG.2 ⟨_,_,rfl,?_,zm.2 rfl⟩⟩⟩⟩⟩
        ·rw [eD]
         refine (DM.keep fun g o dR ho=>keepA g o ho (by have:=Ab.out g dR;omega) (by have:=Ab.out g dR;omega)).rep (fun g dR=>by have:=Ab.out g dR;omega) ?_
         exact (Rep.keep fun i x hi hx=>⟨by omega,keepA i x hx (by omega) (by omega)⟩).2 _ _ hrsA
        ·exact (Rep.keep fun i x hi hx=>⟨by have:=hi;omega,keepA i x hx (by have:=hi;omega) (by have:=hi;omega)⟩).1 _ _ hv5A
        ·exact (Rep.keep fun i x hi hx=>⟨by have:=hi;omega,oU i x hx (by have:=hi;omega) (by have:=hi;omega)⟩).1 _ _ hv6
theorem body_step (d:Nat) (hd:d<=1000) (ih:∀ d',d=d'+1->yj d'):yj d:=by
 intro sr left levels l lv F w hg hn hs hl hr hh dT hF
 have IH:=bz ih;clear ih
 have HF:=bz hF;clear hF
 have c1:=hs.cell1
 have f1:=hs.free 1
 have lsr:=uL hs
 have lsr1:sr<w.heap.size+1:=by omega
 have lsr2:sr<w.heap.size+1+1:=by omega
 obtain ⟨a0,k0,elv⟩:∃ a k,lv=.slice a levels.length k:=by obtain ⟨a,k,e,_⟩:=zI dT;exact ⟨a,k,e⟩
 subst elv
 rcases left with _ | left
 ·clear IH
  go_enter Tryz.func98,Tryz.ntmps98
  go_wp2_with fail
  go_ret
  refine jF.no (by unfold rdB;rfl) (((((But.refl _ _).setS 1 _).alloc _).alloc _).alloc _) (((hs.put1).alloc _).alloc _ |>.alloc _)
 by_cases Bc:∃ d' r1 v t,d=d'+1/\Cut [40] l r1/\lvl (zk r1) levels.length=some v/\levels[v]? = some t
 ·obtain ⟨d',r1,v,t,rfl,h1,h2,h3⟩:=Bc
  exact body_ask d' hd (IH.out d' rfl) sr left levels l _ F w hg hn hs hl hr hh dT HF.out r1 v t h1 h2 h3
 have F8:=bz Bc;clear Bc IH
 go_enter Tryz.func98,Tryz.ntmps98
 go_wp2_with fail
 obtain ⟨W0,fR⟩:=zzM (((((w.setCell ⟨sr,1,none⟩ (.int .i64 left)).alloc (.cells #[.pointer (some ⟨sr,0,none⟩)] 156)).alloc (.cells #[.slice a0 levels.length k0] 86)).alloc (.cells #[.int .i64 d] 3)))
 rw [<- fR]
 have eI:But (fun x=>x=sr) w W0:=by subst fR;exact ((((But.refl _ _).setS 1 _).alloc _).alloc _).alloc _
 have dz:kL sr [.int .i64 left] 158 l W0:=by subst fR;exact ((hs.put1).alloc _).alloc _ |>.alloc _
 have iC:pO w.heap.size sr (.slice a0 levels.length k0) d W0:=by subst fR;refine ⟨?_,?_,?_⟩ <;> go_simp
 have z0:W0.heap.size=w.heap.size+3:=by subst fR;simp
 have hb0':=eI
 clear fR c1 f1
 have n1:w.heap.size≠sr:=by omega
 have n2:w.heap.size+1≠sr:=by omega
 have n3:w.heap.size+1+1≠sr:=by omega
 rcases zo [40] l with h1 | ⟨r1,h1⟩
 ·refine (uT dz h1).mono ?_
  rintro en w1 ⟨rfl,bi,dQ⟩
  obtain ⟨x1,x2,x3⟩:=iC.but bi (fun i e=>by subst e;omega)
  go_wp2_with fail
  refine (gG _ _ _ _ _ dQ hr).mono ?_
  rintro en w2 ⟨rfl,cK,dt⟩
  have hb:=(eI.trans bi).trans cK
  have hm:rdB d levels (left+1) l=(if zk l=[116] then some (Bd.leaf 116,zF l,left) else if zk l=[102] then some (.leaf 102,zF l,left) else if zk l=[117] then some (.leaf 117,zF l,left) else none):=by
   unfold rdB;simp only [h1.out]
  have HM:=bz hm;clear hm
  go_wp2_with fail
  ·have hw:zk l=[116]:=by assumption
   go_ret
   exact g_ (o:=rdB d levels (left+1) l) (x:=116) rfl (by rw [HM.out,if_pos hw]) hb dt
  ·have hw:zk l=[102]:=by assumption
   go_ret
   exact g_ (o:=rdB d levels (left+1) l) (x:=102) rfl (by rw [HM.out,if_neg (by rw [hw];decide),if_pos hw]) hb dt
  ·have hw:((!zk l == [116])=true/\(!zk l == [102])=true)/\(!zk l == [117])=true:=by assumption
   go_ret
   simp only [Bool.not_eq_true',beq_eq_false_iff_ne] at hw
   exact jF.no (by rw [HM.out,if_neg hw.1.1,if_neg hw.1.2,if_neg hw.2]) hb dt
  ·have hw:((!zk l == [116])=false\/(!zk l == [102])=false)\/(!zk l == [117])=false:=by assumption
   have Ak:¬ zk l=[116]:=by assumption
   have rh:¬ zk l=[102]:=by assumption
   have hw3:zk l=[117]:=by simpa [Ak,rh] using hw
   go_ret
   exact g_ (o:=rdB d levels (left+1) l) (x:=117) (by rw [hw3]) (by rw [HM.out,if_neg Ak,if_neg rh,if_pos hw3]) hb dt
 refine (j5 dz h1).mono ?_
 rintro en w1 ⟨rfl,bi,dQ⟩
 have mh:=iC.but bi (fun i e=>by subst e;omega)
 obtain ⟨x1,x2,x3⟩:=mh
 go_wp2_with fail
 refine (gG _ _ _ _ _ dQ (hr.mono h1.le)).mono ?_
 rintro en w2 ⟨rfl,cK,dt⟩
 have dj:=hr.mono h1.le
 have hb:=(eI.trans bi).trans cK
 have fZ:=(iC.but bi (fun i e=>by subst e;omega)).but cK (fun i e=>by subst e;omega)
 clear x1 x2 x3
 have nO:=hg.but hb (fun i e=>by subst e;exact hn)
 have oW:=dj.mono (show (zk r1).length<=r1.length by have:=word_le r1;omega)
 have z2:=hb.size
 have z2':w.heap.size+3<=w2.heap.size:=by have:=bi.size;have:=cK.size;omega
 clear bi cK dz eI hb0' iC dQ
 have HM:=bz (xf d levels left h1.out)
 go_wp2_with fail
 cases fG:lvl (zk r1) levels.length with
 | none =>
   have HN:rdB d levels (left+1) l=none:=by rw [HM.out,fG]
   rcases lvl_no fG with du | ⟨v,cD,hv⟩
   ·refine (atoi_no _ _ oW nO du).mono ?_
    rintro en w3 ⟨v,t,p,rfl,cH⟩
    have Ae:=bz HN;clear HN fG du
    go_wp2_with fail
    go_ret
    exact jF.no Ae.out (hb.trans (But.ofBelow cH)) ((cH.block sr (by omega)).trans dt)
   ·refine (atoi_ok _ _ oW v cD).mono ?_
    rintro en w3 ⟨rfl,cH⟩
    have Ae:=bz HN;clear HN fG
    have sO:=nO.below cH
    have mP:=(cH.block sr (by omega)).trans dt
    have oX:=fZ.but (But.ofBelow (m:=fun _=>False) cH) (fun i e=>e.elim)
    have sR:=bz cD;clear cD
    go_wp2_with fail
    refine (itoa_of sR.out w3 sO).mono ?_
    rintro en w4 ⟨rfl,cm⟩
    have z3:=cH.size
    have me:=(cm.block sr (by omega)).trans mP
    obtain ⟨x1,x2,x3⟩:=oX.but (But.ofBelow (m:=fun _=>False) cm) (fun i e=>e.elim)
    have dK:=(hb.trans (But.ofBelow cH)).trans (But.ofBelow cm)
    rcases hv with hv | ⟨hv,oB⟩ | ⟨hv,oB,hv3⟩
    ·have hq:(Lib.itoa v == zk r1)=false:=by rw [beq_eq_false_iff_ne];exact hv
     clear hv
     go_wp2_with fail
     go_ret
     exact jF.no Ae.out dK me
    ·have hq:(Lib.itoa v == zk r1)=true:=by rw [beq_iff_eq];exact hv
     clear hv
     go_wp2_with fail
     go_ret
     exact jF.no Ae.out dK me
    ·have hq:(Lib.itoa v == zk r1)=true:=by rw [beq_iff_eq];exact hv
     clear hv
     go_wp2_with fail
     go_ret
     exact jF.no Ae.out dK me
 | some v =>
   obtain ⟨fv,cD,sL⟩:=lvl_lt fG
   have EG:d=0:=by
    rcases Nat.eq_zero_or_pos d with h | h
    ·exact h
    ·exact absurd ⟨d-1,r1,v,levels[v],by omega,h1,fG,by simp [fv]⟩ F8.out
   have HD:=bz EG;clear EG F8
   refine (atoi_ok _ _ oW (v:Int) cD).mono ?_
   rintro en w3 ⟨rfl,cH⟩
   have sO:=nO.below cH
   have mP:=(cH.block sr (by omega)).trans dt
   have oX:=fZ.but (But.ofBelow (m:=fun _=>False) cH) (fun i e=>e.elim)
   have sR:=bz cD;clear cD
   have sA:=bz fG;clear fG
   have AR:=bz sL;clear sL
   go_wp2_with fail
   refine (itoa_of sR.out w3 sO).mono ?_
   rintro en w4 ⟨rfl,cm⟩
   have z3:=cH.size
   have z4:=cm.size
   have me:=(cm.block sr (by omega)).trans mP
   have Eq:=sO.below cm
   have oY:=oX.but (But.ofBelow (m:=fun _=>False) cm) (fun i e=>e.elim)
   obtain ⟨x1,x2,x3⟩:=oY
   have dK:=(hb.trans (But.ofBelow cH)).trans (But.ofBelow cm)
   have hq:(Lib.itoa (v:Int) == zk r1)=true:=by rw [beq_iff_eq];exact AR.out
   have cU:levels.length<=10000:=by have:=hh.2;omega
   clear hb cH cm dt fZ oX mP nO sO
   have rA:((d:Int) == 0)=true:=by rw [beq_iff_eq];have:=HD.out;omega
   go_wp2_with fail
   go_ret
   exact jF.no (by rw [HM.out,sA.out];have:=HD.out;subst this;rfl) dK me
theorem body_any (d:Nat) (hd:d<=1000):yj d:=by
 induction d with
 | zero=>exact body_step 0 hd (fun d' h=>by omega)
 | succ d ih=>exact body_step (d+1) hd (fun d' h=>by obtain rfl:d=d':=by omega
                                                     exact ih (by omega))
def jz (t:Ty) (l:Bs):Option Bd:=match rdB 100 t.args 200 l with
 | some (b,[],_)=>some b
 | _=>none
def RPost {α:Type} (enc:α->DV) (w:World) (o:Option α) (en:Ending) (w':World):Prop :=
 ∃ v,en=.returned v/\Below w.heap.size w w'/\(o=none->v=.pointer none)/\(∀ b,o=some b->Rep (w.heap.size<=·) w' (enc b) v)
theorem handOk_of {t:Ty} (h:zP t<=15):qK 100 t.args:=by
 have h1:=qE t
 have cU:∀ ts:List Ty,ts.length<=zu ts:=by
  intro ts;induction ts with
  | nil=>simp
  | cons x xs ih=>simp [zu];omega
 have tQ:∀ ts:List Ty,∀ a∈ts,1+zP a<=zu ts:=by
  intro ts
  induction ts with
  | nil=>simp
  | cons x xs ih =>
    intro a ha
    rcases List.mem_cons.1 ha with rfl | ha
    ·simp [zu]
    ·have:=ih a ha;simp [zu];omega
 refine ⟨fun a ha=>?_,?_⟩
 ·have:=tQ _ a ha;omega
 ·have:=cU t.args;omega
theorem wj (F:Nat->Prop) (t:Ty) (l:Bs) (kv:Value) (w:World) (hg:jD w) (hk:Rep F w (jA t) kv) (ht:zP t<=15) (hl:Lim l.length) :
 Calls Tryz.prog 60 #[kv,str l] w (RPost qa w (jz t l)):=by
 obtain ⟨bk,sk,rfl,hFk,hc,hs⟩:=zf hk
 obtain ⟨a,c,e,_⟩:=zI hs
 subst e
 have c1:w.cell? ⟨bk,0,none⟩=some (.slice a t.args.length c):=by simp [World.cell?,hc]
 have lk:=zZ hc
 have HC:=bz hc;clear hc
 go_enter Tryz.func60,Tryz.ntmps60
 go_wp2_with fail
 have dz:kL w.heap.size [.int .i64 (200:Nat)] 158 l (w.alloc (.cells #[str l,.int .i64 200] 158)):=zR _ _
 have lC:Rep (fun b=>b<w.heap.size) (w.alloc (.cells #[str l,.int .i64 200] 158)) (.sl 54 1 t.args.length (qz t.args)) (.slice a t.args.length c) :=
  (Rep.keep fun b o _ ho=>⟨zZ ho,zD ho⟩).1 _ _ hs
 refine (body_any 100 (by omega) w.heap.size 200 t.args l _ _ _ (hg.below ((bh _ _).alloc (bw _) _)) (hg.new (bw _)) dz (by omega) hl (handOk_of ht) lC (fun b hb=>by have:=hb;omega)).mono ?_
 rintro en w1 ⟨v,r',left',rfl,bi,dQ,dX,dx⟩
 have hb:Below w.heap.size w w1:=((bh w.heap.size w).alloc (bw _) _).trans (bi.toBelow (by simp) (fun i hi e=>by omega))
 have mz:=dQ.cell
 have hz:w.heap.size<w1.heap.size:=uL dQ
 cases hq:rdB 100 t.args 200 l with
 | none =>
   obtain rfl:=dX hq
   have HQ:=bz hq;clear hq dX dx
   go_wp2_with fail
   go_ret
   exact ⟨_,rfl,hb,fun _=>rfl,fun b h=>by simp [jz,HQ.out] at h⟩
 | some x =>
   obtain ⟨b,rest,left⟩:=x
   obtain ⟨rfl,_,hv⟩:=dx _ _ _ hq
   have HQ:=bz hq;clear hq dX dx
   obtain ⟨av,ev⟩:=qk hv
   subst ev
   cases r' with
   | cons x xs =>
     have cE:(!(x::xs).isEmpty)=true:=rfl
     go_wp2_with fail
     go_ret
     exact ⟨_,rfl,hb,fun _=>rfl,fun b h=>by simp [jz,HQ.out] at h⟩
   | nil =>
     go_wp2_with fail
     go_ret
     have HM:jz t l=some b:=by simp [jz,HQ.out]
     refine ⟨_,rfl,hb,fun h=>by simp [HM] at h,fun b' h=>?_⟩
     rw [HM] at h;simp at h;subst h
     exact (Rep.keep fun b o h ho=>⟨by have:=h;simp at this;omega,ho⟩).1 _ _ hv
def xh (s l:Bs):Option (Ty×Bd):=do
 let t<-jN s
 let b<-jz t l
 some (t,b)
def TSPost (w:World) (s l:Bs) (en:Ending) (w':World):Prop :=
 ∃ kv bv,en=.returned (.tuple #[kv,bv])/\Below w.heap.size w w'/\(xh s l=none->bv=.pointer none) /\
   (∀ t b,xh s l=some (t,b)->Rep (w.heap.size<=·) w' (jA t) kv/\Rep (w.heap.size<=·) w' (qa b) bv)
theorem rdKind_le {s:Bs} {t:Ty} (h:jN s=some t):zP t<=15:=by
 unfold jN at h
 split at h
 ·split at h
  ·rename_i cJ;simp at h;subst h;exact cJ
  ·simp at h
 ·simp at h
theorem xz (s l:Bs) (w:World) (hg:jD w) (hs:Lim s.length) (hl:Lim l.length) :
 Calls Tryz.prog 29 #[str s,str l] w (TSPost w s l):=by
 go_enter Tryz.func29,Tryz.ntmps29
 go_wp2_with fail
 refine (xg s w hs).mono ?_
 rintro en w1 ⟨kv,rfl,bi,dX,dx⟩
 cases hq:jN s with
 | none =>
   obtain rfl:=dX hq
   have HQ:=bz hq;clear hq dX dx
   go_wp2_with fail
   go_ret2
   exact ⟨_,_,rfl,bi,fun _=>rfl,fun t b h=>by simp [xh,HQ.out] at h⟩
 | some t =>
   have hv:=dx _ hq
   have ht:=rdKind_le hq
   have HQ:=bz hq;clear hq dX dx
   obtain ⟨ak,_,ek,_⟩:=zf hv
   subst ek
   go_wp2_with fail
   refine (wj _ t l _ w1 (hg.below bi) hv ht hl).mono ?_
   rintro en w2 ⟨bv,rfl,cK,fP,fq⟩
   go_wp2_with fail
   go_ret2
   refine ⟨_,_,rfl,zzT bi cK,fun h=>fP ?_,fun t' b h=>?_⟩
   ·cases hr:jz t l with
    | none=>rfl
    | some b=>simp [xh,HQ.out,hr] at h
   ·cases hr:jz t l with
    | none=>simp [xh,HQ.out,hr] at h
    | some b' =>
      simp [xh,HQ.out,hr] at h
      obtain ⟨rfl,rfl⟩:=h
      exact ⟨Rep.below cK (fun _ h=>h) hv,(Rep.keep fun i o hi ho=>⟨by have:=bi.size;have:=hi;omega,ho⟩).1 _ _ (fq _ hr)⟩
theorem encBs_at (ts:List Bd):∀ k:Nat,(uB ts)[k]? = ts[k]?.map qa:=by
 induction ts with
 | nil=>intro k;simp [uB]
 | cons t ts ih=>intro k;cases k <;> simp [uB,ih]
theorem wm {F:Nat->Prop} {w:World} {c:UInt8} {v:Value} (h:Rep F w (qa (.leaf c)) v) :
 ∃ b sl,v=.pointer (some ⟨b,0,none⟩)/\F b/\w.heap[b]? = some (.cells #[str [c],.int .i64 (0:Nat),sl,.pointer none,.pointer none] 105 (0,0))/\Rep F w (.sl 55 1 0 []) sl:=by
 rw [qa,vF] at h
 obtain ⟨b,cs,hv,hb,hc,hr⟩:=h
 simp only [zG,zm,z8] at hr
 obtain ⟨_,_,e1,rfl,_,_,rfl,rfl,sl,_,rfl,h3,_,_,rfl,rfl,_,_,rfl,rfl,rfl⟩:=hr
 have:cs=#[str [c],.int .i64 (0:Nat),sl,.pointer none,.pointer none]:=by apply Array.ext';simpa using e1
 subst this
 exact ⟨b,sl,hv,hb,hc,h3⟩
theorem wB {F:Nat->Prop} {w:World} {v:Nat} {ss:List Bd} {y n:Bd} {p:Value} (h:Rep F w (qa (.ask v ss y n)) p) :
 ∃ b sl yv nv,p=.pointer (some ⟨b,0,none⟩)/\F b/\w.heap[b]? = some (.cells #[str [],.int .i64 v,sl,yv,nv] 105 (0,0)) /\
   Rep F w (.sl 55 1 ss.length (uB ss)) sl/\Rep F w (qa y) yv/\Rep F w (qa n) nv:=by
 rw [qa,vF] at h
 obtain ⟨b,cs,hv,hb,hc,hr⟩:=h
 simp only [zG,zm,z8] at hr
 obtain ⟨_,_,e1,rfl,_,_,rfl,rfl,sl,_,rfl,h3,yv,_,rfl,h4,nv,_,rfl,h5,rfl⟩:=hr
 have:cs=#[str [],.int .i64 v,sl,yv,nv]:=by apply Array.ext';simpa using e1
 subst this
 exact ⟨b,sl,yv,nv,hv,hb,hc,h3,h4,h5⟩
theorem pR (F:Nat->Prop) (w:World) (c:UInt8) (v:Value) (h:Rep F w (qa (.leaf c)) v) :
 Calls Tryz.prog 61 #[v] w fun en w'=>en=.returned (.bool false)/\w'=w:=by
 obtain ⟨b,sl,rfl,_,hc,_⟩:=wm h
 have c1:w.cell? ⟨b,0,none⟩=some (.string ⟨#[c]⟩):=by simp [World.cell?,hc]
 clear hc h
 go_enter Tryz.func61,Tryz.ntmps61
 go_wp2_with fail
 go_ret
 exact ⟨rfl,rfl⟩
theorem isList_ask (F:Nat->Prop) (w:World) (v:Nat) (ss:List Bd) (y n:Bd) (p:Value) (h:Rep F w (qa (.ask v ss y n)) p) :
 Calls Tryz.prog 61 #[p] w fun en w'=>en=.returned (.bool true)/\w'=w:=by
 obtain ⟨b,sl,yv,nv,rfl,_,hc,_⟩:=wB h
 have c1:w.cell? ⟨b,0,none⟩=some (.string ⟨#[]⟩):=by simp [World.cell?,hc]
 clear hc h
 go_enter Tryz.func61,Tryz.ntmps61
 go_wp2_with fail
 go_ret
 exact ⟨rfl,rfl⟩
mutual
def qP:Ty->DV
 | .mk ts=>.sl 61 1 ts.length (qr ts)
def qr:List Ty->List DV
 | []=>[]
 | t::ts=>qP t::qr ts
end
def jU (L:Nat) (w:World) (o:Option (Ty×Bs)) (en:Ending) (w':World):Prop :=
 ∃ (v:Value) (k:Int) (t:Ty),en=.returned (.tuple #[.agg #[v],.int .i64 k])/\Below w.heap.size w w'/\Rep (w.heap.size<=·) w' (qP t) v/\(o=none->k = -1/\t=.mk [])/\(∀ t' rest,o=some (t',rest)->k=(L:Int)-rest.length/\t=t')
theorem Tryz.infoS:(Tryz.prog.info? 61).map (fun i=>(i.zero,i.size,i.bytes))=some (some (.agg #[.slice none 0 0]),1,24):=by kernel_rfl
theorem vx (ts:List Ty):∀ k:Nat,(qr ts)[k]? = ts[k]?.map qP:=by
 induction ts with
 | nil=>intro k;simp [qr]
 | cons t ts ih=>intro k;cases k <;> simp [qr,ih]
theorem encSs_append (a b:List Ty):qr (a++b)=qr a++qr b:=by
 induction a with
 | nil=>rfl
 | cons t ts ih=>simp [qr,ih]
theorem qn (t:Ty):qP t=.sl 61 1 t.args.length (qr t.args):=by cases t;rw [qP];rfl
theorem zp {F:Nat->Prop} {w:World} {t:Ty} {v:Value} (h:Rep F w (qP t) v):∃ a c,v=.slice a t.args.length c:=by
 rw [qn] at h;obtain ⟨a,c,e,_⟩:=zI h;exact ⟨a,c,e⟩
theorem uZ {F:Nat->Prop} {w:World} (ts:List Ty):∀ us,zv F w (qr ts) us->∀ u∈us,u.oneCell'=true:=by
 induction ts with
 | nil=>intro us h;rw [qr,zm] at h;subst h;simp
 | cons t ts ih =>
   intro us h u hu
   rw [qr,zG] at h
   obtain ⟨v,vs',rfl,h1,h2⟩:=h
   rcases List.mem_cons.1 hu with rfl | hu
   ·obtain ⟨a,c,rfl⟩:=zp h1;rfl
   ·exact ih _ h2 u hu
theorem we (F:Nat->Prop) (w:World):Rep F w (qP (.mk [])) (.slice none 0 0):=by
 rw [qn];exact qu.2 ⟨rfl,none,0,rfl,bw _,fun _=>rfl,.inl rfl⟩
theorem jU.no {L:Nat} {w w':World} {o:Option (Ty×Bs)} (ho:o=none) (hb:Below w.heap.size w w') :
 jU L w o (.returned (.tuple #[.agg #[.slice none 0 0],.int .i64 (-1)])) w' :=
 ⟨_,_,.mk [],rfl,hb,we _ _,fun _=>⟨rfl,rfl⟩,fun _ _ h=>by rw [ho] at h;simp at h⟩
theorem jU.yes {L:Nat} {w w':World} {o:Option (Ty×Bs)} {t:Ty} {rest:Bs} {v:Value} {k:Int} (ho:o=some (t,rest)) (hk:k=(L:Int)-rest.length) (hb:Below w.heap.size w w') (hv:Rep (w.heap.size<=·) w' (qP t) v) :
 jU L w o (.returned (.tuple #[.agg #[v],.int .i64 k])) w' :=
 ⟨_,_,t,rfl,hb,hv,fun h=>by rw [ho] at h;simp at h,fun _ _ h=>by rw [ho] at h;simp at h;obtain ⟨rfl,rfl⟩:=h;exact ⟨hk,rfl⟩⟩
def bS (l:Bs) (d:Nat):Prop:=∀ (i:Nat) (w:World),i<=l.length->d<=21 ->
    Calls Tryz.prog 100 #[str l,.int .i64 i,.int .i64 d] w (jU l.length w (rdS (21-d) (l.drop i)))
theorem pF (l:Bs) (hl:Lim l.length) (d:Nat) (ih:d<=20->bS l (d+1)):bS l d:=by
 intro i w hi hd
 have dd:=hl.le
 have IH:=bz ih;clear ih
 by_cases hd20:d<=20
 rotate_left
 ·have h0:Hid (21-d=0):=by show 21-d=0;omega
  go_enter Tryz.func100,Tryz.ntmps100
  go_wp2_with fail
  refine bodyPost_ret (v:=.tuple #[.agg #[.slice none 0 0],.int .i64 (-1)]) (by simp [results,Tryz.results100,go_sem]) rfl ?_
  exact jU.no (by rw [h0.out];rfl) ((bh _ _).alloc (bw _) _)
 obtain ⟨n,hn⟩:∃ n,21-d=n+1:=⟨20-d,by omega⟩
 have IH':=bz (IH.out hd20);clear IH
 have HN:=bz hn
 have Ae:Hid (21-(d+1)=n):=by show 21-(d+1)=n;omega
 clear hn
 by_cases cQ:i<l.length
 rotate_left
 ·go_enter Tryz.func100,Tryz.ntmps100
  go_wp2_with fail
  refine bodyPost_ret (v:=.tuple #[.agg #[.slice none 0 0],.int .i64 (-1)]) (by simp [results,Tryz.results100,go_sem]) rfl ?_
  exact jU.no (by rw [HN.out,rdS_no (yg (by omega)),yg (by omega)];rfl) ((bh _ _).alloc (bw _) _)
 by_cases hb:l[i]=98
 ·have f1:=j_ cQ (n:=98) (by decide) hb
  have hc:Cut [98] (l.drop i) (l.drop (i+1)):=by unfold Cut;rw [j3 cQ,if_pos hb]
  clear hb
  go_enter Tryz.func100,Tryz.ntmps100
  go_wp2_with fail
  refine bodyPost_ret (v:=.tuple #[.agg #[.slice none 0 0],.int .i64 ((i:Int)+1)]) (by simp [results,Tryz.results100,go_sem]) rfl ?_
  exact jU.yes (t:=.mk []) (by rw [HN.out,rdS_b hc]) (by simp;omega) ((bh _ _).alloc (bw _) _) (we _ _)
 have f1:=jC cQ (n:=98) (by decide) hb
 have hc:wE [98] (l.drop i):=by unfold wE;rw [j3 cQ,if_neg hb]
 have HM:=bz (rdS_no (n:=n) hc)
 clear hb hc
 by_cases h3:i+3<=l.length
 rotate_left
 ·have h3':(l.length:Int)<(i:Int)+3:=by omega
  have fQ:Hid (cut [40,62,32] (l.drop i)=none):=by
   show cut [40,62,32] (l.drop i)=none
   cases hq:cut [40,62,32] (l.drop i) with
   | none=>rfl
   | some r=>have:=(cut_drop hq).2;simp at this;omega
  go_enter Tryz.func100,Tryz.ntmps100
  go_wp2_with fail
  refine bodyPost_ret (v:=.tuple #[.agg #[.slice none 0 0],.int .i64 (-1)]) (by simp [results,Tryz.results100,go_sem]) rfl ?_
  exact jU.no (by rw [HN.out,HM.out,fQ.out];rfl) ((bh _ _).alloc (bw _) _)
 have h3':(i:Int)+3<=(l.length:Int):=by omega
 have hx:(l.take (i+3)).drop i=(l.drop i).take 3:=by rw [List.drop_take];congr 1;omega
 rcases zo [40,62,32] (l.drop i) with h4 | ⟨r1,h4⟩
 ·have f2:(((⟨l.toArray⟩:ByteArray).extract i (i+3)).toList == [40,62,32])=false:=by
   rw [ext_list,hx,beq_eq_false_iff_ne]
   intro e
   have h5:=h4.out
   have hp:[40,62,32].isPrefixOf (l.drop i)=true:=by rw [List.isPrefixOf_iff_prefix,<- e];exact List.take_prefix _ _
   unfold cut at h5;rw [if_pos hp] at h5;simp at h5
  clear hx
  go_enter Tryz.func100,Tryz.ntmps100
  go_wp2_with fail
  refine bodyPost_ret (v:=.tuple #[.agg #[.slice none 0 0],.int .i64 (-1)]) (by simp [results,Tryz.results100,go_sem]) rfl ?_
  exact jU.no (by rw [HN.out,HM.out,h4.out];rfl) ((bh _ _).alloc (bw _) _)
 have f2:(((⟨l.toArray⟩:ByteArray).extract i (i+3)).toList == [40,62,32])=true:=by
  rw [ext_list,hx,beq_iff_eq]
  have h5:=h4.out
  unfold cut at h5;split at h5
  ·rename_i hp
   exact (List.prefix_iff_eq_take.1 (List.isPrefixOf_iff_prefix.1 hp)).symm
  ·simp at h5
 have dj:=(cut_drop h4.out).1
 have lV:r1=l.drop (i+3):=dj
 subst lV
 clear hx dj
 go_enter Tryz.func100,Tryz.ntmps100
 go_wp2_with fail
 rw [show (i:Int)+3=((i+3:Nat):Int) from by omega,show (d:Int)+1=((d+1:Nat):Int) from by omega]
 refine (IH'.out (i+3) _ h3 (by omega)).mono ?_
 rintro en w1 ⟨v1,k1,t1,rfl,bi,mX,dX,dx⟩
 rw [Ae.out] at dX dx
 have dg:Below w.heap.size w w1:=((bh w.heap.size w).alloc (bw _) _).trans (bi.mono (by simp))
 have z1:=bi.size
 have eQ:w.heap.size<w1.heap.size:=by simp at z1;omega
 have dJ:w1.cell? ⟨w.heap.size,0,none⟩=some (.slice none 0 0):=by rw [bi.cell (by simp)];simp
 have eX:w1.frozen? ⟨w.heap.size,0,none⟩=false:=by rw [bi.frozen (by simp)];simp
 obtain ⟨a1,c1,e1⟩:=zp mX
 subst e1
 cases hq:rdS n (l.drop (i+3)) with
 | none =>
   obtain ⟨rfl,rfl⟩:=dX hq
   have HQ:=bz hq;clear hq dX dx
   go_wp2_with fail
   refine bodyPost_ret (v:=.tuple #[.agg #[.slice none 0 0],.int .i64 (-1)]) (by simp [results,Tryz.results100,go_sem,eQ,qj dJ]) rfl ?_
   exact jU.no (by rw [HN.out,HM.out,h4.out];simp [HQ.out]) (by repeat (first | exact dg | refine Below.alloc ?_ (by simp;omega) _ | refine Below.setCell ?_ (by simp) _ | refine Below.drew ?_))
 | some x =>
   obtain ⟨ta,r2⟩:=x
   obtain ⟨rfl,rfl⟩:=dx _ _ hq
   have nM:=vm (gq hq)
   have de:=(rdS_le hq).1
   have HQ:=bz hq;clear hq dX dx
   obtain ⟨e,he⟩:=zzM (l.length-r2.length)
   have lR:e<=l.length:=by omega
   have hr2l:r2.length<=l.length:=by simp at de;omega
   have hk:(l.length:Int)-(r2.length:Int)=(e:Int):=by omega
   rw [<- he] at nM
   rw [hk]
   have HSF:=bz nM
   clear hk nM de
   by_cases EE:e<l.length
   rotate_left
   ·have ox:Hid (cut [32] r2=none):=by show cut [32] r2=none;rw [HSF.out];exact yg (by omega)
    have HE:=bz he;clear he
    go_wp2_with fail
    refine bodyPost_ret (v:=.tuple #[.agg #[.slice none 0 0],.int .i64 (-1)]) (by simp [results,Tryz.results100,go_sem,eQ,qj dJ]) rfl ?_
    exact jU.no (by rw [HN.out,HM.out,h4.out];simp [HQ.out,ox.out]) (by repeat (first | exact dg | refine Below.alloc ?_ (by simp;omega) _ | refine Below.setCell ?_ (by simp) _ | refine Below.drew ?_))
   have HE:=bz he;clear he
   by_cases cz:l[e]=32
   rotate_left
   ·have f5:=yT EE (n:=32) (by decide) cz
    have ox:Hid (cut [32] r2=none):=by show cut [32] r2=none;rw [HSF.out,j3 EE,if_neg cz]
    clear cz
    go_wp2_with fail
    refine bodyPost_ret (v:=.tuple #[.agg #[.slice none 0 0],.int .i64 (-1)]) (by simp [results,Tryz.results100,go_sem,eQ,qj dJ]) rfl ?_
    exact jU.no (by rw [HN.out,HM.out,h4.out];simp [HQ.out,ox.out]) (by repeat (first | exact dg | refine Below.alloc ?_ (by simp;omega) _ | refine Below.setCell ?_ (by simp) _ | refine Below.drew ?_))
   have f5:=uE EE (n:=32) (by decide) cz
   have g1:decide ((e:Int)<0)=false:=by rw [decide_eq_false_iff_not];omega
   have g2:decide (l.length<=e)=false:=by rw [decide_eq_false_iff_not];omega
   have ox:Hid (cut [32] r2=some (l.drop (e+1))):=by show cut [32] r2=_;rw [HSF.out,j3 EE,if_pos cz]
   clear cz
   go_wp2_with fail
   rw [show (e:Int)+1=((e+1:Nat):Int) from by omega,show (d:Int)+1=((d+1:Nat):Int) from by omega]
   refine (IH'.out (e+1) _ EE (by omega)).mono ?_
   rintro en w2 ⟨v2,k2,t2,rfl,cK,oB,fP,fq⟩
   rw [Ae.out] at fP fq
   obtain ⟨a2,c2,e2⟩:=zp oB
   subst e2
   have z2:=cK.size
   rw [zK] at z2
   have fi:Below w.heap.size w w2:=(dg.alloc dg.size _).trans (cK.mono (by rw [zK];omega))
   have mp:w.heap.size<w2.heap.size:=by omega
   have hz2':w1.heap.size<w2.heap.size:=by omega
   have ee:w2.cell? ⟨w.heap.size,0,none⟩=some (.slice none 0 0):=by rw [cK.cell (by simp;omega)];exact zH dJ
   have aG:w2.frozen? ⟨w.heap.size,0,none⟩=false:=by rw [cK.frozen (by simp;omega)];rw [World.frozen?_of_block (w:=w1) (Below.heap_alloc _ _ _ eQ)];exact eX
   have hcellA:w2.cell? ⟨w1.heap.size,0,none⟩=some (.slice a1 t1.args.length c1):=by rw [cK.cell (by simp)];simp
   have sD:Rep (w1.heap.size<=·) w2 (qP t1) (.slice a1 t1.args.length c1)\/True:=.inr trivial
   clear sD dJ eX
   cases hq:rdS n (l.drop (e+1)) with
   | none =>
     obtain ⟨rfl,rfl⟩:=fP hq
     have iy:=bz hq;clear hq fP fq
     go_wp2_with fail
     refine bodyPost_ret (v:=.tuple #[.agg #[.slice none 0 0],.int .i64 (-1)]) (by simp [results,Tryz.results100,go_sem,mp,qj ee]) rfl ?_
     exact jU.no (by rw [HN.out,HM.out,h4.out];simp [HQ.out,ox.out,iy.out]) (by repeat (first | exact fi | refine Below.alloc ?_ (by simp;omega) _ | refine Below.setCell ?_ (by simp) _ | refine Below.drew ?_))
   | some x =>
     obtain ⟨tb,r4⟩:=x
     obtain ⟨rfl,rfl⟩:=fq _ _ hq
     have nM:=vm (gq hq)
     have rr:=rdS_le hq
     have iy:=bz hq;clear hq fP fq
     obtain ⟨e2,he⟩:=zzM (l.length-r4.length)
     have lR:e2<=l.length:=by omega
     have hr2l:r4.length<=l.length:=by simp at rr;omega
     have hk:(l.length:Int)-(r4.length:Int)=(e2:Int):=by omega
     have Am:t2.args.length<=16777216:=by simp at rr;omega
     rw [<- he] at nM
     rw [hk]
     have Bz:=bz nM
     clear hk nM rr
     have HE2:=bz he;clear he
     by_cases lS:e2<l.length
     rotate_left
     ·have m_:Hid (cut [41] r4=none):=by show cut [41] r4=none;rw [Bz.out];exact yg (by omega)
      go_wp2_with fail
      refine bodyPost_ret (v:=.tuple #[.agg #[.slice none 0 0],.int .i64 (-1)]) (by simp [results,Tryz.results100,go_sem,mp,qj ee]) rfl ?_
      exact jU.no (by rw [HN.out,HM.out,h4.out];simp [HQ.out,ox.out,iy.out,m_.out]) (by repeat (first | exact fi | refine Below.alloc ?_ (by simp;omega) _ | refine Below.setCell ?_ (by simp) _ | refine Below.drew ?_))
     by_cases cI:l[e2]=41
     rotate_left
     ·have f6:=yT lS (n:=41) (by decide) cI
      have m_:Hid (cut [41] r4=none):=by show cut [41] r4=none;rw [Bz.out,j3 lS,if_neg cI]
      clear cI
      go_wp2_with fail
      refine bodyPost_ret (v:=.tuple #[.agg #[.slice none 0 0],.int .i64 (-1)]) (by simp [results,Tryz.results100,go_sem,mp,qj ee]) rfl ?_
      exact jU.no (by rw [HN.out,HM.out,h4.out];simp [HQ.out,ox.out,iy.out,m_.out]) (by repeat (first | exact fi | refine Below.alloc ?_ (by simp;omega) _ | refine Below.setCell ?_ (by simp) _ | refine Below.drew ?_))
     have f6:=uE lS (n:=41) (by decide) cI
     have g3:decide ((e2:Int)<0)=false:=by rw [decide_eq_false_iff_not];omega
     have g4:decide (l.length<=e2)=false:=by rw [decide_eq_false_iff_not];omega
     have m_:Hid (cut [41] r4=some (l.drop (e2+1))):=by show cut [41] r4=_;rw [Bz.out,j3 lS,if_pos cI]
     clear cI
     rw [qn] at oB
     obtain ⟨xs,hxs,nF⟩:=zM.ofRep oB (uZ _)
     go_wp2_with (at_builtin;refine zC rfl _ _ 59 rfl 61 (.agg #[.slice none 0 0]) 1 24 Tryz.underlying59 Tryz.infoS rfl (by decide) _ 1 [.slice a1 t1.args.length c1] rfl ?c1 _ t2.args.length xs rfl ?c2 ?c3 ?c4 ?_)
     case c1=>exact Own.litAt #[.slice a1 t1.args.length c1] 1 _ (by simp) (by decide) rfl
     case c2=>exact nF.keep fun _ _ h=>zH (zH h)
     case c3=>unfold maxLen;omega
     case c4=>omega
     intro a' c' w3 ho cH sO
     have b9:Below w2.heap.size w2 ((w2.alloc (.cells #[.slice a2 t2.args.length c2] 61)).alloc (.cells #[.slice a1 t1.args.length c1] 61)):=((bh _ _).alloc (bw _) _).alloc (by simp) _
     have fN:Below w2.heap.size w2 w3:=b9.trans (cH.toBelow (by simp;omega) (fun i hi e=>by simp [Value.ownBlock] at e;omega))
     have Cj:Below w.heap.size w w3:=fi.trans (fN.mono (by omega))
     have AY:w3.cell? ⟨w.heap.size,0,none⟩=some (.slice none 0 0):=by rw [fN.cell mp];exact ee
     have hfree3:w3.frozen? ⟨w.heap.size,0,none⟩=false:=by rw [fN.frozen mp];exact aG
     have hv1W:Rep (w.heap.size<=·) w3 (qP t1) (.slice a1 t1.args.length c1):=by
      refine (Rep.keep fun b o h ho=>⟨by have:=vT h;omega,?_⟩).1 _ _ mX
      rw [fN.block b (by have:=zZ ho;omega),cK.block b (by have:=zZ ho;simp;omega)]
      exact zD ho
     have hxsW:zv (w.heap.size<=·) w3 (qr t2.args) xs :=
      (Rep.keep fun b o h ho=>⟨by have:=vT h;omega,by rw [fN.block b (zZ ho)];exact ho⟩).2 _ _ hxs
     have cL:∀ g,(Value.slice a' (1+t2.args.length) c').ownBlock=some g->w.heap.size<=g:=by
      intro g h
      rcases sO g h with h | h
      ·simp [Value.ownBlock] at h;omega
      ·have:=fN.size;omega
     have HG:=bz cL;have HG3:=bz sO;clear sO cL
     go_wp2_with fail
     refine bodyPost_ret (v:=.tuple #[.agg #[.slice a' (1+t2.args.length) c'],.int .i64 ((e2:Int)+1)]) (by simp [results,Tryz.results100,go_sem,qj AY]) rfl ?_
     refine jU.yes (t:=jR t1 t2) (rest:=l.drop (e2+1)) (by rw [HN.out,HM.out,h4.out];simp [HQ.out,ox.out,iy.out,m_.out]) (by simp;omega) (Cj.setCell (bw _) _) ?_
     refine (Rep.keep (w:=w3) (F:=fun b=>w.heap.size<=b/\b≠w.heap.size) fun b o h ho=>⟨h.1,?_⟩).1 _ _ ?_
     ·rw [bf _ _ _ _ (by simpa using h.2)];exact ho
     rw [qn,show (jR t1 t2).args.length=1+t2.args.length from by simp [jR,Ty.args,Nat.add_comm]]
     refine ho.rep (fun g h=>⟨HG.out g h,?_⟩) ?_
     ·rcases HG3.out g h with h | h
      ·simp [Value.ownBlock] at h;omega
      ·have:=fN.size;omega
     ·show zv _ _ (qP t1::qr t2.args) _
      refine zG.2 ⟨_,_,rfl,?_,?_⟩
      ·refine (Rep.keep fun b o h ho=>⟨⟨by have:=vT h;omega,by have:=vT h;omega⟩,?_⟩).1 _ _ mX
       rw [fN.block b (by have:=zZ ho;omega),cK.block b (by have:=zZ ho;simp;omega)]
       exact zD ho
      ·exact (Rep.keep fun b o h ho=>⟨⟨by have:=vT h;omega,by have:=vT h;omega⟩,by rw [fN.block b (zZ ho)];exact ho⟩).2 _ _ hxs
theorem l1Read_any (l:Bs) (hl:Lim l.length) (n:Nat):∀ d,21-d=n->bS l d:=by
 induction n with
 | zero=>exact fun d h=>pF l hl d (fun h'=>by omega)
 | succ n ih=>exact fun d h=>pF l hl d (fun h'=>ih (d+1) (by omega))
def pJ (t:Ty):Prop:=∀ (F:Nat->Prop) (w:World) (v:Value),Rep F w (qP t) v ->
 Calls Tryz.prog 101 #[.agg #[v]] w fun en w'=>en=.returned (.int .i64 (zP t))/\Below w.heap.size w w'
theorem qi (ts:List Ty):ts.length<=zu ts:=by
 induction ts with
 | nil=>simp
 | cons t ts ih=>simp [zu];omega
theorem l1Size_step (t:Ty) (hl:Lim (zP t)) (ih:∀ t',zP t'<zP t->pJ t'):pJ t:=by
 intro F w v hv
 obtain ⟨a,cap,e⟩:=zp hv
 subst e
 have mr:=hv
 rw [qn] at mr
 obtain ⟨_,_,e,_,cU,hat⟩:=zI mr
 simp only [Value.slice.injEq] at e
 obtain ⟨rfl,_,rfl⟩:=e
 have IH:=bz ih;clear ih
 have dd:=hl.le
 have E1:=bz (qE t)
 have Ei:t.args.length<=16777216:=by have:=qi t.args;have:=E1.out;omega
 have AT:=bz hat;clear hat cU mr
 go_enter Tryz.func101,Tryz.ntmps101
 go_wp2_with fail
 go_loopw [3,4] (fun n i wr=>∃ k:Nat,k<=t.args.length/\i=.int .i64 k/\n=.int .i64 ((1+zu (t.args.take k):Nat):Int)/\Below w.heap.size w wr/\wr.cell? ⟨w.heap.size,0,none⟩=some (.slice a t.args.length cap)) (fun _ i _=>t.args.length-(intOf i).toNat)
 case atStart=>exact ⟨0,Nat.zero_le _,rfl,by simp [zu],(bh _ _).alloc (bw _) _,by simp⟩
 case round =>
  rename_i wr
  obtain ⟨k,hk,rfl,rfl,hb,hc⟩:=hrel
  by_cases cQ:k<t.args.length
  ·obtain ⟨b',o,u,d,rfl,_,dK,hd,hu,hr⟩:=AT.out k cQ
   rw [vx,Option.map_eq_some_iff] at hd
   obtain ⟨t',sE,rfl⟩:=hd
   obtain ⟨ua,uc,rfl⟩:=zp hr
   have mt:wr.cell? ⟨b',o+k,none⟩=some (.slice ua t'.args.length uc):=by rw [hb.cell dK];exact hu
   have mS:=Rep.below (F':=F) hb (fun _ h=>h) hr
   have hs:=uw sE
   have tQ:=vY t.args (k+1)
   have rO:=E1.out
   have IH':=bz (IH.out t' (by omega))
   have HS:=bz hs
   have b1:1+zu (t.args.take k)+(1+zP t')<=16777216:=by omega
   have hz:=bp wr _ hc
   clear hs sE rO hu hr
   go_wp2_with fail
   refine (IH'.out _ _ _ mS).mono ?_
   rintro en w2 ⟨rfl,cK⟩
   have cH:=zzT hb cK
   have fQ:w2.cell? ⟨w.heap.size,0,none⟩=some (.slice (some ⟨b',o,none⟩) t.args.length cap):=by rw [cK.cell hz];exact hc
   go_wp2_with fail
   go_roundw
   case rel=>exact ⟨k+1,by omega,by go_num,by rw [HS.out] <;> go_num,cH,fQ⟩
   case measure=>simp [intOf];omega
  ·obtain rfl:k=t.args.length:=by omega
   go_wp2_with fail
   go_ret
   exact ⟨xw (by rw [E1.out,List.take_length]),hb⟩
theorem l1Size_any (n:Nat):∀ t,zP t<=n->Lim n->pJ t:=by
 induction n with
 | zero=>intro t h _;have:=jn t;omega
 | succ n ih=>exact fun t h hn=>l1Size_step t (hn.mono h) (fun t' h'=>ih t' (by omega) (hn.mono (by omega)))
def zV (l:Bs):Ty×Bool :=
 if 100<l.length then (.mk [],false) else
 match rdS 21 l with
 | none=>(.mk [],false)
 | some (t,rest)=>(t,rest.isEmpty && decide (zP t<=15))
def TypePost (l:Bs) (w:World) (en:Ending) (w':World):Prop :=
 ∃ v,en=.returned (.tuple #[.agg #[v],.bool (zV l).2])/\Below w.heap.size w w'/\Rep (w.heap.size<=·) w' (qP (zV l).1) v
set_option maxRecDepth 100000 in
theorem uq (l:Bs) (hl:Lim l.length) (w:World):Calls Tryz.prog 63 #[str l] w (TypePost l w):=by
 have dd:=hl.le
 by_cases a_:100<l.length
 ·have FM:(100:Int)<(l.length:Int):=by omega
  have HM:zV l=(.mk [],false):=by unfold zV;rw [if_pos a_]
  have HM:=bz HM
  go_enter Tryz.func63,Tryz.ntmps63
  go_wp2_with fail
  refine bodyPost_ret (v:=.tuple #[.agg #[.slice none 0 0],.bool false]) (by simp [results,Tryz.results63,go_sem]) rfl ?_
  refine ⟨_,by rw [HM.out],(bh _ _).alloc (bw _) _,?_⟩
  rw [HM.out];exact we _ _
 have FM:¬ (100:Int)<(l.length:Int):=by omega
 have HM:zV l=(match rdS 21 l with
  | none=>(.mk [],false)
  | some (t,rest)=>(t,rest.isEmpty && decide (zP t<=15))):=by unfold zV;rw [if_neg a_]
 have HM:=bz HM
 go_enter Tryz.func63,Tryz.ntmps63
 go_wp2_with fail
 refine (l1Read_any l hl 21 0 rfl 0 _ (Nat.zero_le _) (by omega)).mono ?_
 rintro en w1 ⟨v1,k1,t1,rfl,bi,mX,dX,dx⟩
 rw [show (21-0:Nat)=21 from rfl,List.drop_zero] at dX dx
 obtain ⟨a1,c1,e1⟩:=zp mX
 subst e1
 have z1:=bi.size
 rw [zK] at z1
 have eQ:w.heap.size<w1.heap.size:=by omega
 have dg:Below w.heap.size w w1:=((bh w.heap.size w).alloc (bw _) _).trans (bi.mono (by simp))
 have dJ:w1.cell? ⟨w.heap.size,0,none⟩=some (.slice none 0 0):=by rw [bi.cell (by simp)];simp
 have eX:w1.frozen? ⟨w.heap.size,0,none⟩=false:=by rw [bi.frozen (by simp)];simp
 cases hq:rdS 21 l with
 | none =>
   obtain ⟨rfl,rfl⟩:=dX hq
   have HQ:=bz hq;clear hq dX dx
   have g1:((-1:Int) == (l.length:Int))=false:=by rw [beq_eq_false_iff_ne];omega
   go_wp2_with fail
   go_region
   go_wp2_with fail
   refine bodyPost_ret (v:=.tuple #[.agg #[.slice a1 0 c1],.bool false]) (by simp [results,Tryz.results63,go_sem,eQ,qj dJ,Ty.args]) rfl ?_
   refine ⟨_,by rw [HM.out,HQ.out],(by repeat (first | exact dg | refine Below.alloc ?_ (by simp;omega) _ | refine Below.setCell ?_ (by simp) _ | refine Below.drew ?_)),?_⟩
   rw [HM.out,HQ.out]
   rw [qn]
   refine qu.2 ⟨rfl,a1,c1,rfl,Nat.zero_le _,?_,.inl rfl⟩
   obtain ⟨_,_,_,e,_,h0,_⟩:=qu.1 (by rw [qn] at mX;exact mX)
   simp only [Value.slice.injEq] at e
   obtain ⟨rfl,_,rfl⟩:=e;exact h0
 | some x =>
   obtain ⟨t,rest⟩:=x
   obtain ⟨rfl,rfl⟩:=dx _ _ hq
   have hat:=rdS_atoms hq
   have HQ:=bz hq;clear hq dX dx
   obtain ⟨e,he⟩:=zzM (l.length-rest.length)
   rw [show (l.length:Int)-(rest.length:Int)=(e:Int) from by omega]
   have HE:=bz he;clear he
   cases rest with
   | cons x xs =>
     have g1:((e:Int) == (l.length:Int))=false:=by rw [beq_eq_false_iff_ne];have:=HE.out;simp at this hat;omega
     go_wp2_with fail
     go_region
     go_wp2_with fail
     refine bodyPost_ret (v:=.tuple #[.agg #[.slice a1 t1.args.length c1],.bool false]) (by simp [results,Tryz.results63,go_sem,eQ,qj dJ]) rfl ?_
     refine ⟨_,by rw [HM.out,HQ.out];rfl,(by repeat (first | exact dg | refine Below.alloc ?_ (by simp;omega) _ | refine Below.setCell ?_ (by simp) _ | refine Below.drew ?_)),?_⟩
     rw [HM.out,HQ.out]
     refine (Rep.keep fun b o h ho=>⟨by have:=vT h;omega,?_⟩).1 _ _ mX
     have hb:b≠w.heap.size:=by have:=vT h;omega
     exact zD (by rw [bf _ _ _ _ (by simpa using hb)];exact ho)
   | nil =>
     obtain rfl:e=l.length:=by have:=HE.out;simpa using this
     have g1:((l.length:Int) == (l.length:Int))=true:=by simp
     have hlA:Lim (zP t1):=hl.mono (by simp at hat;omega)
     have B6:Rep (w.heap.size < ·) (w1.alloc (.cells #[.slice a1 t1.args.length c1] 61)) (qP t1) (.slice a1 t1.args.length c1):=(Rep.keep fun b o h ho=>⟨by have:=vT h;omega,zD ho⟩).1 _ _ mX
     have EM:(w1.alloc (.cells #[.slice a1 t1.args.length c1] 61)).cell? ⟨w1.heap.size,0,none⟩=some (.slice a1 t1.args.length c1):=by simp
     go_wp2_with fail
     go_region_held3 (fun w'=>w'.cell? ⟨w1.heap.size,0,none⟩=some (.slice a1 t1.args.length c1))
      (first
       | exact (cK.cell (by simp)).trans EM
       | (rw [World.cell?_of_block (w:=w2) (bf _ _ _ _ (by simp;omega))];exact (cK.cell (by simp)).trans EM)
       | go_keep)
      (first
       | (go_at_call 101;refine (l1Size_any (zP t1) t1 (bw _) hlA (w.heap.size < ·) _ _ (by exact B6.drew)).mono ?_;rintro en w2 ⟨rfl,cK⟩;have z2:=cK.size;have mp:w.heap.size<w2.heap.size:=(by simp at z2;omega);have ee:w2.cell? ⟨w.heap.size,0,none⟩=some (.slice none 0 0):=(cK.cell (by simp;omega)).trans (zH dJ);have aG:w2.frozen? ⟨w.heap.size,0,none⟩=false:=(cK.frozen (by simp;omega)).trans ((World.frozen?_of_block (w:=w1) (Below.heap_alloc _ _ _ eQ)).trans eX)))
     go_wp2_with fail
     refine bodyPost_ret (v:=.tuple #[.agg #[.slice a1 t1.args.length c1],.bool (decide ((zP t1:Int)<=15))]) (by simp [results,Tryz.results63,go_sem,qj ee]) rfl ?_
     have fi:Below w.heap.size w w2:=((dg.alloc dg.size _).drew).trans (cK.mono (by simp;omega))
     refine ⟨.slice a1 t1.args.length c1,?_,fi.setCell (bw _) _,?_⟩
     ·have e15:decide ((zP t1:Int)<=15)=decide (zP t1<=15):=by rw [decide_eq_decide];omega
      rw [HM.out,HQ.out,e15];rfl
     ·rw [HM.out,HQ.out]
      refine (Rep.keep fun b o h ho=>⟨by have:=vT h;omega,?_⟩).1 _ _ mX
      have hb:b≠w.heap.size:=by have:=vT h;omega
      rw [bf _ _ _ _ (by simpa using hb),cK.block b (by have:=zZ ho;simp;omega)]
      exact zD ho
theorem gj (d:Nat):∀ {l:Bs} {t:Ty} {r:Bs} (e:Nat),d<=e->rdK d l=some (t,r)->rdK e l=some (t,r):=by
 induction d with
 | zero =>
   intro l t r e he h
   rcases zo [98] l with hc | ⟨r',hc⟩
   ·rw [j8 hc] at h;simp at h
   ·rw [vz hc] at h ⊢;exact h
 | succ d ih =>
   intro l t r e he h
   obtain ⟨e,rfl⟩:∃ e',e=e'+1:=⟨e-1,by omega⟩
   rcases zo [98] l with hc | ⟨r',hc⟩
   ·rw [qW hc] at h ⊢
    simp only [Option.bind_eq_bind,Option.bind_eq_some_iff,Prod.exists] at h ⊢
    obtain ⟨r1,h1,a,r2,h2,r3,h3,b,r4,h4,r5,h5,h6⟩:=h
    exact ⟨r1,h1,a,r2,ih e (by omega) h2,r3,h3,b,r4,ih e (by omega) h4,r5,h5,h6⟩
   ·rw [vz hc] at h ⊢;exact h
theorem wX {p l r:Bs} (h:cut p l=some r):l.length=p.length+r.length:=by
 unfold cut at h;split at h
 ·rename_i hp
  have:=List.IsPrefix.length_le (List.isPrefixOf_iff_prefix.1 hp)
  simp at h;subst h;simp;omega
 ·simp at h
theorem wG (a b:Ty):zP (jR a b)=1+zP a+zP b:=by cases b;simp [jR,zP,zu,Ty.args];omega
theorem rdK_shallow (e:Nat):∀ {l:Bs} {t:Ty} {r:Bs} (d:Nat),zP t<=2*d+1->rdK e l=some (t,r)->rdK d l=some (t,r):=by
 induction e with
 | zero =>
   intro l t r d hd h
   exact gj 0 d (Nat.zero_le _) h
 | succ e ih =>
   intro l t r d hd h
   rcases zo [98] l with hc | ⟨r',hc⟩
   ·rw [qW hc] at h
    simp only [Option.bind_eq_bind,Option.bind_eq_some_iff,Prod.exists] at h
    obtain ⟨r1,h1,a,r2,h2,r3,h3,b,r4,h4,r5,h5,h6⟩:=h
    simp at h6;obtain ⟨rfl,rfl⟩:=h6
    have hat:=wG a b
    have pa:=jn a;have pb:=jn b
    obtain ⟨d,rfl⟩:∃ d',d=d'+1:=⟨d-1,by omega⟩
    rw [qW hc]
    simp only [Option.bind_eq_bind,Option.bind_eq_some_iff,Prod.exists]
    exact ⟨r1,h1,a,r2,ih d (by omega) h2,r3,h3,b,r4,ih d (by omega) h4,r5,h5,rfl⟩
   ·rw [vz hc] at h ⊢;exact h
theorem rdK_len (e:Nat):∀ {l:Bs} {t:Ty} {r:Bs},rdK e l=some (t,r)->l.length+5<=r.length+6*zP t:=by
 induction e with
 | zero =>
   intro l t r h
   rcases zo [98] l with hc | ⟨r',hc⟩
   ·rw [j8 hc] at h;simp at h
   ·rw [vz hc] at h;simp at h;obtain ⟨rfl,rfl⟩:=h
    have:=wX hc;simp [zP,zu] at *;omega
 | succ e ih =>
   intro l t r h
   rcases zo [98] l with hc | ⟨r',hc⟩
   ·rw [qW hc] at h
    simp only [Option.bind_eq_bind,Option.bind_eq_some_iff,Prod.exists] at h
    obtain ⟨r1,h1,a,r2,h2,r3,h3,b,r4,h4,r5,h5,h6⟩:=h
    simp at h6;obtain ⟨rfl,rfl⟩:=h6
    have hat:=wG a b
    have k1:=wX h1;have k2:=ih h2;have k3:=wX h3;have k4:=ih h4;have k5:=wX h5
    simp at k1 k3 k5;omega
   ·rw [vz hc] at h;simp at h;obtain ⟨rfl,rfl⟩:=h
    have:=wX hc;simp [zP,zu] at *;omega
theorem yJ (l:Bs):jN l=if (zV l).2 then some (zV l).1 else none:=by
 unfold jN zV
 by_cases a_:100<l.length
 ·rw [if_pos a_]
  simp only [Bool.false_eq_true,if_false]
  split
  ·rename_i t hq
   have:=rdK_len 15 hq
   rw [if_neg (by simp at this;omega)]
  ·rfl
 ·rw [if_neg a_]
  have e21:rdS 21 l=rdK 20 l:=rfl
  rw [e21]
  cases hq:rdK 20 l with
  | none =>
    simp only [Bool.false_eq_true,if_false]
    split
    ·rename_i t rQ
     have:=gj 15 20 (by omega) rQ
     rw [hq] at this;simp at this
    ·rfl
  | some x =>
    obtain ⟨t,rest⟩:=x
    simp only
    by_cases ht:zP t<=15
    ·have rQ:=rdK_shallow 20 15 (by omega) hq
     rw [rQ]
     cases rest with
     | nil=>simp [ht]
     | cons x xs=>simp
    ·cases rQ:rdK 15 l with
     | none=>simp [ht]
     | some y =>
       obtain ⟨t2,r2⟩:=y
       have:=gj 15 20 (by omega) rQ
       rw [hq] at this;simp at this;obtain ⟨rfl,rfl⟩:=this
       cases rest <;> simp [ht]
set_option maxRecDepth 100000 in
theorem hU (F:Nat->Prop) (hand:List Ty) (t:Ty) (hv tv:Value) (w:World) (hh:Rep F w (.sl 61 1 hand.length (qr hand)) hv) (ht:Rep F w (qP t) tv) (hl:Lim (hand.length+t.args.length)) :
 Calls Tryz.prog 97 #[hv,.agg #[tv]] w fun en w' =>
  ∃ a c,en=.returned (.slice a (hand++t.args).length c)/\Below w.heap.size w w'/\Rep (fun k=>F k\/w.heap.size<=k) w' (.sl 61 1 (hand++t.args).length (qr (hand++t.args))) (.slice a (hand++t.args).length c):=by
 have dd:=hl.le
 obtain ⟨xs1,mh,g1⟩:=zM.ofRep hh (uZ _)
 have sE:=ht
 rw [qn] at sE
 obtain ⟨xs2,fZ,g2⟩:=zM.ofRep sE (uZ _)
 obtain ⟨a1,c1,e1⟩:=g1.slice
 obtain ⟨a2,c2,e2⟩:=g2.slice
 subst e1;subst e2
 have EM:(w.alloc (.cells #[.slice a2 t.args.length c2] 61)).cell? ⟨w.heap.size,0,none⟩=some (.slice a2 t.args.length c2):=by simp
 go_enter Tryz.func97,Tryz.ntmps97
 go_wp2_with fail
 go_region_held3 (fun w'=>w'.cell? ⟨w.heap.size,0,none⟩=some (.slice a2 t.args.length c2))
  (first
   | exact (mU.cell (by simp)).trans EM
   | exact (eW.cell (by simp)).trans EM
   | go_keep)
  (first
   | (refine zq (by rfl) (.tmp 7) (.tmp 9) _ (by rfl) 61 (.agg #[.slice none 0 0]) 1 24 Tryz.underlying59 Tryz.infoS rfl (by omega) (.slice ax hand.length cx) hand.length xs1 (by rfl) (by exact hox) (.slice a2 t.args.length c2) t.args.length xs2 (by rfl) (by exact (g2.alloc _).below eW) (by unfold maxLen;omega) (by omega) ?_;intro ay cy wy hoy nH hgy;obtain ⟨mU,AS⟩:=wJ eW hfx nH hgy)
   | (refine zq (by rfl) (.tmp 5) (.tmp 6) _ (by rfl) 61 (.agg #[.slice none 0 0]) 1 24 Tryz.underlying59 Tryz.infoS rfl (by omega) (.slice (some ⟨w.heap.size+1,0,none⟩) 0 0) 0 [] (by rfl) (by exact (Own.litAt #[] 0 _ (by simp) (by decide) rfl).drew) (.slice a1 hand.length c1) hand.length xs1 (by rfl) (by exact ((g1.alloc _).alloc _).drew) (by unfold maxLen;omega) (by omega) ?_;rw [Nat.zero_add,List.nil_append];intro ax cx wx hox ed hgx;obtain ⟨eW,hfx⟩:=wJ (((bh _ _).alloc (bw _) _).drew) (ga (by simp)) ed hgx))
 go_wp2_with fail
 go_ret
 have bi:Below w.heap.size w (w.alloc (.cells #[.slice a2 t.args.length c2] 61)):=(bh _ _).alloc (bw _) _
 have hbZ:Below w.heap.size w wy:=bi.trans (mU.mono (by simp))
 rw [List.length_append]
 refine ⟨ay,cy,rfl,hbZ,?_⟩
 rw [encSs_append]
 exact hoy.rep (fun g h=>.inr (by have:=AS g h;simp at this;omega)) (zv.append (mh.below hbZ (fun _ h=>.inl h)) (fZ.below hbZ (fun _ h=>.inl h)))
end Go.Proofs.YtfedjhgaeikjmaaGreatDoor

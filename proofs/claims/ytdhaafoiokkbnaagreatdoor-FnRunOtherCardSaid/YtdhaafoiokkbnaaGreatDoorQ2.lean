/- Walks of functions that the statement reaches, and plain words. No conditions. -/
import Derived.Test.YtdhaafoiokkbnaaGreatDoorQ1
set_option linter.unusedVariables false
set_option linter.unusedSimpArgs false
set_option maxHeartbeats 4000000
namespace Go.Proofs.YtdhaafoiokkbnaaGreatDoor
open Go.RowKit
def y9 (l:Bs):Int:=if (zE l)=[] then -1 else (zS l).length
theorem uX (l:Bs):zS l++zE l=l:=List.takeWhile_append_dropWhile
theorem word_take (l:Bs):l.take (zS l).length=zS l:=by
 have h:=uX l
 have:=List.take_left (l₁:=zS l) (l₂:=zE l);rw [h] at this;exact this
theorem word_drop (l:Bs):l.drop (zS l).length=zE l:=by
 have h:=uX l
 have:=List.drop_left (l₁:=zS l) (l₂:=zE l);rw [h] at this;exact this
theorem word_le (l:Bs):(zS l).length+(zE l).length=l.length:=by
 have:=congrArg List.length (uX l);simpa using this
theorem indexAny_sep (l:Bs):Lib.indexAny l [32,40,41]=y9 l:=by
 induction l with
 | nil=>rfl
 | cons b l ih =>
   rw [Lib.indexAny]
   have hs:([32,40,41]:Bs).contains b=sep b:=by
    rw [Bool.eq_iff_iff];simp [sep,or_assoc]
   rw [hs]
   cases hb:sep b
   ·have e1:zS (b::l)=b::zS l:=by simp [zS,hb]
    have e2:zE (b::l)=zE l:=by simp [zE,hb]
    rw [ih]
    unfold y9
    rw [e1,e2]
    by_cases h:zE l=[]
    ·simp [h]
    ·simp only [h,if_false,Bool.false_eq_true]
     rw [if_neg (by rw [beq_iff_eq];omega)]
     simp
   ·have e1:zS (b::l)=[]:=by simp [zS,hb]
    have e2:zE (b::l)=b::l:=by simp [zE,hb]
    unfold y9
    rw [e1,e2];simp
theorem indexAny_any (l:Bs) (w:World) (hl:Lim l.length) :
 Calls Tryz.prog 85 #[str l,.string ⟨#[32,40,41]⟩] w fun en w'=>en=.returned (.int .i64 (y9 l))/\Below w.heap.size w w':=by
 have fM:=hl.le
 have hsz:(⟨l.toArray⟩:ByteArray).size=l.length:=wP l
 rw [<- indexAny_sep]
 by_cases h8:l.length<=8
 ·have:=bO ⟨l.toArray⟩ (by omega) w
  simpa [str] using this
 ·refine (Tryz.strings_IndexAny_long (zero_of_info (n:=256) (by kernel_rfl)).1 ⟨l.toArray⟩ ⟨#[32,40,41]⟩ w (by show 2<=3;omega) (by omega) (by omega) (by show 3<4294967281;omega) (by
   intro j b hj
   have:b∈([32,40,41]:Bs):=List.mem_of_getElem? hj
   simp at this
   rcases this with rfl | rfl | rfl <;> decide)).mono ?_
  rintro e w' ⟨rfl,rfl⟩
  refine ⟨by simp,((cE _ _).alloc (cC _) _).alloc (by simp) _⟩
theorem gx (sc:Nat) (c:List Value) (e:TypeId) (r:Bs) (w:World) (h:kO sc c e r w) (hr:Lim r.length) :
 Calls Tryz.prog 68 #[.pointer (some ⟨sc,0,none⟩)] w fun en w' =>
  en=.returned (str (zS r))/\But (· = sc) w w'/\kO sc c e (zE r) w':=by
 have h1:=h.cell
 have h2:=h.free 0
 have rA:=un h
 have hl:=hr.le
 have hw:=word_le r
 go_enter Tryz.func68,Tryz.ntmps68
 go_wp2_with fail
 refine (indexAny_any r w hr).mono ?_
 rintro en w1 ⟨rfl,hb⟩
 have c1:w1.cell? ⟨sc,0,none⟩=some (str r):=by rw [hb.cell rA];exact h1
 have c2:w1.frozen? ⟨sc,0,none⟩=false:=by rw [hb.frozen rA];exact h2
 have hS:kO sc c e r w1:=by unfold kO;rw [hb.block sc rA];exact h
 clear h1 h2
 by_cases h0:zE r=[]
 ·have hi:y9 r = -1:=by simp [y9,h0]
  rw [hi]
  have e1:zS r=r:=by have:=uX r;rw [h0] at this;simpa using this
  have HE:=cH e1;have H0:=cH h0;clear e1 h0 hi
  go_wp2_with fail
  go_ret
  have e2:(⟨r.toArray⟩:ByteArray).extract 0 r.length=⟨(zS r).toArray⟩:=by rw [jr,HE.out];simp
  refine ⟨?_,(But.ofBelow hb).setS 0 _,?_⟩
  ·show Ending.returned (.string _)=_;rw [e2]
  ·have:=hS.put (r':=zE r);rw [H0.out] at this ⊢;exact this
 ·have hi:y9 r=(zS r).length:=by simp [y9,h0]
  rw [hi]
  have cL:(zS r).length<=r.length:=by omega
  have H0:=cH h0;clear h0 hi
  go_wp2_with fail
  go_ret
  have e2:(⟨r.toArray⟩:ByteArray).extract 0 (zS r).length=⟨(zS r).toArray⟩:=by rw [jr,List.drop_zero,word_take]
  have e3:(⟨r.toArray⟩:ByteArray).extract (zS r).length r.length=⟨(zE r).toArray⟩:=by rw [jr,List.take_length,word_drop]
  refine ⟨?_,(But.ofBelow hb).setS 0 _,?_⟩
  ·show Ending.returned (.string _)=_;rw [e2]
  ·rw [e3];exact hS.put
structure qL (w:World):Prop where
 e0:∃ te pe,w.var? Tryz.prog "strconv.ErrSyntax" = some #[.iface te pe]
 e1:∃ te pe,w.var? Tryz.prog "strconv.ErrRange" = some #[.iface te pe]
 tab:Lib.TabIs Tryz.prog w "internal/strconv.uint64pow10" .u64 Lib.pow10Tab
def gR (b:Nat):Prop:=b≠1/\b≠2/\b≠4
theorem Tryz.gn0:Tryz.prog.globalNamed "strconv.ErrSyntax" = some 1:=by kernel_rfl
theorem Tryz.gn1:Tryz.prog.globalNamed "strconv.ErrRange" = some 2:=by kernel_rfl
theorem Tryz.gn2:Tryz.prog.globalNamed "internal/strconv.uint64pow10" = some 4:=by kernel_rfl
theorem pK {P:Program} {w:World} {nm:String} {g:Nat} {x:Array Value} (hg:P.globalNamed nm=some g) (h:w.var? P nm=some x):g<w.heap.size:=by
 unfold World.var? at h
 rw [hg] at h
 simp only [Option.bind_some] at h
 rcases Nat.lt_or_ge g w.heap.size with h' | h'
 ·exact h'
 ·rw [Array.getElem?_eq_none h'] at h;simp at h
theorem ga {P:Program} {w w':World} {nm:String} {g:Nat} {x:Array Value} (hg:P.globalNamed nm=some g) (hk:w'.heap[g]? = w.heap[g]?) (h:w.var? P nm=some x):w'.var? P nm=some x:=by
 unfold World.var? at *
 rw [hg] at *
 simp only [Option.bind_some] at *
 rw [hk];exact h
theorem qL.but {m:Nat->Prop} {w w':World} (h:qL w) (hb:But m w w') (hm:∀ i,m i->gR i):qL w':=by
 obtain ⟨⟨t0,p0,h0⟩,⟨t1,p1,h1⟩,h2⟩:=h
 have l0:=pK Tryz.gn0 h0
 have l1:=pK Tryz.gn1 h1
 have l2:=pK Tryz.gn2 h2
 exact ⟨⟨t0,p0,ga Tryz.gn0 (hb.block _ l0 fun e=>(hm _ e).1 rfl) h0⟩,⟨t1,p1,ga Tryz.gn1 (hb.block _ l1 fun e=>(hm _ e).2.1 rfl) h1⟩,ga Tryz.gn2 (hb.block _ l2 fun e=>(hm _ e).2.2 rfl) h2⟩
theorem qL.below {w w':World} (h:qL w) (hb:Below w.heap.size w w'):qL w':=h.but (m:=fun _=>False) (But.ofBelow hb) (fun _ e=>e.elim)
theorem qL.new {w:World} (h:qL w) {b:Nat} (hb:w.heap.size<=b):gR b:=by
 obtain ⟨⟨t0,p0,h0⟩,⟨t1,p1,h1⟩,h2⟩:=h
 have l0:=pK Tryz.gn0 h0
 have l1:=pK Tryz.gn1 h1
 have l2:=pK Tryz.gn2 h2
 exact ⟨by omega,by omega,by omega⟩
theorem below_drewN {B:Nat} {a w:World} (h:Below B a w) (n:Nat):Below B a (w.drewN n):=h.trans ⟨rfl,rfl,rfl,cC _,fun _ _=>rfl⟩
theorem below_grow (w:World) (os:Array Obj):Below w.heap.size w (Go.Sort.grow w os) :=
 ⟨rfl,rfl,rfl,by simp [Go.Sort.grow],fun k hk=>by simp [Go.Sort.grow,Array.getElem?_append_left hk]⟩
theorem below_freeze {B:Nat} {a w:World} (h:Below B a w) {p:Addr} (hp:B<=p.block) (n:Nat):Below B a (w.freeze p n):=by
 refine h.trans ⟨?_,?_,?_,?_,?_⟩
 ·unfold World.freeze;split <;> rfl
 ·unfold World.freeze;split <;> rfl
 ·unfold World.freeze;split <;> rfl
 ·unfold World.freeze;split <;> simp
 ·intro k hk
  unfold World.freeze;split
  ·rfl
  ·simp only [Array.getElem?_modify];rw [if_neg (by omega)]
theorem pF (w:World) (e:TypeId) (s:ByteArray):Below w.heap.size w (Lib.bytesWorld w e s) :=
 below_freeze (((cE w.heap.size w).drew).alloc (cC _) _) (cC _) _
theorem atoi_ok (l:Bs) (w:World) (hl:Lim l.length) (v:Int) (h:Lib.atoiAll l=.ok v) :
 Calls Tryz.prog 69 #[str l] w fun en w'=>en=.returned (.tuple #[.int .i64 v,.nilIface])/\Below w.heap.size w w':=by
 have fM:=hl.le
 refine (Tryz.strconv_Atoi_ok ⟨l.toArray⟩ (by show l.toArray.size<=_;simp;omega) v h w).mono ?_
 rintro en w' ⟨rfl,rfl | ⟨t,rfl⟩⟩
 ·exact ⟨rfl,cE _ _⟩
 ·exact ⟨rfl,pF _ _ _⟩
theorem atoi_no (l:Bs) (w:World) (hl:Lim l.length) (hg:qL w) (h:∀ v,Lib.atoiAll l≠.ok v) :
 Calls Tryz.prog 69 #[str l] w fun en w'=>∃ v t p,en=.returned (.tuple #[.int .i64 v,.iface t p])/\Below w.heap.size w w':=by
 have fM:=hl.le
 have hs:(⟨l.toArray⟩:ByteArray).size<=281474976710656:=by show l.toArray.size<=_;simp;omega
 cases ha:Lib.atoiAll l
 ·rename_i v;exact absurd ha (h v)
 ·obtain ⟨te,pe,h0⟩:=hg.e0
  refine (Tryz.strconv_Atoi_syntax_var ⟨l.toArray⟩ hs ha te pe w h0).mono ?_
  rintro en w' ⟨N,rfl,_,_,hb⟩
  exact ⟨_,_,_,rfl,hb⟩
 ·obtain ⟨te,pe,h0⟩:=hg.e1
  refine (Tryz.strconv_Atoi_range_var ⟨l.toArray⟩ hs ha te pe w h0).mono ?_
  rintro en w' ⟨N,rfl,_,_,hb⟩
  exact ⟨_,_,_,rfl,hb⟩
theorem itoa_any (n:Int) (w:World) (hg:qL w) (h0 : -9223372036854775808<=n) (h1:n<=9223372036854775807) :
 Calls Tryz.prog 70 #[.int .i64 n] w fun en w'=>en=.returned (str (Lib.itoa n))/\Below w.heap.size w w':=by
 refine (Tryz.strconv_Itoa n h0 h1 w hg.tab).mono ?_
 rintro en w' ⟨rfl,k,os,rfl⟩
 exact ⟨rfl,(below_drewN (cE _ _) k).trans (below_grow (w.drewN k) os)⟩
theorem b_ {l:Bs} {v:Int} (h:Lib.atoiAll l=.ok v) : -9223372036854775808<=v/\v<=9223372036854775807:=by
 unfold Lib.atoiAll at h
 split at h
 ·simp at h
 ·simp only at h
  split at h
  ·simp at h
  ·simp at h
  ·split at h
   ·simp at h
   ·split at h
    ·simp at h
    ·rename_i h1 h2
     simp only [Lib.NumEnd.ok.injEq] at h
     split at h <;> omega
theorem itoa_of {l:Bs} {v:Int} (h:Lib.atoiAll l=.ok v) (w:World) (hg:qL w) :
 Calls Tryz.prog 70 #[.int .i64 v] w fun en w'=>en=.returned (str (Lib.itoa v))/\Below w.heap.size w w' :=
 itoa_any v w hg (b_ h).1 (b_ h).2
def jD (sr:Nat) (w:World) (o:Option (Bd×Bs×Nat)) (en:Ending) (w':World):Prop :=
 ∃ (v:Value) (r':Bs) (left':Int),en=.returned v/\But (fun x=>x=sr) w w'/\kO sr [.int .i64 left'] 111 r' w'/\(o=none->v=.pointer none) /\
   (∀ b rest ct,o=some (b,rest,ct)->r'=rest/\left'=(ct:Nat)/\Rep (w.heap.size<=·) w' (kr b) v)
theorem kC {F:Nat->Prop} {w:World} {b:Bd} {v:Value} (h:Rep F w (kr b) v):∃ a,v=.pointer (some ⟨a,0,none⟩):=by
 cases b with
 | leaf c=>rw [kr,vp] at h;obtain ⟨a,c,h,_⟩:=h;exact ⟨a,h⟩
 | ask v ss y n=>rw [kr,vp] at h;obtain ⟨a,c,h,_⟩:=h;exact ⟨a,h⟩
theorem jD.no {sr:Nat} {w:World} {o:Option (Bd×Bs×Nat)} {w':World} {r:Bs} {left:Int} (ho:o=none) (hb:But (fun x=>x=sr) w w') (hs:kO sr [.int .i64 left] 111 r w') :
 jD sr w o (.returned (.pointer none)) w' :=
 ⟨_,r,left,rfl,hb,hs,fun _=>rfl,fun _ _ _ h=>by rw [ho] at h;simp at h⟩
theorem jD.yes {sr:Nat} {w:World} {o:Option (Bd×Bs×Nat)} {w':World} {r:Bs} {left:Nat} {b:Bd} {v:Value} (ho:o=some (b,r,left)) (hb:But (fun x=>x=sr) w w') (hs:kO sr [.int .i64 left] 111 r w')
 (hv:Rep (w.heap.size<=·) w' (kr b) v):jD sr w o (.returned v) w' :=
 ⟨_,r,left,rfl,hb,hs,fun h=>by rw [ho] at h;simp at h,fun _ _ _ h=>by rw [ho] at h;simp at h;obtain ⟨rfl,rfl,rfl⟩:=h;exact ⟨rfl,rfl,hv⟩⟩
def ke (d:Nat) (levels:List Ty):Prop:=(∀ t∈levels,zU t<=15)/\levels.length+15*d<=10000
def xW (d:Nat):Prop:=∀ (sr left:Nat) (levels:List Ty) (l:Bs) (lv:Value) (F:Nat->Prop) (w:World),qL w->gR sr ->
 kO sr [.int .i64 left] 111 l w->left<=1000->Lim l.length->ke d levels ->
 Rep F w (.sl 49 1 levels.length (qC levels)) lv->(∀ b,F b->b≠sr) ->
 Calls Tryz.prog 46 #[.pointer (some ⟨sr,0,none⟩),lv,.int .i64 d] w (jD sr w (rdB d levels left l))
theorem encKs_append (a b:List Ty):qC (a++b)=qC a++qC b:=by
 induction a with
 | nil=>rfl
 | cons t ts ih=>simp [qC,ih]
theorem srcSl_but {F:Nat->Prop} {m:Nat->Prop} {w w':World} {e:TypeId} {sz n:Nat} {cs:List DV} {v:Value} {news:List Value} (hb:But m w w') (hF:∀ b,F b->¬ m b) (h:Rep F w (.sl e sz n cs) v) (hs:zM sz v n news w):zM sz v n news w':=by
 rw [kM] at h
 obtain ⟨hl,a,cap,rfl,hn,hz,h⟩:=h
 obtain ⟨h1,h2,h3⟩:=hs
 refine ⟨h1,h2,?_⟩
 rcases h with rfl | ⟨b,o,c,fr,rfl,dW,hc,hr⟩
 ·have:news=[]:=List.eq_nil_of_length_eq_zero (by simpa using h1)
  subst this
  rcases h3 with ⟨a',c',e',_⟩ | h3
  ·exact .inl ⟨a',c',e',by simp⟩
  ·exact .inr h3
 ·rcases h3 with ⟨a',c',e',h3⟩ | ⟨h3,_⟩
  ·simp at e'
   obtain ⟨e1,e2⟩:=e'
   subst e1
   refine .inl ⟨_,cap,rfl,fun j u hj=>?_⟩
   have:=h3 j u hj
   rw [hb.cell (cD w _ this) ?_]
   ·exact this
   ·unfold Addr.add;split <;> exact hF b dW
  ·simp at h3
theorem part_pre {F:Nat->Prop} {sr:Nat} {left:Int} {levels more:List Ty} {r1:Bs} {xs1 xs2:List Value} {ac:Option Addr} {kc:Nat} {w w1 wx wc:World} (hg:qL w) (hn:gR sr) (AE:sr<w.heap.size)
 (cT:But (fun x=>x=sr) w w1) (d7:kO sr [.int .i64 left] 111 r1 w1)
 (hF:∀ b,F b->b≠sr) (G1:zH F w1 (qC levels) xs1) (G2:zH F w1 (qC more) xs2)
 (hx:Below w1.heap.size w1 wx) (hoc:Own wc 49 1 (.slice ac (levels.length+more.length) kc) (levels.length+more.length) (xs1++xs2))
 (sn:Below wx.heap.size wx wc) (hfc:∀ g,(Value.slice ac (levels.length+more.length) kc).ownBlock=some g->wx.heap.size<=g) :
 Below w1.heap.size w1 wc/\qL wc/\kO sr [.int .i64 left] 111 r1 wc /\
  Rep (fun b=>b≠sr) wc (.sl 49 1 (levels++more).length (qC (levels++more))) (.slice ac (levels.length+more.length) kc):=by
 have z1:=cT.size
 have hb:Below w1.heap.size w1 wc:=zzT hx sn
 refine ⟨hb,(hg.but cT fun i e=>by subst e;exact hn).below hb,(hb.block sr (by omega)).trans d7,?_⟩
 rw [List.length_append,encKs_append]
 refine hoc.rep (fun g h=>?_) (zH.append (G1.below hb hF) (G2.below hb hF))
 have:=hfc g h;have:=hx.size;omega
set_option maxRecDepth 100000 in
theorem bH (d:Nat) (ih:xW d) (sr left:Nat) (levels more:List Ty) (l:Bs) (lv mv:Value) (F:Nat->Prop) (w:World) (b1 b2 b3:Nat) (hg:qL w) (hn:gR sr)
 (hs:kO sr [.int .i64 left] 111 l w) (hl:left<=1000) (hr:Lim l.length) (hh:ke d (levels++more)) (hd:d<=1000)
 (eJ:Rep F w (.sl 49 1 levels.length (qC levels)) lv) (iP:Rep F w (.sl 49 1 more.length (qC more)) mv) (hF:∀ b,F b->b≠sr)
 (c1:w.cell? ⟨b1,0,none⟩=some (.pointer (some ⟨sr,0,none⟩))) (c2:w.cell? ⟨b2,0,none⟩=some lv) (c3:w.cell? ⟨b3,0,none⟩=some (.int .i64 ((d:Int)+1)))
 (n1:b1≠sr) (n2:b2≠sr) (n3:b3≠sr) :
 Calls Tryz.prog 71 #[mv,.pointer (some ⟨b1,0,none⟩),.pointer (some ⟨b2,0,none⟩),.pointer (some ⟨b3,0,none⟩)] w (jD sr w (qQ (rdB d) (levels++more) left l)):=by
 have IH:=cH ih;clear ih
 have HF:=cH hF;clear hF
 have l1:=cD w _ c1
 have l2:=cD w _ c2
 have l3:=cD w _ c3
 go_enter Tryz.func71,Tryz.ntmps71
 go_wp2_with fail
 rcases z_ [32] l with h1 | ⟨r1,h1⟩
 ·refine (ui hs h1).mono ?_
  rintro en w1 ⟨rfl,cT,d7⟩
  go_wp2_with fail
  go_ret
  exact jD.no (by simp [qQ,h1.out]) cT d7
 ·refine (vU hs h1).mono ?_
  rintro en w1 ⟨rfl,cT,d7⟩
  have d1:w1.cell? ⟨b1,0,none⟩=some (.pointer (some ⟨sr,0,none⟩)):=by rw [cT.cell l1 n1];exact c1
  have d2:w1.cell? ⟨b2,0,none⟩=some lv:=by rw [cT.cell l2 n2];exact c2
  have d3:w1.cell? ⟨b3,0,none⟩=some (.int .i64 ((d:Int)+1)):=by rw [cT.cell l3 n3];exact c3
  obtain ⟨xs1,mP,g1⟩:=zM.ofRep eJ (uN _)
  obtain ⟨xs2,mV,g2⟩:=zM.ofRep iP (uN _)
  have lim:levels.length+more.length<=10000:=by have:=hh.2;simp at this;omega
  have AE:=un hs
  have z1:=cT.size
  have hF':=HF.out
  have G1:=cH (zH.but cT (fun b hb=>⟨HF.out b hb,hb⟩) mP)
  have G2:=cH (zH.but cT (fun b hb=>⟨HF.out b hb,hb⟩) mV)
  have W1:zM 1 lv levels.length xs1 w1:=srcSl_but cT hF' eJ g1
  have W2:zM 1 mv more.length xs2 w1:=srcSl_but cT hF' iP g2
  clear hF' mP mV g1 g2 c1 c2 c3
  obtain ⟨a1,k1,rfl⟩:=W1.slice
  obtain ⟨a2,k2,rfl⟩:=W2.slice
  have l1':b1<w1.heap.size:=by omega
  have l2':b2<w1.heap.size:=by omega
  have l3':b3<w1.heap.size:=by omega
  go_wp2_with fail
  have HW:=cH (IntWalk.i64_in (d:Int) (by omega))
  go_region_held3 (fun w'=>w'.cell? ⟨b1,0,none⟩=some (.pointer (some ⟨sr,0,none⟩))/\w'.cell? ⟨b2,0,none⟩=some (.slice a1 levels.length k1)/\w'.cell? ⟨b3,0,none⟩=some (.int .i64 ((d:Int)+1)))
   (first
    | exact ⟨(fU.cell l1' n1).trans d1,(fU.cell l2' n2).trans d2,(fU.cell l3' n3).trans d3⟩
    | exact ⟨(hbb.cell l1').trans d1,(hbb.cell l2').trans d2,(hbb.cell l3').trans d3⟩
    | go_keep)
   (first
    | (go_at_call 72;refine (concatK_any w1.heap.size levels.length more.length (.slice a1 levels.length k1) (.slice a2 more.length k2) xs1 xs2 _ (by simp) (by simp) (W1.keep fun _ _ h=>by simpa using zX h) (W2.keep fun _ _ h=>by simpa using zX h) (show _<=_ by omega) (show _<=_ by omega) (show _<=_ by omega)).mono ?_;rintro en wc ⟨ac,kc,rfl,hoc,sn,hfc⟩;obtain ⟨hbb,AO,rA,hrc⟩:=part_pre hg hn AE cT d7 HF.out G1.out G2.out (((cE w1.heap.size w1).alloc (cC _) _).drew) hoc sn hfc)
    | (go_at_call 46
       rw [HW.out]
       refine (IH.out sr left (levels++more) r1 _ (fun b=>b≠sr) wc AO hn rA hl (hr.mono h1.le) hh hrc (fun b h=>h)).mono ?_
       rintro en wf ⟨v,r',left',rfl,hbf,fp,Cb,hyf⟩;have fU:=(But.ofBelow (m:=fun x=>x=sr) hbb).trans hbf))
  go_wp2_with fail
  go_ret
  refine ⟨v,r',left',rfl,cT.trans fU,fp,fun h=>Cb ?_,fun b rest ct h=>?_⟩
  ·simpa [qQ,h1.out] using h
  ·obtain ⟨e1,e2,e3⟩:=hyf b rest ct (by simpa [qQ,h1.out] using h)
   exact ⟨e1,e2,(Rep.keep fun b o h ho=>⟨by have:=h;have:=hbb.size;omega,ho⟩).1 _ _ e3⟩
theorem kO.cell1 {sc:Nat} {c:List Value} {e:TypeId} {r:Bs} {u:Value} {w:World} (h:kO sc (u::c) e r w):w.cell? ⟨sc,1,none⟩=some u:=by
 simp [World.cell?,kO] at *;simp [h]
theorem kO.put1 {sc:Nat} {c:List Value} {e:TypeId} {r:Bs} {u u':Value} {w:World} (h:kO sc (u::c) e r w):kO sc (u'::c) e r (w.setCell ⟨sc,1,none⟩ u'):=by
 unfold kO at *
 have cL:=zZ h
 have h':w.heap[sc]=.cells (str r::u::c).toArray e (0,0):=by simpa [Array.getElem?_eq_getElem cL] using h
 show (w.heap.modify sc _)[sc]? = _
 rw [Array.getElem?_eq_getElem (by simpa using cL),Array.getElem_modify_self,h']
 simp
def gG (B sr:Nat) (lv:Value) (d:Nat) (w:World):Prop :=
 w.cell? ⟨B,0,none⟩=some (.pointer (some ⟨sr,0,none⟩))/\w.cell? ⟨B+1,0,none⟩=some lv/\w.cell? ⟨B+1+1,0,none⟩=some (.int .i64 (d:Int))
theorem gG.but {B sr:Nat} {lv:Value} {d:Nat} {m:Nat->Prop} {w w':World} (h:gG B sr lv d w) (hb:But m w w') (hm:∀ i,m i->i≠B/\i≠B+1/\i≠B+1+1):gG B sr lv d w':=by
 obtain ⟨h1,h2,h3⟩:=h
 refine ⟨?_,?_,?_⟩
 ·rw [hb.cell (cD w _ h1) (fun e=>(hm _ e).1 rfl)];exact h1
 ·rw [hb.cell (cD w _ h2) (fun e=>(hm _ e).2.1 rfl)];exact h2
 ·rw [hb.cell (cD w _ h3) (fun e=>(hm _ e).2.2 rfl)];exact h3
def vN (ob v:Nat) (slv y n:Value) (w:World):Prop:=w.heap[ob]? = some (.cells #[str [],.int .i64 v,slv,y,n] 120 (0,0))
theorem vN.cells {ob v:Nat} {slv y n:Value} {w:World} (h:vN ob v slv y n w):w.cell? ⟨ob,2,none⟩=some slv/\w.cell? ⟨ob,3,none⟩=some y/\w.cell? ⟨ob,4,none⟩=some n/\ob<w.heap.size/\(∀ o,w.frozen? ⟨ob,o,none⟩=false):=by
 have hl:=zZ h
 unfold vN at h
 exact ⟨by simp [World.cell?,h],by simp [World.cell?,h],by simp [World.cell?,h],hl,fun o=>by simp [World.frozen?,h]⟩
theorem zu {w:World} {b o:Nat} {c:Array Value} {e:TypeId} {u:Value} (h:w.heap[b]? = some (.cells c e (0,0))):(w.setCell ⟨b,o,none⟩ u).heap[b]? = some (.cells (c.setIfInBounds o u) e (0,0)):=by
 have cL:=zZ h
 have h':w.heap[b]=.cells c e (0,0):=by simpa [Array.getElem?_eq_getElem cL] using h
 show (w.heap.modify b _)[b]? = _
 rw [Array.getElem?_eq_getElem (by simpa using cL),Array.getElem_modify_self,h']
 simp
theorem vN.put2 {ob v:Nat} {slv y n u:Value} {w:World} (h:vN ob v slv y n w):vN ob v u y n (w.setCell ⟨ob,2,none⟩ u):=by
 unfold vN;rw [zu h];rfl
theorem vN.put3 {ob v:Nat} {slv y n u:Value} {w:World} (h:vN ob v slv y n w):vN ob v slv u n (w.setCell ⟨ob,3,none⟩ u):=by
 unfold vN;rw [zu h];rfl
theorem vN.put4 {ob v:Nat} {slv y n u:Value} {w:World} (h:vN ob v slv y n w):vN ob v slv y u (w.setCell ⟨ob,4,none⟩ u):=by
 unfold vN;rw [zu h];rfl
def wo (sr B ob Z v d:Nat) (lv:Value) (levels ts:List Ty) (rR:Nat) (r0:Bs) (w:World) (rd:Rd) (k:Nat) (wr:World):Prop :=
 ∃ bs lk leftk slv vs,ze rd (zp levels (ts.take k)) rR r0=some (bs,lk,leftk)/\But (fun x=>x=sr) w wr/\kO sr [.int .i64 (leftk:Nat)] 111 lk wr /\
   vN ob v slv (.pointer none) (.pointer none) wr/\Own wr 55 1 slv k vs/\(∀ g,slv.ownBlock=some g->Z<=g)/\zH (fun b=>Z<=b/\slv.ownBlock≠some b) wr (qW bs) vs/\gG B sr lv (d+1) wr/\Z<=wr.heap.size
theorem wv (a b:List Bd):qW (a++b)=qW a++qW b:=by
 induction a with
 | nil=>rfl
 | cons t ts ih=>simp [qW,ih]
theorem Tryz.infoB:(Tryz.prog.info? 55).map (fun i=>(i.zero,i.size,i.bytes))=some (some (.pointer none),1,8):=by kernel_rfl
theorem bR {sr left:Nat} {x:UInt8} {r:Bs} {w w2:World} {o:Option (Bd×Bs×Nat)} {u:Value} (hw:u=str [x]) (hm:o=some (.leaf x,r,left)) (hb:But (fun x=>x=sr) w w2) (hs:kO sr [.int .i64 (left:Nat)] 111 r w2) :
 jD sr w o (.returned (.pointer (some ⟨w2.heap.size,0,none⟩))) (w2.alloc (.cells #[u,.int .i64 0,.slice none 0 0,.pointer none,.pointer none] 120)):=by
 refine jD.yes hm (hb.alloc _) (hs.alloc _) ?_
 rw [kr,vp]
 refine ⟨_,_,rfl,hb.size,zT _ _,?_⟩
 subst hw
 refine zV.2 ⟨_,_,rfl,zj.2 rfl,zV.2 ⟨_,_,rfl,zj.2 rfl,zV.2 ⟨_,_,rfl,?_,zV.2 ⟨_,_,rfl,zj.2 rfl,zV.2 ⟨_,_,rfl,zj.2 rfl,zF.2 rfl⟩⟩⟩⟩⟩
 exact kM.2 ⟨rfl,none,0,rfl,cC _,fun _=>rfl,.inl rfl⟩
theorem ke.next {d:Nat} {levels:List Ty} {v:Nat} {t a:Ty} (h:ke (d+1) levels) (hv:levels[v]? = some t) (ha:a∈t.args):ke d (levels++a.args):=by
 have ht:=h.1 t (List.mem_of_getElem? hv)
 have eX:∀ ts:List Ty,∀ a∈ts,1+zU a<=zR ts:=by
  intro ts
  induction ts with
  | nil=>simp
  | cons x xs ih =>
    intro a ha
    rcases List.mem_cons.1 ha with rfl | ha
    ·simp [zR]
    ·have:=ih a ha;simp [zR];omega
 have cA:∀ ts:List Ty,ts.length<=zR ts:=by
  intro ts
  induction ts with
  | nil=>simp
  | cons x xs ih=>simp [zR];omega
 have h1:=eX _ a ha
 have h2:=zg t
 have h3:=zg a
 refine ⟨fun x hx=>?_,?_⟩
 ·rcases List.mem_append.1 hx with hx | hx
  ·exact h.1 x hx
  ·have:=eX _ x hx;omega
 ·have:=cA a.args;have:=h.2;simp;omega
theorem ke.same {d:Nat} {levels:List Ty} (h:ke (d+1) levels):ke d (levels++[]):=by
 refine ⟨fun x hx=>h.1 x (by simpa using hx),?_⟩
 have:=h.2;simp;omega
theorem wo.next {sr B ob Z v d:Nat} {lv:Value} {levels ts:List Ty} {rR:Nat} {r0:Bs} {w:World} {rd:Rd} {k:Nat} {wr w1 w2:World} {t:Ty} {bs:List Bd} {lk:Bs} {leftk:Nat} {slv:Value} {vs:List Value}
 {b:Bd} {rest:Bs} {ct:Nat} {vb:Value} {o:Obj} {a':Option Addr} {c':Nat}
 (ht:ts[k]? = some t) (hp:ze rd (zp levels (ts.take k)) rR r0=some (bs,lk,leftk)) (hb:But (fun x=>x=sr) w wr)
 (ez:vN ob v slv (.pointer none) (.pointer none) wr) (hZ:∀ g,slv.ownBlock=some g->Z<=g) (cw:Own wr 55 1 slv k vs) (hr:zH (fun b=>Z<=b/\slv.ownBlock≠some b) wr (qW bs) vs) (hx:gG B sr lv (d+1) wr)
 (hz:Z<=wr.heap.size) (hq:qQ rd (levels++t.args) leftk lk=some (b,rest,ct))
 (cT:But (fun x=>x=sr) wr w1) (d7:kO sr [.int .i64 (ct:Nat)] 111 rest w1) (hv:Rep (wr.heap.size<=·) w1 (kr b) vb)
 (tB:Own w2 55 1 (.slice a' (k+1) c') (k+1) (vs++[vb])) (cS:But (fun b=>slv.ownBlock=some b) (w1.alloc o) w2) (hg:∀ g,(Value.slice a' (k+1) c').ownBlock=some g->slv.ownBlock=some g\/g=(w1.alloc o).heap.size)
 (AE:sr<w.heap.size) (hB:w.heap.size<=B) (sj:B+1+1<ob) (hobZ:ob<Z) :
 wo sr B ob Z v d lv levels ts rR r0 w rd (k+1) (w2.setCell ⟨ob,2,none⟩ (.slice a' (k+1) c')):=by
 have z1:=cT.size;have z2:=cS.size;have zw:=hb.size
 rw [zK] at hg z2
 have cL:∀ g,slv.ownBlock=some g->g<wr.heap.size:=fun g h=>cw.lt h
 have hnsr:∀ g,slv.ownBlock=some g->Z<=g:=hZ
 have keep:∀ i x,w1.heap[i]? = some x->slv.ownBlock≠some i->i≠ob->(w2.setCell ⟨ob,2,none⟩ (.slice a' (k+1) c')).heap[i]? = some x:=by
  intro i x hi hne ho
  rw [cF _ _ _ _ (by simpa using ho),cS.block i (by rw [zK];have:=zZ hi;omega) hne]
  exact zY hi
 have Cf:vN ob v slv (.pointer none) (.pointer none) w1:=(cT.block ob (zZ ez) (by omega)).trans ez
 have hnb2:vN ob v slv (.pointer none) (.pointer none) w2:=by
  unfold vN;rw [cS.block ob (by rw [zK];have:=zZ Cf;omega) (fun e=>by have:=hZ ob e;omega)]
  exact zY Cf
 have mP:=hx.but cT (fun i e=>by subst e;omega)
 refine ⟨bs++[b],rest,ct,_,vs++[vb],?_,?_,?_,hnb2.put2,?_,?_,?_,?_,?_⟩
 ·rw [bj ht hp,hq];rfl
 ·refine ((hb.trans cT).trans' ((But.refl (fun b=>slv.ownBlock=some b) w1).alloc o |>.trans cS) fun i hi e=>?_).setCell (p:=⟨ob,2,none⟩) (.inr (by simp;omega)) _
  have:=hZ i e;omega
 ·exact keep sr _ d7 (fun e=>by have:=hZ sr e;omega) (by omega)
 ·refine tB.keep fun g x dF r_=>?_
  rw [cF _ _ _ _ (by
   rcases hg g dF with h | h
   ·have:=hZ g h;simp;omega
   ·simp;omega)]
  exact r_
 ·intro g h
  rcases hg g h with h | h
  ·exact hZ g h
  ·omega
 ·rw [wv]
  refine zH.append ?_ (zH.one ?_)
  ·refine (Rep.keep fun i x hi r_=>⟨⟨hi.1,fun e=>?_⟩,?_⟩).2 _ _ hr
   ·have hne:i≠sr:=by omega
    exact keep i x (by rw [cT.block i (zZ r_) hne];exact r_) hi.2 (by omega)
   ·rcases hg i e with h | h
    ·exact hi.2 h
    ·have:=zZ r_;omega
  ·refine (Rep.keep fun i x hi r_=>⟨⟨by have:=hi;omega,fun e=>?_⟩,?_⟩).1 _ _ hv
   ·exact keep i x r_ (fun e=>by have:=cL i e;have:=hi;omega) (by have:=hi;omega)
   ·rcases hg i e with h | h
    ·have:=cL i h;have:=hi;omega
    ·have:=zZ r_;omega
 ·obtain ⟨y1,y2,y3⟩:=mP
  have ck:∀ i u,w1.cell? ⟨i,0,none⟩=some u->slv.ownBlock≠some i->i≠ob->(w2.setCell ⟨ob,2,none⟩ (.slice a' (k+1) c')).cell? ⟨i,0,none⟩=some u:=by
   intro i u hi hne ho
   rw [World.cell?_of_block (w:=w1) (a:=⟨i,0,none⟩) ?_];exact hi
   have hl:=cD w1 _ hi
   obtain ⟨x,r_⟩:∃ x,w1.heap[i]? = some x:=⟨w1.heap[i],by simp at hl;simp [hl]⟩
   show (w2.setCell ⟨ob,2,none⟩ (.slice a' (k+1) c')).heap[i]? = w1.heap[i]?
   rw [keep i x r_ hne ho,r_]
  exact ⟨ck _ _ y1 (fun e=>by have:=hZ _ e;omega) (by omega),ck _ _ y2 (fun e=>by have:=hZ _ e;omega) (by omega),ck _ _ y3 (fun e=>by have:=hZ _ e;omega) (by omega)⟩
 ·simp only [World.setCell];simp;omega
theorem body_ask (d:Nat) (hd:d+1<=1000) (ih:xW d) (sr left:Nat) (levels:List Ty) (l:Bs) (lv:Value) (F:Nat->Prop) (w:World) (hg:qL w) (hn:gR sr)
 (hs:kO sr [.int .i64 ((left+1:Nat):Int)] 111 l w) (hl:left+1<=1000) (hr:Lim l.length) (hh:ke (d+1) levels)
 (eJ:Rep F w (.sl 49 1 levels.length (qC levels)) lv) (hF:∀ b,F b->b≠sr) (r1:Bs) (v:Nat) (t:Ty) (h1:Cut [40] l r1) (sW:lvl (zS r1) levels.length=some v) (ht:levels[v]? = some t) :
 Calls Tryz.prog 46 #[.pointer (some ⟨sr,0,none⟩),lv,.int .i64 ((d:Int)+1)] w (jD sr w (rdB (d+1) levels (left+1) l)):=by
 have HM:=cH (wC (d+1) levels left h1.out)
 have hm:rdB (d+1) levels (left+1) l=bJ (rdB d) levels v t left (zE r1):=by rw [HM.out,sW];simp only [ht]
 have HM:=cH hm;clear hm
 rw [rdAsk_eq] at HM
 have IH:=cH ih;clear ih
 obtain ⟨mY,co,sP⟩:=lvl_lt sW
 have ff:=cH co;have ou:=cH sP;have hlvl':=cH sW;have HT:=cH ht
 have c1:=hs.cell1
 have f1:=hs.free 1
 have lsr:=un hs
 have lsr1:sr<w.heap.size+1:=by omega
 have lsr2:sr<w.heap.size+1+1:=by omega
 obtain ⟨a0,k0,elv,_,_,hat⟩:=zC eJ
 obtain ⟨bl,ol,u,dv,ea,hFl,_,iR,fv,fK⟩:=hat v mY
 rw [uK,ht] at iR
 simp only [Option.map_some,Option.some.injEq] at iR
 subst iR;subst ea;subst elv
 obtain ⟨bt,st,eu,hFt,lR,dI⟩:=zO fK
 subst eu
 obtain ⟨sa,ks,est,hks,_,dj⟩:=zC dI
 subst est
 have Da:w.cell? ⟨bt,0,none⟩=some (.slice sa t.args.length ks):=by simp [World.cell?,lR]
 have nl:=hF bl hFl
 have nt:=hF bt hFt
 have HF:=cH hF;have aE:=cH dj
 have CL:=cH fv;have CT:=cH Da
 clear co sP sW ht hat fK lR dI hF dj fv Da
 have cA:levels.length<=10000:=by have:=hh.2;omega
 have mX:t.args.length<=15:=by
  have h1:=hh.1 t (List.mem_of_getElem? HT.out)
  have h2:=zg t
  have cA:∀ ts:List Ty,ts.length<=zR ts:=by
   intro ts
   induction ts with
   | nil=>simp
   | cons x xs ih=>simp [zR];omega
  have:=cA t.args;omega
 go_enter Tryz.func46,Tryz.ntmps46
 go_wp2_with fail
 obtain ⟨W0,e9⟩:=zzM (((((w.setCell ⟨sr,1,none⟩ (.int .i64 left)).alloc (.cells #[.pointer (some ⟨sr,0,none⟩)] 109)).alloc (.cells #[.slice (some ⟨bl,ol,none⟩) levels.length k0] 52)).alloc (.cells #[.int .i64 ((d:Int)+1)] 3)))
 rw [<- e9]
 have mM:But (fun x=>x=sr) w W0:=by subst e9;exact ((((But.refl _ _).setS 1 _).alloc _).alloc _).alloc _
 have eC:kO sr [.int .i64 left] 111 l W0:=by subst e9;exact ((hs.put1).alloc _).alloc _ |>.alloc _
 have oJ:gG w.heap.size sr (.slice (some ⟨bl,ol,none⟩) levels.length k0) (d+1) W0:=by subst e9;refine ⟨?_,?_,?_⟩ <;> go_simp
 have z0:W0.heap.size=w.heap.size+3:=by subst e9;simp
 clear e9 c1 f1
 refine (vU eC h1).mono ?_
 rintro en w1 ⟨rfl,cT,d7⟩
 have mP:=oJ.but cT (fun i e=>by subst e;omega)
 have hb:=mM.trans cT
 have z1:=cT.size
 clear mM cT eC oJ
 obtain ⟨x1,x2,x3⟩:=id mP
 go_wp2_with fail
 refine (gx _ _ _ _ _ d7 (hr.mono h1.le)).mono ?_
 rintro en w2 ⟨rfl,cS,eA⟩
 have dH:=hr.mono h1.le
 have a9:=dH.mono (show (zS r1).length<=r1.length by have:=word_le r1;omega)
 have mV:=mP.but cS (fun i e=>by subst e;omega)
 have dW:=hb.trans cS
 have z2:=cS.size
 have mr:=hg.but dW (fun i e=>by subst e;exact hn)
 clear x1 x2 x3 hb cS d7 mP
 go_wp2_with fail
 refine (atoi_ok _ _ a9 (v:Int) ff.out).mono ?_
 rintro en w3 ⟨rfl,cr⟩
 have z3:=cr.size
 have sG:=mr.below cr
 have mG:=(cr.block sr (by omega)).trans eA
 have aR:=mV.but (But.ofBelow (m:=fun _=>False) cr) (fun i e=>e.elim)
 have hb:=dW.trans (But.ofBelow cr)
 clear dW cr eA mV mr
 go_wp2_with fail
 refine (itoa_of ff.out w3 sG).mono ?_
 rintro en w4 ⟨rfl,dJ⟩
 have z4:=dJ.size
 have mh:=(dJ.block sr (by omega)).trans mG
 have hg4:=sG.below dJ
 have Bm:=aR.but (But.ofBelow (m:=fun _=>False) dJ) (fun i e=>e.elim)
 obtain ⟨x1,x2,x3⟩:=id Bm
 have dW:=hb.trans (But.ofBelow dJ)
 have hq:(Lib.itoa (v:Int) == zS r1)=true:=by rw [beq_iff_eq];exact ou.out
 have io:decide ((v:Int)<0)=false:=by rw [decide_eq_false_iff_not];omega
 have m8:decide (levels.length<=v)=false:=by rw [decide_eq_false_iff_not];omega
 have th:(((d:Int)+1) == 0)=false:=by rw [beq_eq_false_iff_ne];omega
 have s1:w.heap.size+1<w4.heap.size:=by omega
 have s2:w.heap.size<w4.heap.size:=by omega
 have s3:w.heap.size+1+1<w4.heap.size:=by omega
 have d1:w4.cell? ⟨bl,ol+v,none⟩=some (.pointer (some ⟨bt,0,none⟩)):=by rw [dW.cell (cD w _ CL.out) nl];exact CL.out
 have d2:w4.cell? ⟨bt,0,none⟩=some (.slice sa t.args.length ks):=by rw [dW.cell (cD w _ CT.out) nt];exact CT.out
 have d3:=cD w4 _ d1
 have d4:=cD w4 _ d2
 clear hb dJ mG aR sG
 go_wp2_with fail
 have eD:wo sr w.heap.size w4.heap.size (w4.heap.size+1) v d (.slice (some ⟨bl,ol,none⟩) levels.length k0) levels t.args left (zE r1) w (rdB d) 0
  (w4.alloc (.cells #[.string ⟨#[]⟩,.int .i64 v,.slice none 0 0,.pointer none,.pointer none] 120)):=by
  refine ⟨[],zE r1,left,.slice none 0 0,[],by simp [zp,ze],dW.alloc _,kO.alloc mh _,zT _ _,World.ownsRow_nil _ _ _ _,fun g h=>by simp [Value.ownBlock] at h,zF.2 rfl,Bm.but ((But.refl (fun _=>False) _).alloc _) (fun i e=>e.elim),by simp⟩
 have hz4:w.heap.size+1+1<w4.heap.size:=s3
 clear x1 x2 x3 d1 d2 d3 d4 Bm mh dW hg4
 generalize hZ:w4.heap.size+1=Z at eD
 generalize hO:w4.heap.size=ob at *
 have HZ:=cH hZ;clear hZ
 have HO:=cH hO;clear hO
 go_loopw [93] (fun i wr=>∃ k:Nat,k<=t.args.length/\i=.int .i64 k/\wo sr w.heap.size ob Z v d (.slice (some ⟨bl,ol,none⟩) levels.length k0) levels t.args left (zE r1) w (rdB d) k wr)
  (fun i _=>t.args.length-(intOf i).toNat)
 case atStart=>exact ⟨0,Nat.zero_le _,rfl,eD⟩
 case round =>
  clear eD
  rename_i wr
  obtain ⟨k,hk,rfl,hrel⟩:=hrel
  obtain ⟨bs,lk,leftk,slv,vs,hp,hb,aS,ez,cw,hZb,dX,fu,hzr⟩:=hrel
  have hple:=yV (bQ d) _ hp
  have Co:leftk<=1000:=by omega
  have AA:=uW r1
  have tI:Lim lk.length:=hr.mono (by have:=h1.le;omega)
  have hgk:qL wr:=hg.but hb (fun i e=>by subst e;exact hn)
  have oL:Rep F wr (.sl 49 1 levels.length (qC levels)) (.slice (some ⟨bl,ol,none⟩) levels.length k0):=Rep.but hb (fun b hb=>⟨HF.out b hb,hb⟩) eJ
  have AH:=cH hp;have lz:=cH hZb;clear hp hZb hple
  by_cases cL:k<t.args.length
  ·obtain ⟨ba,oa,uk,dk,esa,hFa,_,rv,sE,mf⟩:=aE.out k cL
   subst esa
   rw [uK,Option.map_eq_some_iff] at rv
   obtain ⟨tk,d6,rfl⟩:=rv
   obtain ⟨bk,sk,euk,hFk,Dc,oH⟩:=zO mf
   subst euk
   obtain ⟨ask,ksk,esk⟩:∃ a c,sk=.slice a tk.args.length c:=by obtain ⟨a,c,e,_⟩:=zC oH;exact ⟨a,c,e⟩
   subst esk
   have e1:wr.cell? ⟨ba,oa+k,none⟩=some (.pointer (some ⟨bk,0,none⟩)):=by rw [hb.cell (cD w _ sE) (HF.out ba hFa)];exact sE
   have e2:wr.cell? ⟨bk,0,none⟩=some (.slice ask tk.args.length ksk):=by
    have:w.cell? ⟨bk,0,none⟩=some (.slice ask tk.args.length ksk):=by simp [World.cell?,Dc]
    rw [hb.cell (cD w _ this) (HF.out bk hFk)];exact this
   have Bw:Rep F wr (.sl 49 1 tk.args.length (qC tk.args)) (.slice ask tk.args.length ksk):=Rep.but hb (fun b hb=>⟨HF.out b hb,hb⟩) oH
   have lD:ke d (levels++tk.args):=hh.next HT.out (List.mem_of_getElem? d6)
   have HTK:=cH d6
   clear d6 sE Dc mf oH
   obtain ⟨y1,y2,y3⟩:=id fu
   go_wp2_with fail
   refine (bH d IH.out sr leftk levels tk.args lk _ _ F wr w.heap.size (w.heap.size+1) (w.heap.size+1+1) hgk hn aS Co tI lD (by omega) oL Bw HF.out y1 y2 y3 (by omega) (by omega) (by omega)).mono ?_
   rintro en w5 ⟨vb,r',left',rfl,dK,aT,tN,tZ⟩
   clear y1 y2 y3 e1 e2
   cases hq:qQ (rdB d) (levels++tk.args) leftk lk with
   | none =>
     obtain rfl:=tN hq
     have HQ:=cH hq;clear hq tN tZ
     go_wp2_with fail
     go_ret
     refine jD.no ?_ (hb.trans dK) aT
     rw [HM.out,hands_none (k+1) (by rw [bj HTK.out AH.out,HQ.out];rfl)];rfl
   | some x =>
     obtain ⟨b,rest,ct⟩:=x
     obtain ⟨rfl,rfl,AD⟩:=tZ b rest ct hq
     have HQ:=cH hq;clear hq tN tZ
     obtain ⟨ab,evb⟩:=kC AD
     subst evb
     have sX:vN ob v slv (.pointer none) (.pointer none) w5:=(dK.block ob (zZ ez) (by have:=HO.out;omega)).trans ez
     obtain ⟨q1,_,_,q4,q5⟩:=sX.cells
     have q6:=q5 2
     have BW:Own w5 55 1 slv k vs:=cw.keep fun g o dF ho=>by rw [dK.block g (zZ ho) (by have:=lz.out g dF;have:=HZ.out;omega)];exact ho
     clear q5
     go_wp2_with (at_builtin;refine zG rfl _ _ 66 rfl 55 (.pointer none) 1 8 Tryz.underlying66 Tryz.infoB rfl (by decide) slv k vs rfl ?c1 _ 1 [.pointer (some ⟨ab,0,none⟩)] rfl ?c2 ?c3 ?c4 ?_)
     case c1=>exact BW.keep fun g o dF ho=>zY ho
     case c2=>exact zM.lit rfl
     case c3=>unfold maxLen;omega
     case c4=>omega
     intro a' c' w6 tB cd dF
     have iX:vN ob v slv (.pointer none) (.pointer none) w6:=by
      unfold vN;rw [cd.block ob (by simp;omega) (fun e=>by have:=lz.out ob e;have:=HZ.out;omega)]
      exact zY sX
     have Cc:=wo.next HTK.out AH.out hb ez lz.out cw dX fu hzr HQ.out dK aT AD tB cd (fun g h=>(dF g h).imp_right fun e=>e.trans (by simp)) lsr (cC _) hz4 (by have:=HZ.out;omega)
     obtain ⟨p1,_,_,p4,p5⟩:=iX.cells
     have p6:=p5 2
     have HG:=cH dF;clear dF p5
     go_wp2_with fail
     go_roundw
     case rel=>exact ⟨k+1,by omega,by go_num,Cc⟩
     case measure=>simp [intOf];omega
  ·obtain rfl:k=t.args.length:=by omega
   have hp:ze (rdB d) (zp levels t.args) left (zE r1)=some (bs,lk,leftk):=by have:=AH.out;rwa [List.take_length] at this
   have HP:=cH hp;clear hp AH cL hk
   have ft:∀ W:World,Rep F W (.sl 49 1 ([]:List Ty).length (qC [])) (.slice none 0 0):=fun W=>kM.2 ⟨rfl,none,0,rfl,cC _,fun _=>rfl,.inl rfl⟩
   have hh0:=hh.same
   have D9:=cH ft;clear ft
   obtain ⟨y1,y2,y3⟩:=id fu
   go_wp2_with fail
   refine (bH d IH.out sr leftk levels [] lk _ _ F wr w.heap.size (w.heap.size+1) (w.heap.size+1+1) hgk hn aS Co tI hh0 (by omega) oL (D9.out wr) HF.out y1 y2 y3 (by omega) (by omega) (by omega)).mono ?_
   rw [List.append_nil] at *
   rintro en w5 ⟨vb,r',left',rfl,dK,aT,tN,tZ⟩
   clear y1 y2 y3
   have sX:vN ob v slv (.pointer none) (.pointer none) w5:=(dK.block ob (zZ ez) (by have:=HO.out;omega)).trans ez
   have Di:=fu.but dK (fun i e=>by subst e;omega)
   have dm:=hb.trans dK
   have z5:=dK.size
   have zr:=hb.size
   obtain ⟨_,q2,_,q4,q5⟩:=sX.cells
   have q6:=q5 3;clear q5
   cases hq:qQ (rdB d) levels leftk lk with
   | none =>
     obtain rfl:=tN hq
     have HQ:=cH hq;clear hq tN tZ
     go_wp2_with fail
     go_ret
     refine jD.no ?_ (dm.setCell (p:=⟨ob,3,none⟩) (.inr (by simp;omega)) _) (r:=r') (left:=left') ?_
     ·rw [HM.out];simp only [HP.out,Option.bind_eq_bind,Option.bind_some,HQ.out,Option.bind_none]
     ·unfold kO;rw [cF _ _ _ _ (by simp;omega)];exact aT
   | some x =>
     obtain ⟨by1,rest1,eH⟩:=x
     obtain ⟨rfl,rfl,AD⟩:=tZ _ _ _ hq
     have hle5:=ux (bQ d) hq
     have HQ:=cH hq;clear hq tN tZ
     obtain ⟨ab,evb⟩:=kC AD
     subst evb
     have oT:=sX.put3 (u:=.pointer (some ⟨ab,0,none⟩))
     obtain ⟨WA,AX⟩:=zzM (w5.setCell ⟨ob,3,none⟩ (.pointer (some ⟨ab,0,none⟩)))
     go_wp2_with fail
     rw [<- AX] at oT ⊢
     have rD:But (fun x=>x=sr) w WA:=by subst AX;exact dm.setCell (p:=⟨ob,3,none⟩) (.inr (by simp;omega)) _
     have kA:∀ i x,w5.heap[i]? = some x->i≠ob->WA.heap[i]? = some x:=by
      intro i x hx hne;subst AX;rw [cF _ _ _ _ (by simpa using hne)];exact hx
     have zA:WA.heap.size=w5.heap.size:=by subst AX;simp [World.setCell]
     have hsA:kO sr [.int .i64 (eH:Nat)] 111 r' WA:=kA _ _ aT (by omega)
     have Dh:gG w.heap.size sr (.slice (some ⟨bl,ol,none⟩) levels.length k0) (d+1) WA:=by
      subst AX
      exact Di.but (m:=fun i=>i=ob) ((But.refl (fun i=>i=ob) w5).setCell (p:=⟨ob,3,none⟩) (.inl rfl) _) (fun i e=>by subst e;omega)
     have hrsA:zH (fun b=>Z<=b/\slv.ownBlock≠some b) WA (qW bs) vs :=
      (Rep.keep fun i x hi hx=>⟨hi,kA i x (by rw [dK.block i (zZ hx) (by have:=HZ.out;omega)];exact hx) (by have:=HZ.out;omega)⟩).2 _ _ dX
     have BV:Own WA 55 1 slv t.args.length vs:=cw.keep fun g o dF ho=>kA g o (by rw [dK.block g (zZ ho) (by have:=lz.out g dF;have:=HZ.out;omega)];exact ho) (by have:=lz.out g dF;have:=HZ.out;omega)
     have hv5A:Rep (wr.heap.size<=·) WA (kr by1) (.pointer (some ⟨ab,0,none⟩)):=(Rep.keep fun i x hi hx=>⟨hi,kA i x hx (by have:=zZ ez;have:=hi;omega)⟩).1 _ _ AD
     have CK:qL WA:=hg.but rD (fun i e=>by subst e;exact hn)
     have hlvA:Rep F WA (.sl 49 1 levels.length (qC levels)) (.slice (some ⟨bl,ol,none⟩) levels.length k0):=Rep.but rD (fun b hb=>⟨HF.out b hb,hb⟩) eJ
     have KA:=cH kA
     clear AX kA q2 q4 q6 sX dK Di aT dX AD aS fu oL hgk
     obtain ⟨y1,y2,y3⟩:=id Dh
     refine (bH d IH.out sr eH levels [] r' _ _ F WA w.heap.size (w.heap.size+1) (w.heap.size+1+1) CK hn hsA (by omega) (tI.mono (by omega)) (by rw [List.append_nil];exact hh0) (by omega) hlvA (D9.out WA) HF.out y1 y2 y3 (by omega) (by omega) (by omega)).mono ?_
     rw [List.append_nil] at *
     rintro en w6 ⟨vn,r6,Bi,rfl,cd,sJ,rz,s_⟩
     clear y1 y2 y3
     have iX:vN ob v slv (.pointer (some ⟨ab,0,none⟩)) (.pointer none) w6:=(cd.block ob (zZ oT) (by have:=HO.out;omega)).trans oT
     have hbx6:=Dh.but cd (fun i e=>by subst e;omega)
     obtain ⟨x1,_,_⟩:=id hbx6
     have n9:=rD.trans cd
     have z6:=cd.size
     obtain ⟨_,_,q3,q4,q5⟩:=iX.cells
     have q6:=q5 4;clear q5
     cases nH:qQ (rdB d) levels eH r' with
     | none =>
       obtain rfl:=rz nH
       have ai:=cH nH;clear nH rz s_
       go_wp2_with fail
       go_ret
       refine jD.no ?_ (n9.setCell (p:=⟨ob,4,none⟩) (.inr (by simp;omega)) _) (r:=r6) (left:=Bi) ?_
       ·rw [HM.out];simp only [HP.out,Option.bind_eq_bind,Option.bind_some,HQ.out,ai.out,Option.bind_none]
       ·unfold kO;rw [cF _ _ _ _ (by simp;omega)];exact sJ
     | some x =>
       obtain ⟨bn,rest2,ct⟩:=x
       obtain ⟨rfl,rfl,hv6⟩:=s_ _ _ _ nH
       have hle6:=ux (bQ d) nH
       have ai:=cH nH;clear nH rz s_
       obtain ⟨an,evn⟩:=kC hv6
       subst evn
       have Ce:=iX.put4 (u:=.pointer (some ⟨an,0,none⟩))
       have hbD:But (fun x=>x=sr) w (w6.setCell ⟨ob,4,none⟩ (.pointer (some ⟨an,0,none⟩))):=n9.setCell (p:=⟨ob,4,none⟩) (.inr (by simp;omega)) _
       have hsD:kO sr [.int .i64 (ct:Nat)] 111 r6 (w6.setCell ⟨ob,4,none⟩ (.pointer (some ⟨an,0,none⟩))):=by
        unfold kO;rw [cF _ _ _ _ (by simp;omega)];exact sJ
       go_wp2_with fail
       rcases z_ [41] r6 with h7 | ⟨r7,h7⟩
       ·refine (ui hsD h7).mono ?_
        rintro en w7 ⟨rfl,cq,iZ⟩
        go_wp2_with fail
        go_ret
        refine jD.no ?_ (hbD.trans cq) iZ
        rw [HM.out];simp only [HP.out,Option.bind_eq_bind,Option.bind_some,HQ.out,ai.out,h7.out,Option.bind_none]
       refine (vU hsD h7).mono ?_
       rintro en w7 ⟨rfl,cq,iZ⟩
       go_wp2_with fail
       go_ret
       refine jD.yes (b:=.ask v bs by1 bn) (r:=r7) (left:=ct) ?_ (hbD.trans cq) iZ ?_
       ·rw [HM.out];simp only [HP.out,Option.bind_eq_bind,Option.bind_some,HQ.out,ai.out,h7.out]
       ·have eB:∀ i x,w6.heap[i]? = some x->i≠ob->i≠sr->w7.heap[i]? = some x:=by
         intro i x hx hne tF
         rw [cq.block i (by have:=zZ hx;simpa [World.setCell] using this) tF,cF _ _ _ _ (by simpa using hne)];exact hx
        have keepA:∀ i x,WA.heap[i]? = some x->i≠ob->i≠sr->w7.heap[i]? = some x:=fun i x hx hne tF=>eB i x (by rw [cd.block i (zZ hx) tF];exact hx) hne tF
        have hnb7:vN ob v slv (.pointer (some ⟨ab,0,none⟩)) (.pointer (some ⟨an,0,none⟩)) w7:=(cq.block ob (zZ Ce) (by omega)).trans Ce
        have hZo:=HZ.out
        have dr:bs.length=t.args.length:=by
         have:=(yV (bQ d) _ HP.out).2.2;simpa [zp] using this
        rw [kr,vp]
        refine ⟨ob,_,rfl,by omega,hnb7,?_⟩
        refine zV.2 ⟨_,_,rfl,zj.2 rfl,zV.2 ⟨_,_,rfl,zj.2 rfl,zV.2 ⟨_,_,rfl,?_,zV.2 ⟨_,_,rfl,?_,zV.2 ⟨_,_,rfl,?_,zF.2 rfl⟩⟩⟩⟩⟩
        ·rw [dr]
         refine (BV.keep fun g o dF ho=>keepA g o ho (by have:=lz.out g dF;omega) (by have:=lz.out g dF;omega)).rep (fun g dF=>by have:=lz.out g dF;omega) ?_
         exact (Rep.keep fun i x hi hx=>⟨by omega,keepA i x hx (by omega) (by omega)⟩).2 _ _ hrsA
        ·exact (Rep.keep fun i x hi hx=>⟨by have:=hi;omega,keepA i x hx (by have:=hi;omega) (by have:=hi;omega)⟩).1 _ _ hv5A
        ·exact (Rep.keep fun i x hi hx=>⟨by have:=hi;omega,eB i x hx (by have:=hi;omega) (by have:=hi;omega)⟩).1 _ _ hv6
theorem body_step (d:Nat) (hd:d<=1000) (ih:∀ d',d=d'+1->xW d'):xW d:=by
 intro sr left levels l lv F w hg hn hs hl hr hh eJ hF
 have IH:=cH ih;clear ih
 have HF:=cH hF;clear hF
 have c1:=hs.cell1
 have f1:=hs.free 1
 have lsr:=un hs
 have lsr1:sr<w.heap.size+1:=by omega
 have lsr2:sr<w.heap.size+1+1:=by omega
 obtain ⟨a0,k0,elv⟩:∃ a k,lv=.slice a levels.length k:=by obtain ⟨a,k,e,_⟩:=zC eJ;exact ⟨a,k,e⟩
 subst elv
 rcases left with _ | left
 ·clear IH
  go_enter Tryz.func46,Tryz.ntmps46
  go_wp2_with fail
  go_ret
  refine jD.no (by unfold rdB;rfl) (((((But.refl _ _).setS 1 _).alloc _).alloc _).alloc _) (((hs.put1).alloc _).alloc _ |>.alloc _)
 by_cases Ag:∃ d' r1 v t,d=d'+1/\Cut [40] l r1/\lvl (zS r1) levels.length=some v/\levels[v]? = some t
 ·obtain ⟨d',r1,v,t,rfl,h1,h2,h3⟩:=Ag
  exact body_ask d' hd (IH.out d' rfl) sr left levels l _ F w hg hn hs hl hr hh eJ HF.out r1 v t h1 h2 h3
 have Eg:=cH Ag;clear Ag IH
 go_enter Tryz.func46,Tryz.ntmps46
 go_wp2_with fail
 obtain ⟨W0,e9⟩:=zzM (((((w.setCell ⟨sr,1,none⟩ (.int .i64 left)).alloc (.cells #[.pointer (some ⟨sr,0,none⟩)] 109)).alloc (.cells #[.slice a0 levels.length k0] 52)).alloc (.cells #[.int .i64 d] 3)))
 rw [<- e9]
 have mM:But (fun x=>x=sr) w W0:=by subst e9;exact ((((But.refl _ _).setS 1 _).alloc _).alloc _).alloc _
 have eC:kO sr [.int .i64 left] 111 l W0:=by subst e9;exact ((hs.put1).alloc _).alloc _ |>.alloc _
 have oJ:gG w.heap.size sr (.slice a0 levels.length k0) d W0:=by subst e9;refine ⟨?_,?_,?_⟩ <;> go_simp
 have z0:W0.heap.size=w.heap.size+3:=by subst e9;simp
 have hb0':=mM
 clear e9 c1 f1
 have n1:w.heap.size≠sr:=by omega
 have n2:w.heap.size+1≠sr:=by omega
 have n3:w.heap.size+1+1≠sr:=by omega
 rcases z_ [40] l with h1 | ⟨r1,h1⟩
 ·refine (ui eC h1).mono ?_
  rintro en w1 ⟨rfl,cT,d7⟩
  obtain ⟨x1,x2,x3⟩:=oJ.but cT (fun i e=>by subst e;omega)
  go_wp2_with fail
  refine (gx _ _ _ _ _ d7 hr).mono ?_
  rintro en w2 ⟨rfl,cS,eA⟩
  have hb:=(mM.trans cT).trans cS
  have hm:rdB d levels (left+1) l=(if zS l=[116] then some (Bd.leaf 116,zE l,left) else if zS l=[102] then some (.leaf 102,zE l,left) else if zS l=[117] then some (.leaf 117,zE l,left) else none):=by
   unfold rdB;simp only [h1.out]
  have HM:=cH hm;clear hm
  go_wp2_with fail
  ·have hw:zS l=[116]:=by assumption
   go_ret
   exact bR (o:=rdB d levels (left+1) l) (x:=116) rfl (by rw [HM.out,if_pos hw]) hb eA
  ·have hw:zS l=[102]:=by assumption
   go_ret
   exact bR (o:=rdB d levels (left+1) l) (x:=102) rfl (by rw [HM.out,if_neg (by rw [hw];decide),if_pos hw]) hb eA
  ·have hw:((!zS l == [116])=true/\(!zS l == [102])=true)/\(!zS l == [117])=true:=by assumption
   go_ret
   simp only [Bool.not_eq_true',beq_eq_false_iff_ne] at hw
   exact jD.no (by rw [HM.out,if_neg hw.1.1,if_neg hw.1.2,if_neg hw.2]) hb eA
  ·have hw:((!zS l == [116])=false\/(!zS l == [102])=false)\/(!zS l == [117])=false:=by assumption
   have eP:¬ zS l=[116]:=by assumption
   have oU:¬ zS l=[102]:=by assumption
   have hw3:zS l=[117]:=by simpa [eP,oU] using hw
   go_ret
   exact bR (o:=rdB d levels (left+1) l) (x:=117) (by rw [hw3]) (by rw [HM.out,if_neg eP,if_neg oU,if_pos hw3]) hb eA
 refine (vU eC h1).mono ?_
 rintro en w1 ⟨rfl,cT,d7⟩
 have mP:=oJ.but cT (fun i e=>by subst e;omega)
 obtain ⟨x1,x2,x3⟩:=mP
 go_wp2_with fail
 refine (gx _ _ _ _ _ d7 (hr.mono h1.le)).mono ?_
 rintro en w2 ⟨rfl,cS,eA⟩
 have dH:=hr.mono h1.le
 have hb:=(mM.trans cT).trans cS
 have mV:=(oJ.but cT (fun i e=>by subst e;omega)).but cS (fun i e=>by subst e;omega)
 clear x1 x2 x3
 have mr:=hg.but hb (fun i e=>by subst e;exact hn)
 have a9:=dH.mono (show (zS r1).length<=r1.length by have:=word_le r1;omega)
 have z2:=hb.size
 have z2':w.heap.size+3<=w2.heap.size:=by have:=cT.size;have:=cS.size;omega
 clear cT cS eC mM hb0' oJ d7
 have HM:=cH (wC d levels left h1.out)
 go_wp2_with fail
 cases fF:lvl (zS r1) levels.length with
 | none =>
   have HN:rdB d levels (left+1) l=none:=by rw [HM.out,fF]
   rcases lvl_no fF with mj | ⟨v,co,hv⟩
   ·refine (atoi_no _ _ a9 mr mj).mono ?_
    rintro en w3 ⟨v,t,p,rfl,cr⟩
    have lq:=cH HN;clear HN fF mj
    go_wp2_with fail
    go_ret
    exact jD.no lq.out (hb.trans (But.ofBelow cr)) ((cr.block sr (by omega)).trans eA)
   ·refine (atoi_ok _ _ a9 v co).mono ?_
    rintro en w3 ⟨rfl,cr⟩
    have lq:=cH HN;clear HN fF
    have sG:=mr.below cr
    have mG:=(cr.block sr (by omega)).trans eA
    have aR:=mV.but (But.ofBelow (m:=fun _=>False) cr) (fun i e=>e.elim)
    have ff:=cH co;clear co
    go_wp2_with fail
    refine (itoa_of ff.out w3 sG).mono ?_
    rintro en w4 ⟨rfl,dJ⟩
    have z3:=cr.size
    have mh:=(dJ.block sr (by omega)).trans mG
    obtain ⟨x1,x2,x3⟩:=aR.but (But.ofBelow (m:=fun _=>False) dJ) (fun i e=>e.elim)
    have dW:=(hb.trans (But.ofBelow cr)).trans (But.ofBelow dJ)
    rcases hv with hv | ⟨hv,il⟩ | ⟨hv,il,hv3⟩
    ·have hq:(Lib.itoa v == zS r1)=false:=by rw [beq_eq_false_iff_ne];exact hv
     clear hv
     go_wp2_with fail
     go_ret
     exact jD.no lq.out dW mh
    ·have hq:(Lib.itoa v == zS r1)=true:=by rw [beq_iff_eq];exact hv
     clear hv
     go_wp2_with fail
     go_ret
     exact jD.no lq.out dW mh
    ·have hq:(Lib.itoa v == zS r1)=true:=by rw [beq_iff_eq];exact hv
     clear hv
     go_wp2_with fail
     go_ret
     exact jD.no lq.out dW mh
 | some v =>
   obtain ⟨mY,co,sP⟩:=lvl_lt fF
   have C_:d=0:=by
    rcases Nat.eq_zero_or_pos d with h | h
    ·exact h
    ·exact absurd ⟨d-1,r1,v,levels[v],by omega,h1,fF,by simp [mY]⟩ Eg.out
   have HD:=cH C_;clear C_ Eg
   refine (atoi_ok _ _ a9 (v:Int) co).mono ?_
   rintro en w3 ⟨rfl,cr⟩
   have sG:=mr.below cr
   have mG:=(cr.block sr (by omega)).trans eA
   have aR:=mV.but (But.ofBelow (m:=fun _=>False) cr) (fun i e=>e.elim)
   have ff:=cH co;clear co
   have sW:=cH fF;clear fF
   have ou:=cH sP;clear sP
   go_wp2_with fail
   refine (itoa_of ff.out w3 sG).mono ?_
   rintro en w4 ⟨rfl,dJ⟩
   have z3:=cr.size
   have z4:=dJ.size
   have mh:=(dJ.block sr (by omega)).trans mG
   have hg4:=sG.below dJ
   have Bm:=aR.but (But.ofBelow (m:=fun _=>False) dJ) (fun i e=>e.elim)
   obtain ⟨x1,x2,x3⟩:=Bm
   have dW:=(hb.trans (But.ofBelow cr)).trans (But.ofBelow dJ)
   have hq:(Lib.itoa (v:Int) == zS r1)=true:=by rw [beq_iff_eq];exact ou.out
   have cA:levels.length<=10000:=by have:=hh.2;omega
   clear hb cr dJ eA mV aR mG mr sG
   have th:((d:Int) == 0)=true:=by rw [beq_iff_eq];have:=HD.out;omega
   go_wp2_with fail
   go_ret
   exact jD.no (by rw [HM.out,sW.out];have:=HD.out;subst this;rfl) dW mh
theorem body_any (d:Nat) (hd:d<=1000):xW d:=by
 induction d with
 | zero=>exact body_step 0 hd (fun d' h=>by omega)
 | succ d ih=>exact body_step (d+1) hd (fun d' h=>by obtain rfl:d=d':=by omega
                                                     exact ih (by omega))
def kE (t:Ty) (l:Bs):Option Bd:=match rdB 100 t.args 200 l with
 | some (b,[],_)=>some b
 | _=>none
def RPost {α:Type} (enc:α->DV) (w:World) (o:Option α) (en:Ending) (w':World):Prop :=
 ∃ v,en=.returned v/\Below w.heap.size w w'/\(o=none->v=.pointer none)/\(∀ b,o=some b->Rep (w.heap.size<=·) w' (enc b) v)
theorem handOk_of {t:Ty} (h:zU t<=15):ke 100 t.args:=by
 have h1:=zg t
 have cA:∀ ts:List Ty,ts.length<=zR ts:=by
  intro ts;induction ts with
  | nil=>simp
  | cons x xs ih=>simp [zR];omega
 have eX:∀ ts:List Ty,∀ a∈ts,1+zU a<=zR ts:=by
  intro ts
  induction ts with
  | nil=>simp
  | cons x xs ih =>
    intro a ha
    rcases List.mem_cons.1 ha with rfl | ha
    ·simp [zR]
    ·have:=ih a ha;simp [zR];omega
 refine ⟨fun a ha=>?_,?_⟩
 ·have:=eX _ a ha;omega
 ·have:=cA t.args;omega
theorem uy (F:Nat->Prop) (t:Ty) (l:Bs) (kv:Value) (w:World) (hg:qL w) (hk:Rep F w (qe t) kv) (ht:zU t<=15) (hl:Lim l.length) :
 Calls Tryz.prog 28 #[kv,str l] w (RPost kr w (kE t l)):=by
 obtain ⟨bk,sk,rfl,hFk,hc,hs⟩:=zO hk
 obtain ⟨a,c,e,_⟩:=zC hs
 subst e
 have c1:w.cell? ⟨bk,0,none⟩=some (.slice a t.args.length c):=by simp [World.cell?,hc]
 have lk:=zZ hc
 have HC:=cH hc;clear hc
 go_enter Tryz.func28,Tryz.ntmps28
 go_wp2_with fail
 have eC:kO w.heap.size [.int .i64 (200:Nat)] 111 l (w.alloc (.cells #[str l,.int .i64 200] 111)):=zT _ _
 have iD:Rep (fun b=>b<w.heap.size) (w.alloc (.cells #[str l,.int .i64 200] 111)) (.sl 49 1 t.args.length (qC t.args)) (.slice a t.args.length c) :=
  (Rep.keep fun b o _ ho=>⟨zZ ho,zY ho⟩).1 _ _ hs
 refine (body_any 100 (by omega) w.heap.size 200 t.args l _ _ _ (hg.below ((cE _ _).alloc (cC _) _)) (hg.new (cC _)) eC (by omega) hl (handOk_of ht) iD (fun b hb=>by have:=hb;omega)).mono ?_
 rintro en w1 ⟨v,r',left',rfl,cT,d7,dY,dp⟩
 have hb:Below w.heap.size w w1:=((cE w.heap.size w).alloc (cC _) _).trans (cT.toBelow (by simp) (fun i hi e=>by omega))
 have nO:=d7.cell
 have hz:w.heap.size<w1.heap.size:=un d7
 cases hq:rdB 100 t.args 200 l with
 | none =>
   obtain rfl:=dY hq
   have HQ:=cH hq;clear hq dY dp
   go_wp2_with fail
   go_ret
   exact ⟨_,rfl,hb,fun _=>rfl,fun b h=>by simp [kE,HQ.out] at h⟩
 | some x =>
   obtain ⟨b,rest,left⟩:=x
   obtain ⟨rfl,_,hv⟩:=dp _ _ _ hq
   have HQ:=cH hq;clear hq dY dp
   obtain ⟨av,ev⟩:=kC hv
   subst ev
   cases r' with
   | cons x xs =>
     have hne:(!(x::xs).isEmpty)=true:=rfl
     go_wp2_with fail
     go_ret
     exact ⟨_,rfl,hb,fun _=>rfl,fun b h=>by simp [kE,HQ.out] at h⟩
   | nil =>
     go_wp2_with fail
     go_ret
     have HM:kE t l=some b:=by simp [kE,HQ.out]
     refine ⟨_,rfl,hb,fun h=>by simp [HM] at h,fun b' h=>?_⟩
     rw [HM] at h;simp at h;subst h
     exact (Rep.keep fun b o h ho=>⟨by have:=h;simp at this;omega,ho⟩).1 _ _ hv
def xf (s l:Bs):Option (Ty×Bd):=do
 let t<-qv s
 let b<-kE t l
 some (t,b)
def TSPost (w:World) (s l:Bs) (en:Ending) (w':World):Prop :=
 ∃ kv bv,en=.returned (.tuple #[kv,bv])/\Below w.heap.size w w'/\(xf s l=none->bv=.pointer none) /\
   (∀ t b,xf s l=some (t,b)->Rep (w.heap.size<=·) w' (qe t) kv/\Rep (w.heap.size<=·) w' (kr b) bv)
theorem rdKind_le {s:Bs} {t:Ty} (h:qv s=some t):zU t<=15:=by
 unfold qv at h
 split at h
 ·split at h
  ·rename_i cj;simp at h;subst h;exact cj
  ·simp at h
 ·simp at h
theorem wY (s l:Bs) (w:World) (hg:qL w) (hs:Lim s.length) (hl:Lim l.length) :
 Calls Tryz.prog 19 #[str s,str l] w (TSPost w s l):=by
 go_enter Tryz.func19,Tryz.ntmps19
 go_wp2_with fail
 refine (yK s w hs).mono ?_
 rintro en w1 ⟨kv,rfl,cT,dY,dp⟩
 cases hq:qv s with
 | none =>
   obtain rfl:=dY hq
   have HQ:=cH hq;clear hq dY dp
   go_wp2_with fail
   go_ret2
   exact ⟨_,_,rfl,cT,fun _=>rfl,fun t b h=>by simp [xf,HQ.out] at h⟩
 | some t =>
   have hv:=dp _ hq
   have ht:=rdKind_le hq
   have HQ:=cH hq;clear hq dY dp
   obtain ⟨ak,_,ek,_⟩:=zO hv
   subst ek
   go_wp2_with fail
   refine (uy _ t l _ w1 (hg.below cT) hv ht hl).mono ?_
   rintro en w2 ⟨bv,rfl,cS,fQ,fC⟩
   go_wp2_with fail
   go_ret2
   refine ⟨_,_,rfl,zzT cT cS,fun h=>fQ ?_,fun t' b h=>?_⟩
   ·cases hr:kE t l with
    | none=>rfl
    | some b=>simp [xf,HQ.out,hr] at h
   ·cases hr:kE t l with
    | none=>simp [xf,HQ.out,hr] at h
    | some b' =>
      simp [xf,HQ.out,hr] at h
      obtain ⟨rfl,rfl⟩:=h
      exact ⟨Rep.below cS (fun _ h=>h) hv,(Rep.keep fun i o hi ho=>⟨by have:=cT.size;have:=hi;omega,ho⟩).1 _ _ (fC _ hr)⟩
theorem be (ts:List Bd):∀ k:Nat,(qW ts)[k]? = ts[k]?.map kr:=by
 induction ts with
 | nil=>intro k;simp [qW]
 | cons t ts ih=>intro k;cases k <;> simp [qW,ih]
theorem oneCell_encBs {F:Nat->Prop} {w:World} (ts:List Bd):∀ us,zH F w (qW ts) us->∀ u∈us,u.oneCell'=true:=by
 induction ts with
 | nil=>intro us h;rw [qW,zF] at h;subst h;simp
 | cons t ts ih =>
   intro us h u hu
   rw [qW,zV] at h
   obtain ⟨v,vs',rfl,h1,h2⟩:=h
   rcases List.mem_cons.1 hu with rfl | hu
   ·obtain ⟨a,rfl⟩:=kC h1;rfl
   ·exact ih _ h2 u hu
theorem xH {F:Nat->Prop} {w:World} {c:UInt8} {v:Value} (h:Rep F w (kr (.leaf c)) v) :
 ∃ b sl,v=.pointer (some ⟨b,0,none⟩)/\F b/\w.heap[b]? = some (.cells #[str [c],.int .i64 (0:Nat),sl,.pointer none,.pointer none] 120 (0,0))/\Rep F w (.sl 55 1 0 []) sl:=by
 rw [kr,vp] at h
 obtain ⟨b,cs,hv,hb,hc,hr⟩:=h
 simp only [zV,zF,zj] at hr
 obtain ⟨_,_,e1,rfl,_,_,rfl,rfl,sl,_,rfl,h3,_,_,rfl,rfl,_,_,rfl,rfl,rfl⟩:=hr
 have:cs=#[str [c],.int .i64 (0:Nat),sl,.pointer none,.pointer none]:=by apply Array.ext';simpa using e1
 subst this
 exact ⟨b,sl,hv,hb,hc,h3⟩
theorem xJ {F:Nat->Prop} {w:World} {v:Nat} {ss:List Bd} {y n:Bd} {p:Value} (h:Rep F w (kr (.ask v ss y n)) p) :
 ∃ b sl yv nv,p=.pointer (some ⟨b,0,none⟩)/\F b/\w.heap[b]? = some (.cells #[str [],.int .i64 v,sl,yv,nv] 120 (0,0)) /\
   Rep F w (.sl 55 1 ss.length (qW ss)) sl/\Rep F w (kr y) yv/\Rep F w (kr n) nv:=by
 rw [kr,vp] at h
 obtain ⟨b,cs,hv,hb,hc,hr⟩:=h
 simp only [zV,zF,zj] at hr
 obtain ⟨_,_,e1,rfl,_,_,rfl,rfl,sl,_,rfl,h3,yv,_,rfl,h4,nv,_,rfl,h5,rfl⟩:=hr
 have:cs=#[str [],.int .i64 v,sl,yv,nv]:=by apply Array.ext';simpa using e1
 subst this
 exact ⟨b,sl,yv,nv,hv,hb,hc,h3,h4,h5⟩
theorem y8 (F:Nat->Prop) (w:World) (c:UInt8) (v:Value) (h:Rep F w (kr (.leaf c)) v) :
 Calls Tryz.prog 50 #[v] w fun en w'=>en=.returned (.bool false)/\w'=w:=by
 obtain ⟨b,sl,rfl,_,hc,_⟩:=xH h
 have c1:w.cell? ⟨b,0,none⟩=some (.string ⟨#[c]⟩):=by simp [World.cell?,hc]
 clear hc h
 go_enter Tryz.func50,Tryz.ntmps50
 go_wp2_with fail
 go_ret
 exact ⟨rfl,rfl⟩
theorem bI (F:Nat->Prop) (w:World) (v:Nat) (ss:List Bd) (y n:Bd) (p:Value) (h:Rep F w (kr (.ask v ss y n)) p) :
 Calls Tryz.prog 50 #[p] w fun en w'=>en=.returned (.bool true)/\w'=w:=by
 obtain ⟨b,sl,yv,nv,rfl,_,hc,_⟩:=xJ h
 have c1:w.cell? ⟨b,0,none⟩=some (.string ⟨#[]⟩):=by simp [World.cell?,hc]
 clear hc h
 go_enter Tryz.func50,Tryz.ntmps50
 go_wp2_with fail
 go_ret
 exact ⟨rfl,rfl⟩
mutual
def jA:Ty->DV
 | .mk ts=>.sl 77 1 ts.length (qx ts)
def qx:List Ty->List DV
 | []=>[]
 | t::ts=>jA t::qx ts
end
def jK (L:Nat) (w:World) (o:Option (Ty×Bs)) (en:Ending) (w':World):Prop :=
 ∃ (v:Value) (k:Int) (t:Ty),en=.returned (.tuple #[.agg #[v],.int .i64 k])/\Below w.heap.size w w'/\Rep (w.heap.size<=·) w' (jA t) v/\(o=none->k = -1/\t=.mk [])/\(∀ t' rest,o=some (t',rest)->k=(L:Int)-rest.length/\t=t')
theorem Tryz.infoS:(Tryz.prog.info? 77).map (fun i=>(i.zero,i.size,i.bytes))=some (some (.agg #[.slice none 0 0]),1,24):=by kernel_rfl
theorem js (ts:List Ty):∀ k:Nat,(qx ts)[k]? = ts[k]?.map jA:=by
 induction ts with
 | nil=>intro k;simp [qx]
 | cons t ts ih=>intro k;cases k <;> simp [qx,ih]
theorem encSs_append (a b:List Ty):qx (a++b)=qx a++qx b:=by
 induction a with
 | nil=>rfl
 | cons t ts ih=>simp [qx,ih]
theorem qE (t:Ty):jA t=.sl 77 1 t.args.length (qx t.args):=by cases t;rw [jA];rfl
theorem kJ {F:Nat->Prop} {w:World} {t:Ty} {v:Value} (h:Rep F w (jA t) v):∃ a c,v=.slice a t.args.length c:=by
 rw [qE] at h;obtain ⟨a,c,e,_⟩:=zC h;exact ⟨a,c,e⟩
theorem uM {F:Nat->Prop} {w:World} (ts:List Ty):∀ us,zH F w (qx ts) us->∀ u∈us,u.oneCell'=true:=by
 induction ts with
 | nil=>intro us h;rw [qx,zF] at h;subst h;simp
 | cons t ts ih =>
   intro us h u hu
   rw [qx,zV] at h
   obtain ⟨v,vs',rfl,h1,h2⟩:=h
   rcases List.mem_cons.1 hu with rfl | hu
   ·obtain ⟨a,c,rfl⟩:=kJ h1;rfl
   ·exact ih _ h2 u hu
theorem pD (F:Nat->Prop) (w:World):Rep F w (jA (.mk [])) (.slice none 0 0):=by
 rw [qE];exact kM.2 ⟨rfl,none,0,rfl,cC _,fun _=>rfl,.inl rfl⟩
theorem jK.no {L:Nat} {w w':World} {o:Option (Ty×Bs)} (ho:o=none) (hb:Below w.heap.size w w') :
 jK L w o (.returned (.tuple #[.agg #[.slice none 0 0],.int .i64 (-1)])) w' :=
 ⟨_,_,.mk [],rfl,hb,pD _ _,fun _=>⟨rfl,rfl⟩,fun _ _ h=>by rw [ho] at h;simp at h⟩
theorem jK.yes {L:Nat} {w w':World} {o:Option (Ty×Bs)} {t:Ty} {rest:Bs} {v:Value} {k:Int} (ho:o=some (t,rest)) (hk:k=(L:Int)-rest.length) (hb:Below w.heap.size w w') (hv:Rep (w.heap.size<=·) w' (jA t) v) :
 jK L w o (.returned (.tuple #[.agg #[v],.int .i64 k])) w' :=
 ⟨_,_,t,rfl,hb,hv,fun h=>by rw [ho] at h;simp at h,fun _ _ h=>by rw [ho] at h;simp at h;obtain ⟨rfl,rfl⟩:=h;exact ⟨hk,rfl⟩⟩
def cV (l:Bs) (d:Nat):Prop:=∀ (i:Nat) (w:World),i<=l.length->d<=21 ->
    Calls Tryz.prog 65 #[str l,.int .i64 i,.int .i64 d] w (jK l.length w (rdS (21-d) (l.drop i)))
theorem gZ (l:Bs) (hl:Lim l.length) (d:Nat) (ih:d<=20->cV l (d+1)):cV l d:=by
 intro i w hi hd
 have fM:=hl.le
 have IH:=cH ih;clear ih
 by_cases hd20:d<=20
 rotate_left
 ·have h0:Hid (21-d=0):=by show 21-d=0;omega
  go_enter Tryz.func65,Tryz.ntmps65
  go_wp2_with fail
  refine bodyPost_ret (v:=.tuple #[.agg #[.slice none 0 0],.int .i64 (-1)]) (by simp [results,Tryz.results65,go_sem]) rfl ?_
  exact jK.no (by rw [h0.out];rfl) ((cE _ _).alloc (cC _) _)
 obtain ⟨n,hn⟩:∃ n,21-d=n+1:=⟨20-d,by omega⟩
 have IH':=cH (IH.out hd20);clear IH
 have HN:=cH hn
 have lq:Hid (21-(d+1)=n):=by show 21-(d+1)=n;omega
 clear hn
 by_cases cL:i<l.length
 rotate_left
 ·go_enter Tryz.func65,Tryz.ntmps65
  go_wp2_with fail
  refine bodyPost_ret (v:=.tuple #[.agg #[.slice none 0 0],.int .i64 (-1)]) (by simp [results,Tryz.results65,go_sem]) rfl ?_
  exact jK.no (by rw [HN.out,rdS_no (xD (by omega)),xD (by omega)];rfl) ((cE _ _).alloc (cC _) _)
 by_cases hb:l[i]=98
 ·have f1:=vD cL (n:=98) (by decide) hb
  have hc:Cut [98] (l.drop i) (l.drop (i+1)):=by unfold Cut;rw [vV cL,if_pos hb]
  clear hb
  go_enter Tryz.func65,Tryz.ntmps65
  go_wp2_with fail
  refine bodyPost_ret (v:=.tuple #[.agg #[.slice none 0 0],.int .i64 ((i:Int)+1)]) (by simp [results,Tryz.results65,go_sem]) rfl ?_
  exact jK.yes (t:=.mk []) (by rw [HN.out,rdS_b hc]) (by simp;omega) ((cE _ _).alloc (cC _) _) (pD _ _)
 have f1:=jP cL (n:=98) (by decide) hb
 have hc:xy [98] (l.drop i):=by unfold xy;rw [vV cL,if_neg hb]
 have HM:=cH (rdS_no (n:=n) hc)
 clear hb hc
 by_cases h3:i+3<=l.length
 rotate_left
 ·have h3':(l.length:Int)<(i:Int)+3:=by omega
  have fV:Hid (cut [40,62,32] (l.drop i)=none):=by
   show cut [40,62,32] (l.drop i)=none
   cases hq:cut [40,62,32] (l.drop i) with
   | none=>rfl
   | some r=>have:=(cut_drop hq).2;simp at this;omega
  go_enter Tryz.func65,Tryz.ntmps65
  go_wp2_with fail
  refine bodyPost_ret (v:=.tuple #[.agg #[.slice none 0 0],.int .i64 (-1)]) (by simp [results,Tryz.results65,go_sem]) rfl ?_
  exact jK.no (by rw [HN.out,HM.out,fV.out];rfl) ((cE _ _).alloc (cC _) _)
 have h3':(i:Int)+3<=(l.length:Int):=by omega
 have hx:(l.take (i+3)).drop i=(l.drop i).take 3:=by rw [List.drop_take];congr 1;omega
 rcases z_ [40,62,32] (l.drop i) with h4 | ⟨r1,h4⟩
 ·have f2:(((⟨l.toArray⟩:ByteArray).extract i (i+3)).toList == [40,62,32])=false:=by
   rw [ext_list,hx,beq_eq_false_iff_ne]
   intro e
   have h5:=h4.out
   have hp:[40,62,32].isPrefixOf (l.drop i)=true:=by rw [List.isPrefixOf_iff_prefix,<- e];exact List.take_prefix _ _
   unfold cut at h5;rw [if_pos hp] at h5;simp at h5
  clear hx
  go_enter Tryz.func65,Tryz.ntmps65
  go_wp2_with fail
  refine bodyPost_ret (v:=.tuple #[.agg #[.slice none 0 0],.int .i64 (-1)]) (by simp [results,Tryz.results65,go_sem]) rfl ?_
  exact jK.no (by rw [HN.out,HM.out,h4.out];rfl) ((cE _ _).alloc (cC _) _)
 have f2:(((⟨l.toArray⟩:ByteArray).extract i (i+3)).toList == [40,62,32])=true:=by
  rw [ext_list,hx,beq_iff_eq]
  have h5:=h4.out
  unfold cut at h5;split at h5
  ·rename_i hp
   exact (List.prefix_iff_eq_take.1 (List.isPrefixOf_iff_prefix.1 hp)).symm
  ·simp at h5
 have dH:=(cut_drop h4.out).1
 have hr1':r1=l.drop (i+3):=dH
 subst hr1'
 clear hx dH
 go_enter Tryz.func65,Tryz.ntmps65
 go_wp2_with fail
 rw [show (i:Int)+3=((i+3:Nat):Int) from by omega,show (d:Int)+1=((d+1:Nat):Int) from by omega]
 refine (IH'.out (i+3) _ h3 (by omega)).mono ?_
 rintro en w1 ⟨v1,k1,t1,rfl,cT,m8,dY,dp⟩
 rw [lq.out] at dY dp
 have dm:Below w.heap.size w w1:=((cE w.heap.size w).alloc (cC _) _).trans (cT.mono (by simp))
 have z1:=cT.size
 have eK:w.heap.size<w1.heap.size:=by simp at z1;omega
 have dA:w1.cell? ⟨w.heap.size,0,none⟩=some (.slice none 0 0):=by rw [cT.cell (by simp)];simp
 have fl:w1.frozen? ⟨w.heap.size,0,none⟩=false:=by rw [cT.frozen (by simp)];simp
 obtain ⟨a1,c1,e1⟩:=kJ m8
 subst e1
 cases hq:rdS n (l.drop (i+3)) with
 | none =>
   obtain ⟨rfl,rfl⟩:=dY hq
   have HQ:=cH hq;clear hq dY dp
   go_wp2_with fail
   refine bodyPost_ret (v:=.tuple #[.agg #[.slice none 0 0],.int .i64 (-1)]) (by simp [results,Tryz.results65,go_sem,eK,qS dA]) rfl ?_
   exact jK.no (by rw [HN.out,HM.out,h4.out];simp [HQ.out]) (by repeat (first | exact dm | refine Below.alloc ?_ (by simp;omega) _ | refine Below.setCell ?_ (by simp) _ | refine Below.drew ?_))
 | some x =>
   obtain ⟨ta,r2⟩:=x
   obtain ⟨rfl,rfl⟩:=dp _ _ hq
   have fp:=uP (h_ hq)
   have de:=(rdS_le hq).1
   have HQ:=cH hq;clear hq dY dp
   obtain ⟨e,he⟩:=zzM (l.length-r2.length)
   have mw:e<=l.length:=by omega
   have hr2l:r2.length<=l.length:=by simp at de;omega
   have hk:(l.length:Int)-(r2.length:Int)=(e:Int):=by omega
   rw [<- he] at fp
   rw [hk]
   have HSF:=cH fp
   clear hk fp de
   by_cases oe:e<l.length
   rotate_left
   ·have lS:Hid (cut [32] r2=none):=by show cut [32] r2=none;rw [HSF.out];exact xD (by omega)
    have HE:=cH he;clear he
    go_wp2_with fail
    refine bodyPost_ret (v:=.tuple #[.agg #[.slice none 0 0],.int .i64 (-1)]) (by simp [results,Tryz.results65,go_sem,eK,qS dA]) rfl ?_
    exact jK.no (by rw [HN.out,HM.out,h4.out];simp [HQ.out,lS.out]) (by repeat (first | exact dm | refine Below.alloc ?_ (by simp;omega) _ | refine Below.setCell ?_ (by simp) _ | refine Below.drew ?_))
   have HE:=cH he;clear he
   by_cases dK:l[e]=32
   rotate_left
   ·have f5:=xZ oe (n:=32) (by decide) dK
    have lS:Hid (cut [32] r2=none):=by show cut [32] r2=none;rw [HSF.out,vV oe,if_neg dK]
    clear dK
    go_wp2_with fail
    refine bodyPost_ret (v:=.tuple #[.agg #[.slice none 0 0],.int .i64 (-1)]) (by simp [results,Tryz.results65,go_sem,eK,qS dA]) rfl ?_
    exact jK.no (by rw [HN.out,HM.out,h4.out];simp [HQ.out,lS.out]) (by repeat (first | exact dm | refine Below.alloc ?_ (by simp;omega) _ | refine Below.setCell ?_ (by simp) _ | refine Below.drew ?_))
   have f5:=um oe (n:=32) (by decide) dK
   have g1:decide ((e:Int)<0)=false:=by rw [decide_eq_false_iff_not];omega
   have g2:decide (l.length<=e)=false:=by rw [decide_eq_false_iff_not];omega
   have lS:Hid (cut [32] r2=some (l.drop (e+1))):=by show cut [32] r2=_;rw [HSF.out,vV oe,if_pos dK]
   clear dK
   go_wp2_with fail
   rw [show (e:Int)+1=((e+1:Nat):Int) from by omega,show (d:Int)+1=((d+1:Nat):Int) from by omega]
   refine (IH'.out (e+1) _ oe (by omega)).mono ?_
   rintro en w2 ⟨v2,k2,t2,rfl,cS,il,fQ,fC⟩
   rw [lq.out] at fQ fC
   obtain ⟨a2,c2,e2⟩:=kJ il
   subst e2
   have z2:=cS.size
   rw [zK] at z2
   have rD:Below w.heap.size w w2:=(dm.alloc dm.size _).trans (cS.mono (by rw [zK];omega))
   have rS:w.heap.size<w2.heap.size:=by omega
   have hz2':w1.heap.size<w2.heap.size:=by omega
   have ej:w2.cell? ⟨w.heap.size,0,none⟩=some (.slice none 0 0):=by rw [cS.cell (by simp;omega)];exact zX dA
   have tp:w2.frozen? ⟨w.heap.size,0,none⟩=false:=by rw [cS.frozen (by simp;omega)];rw [World.frozen?_of_block (w:=w1) (Below.heap_alloc _ _ _ eK)];exact fl
   have hcellA:w2.cell? ⟨w1.heap.size,0,none⟩=some (.slice a1 t1.args.length c1):=by rw [cS.cell (by simp)];simp
   have sZ:Rep (w1.heap.size<=·) w2 (jA t1) (.slice a1 t1.args.length c1)\/True:=.inr trivial
   clear sZ dA fl
   cases hq:rdS n (l.drop (e+1)) with
   | none =>
     obtain ⟨rfl,rfl⟩:=fQ hq
     have ai:=cH hq;clear hq fQ fC
     go_wp2_with fail
     refine bodyPost_ret (v:=.tuple #[.agg #[.slice none 0 0],.int .i64 (-1)]) (by simp [results,Tryz.results65,go_sem,rS,qS ej]) rfl ?_
     exact jK.no (by rw [HN.out,HM.out,h4.out];simp [HQ.out,lS.out,ai.out]) (by repeat (first | exact rD | refine Below.alloc ?_ (by simp;omega) _ | refine Below.setCell ?_ (by simp) _ | refine Below.drew ?_))
   | some x =>
     obtain ⟨tb,r4⟩:=x
     obtain ⟨rfl,rfl⟩:=fC _ _ hq
     have fp:=uP (h_ hq)
     have tH:=rdS_le hq
     have ai:=cH hq;clear hq fQ fC
     obtain ⟨e2,he⟩:=zzM (l.length-r4.length)
     have mw:e2<=l.length:=by omega
     have hr2l:r4.length<=l.length:=by simp at tH;omega
     have hk:(l.length:Int)-(r4.length:Int)=(e2:Int):=by omega
     have oW:t2.args.length<=16777216:=by simp at tH;omega
     rw [<- he] at fp
     rw [hk]
     have Ap:=cH fp
     clear hk fp tH
     have HE2:=cH he;clear he
     by_cases iM:e2<l.length
     rotate_left
     ·have me:Hid (cut [41] r4=none):=by show cut [41] r4=none;rw [Ap.out];exact xD (by omega)
      go_wp2_with fail
      refine bodyPost_ret (v:=.tuple #[.agg #[.slice none 0 0],.int .i64 (-1)]) (by simp [results,Tryz.results65,go_sem,rS,qS ej]) rfl ?_
      exact jK.no (by rw [HN.out,HM.out,h4.out];simp [HQ.out,lS.out,ai.out,me.out]) (by repeat (first | exact rD | refine Below.alloc ?_ (by simp;omega) _ | refine Below.setCell ?_ (by simp) _ | refine Below.drew ?_))
     by_cases cd:l[e2]=41
     rotate_left
     ·have f6:=xZ iM (n:=41) (by decide) cd
      have me:Hid (cut [41] r4=none):=by show cut [41] r4=none;rw [Ap.out,vV iM,if_neg cd]
      clear cd
      go_wp2_with fail
      refine bodyPost_ret (v:=.tuple #[.agg #[.slice none 0 0],.int .i64 (-1)]) (by simp [results,Tryz.results65,go_sem,rS,qS ej]) rfl ?_
      exact jK.no (by rw [HN.out,HM.out,h4.out];simp [HQ.out,lS.out,ai.out,me.out]) (by repeat (first | exact rD | refine Below.alloc ?_ (by simp;omega) _ | refine Below.setCell ?_ (by simp) _ | refine Below.drew ?_))
     have f6:=um iM (n:=41) (by decide) cd
     have g3:decide ((e2:Int)<0)=false:=by rw [decide_eq_false_iff_not];omega
     have g4:decide (l.length<=e2)=false:=by rw [decide_eq_false_iff_not];omega
     have me:Hid (cut [41] r4=some (l.drop (e2+1))):=by show cut [41] r4=_;rw [Ap.out,vV iM,if_pos cd]
     clear cd
     rw [qE] at il
     obtain ⟨xs,mJ,nV⟩:=zM.ofRep il (uM _)
     go_wp2_with (at_builtin;refine zG rfl _ _ 75 rfl 77 (.agg #[.slice none 0 0]) 1 24 Tryz.underlying75 Tryz.infoS rfl (by decide) _ 1 [.slice a1 t1.args.length c1] rfl ?c1 _ t2.args.length xs rfl ?c2 ?c3 ?c4 ?_)
     case c1=>exact Own.litAt #[.slice a1 t1.args.length c1] 1 _ (by simp) (by decide) rfl
     case c2=>exact nV.keep fun _ _ h=>zX (zX h)
     case c3=>unfold maxLen;omega
     case c4=>omega
     intro a' c' w3 ho cr sG
     have cO:Below w2.heap.size w2 ((w2.alloc (.cells #[.slice a2 t2.args.length c2] 77)).alloc (.cells #[.slice a1 t1.args.length c1] 77)):=((cE _ _).alloc (cC _) _).alloc (by simp) _
     have fR:Below w2.heap.size w2 w3:=cO.trans (cr.toBelow (by simp;omega) (fun i hi e=>by simp [Value.ownBlock] at e;omega))
     have n9:Below w.heap.size w w3:=rD.trans (fR.mono (by omega))
     have o4:w3.cell? ⟨w.heap.size,0,none⟩=some (.slice none 0 0):=by rw [fR.cell rS];exact ej
     have hfree3:w3.frozen? ⟨w.heap.size,0,none⟩=false:=by rw [fR.frozen rS];exact tp
     have hv1W:Rep (w.heap.size<=·) w3 (jA t1) (.slice a1 t1.args.length c1):=by
      refine (Rep.keep fun b o h ho=>⟨by have:=vr h;omega,?_⟩).1 _ _ m8
      rw [fR.block b (by have:=zZ ho;omega),cS.block b (by have:=zZ ho;simp;omega)]
      exact zY ho
     have hxsW:zH (w.heap.size<=·) w3 (qx t2.args) xs :=
      (Rep.keep fun b o h ho=>⟨by have:=vr h;omega,by rw [fR.block b (zZ ho)];exact ho⟩).2 _ _ mJ
     have cw:∀ g,(Value.slice a' (1+t2.args.length) c').ownBlock=some g->w.heap.size<=g:=by
      intro g h
      rcases sG g h with h | h
      ·simp [Value.ownBlock] at h;omega
      ·have:=fR.size;omega
     have HG:=cH cw;have HG3:=cH sG;clear sG cw
     go_wp2_with fail
     refine bodyPost_ret (v:=.tuple #[.agg #[.slice a' (1+t2.args.length) c'],.int .i64 ((e2:Int)+1)]) (by simp [results,Tryz.results65,go_sem,qS o4]) rfl ?_
     refine jK.yes (t:=jN t1 t2) (rest:=l.drop (e2+1)) (by rw [HN.out,HM.out,h4.out];simp [HQ.out,lS.out,ai.out,me.out]) (by simp;omega) (n9.setCell (cC _) _) ?_
     refine (Rep.keep (w:=w3) (F:=fun b=>w.heap.size<=b/\b≠w.heap.size) fun b o h ho=>⟨h.1,?_⟩).1 _ _ ?_
     ·rw [cF _ _ _ _ (by simpa using h.2)];exact ho
     rw [qE,show (jN t1 t2).args.length=1+t2.args.length from by simp [jN,Ty.args,Nat.add_comm]]
     refine ho.rep (fun g h=>⟨HG.out g h,?_⟩) ?_
     ·rcases HG3.out g h with h | h
      ·simp [Value.ownBlock] at h;omega
      ·have:=fR.size;omega
     ·show zH _ _ (jA t1::qx t2.args) _
      refine zV.2 ⟨_,_,rfl,?_,?_⟩
      ·refine (Rep.keep fun b o h ho=>⟨⟨by have:=vr h;omega,by have:=vr h;omega⟩,?_⟩).1 _ _ m8
       rw [fR.block b (by have:=zZ ho;omega),cS.block b (by have:=zZ ho;simp;omega)]
       exact zY ho
      ·exact (Rep.keep fun b o h ho=>⟨⟨by have:=vr h;omega,by have:=vr h;omega⟩,by rw [fR.block b (zZ ho)];exact ho⟩).2 _ _ mJ
theorem l1Read_any (l:Bs) (hl:Lim l.length) (n:Nat):∀ d,21-d=n->cV l d:=by
 induction n with
 | zero=>exact fun d h=>gZ l hl d (fun h'=>by omega)
 | succ n ih=>exact fun d h=>gZ l hl d (fun h'=>ih (d+1) (by omega))
def pA (t:Ty):Prop:=∀ (F:Nat->Prop) (w:World) (v:Value),Rep F w (jA t) v ->
 Calls Tryz.prog 66 #[.agg #[v]] w fun en w'=>en=.returned (.int .i64 (zU t))/\Below w.heap.size w w'
theorem zd (ts:List Ty):ts.length<=zR ts:=by
 induction ts with
 | nil=>simp
 | cons t ts ih=>simp [zR];omega
theorem l1Size_step (t:Ty) (hl:Lim (zU t)) (ih:∀ t',zU t'<zU t->pA t'):pA t:=by
 intro F w v hv
 obtain ⟨a,cap,e⟩:=kJ hv
 subst e
 have dg:=hv
 rw [qE] at dg
 obtain ⟨_,_,e,_,cA,hat⟩:=zC dg
 simp only [Value.slice.injEq] at e
 obtain ⟨rfl,_,rfl⟩:=e
 have IH:=cH ih;clear ih
 have fM:=hl.le
 have E1:=cH (zg t)
 have oO:t.args.length<=16777216:=by have:=zd t.args;have:=E1.out;omega
 have AT:=cH hat;clear hat cA dg
 go_enter Tryz.func66,Tryz.ntmps66
 go_wp2_with fail
 go_loopw [3,4] (fun n i wr=>∃ k:Nat,k<=t.args.length/\i=.int .i64 k/\n=.int .i64 ((1+zR (t.args.take k):Nat):Int)/\Below w.heap.size w wr/\wr.cell? ⟨w.heap.size,0,none⟩=some (.slice a t.args.length cap)) (fun _ i _=>t.args.length-(intOf i).toNat)
 case atStart=>exact ⟨0,Nat.zero_le _,rfl,by simp [zR],(cE _ _).alloc (cC _) _,by simp⟩
 case round =>
  rename_i wr
  obtain ⟨k,hk,rfl,rfl,hb,hc⟩:=hrel
  by_cases cL:k<t.args.length
  ·obtain ⟨b',o,u,d,rfl,_,dW,hd,hu,hr⟩:=AT.out k cL
   rw [js,Option.map_eq_some_iff] at hd
   obtain ⟨t',eI,rfl⟩:=hd
   obtain ⟨ua,uc,rfl⟩:=kJ hr
   have mL:wr.cell? ⟨b',o+k,none⟩=some (.slice ua t'.args.length uc):=by rw [hb.cell dW];exact hu
   have mz:=Rep.below (F':=F) hb (fun _ h=>h) hr
   have hs:=jt eI
   have eX:=qw t.args (k+1)
   have ml:=E1.out
   have IH':=cH (IH.out t' (by omega))
   have HS:=cH hs
   have b1:1+zR (t.args.take k)+(1+zU t')<=16777216:=by omega
   have hz:=cD wr _ hc
   clear hs eI ml hu hr
   go_wp2_with fail
   refine (IH'.out _ _ _ mz).mono ?_
   rintro en w2 ⟨rfl,cS⟩
   have cr:=zzT hb cS
   have fV:w2.cell? ⟨w.heap.size,0,none⟩=some (.slice (some ⟨b',o,none⟩) t.args.length cap):=by rw [cS.cell hz];exact hc
   go_wp2_with fail
   go_roundw
   case rel=>exact ⟨k+1,by omega,by go_num,by rw [HS.out] <;> go_num,cr,fV⟩
   case measure=>simp [intOf];omega
  ·obtain rfl:k=t.args.length:=by omega
   go_wp2_with fail
   go_ret
   exact ⟨u_ (by rw [E1.out,List.take_length]),hb⟩
theorem l1Size_any (n:Nat):∀ t,zU t<=n->Lim n->pA t:=by
 induction n with
 | zero=>intro t h _;have:=kR t;omega
 | succ n ih=>exact fun t h hn=>l1Size_step t (hn.mono h) (fun t' h'=>ih t' (by omega) (hn.mono (by omega)))
def zQ (l:Bs):Ty×Bool :=
 if 100<l.length then (.mk [],false) else
 match rdS 21 l with
 | none=>(.mk [],false)
 | some (t,rest)=>(t,rest.isEmpty && decide (zU t<=15))
def TypePost (l:Bs) (w:World) (en:Ending) (w':World):Prop :=
 ∃ v,en=.returned (.tuple #[.agg #[v],.bool (zQ l).2])/\Below w.heap.size w w'/\Rep (w.heap.size<=·) w' (jA (zQ l).1) v
set_option maxRecDepth 100000 in
theorem xl (l:Bs) (hl:Lim l.length) (w:World):Calls Tryz.prog 42 #[str l] w (TypePost l w):=by
 have fM:=hl.le
 by_cases aC:100<l.length
 ·have DR:(100:Int)<(l.length:Int):=by omega
  have HM:zQ l=(.mk [],false):=by unfold zQ;rw [if_pos aC]
  have HM:=cH HM
  go_enter Tryz.func42,Tryz.ntmps42
  go_wp2_with fail
  refine bodyPost_ret (v:=.tuple #[.agg #[.slice none 0 0],.bool false]) (by simp [results,Tryz.results42,go_sem]) rfl ?_
  refine ⟨_,by rw [HM.out],(cE _ _).alloc (cC _) _,?_⟩
  rw [HM.out];exact pD _ _
 have DR:¬ (100:Int)<(l.length:Int):=by omega
 have HM:zQ l=(match rdS 21 l with
  | none=>(.mk [],false)
  | some (t,rest)=>(t,rest.isEmpty && decide (zU t<=15))):=by unfold zQ;rw [if_neg aC]
 have HM:=cH HM
 go_enter Tryz.func42,Tryz.ntmps42
 go_wp2_with fail
 refine (l1Read_any l hl 21 0 rfl 0 _ (Nat.zero_le _) (by omega)).mono ?_
 rintro en w1 ⟨v1,k1,t1,rfl,cT,m8,dY,dp⟩
 rw [show (21-0:Nat)=21 from rfl,List.drop_zero] at dY dp
 obtain ⟨a1,c1,e1⟩:=kJ m8
 subst e1
 have z1:=cT.size
 rw [zK] at z1
 have eK:w.heap.size<w1.heap.size:=by omega
 have dm:Below w.heap.size w w1:=((cE w.heap.size w).alloc (cC _) _).trans (cT.mono (by simp))
 have dA:w1.cell? ⟨w.heap.size,0,none⟩=some (.slice none 0 0):=by rw [cT.cell (by simp)];simp
 have fl:w1.frozen? ⟨w.heap.size,0,none⟩=false:=by rw [cT.frozen (by simp)];simp
 cases hq:rdS 21 l with
 | none =>
   obtain ⟨rfl,rfl⟩:=dY hq
   have HQ:=cH hq;clear hq dY dp
   have g1:((-1:Int) == (l.length:Int))=false:=by rw [beq_eq_false_iff_ne];omega
   go_wp2_with fail
   go_region
   go_wp2_with fail
   refine bodyPost_ret (v:=.tuple #[.agg #[.slice a1 0 c1],.bool false]) (by simp [results,Tryz.results42,go_sem,eK,qS dA,Ty.args]) rfl ?_
   refine ⟨_,by rw [HM.out,HQ.out],(by repeat (first | exact dm | refine Below.alloc ?_ (by simp;omega) _ | refine Below.setCell ?_ (by simp) _ | refine Below.drew ?_)),?_⟩
   rw [HM.out,HQ.out]
   rw [qE]
   refine kM.2 ⟨rfl,a1,c1,rfl,Nat.zero_le _,?_,.inl rfl⟩
   obtain ⟨_,_,_,e,_,h0,_⟩:=kM.1 (by rw [qE] at m8;exact m8)
   simp only [Value.slice.injEq] at e
   obtain ⟨rfl,_,rfl⟩:=e;exact h0
 | some x =>
   obtain ⟨t,rest⟩:=x
   obtain ⟨rfl,rfl⟩:=dp _ _ hq
   have hat:=rdS_atoms hq
   have HQ:=cH hq;clear hq dY dp
   obtain ⟨e,he⟩:=zzM (l.length-rest.length)
   rw [show (l.length:Int)-(rest.length:Int)=(e:Int) from by omega]
   have HE:=cH he;clear he
   cases rest with
   | cons x xs =>
     have g1:((e:Int) == (l.length:Int))=false:=by rw [beq_eq_false_iff_ne];have:=HE.out;simp at this hat;omega
     go_wp2_with fail
     go_region
     go_wp2_with fail
     refine bodyPost_ret (v:=.tuple #[.agg #[.slice a1 t1.args.length c1],.bool false]) (by simp [results,Tryz.results42,go_sem,eK,qS dA]) rfl ?_
     refine ⟨_,by rw [HM.out,HQ.out];rfl,(by repeat (first | exact dm | refine Below.alloc ?_ (by simp;omega) _ | refine Below.setCell ?_ (by simp) _ | refine Below.drew ?_)),?_⟩
     rw [HM.out,HQ.out]
     refine (Rep.keep fun b o h ho=>⟨by have:=vr h;omega,?_⟩).1 _ _ m8
     have hb:b≠w.heap.size:=by have:=vr h;omega
     exact zY (by rw [cF _ _ _ _ (by simpa using hb)];exact ho)
   | nil =>
     obtain rfl:e=l.length:=by have:=HE.out;simpa using this
     have g1:((l.length:Int) == (l.length:Int))=true:=by simp
     have hlA:Lim (zU t1):=hl.mono (by simp at hat;omega)
     have AG:Rep (w.heap.size < ·) (w1.alloc (.cells #[.slice a1 t1.args.length c1] 77)) (jA t1) (.slice a1 t1.args.length c1):=(Rep.keep fun b o h ho=>⟨by have:=vr h;omega,zY ho⟩).1 _ _ m8
     have Dd:(w1.alloc (.cells #[.slice a1 t1.args.length c1] 77)).cell? ⟨w1.heap.size,0,none⟩=some (.slice a1 t1.args.length c1):=by simp
     go_wp2_with fail
     go_region_held3 (fun w'=>w'.cell? ⟨w1.heap.size,0,none⟩=some (.slice a1 t1.args.length c1))
      (first
       | exact (cS.cell (by simp)).trans Dd
       | (rw [World.cell?_of_block (w:=w2) (cF _ _ _ _ (by simp;omega))];exact (cS.cell (by simp)).trans Dd)
       | go_keep)
      (first
       | (go_at_call 66;refine (l1Size_any (zU t1) t1 (cC _) hlA (w.heap.size < ·) _ _ (by exact AG.drew)).mono ?_;rintro en w2 ⟨rfl,cS⟩;have z2:=cS.size;have rS:w.heap.size<w2.heap.size:=(by simp at z2;omega);have ej:w2.cell? ⟨w.heap.size,0,none⟩=some (.slice none 0 0):=(cS.cell (by simp;omega)).trans (zX dA);have tp:w2.frozen? ⟨w.heap.size,0,none⟩=false:=(cS.frozen (by simp;omega)).trans ((World.frozen?_of_block (w:=w1) (Below.heap_alloc _ _ _ eK)).trans fl)))
     go_wp2_with fail
     refine bodyPost_ret (v:=.tuple #[.agg #[.slice a1 t1.args.length c1],.bool (decide ((zU t1:Int)<=15))]) (by simp [results,Tryz.results42,go_sem,qS ej]) rfl ?_
     have rD:Below w.heap.size w w2:=((dm.alloc dm.size _).drew).trans (cS.mono (by simp;omega))
     refine ⟨.slice a1 t1.args.length c1,?_,rD.setCell (cC _) _,?_⟩
     ·have e15:decide ((zU t1:Int)<=15)=decide (zU t1<=15):=by rw [decide_eq_decide];omega
      rw [HM.out,HQ.out,e15];rfl
     ·rw [HM.out,HQ.out]
      refine (Rep.keep fun b o h ho=>⟨by have:=vr h;omega,?_⟩).1 _ _ m8
      have hb:b≠w.heap.size:=by have:=vr h;omega
      rw [cF _ _ _ _ (by simpa using hb),cS.block b (by have:=zZ ho;simp;omega)]
      exact zY ho
theorem bZ (d:Nat):∀ {l:Bs} {t:Ty} {r:Bs} (e:Nat),d<=e->rdK d l=some (t,r)->rdK e l=some (t,r):=by
 induction d with
 | zero =>
   intro l t r e he h
   rcases z_ [98] l with hc | ⟨r',hc⟩
   ·rw [vX hc] at h;simp at h
   ·rw [vz hc] at h ⊢;exact h
 | succ d ih =>
   intro l t r e he h
   obtain ⟨e,rfl⟩:∃ e',e=e'+1:=⟨e-1,by omega⟩
   rcases z_ [98] l with hc | ⟨r',hc⟩
   ·rw [ki hc] at h ⊢
    simp only [Option.bind_eq_bind,Option.bind_eq_some_iff,Prod.exists] at h ⊢
    obtain ⟨r1,h1,a,r2,h2,r3,h3,b,r4,h4,r5,h5,h6⟩:=h
    exact ⟨r1,h1,a,r2,ih e (by omega) h2,r3,h3,b,r4,ih e (by omega) h4,r5,h5,h6⟩
   ·rw [vz hc] at h ⊢;exact h
theorem wh {p l r:Bs} (h:cut p l=some r):l.length=p.length+r.length:=by
 unfold cut at h;split at h
 ·rename_i hp
  have:=List.IsPrefix.length_le (List.isPrefixOf_iff_prefix.1 hp)
  simp at h;subst h;simp;omega
 ·simp at h
theorem wb (a b:Ty):zU (jN a b)=1+zU a+zU b:=by cases b;simp [jN,zU,zR,Ty.args];omega
theorem rdK_shallow (e:Nat):∀ {l:Bs} {t:Ty} {r:Bs} (d:Nat),zU t<=2*d+1->rdK e l=some (t,r)->rdK d l=some (t,r):=by
 induction e with
 | zero =>
   intro l t r d hd h
   exact bZ 0 d (Nat.zero_le _) h
 | succ e ih =>
   intro l t r d hd h
   rcases z_ [98] l with hc | ⟨r',hc⟩
   ·rw [ki hc] at h
    simp only [Option.bind_eq_bind,Option.bind_eq_some_iff,Prod.exists] at h
    obtain ⟨r1,h1,a,r2,h2,r3,h3,b,r4,h4,r5,h5,h6⟩:=h
    simp at h6;obtain ⟨rfl,rfl⟩:=h6
    have hat:=wb a b
    have pa:=kR a;have pb:=kR b
    obtain ⟨d,rfl⟩:∃ d',d=d'+1:=⟨d-1,by omega⟩
    rw [ki hc]
    simp only [Option.bind_eq_bind,Option.bind_eq_some_iff,Prod.exists]
    exact ⟨r1,h1,a,r2,ih d (by omega) h2,r3,h3,b,r4,ih d (by omega) h4,r5,h5,rfl⟩
   ·rw [vz hc] at h ⊢;exact h
theorem rdK_len (e:Nat):∀ {l:Bs} {t:Ty} {r:Bs},rdK e l=some (t,r)->l.length+5<=r.length+6*zU t:=by
 induction e with
 | zero =>
   intro l t r h
   rcases z_ [98] l with hc | ⟨r',hc⟩
   ·rw [vX hc] at h;simp at h
   ·rw [vz hc] at h;simp at h;obtain ⟨rfl,rfl⟩:=h
    have:=wh hc;simp [zU,zR] at *;omega
 | succ e ih =>
   intro l t r h
   rcases z_ [98] l with hc | ⟨r',hc⟩
   ·rw [ki hc] at h
    simp only [Option.bind_eq_bind,Option.bind_eq_some_iff,Prod.exists] at h
    obtain ⟨r1,h1,a,r2,h2,r3,h3,b,r4,h4,r5,h5,h6⟩:=h
    simp at h6;obtain ⟨rfl,rfl⟩:=h6
    have hat:=wb a b
    have k1:=wh h1;have k2:=ih h2;have k3:=wh h3;have k4:=ih h4;have k5:=wh h5
    simp at k1 k3 k5;omega
   ·rw [vz hc] at h;simp at h;obtain ⟨rfl,rfl⟩:=h
    have:=wh hc;simp [zU,zR] at *;omega
theorem yw (l:Bs):qv l=if (zQ l).2 then some (zQ l).1 else none:=by
 unfold qv zQ
 by_cases aC:100<l.length
 ·rw [if_pos aC]
  simp only [Bool.false_eq_true,if_false]
  split
  ·rename_i t hq
   have:=rdK_len 15 hq
   rw [if_neg (by simp at this;omega)]
  ·rfl
 ·rw [if_neg aC]
  have e21:rdS 21 l=rdK 20 l:=rfl
  rw [e21]
  cases hq:rdK 20 l with
  | none =>
    simp only [Bool.false_eq_true,if_false]
    split
    ·rename_i t nH
     have:=bZ 15 20 (by omega) nH
     rw [hq] at this;simp at this
    ·rfl
  | some x =>
    obtain ⟨t,rest⟩:=x
    simp only
    by_cases ht:zU t<=15
    ·have nH:=rdK_shallow 20 15 (by omega) hq
     rw [nH]
     cases rest with
     | nil=>simp [ht]
     | cons x xs=>simp
    ·cases nH:rdK 15 l with
     | none=>simp [ht]
     | some y =>
       obtain ⟨t2,r2⟩:=y
       have:=bZ 15 20 (by omega) nH
       rw [hq] at this;simp at this;obtain ⟨rfl,rfl⟩:=this
       cases rest <;> simp [ht]
set_option maxRecDepth 100000 in
theorem bS (F:Nat->Prop) (hand:List Ty) (t:Ty) (hv tv:Value) (w:World) (hh:Rep F w (.sl 77 1 hand.length (qx hand)) hv) (ht:Rep F w (jA t) tv) (hl:Lim (hand.length+t.args.length)) :
 Calls Tryz.prog 67 #[hv,.agg #[tv]] w fun en w' =>
  ∃ a c,en=.returned (.slice a (hand++t.args).length c)/\Below w.heap.size w w'/\Rep (fun k=>F k\/w.heap.size<=k) w' (.sl 77 1 (hand++t.args).length (qx (hand++t.args))) (.slice a (hand++t.args).length c):=by
 have fM:=hl.le
 obtain ⟨xs1,mP,g1⟩:=zM.ofRep hh (uM _)
 have eI:=ht
 rw [qE] at eI
 obtain ⟨xs2,mV,g2⟩:=zM.ofRep eI (uM _)
 obtain ⟨a1,c1,e1⟩:=g1.slice
 obtain ⟨a2,c2,e2⟩:=g2.slice
 subst e1;subst e2
 have Dd:(w.alloc (.cells #[.slice a2 t.args.length c2] 77)).cell? ⟨w.heap.size,0,none⟩=some (.slice a2 t.args.length c2):=by simp
 go_enter Tryz.func67,Tryz.ntmps67
 go_wp2_with fail
 go_region_held3 (fun w'=>w'.cell? ⟨w.heap.size,0,none⟩=some (.slice a2 t.args.length c2))
  (first
   | exact (AW.cell (by simp)).trans Dd
   | exact (Ad.cell (by simp)).trans Dd
   | go_keep)
  (first
   | (refine zc (by rfl) (.tmp 7) (.tmp 9) _ (by rfl) 77 (.agg #[.slice none 0 0]) 1 24 Tryz.underlying75 Tryz.infoS rfl (by omega) (.slice ax hand.length cx) hand.length xs1 (by rfl) (by exact hox) (.slice a2 t.args.length c2) t.args.length xs2 (by rfl) (by exact (g2.alloc _).below Ad) (by unfold maxLen;omega) (by omega) ?_;intro ay cy wy hoy eW hgy;obtain ⟨AW,AR⟩:=yC Ad hfx eW hgy)
   | (refine zc (by rfl) (.tmp 5) (.tmp 6) _ (by rfl) 77 (.agg #[.slice none 0 0]) 1 24 Tryz.underlying75 Tryz.infoS rfl (by omega) (.slice (some ⟨w.heap.size+1,0,none⟩) 0 0) 0 [] (by rfl) (by exact (Own.litAt #[] 0 _ (by simp) (by decide) rfl).drew) (.slice a1 hand.length c1) hand.length xs1 (by rfl) (by exact ((g1.alloc _).alloc _).drew) (by unfold maxLen;omega) (by omega) ?_;rw [Nat.zero_add,List.nil_append];intro ax cx wx hox fu hgx;obtain ⟨Ad,hfx⟩:=yC (((cE _ _).alloc (cC _) _).drew) (own_some (by simp)) fu hgx))
 go_wp2_with fail
 go_ret
 have cT:Below w.heap.size w (w.alloc (.cells #[.slice a2 t.args.length c2] 77)):=(cE _ _).alloc (cC _) _
 have hbZ:Below w.heap.size w wy:=cT.trans (AW.mono (by simp))
 rw [List.length_append]
 refine ⟨ay,cy,rfl,hbZ,?_⟩
 rw [encSs_append]
 exact hoy.rep (fun g h=>.inr (by have:=AR g h;simp at this;omega)) (zH.append (mP.below hbZ (fun _ h=>.inl h)) (mV.below hbZ (fun _ h=>.inl h)))
end Go.Proofs.YtdhaafoiokkbnaaGreatDoor

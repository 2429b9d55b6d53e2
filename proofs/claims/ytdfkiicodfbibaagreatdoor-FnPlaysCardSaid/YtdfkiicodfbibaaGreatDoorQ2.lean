/- Walks of functions that the statement reaches, and plain words. No conditions. -/
import Derived.Test.YtdfkiicodfbibaaGreatDoorQ1
set_option linter.unusedVariables false
set_option linter.unusedSimpArgs false
set_option maxHeartbeats 4000000
namespace Go.Proofs.YtdfkiicodfbibaaGreatDoor
open Go.RowKit
def idxSep (l:Bs):Int:=if (wordRest l)=[] then -1 else (wordOf l).length
theorem word_append (l:Bs):wordOf l++wordRest l=l:=List.takeWhile_append_dropWhile
theorem word_take (l:Bs):l.take (wordOf l).length=wordOf l:=by
 have h:=word_append l
 have:=List.take_left (l₁:=wordOf l) (l₂:=wordRest l);rw [h] at this;exact this
theorem word_drop (l:Bs):l.drop (wordOf l).length=wordRest l:=by
 have h:=word_append l
 have:=List.drop_left (l₁:=wordOf l) (l₂:=wordRest l);rw [h] at this;exact this
theorem word_le (l:Bs):(wordOf l).length+(wordRest l).length=l.length:=by
 have:=congrArg List.length (word_append l);simpa using this
theorem indexAny_sep (l:Bs):Lib.indexAny l [32,40,41]=idxSep l:=by
 induction l with
 | nil=>rfl
 | cons b l ih =>
   rw [Lib.indexAny]
   have hs:([32,40,41]:Bs).contains b=sep b:=by
    rw [Bool.eq_iff_iff];simp [sep,or_assoc]
   rw [hs]
   cases hb:sep b
   ·have e1:wordOf (b::l)=b::wordOf l:=by simp [wordOf,hb]
    have e2:wordRest (b::l)=wordRest l:=by simp [wordRest,hb]
    rw [ih]
    unfold idxSep
    rw [e1,e2]
    by_cases h:wordRest l=[]
    ·simp [h]
    ·simp only [h,if_false,Bool.false_eq_true]
     rw [if_neg (by rw [beq_iff_eq];omega)]
     simp
   ·have e1:wordOf (b::l)=[]:=by simp [wordOf,hb]
    have e2:wordRest (b::l)=b::l:=by simp [wordRest,hb]
    unfold idxSep
    rw [e1,e2];simp
theorem indexAny_any (l:Bs) (w:World) (hl:Lim l.length) :
 Calls Tryz.prog 209 #[str l,.string ⟨#[32,40,41]⟩] w fun en w'=>en=.returned (.int .i64 (idxSep l))/\Below w.heap.size w w':=by
 have hl':=hl.le
 have hsz:(⟨l.toArray⟩:ByteArray).size=l.length:=size_str l
 rw [<- indexAny_sep]
 by_cases h8:l.length<=8
 ·have:=indexAny_short ⟨l.toArray⟩ (by omega) w
  simpa [str] using this
 ·refine (Tryz.strings_IndexAny_long (zero_of_info (n:=256) (by kernel_rfl)).1 ⟨l.toArray⟩ ⟨#[32,40,41]⟩ w (by show 2<=3;omega) (by omega) (by omega) (by show 3<4294967281;omega) (by
   intro j b hj
   have:b∈([32,40,41]:Bs):=List.mem_of_getElem? hj
   simp at this
   rcases this with rfl | rfl | rfl <;> decide)).mono ?_
  rintro e w' ⟨rfl,rfl⟩
  refine ⟨by simp,((Below.refl _ _).alloc (Nat.le_refl _) _).alloc (by simp) _⟩
theorem word_any (sc:Nat) (c:List Value) (e:TypeId) (r:Bs) (w:World) (h:Scan sc c e r w) (hr:Lim r.length) :
 Calls Tryz.prog 185 #[.pointer (some ⟨sc,0,none⟩)] w fun en w' =>
  en=.returned (str (wordOf r))/\But (· = sc) w w'/\Scan sc c e (wordRest r) w':=by
 have h1:=h.cell
 have h2:=h.free 0
 have hsc:=scan_lt h
 have hl:=hr.le
 have hw:=word_le r
 go_enter Tryz.func185,Tryz.ntmps185
 go_wp2_with fail
 refine (indexAny_any r w hr).mono ?_
 rintro en w1 ⟨rfl,hb⟩
 have c1:w1.cell? ⟨sc,0,none⟩=some (str r):=by rw [hb.cell hsc];exact h1
 have c2:w1.frozen? ⟨sc,0,none⟩=false:=by rw [hb.frozen hsc];exact h2
 have hS:Scan sc c e r w1:=by unfold Scan;rw [hb.block sc hsc];exact h
 clear h1 h2
 by_cases h0:wordRest r=[]
 ·have hi:idxSep r = -1:=by simp [idxSep,h0]
  rw [hi]
  have e1:wordOf r=r:=by have:=word_append r;rw [h0] at this;simpa using this
  have HE:=Lib.hid e1;have H0:=Lib.hid h0;clear e1 h0 hi
  go_wp2_with fail
  go_ret
  have e2:(⟨r.toArray⟩:ByteArray).extract 0 r.length=⟨(wordOf r).toArray⟩:=by rw [ext_str,HE.out];simp
  refine ⟨?_,(But.ofBelow hb).setS 0 _,?_⟩
  ·show Ending.returned (.string _)=_;rw [e2]
  ·have:=hS.put (r':=wordRest r);rw [H0.out] at this ⊢;exact this
 ·have hi:idxSep r=(wordOf r).length:=by simp [idxSep,h0]
  rw [hi]
  have hlt:(wordOf r).length<=r.length:=by omega
  have H0:=Lib.hid h0;clear h0 hi
  go_wp2_with fail
  go_ret
  have e2:(⟨r.toArray⟩:ByteArray).extract 0 (wordOf r).length=⟨(wordOf r).toArray⟩:=by rw [ext_str,List.drop_zero,word_take]
  have e3:(⟨r.toArray⟩:ByteArray).extract (wordOf r).length r.length=⟨(wordRest r).toArray⟩:=by rw [ext_str,List.take_length,word_drop]
  refine ⟨?_,(But.ofBelow hb).setS 0 _,?_⟩
  ·show Ending.returned (.string _)=_;rw [e2]
  ·rw [e3];exact hS.put
structure Glob (w:World):Prop where
 e0:∃ te pe,w.var? Tryz.prog "strconv.ErrSyntax" = some #[.iface te pe]
 e1:∃ te pe,w.var? Tryz.prog "strconv.ErrRange" = some #[.iface te pe]
 tab:Lib.TabIs Tryz.prog w "internal/strconv.uint64pow10" .u64 Lib.pow10Tab
def NotG (b:Nat):Prop:=b≠2/\b≠3/\b≠4
theorem Tryz.gn0:Tryz.prog.globalNamed "strconv.ErrSyntax" = some 2:=by kernel_rfl
theorem Tryz.gn1:Tryz.prog.globalNamed "strconv.ErrRange" = some 3:=by kernel_rfl
theorem Tryz.gn2:Tryz.prog.globalNamed "internal/strconv.uint64pow10" = some 4:=by kernel_rfl
theorem var_lt {P:Program} {w:World} {nm:String} {g:Nat} {x:Array Value} (hg:P.globalNamed nm=some g) (h:w.var? P nm=some x):g<w.heap.size:=by
 unfold World.var? at h
 rw [hg] at h
 simp only [Option.bind_some] at h
 rcases Nat.lt_or_ge g w.heap.size with h' | h'
 ·exact h'
 ·rw [Array.getElem?_eq_none h'] at h;simp at h
theorem var_keep {P:Program} {w w':World} {nm:String} {g:Nat} {x:Array Value} (hg:P.globalNamed nm=some g) (hk:w'.heap[g]? = w.heap[g]?) (h:w.var? P nm=some x):w'.var? P nm=some x:=by
 unfold World.var? at *
 rw [hg] at *
 simp only [Option.bind_some] at *
 rw [hk];exact h
theorem Glob.but {m:Nat->Prop} {w w':World} (h:Glob w) (hb:But m w w') (hm:∀ i,m i->NotG i):Glob w':=by
 obtain ⟨⟨t0,p0,h0⟩,⟨t1,p1,h1⟩,h2⟩:=h
 have l0:=var_lt Tryz.gn0 h0
 have l1:=var_lt Tryz.gn1 h1
 have l2:=var_lt Tryz.gn2 h2
 exact ⟨⟨t0,p0,var_keep Tryz.gn0 (hb.block _ l0 fun e=>(hm _ e).1 rfl) h0⟩,⟨t1,p1,var_keep Tryz.gn1 (hb.block _ l1 fun e=>(hm _ e).2.1 rfl) h1⟩,var_keep Tryz.gn2 (hb.block _ l2 fun e=>(hm _ e).2.2 rfl) h2⟩
theorem Glob.below {w w':World} (h:Glob w) (hb:Below w.heap.size w w'):Glob w':=h.but (m:=fun _=>False) (But.ofBelow hb) (fun _ e=>e.elim)
theorem Glob.new {w:World} (h:Glob w) {b:Nat} (hb:w.heap.size<=b):NotG b:=by
 obtain ⟨⟨t0,p0,h0⟩,⟨t1,p1,h1⟩,h2⟩:=h
 have l0:=var_lt Tryz.gn0 h0
 have l1:=var_lt Tryz.gn1 h1
 have l2:=var_lt Tryz.gn2 h2
 exact ⟨by omega,by omega,by omega⟩
theorem below_drewN {B:Nat} {a w:World} (h:Below B a w) (n:Nat):Below B a (w.drewN n):=h.trans ⟨rfl,rfl,rfl,Nat.le_refl _,fun _ _=>rfl⟩
theorem below_grow (w:World) (os:Array Obj):Below w.heap.size w (Go.Sort.grow w os) :=
 ⟨rfl,rfl,rfl,by simp [Go.Sort.grow],fun k hk=>by simp [Go.Sort.grow,Array.getElem?_append_left hk]⟩
theorem below_freeze {B:Nat} {a w:World} (h:Below B a w) {p:Addr} (hp:B<=p.block) (n:Nat):Below B a (w.freeze p n):=by
 refine h.trans ⟨?_,?_,?_,?_,?_⟩
 ·unfold World.freeze;split <;> rfl
 ·unfold World.freeze;split <;> rfl
 ·unfold World.freeze;split <;> rfl
 ·unfold World.freeze;split <;> simp
 ·intro k hk
  unfold World.freeze;split
  ·rfl
  ·simp only [Array.getElem?_modify];rw [if_neg (by omega)]
theorem below_bytesWorld (w:World) (e:TypeId) (s:ByteArray):Below w.heap.size w (Lib.bytesWorld w e s) :=
 below_freeze (((Below.refl w.heap.size w).drew).alloc (Nat.le_refl _) _) (Nat.le_refl _) _
theorem atoi_ok (l:Bs) (w:World) (hl:Lim l.length) (v:Int) (h:Lib.atoiAll l=.ok v) :
 Calls Tryz.prog 186 #[str l] w fun en w'=>en=.returned (.tuple #[.int .i64 v,.nilIface])/\Below w.heap.size w w':=by
 have hl':=hl.le
 refine (Tryz.strconv_Atoi_ok ⟨l.toArray⟩ (by show l.toArray.size<=_;simp;omega) v h w).mono ?_
 rintro en w' ⟨rfl,rfl | ⟨t,rfl⟩⟩
 ·exact ⟨rfl,Below.refl _ _⟩
 ·exact ⟨rfl,below_bytesWorld _ _ _⟩
theorem atoi_no (l:Bs) (w:World) (hl:Lim l.length) (hg:Glob w) (h:∀ v,Lib.atoiAll l≠.ok v) :
 Calls Tryz.prog 186 #[str l] w fun en w'=>∃ v t p,en=.returned (.tuple #[.int .i64 v,.iface t p])/\Below w.heap.size w w':=by
 have hl':=hl.le
 have hs:(⟨l.toArray⟩:ByteArray).size<=281474976710656:=by show l.toArray.size<=_;simp;omega
 cases ha:Lib.atoiAll l
 ·rename_i v;exact absurd ha (h v)
 ·obtain ⟨te,pe,h0⟩:=hg.e0
  refine (Tryz.strconv_Atoi_syntax_var ⟨l.toArray⟩ hs ha te pe w h0).mono ?_
  rintro en w' ⟨N,rfl,_,_,hb⟩
  exact ⟨_,_,_,rfl,hb⟩
 ·obtain ⟨te,pe,h0⟩:=hg.e1
  refine (Tryz.strconv_Atoi_range_var ⟨l.toArray⟩ hs ha te pe w h0).mono ?_
  rintro en w' ⟨N,rfl,_,_,hb⟩
  exact ⟨_,_,_,rfl,hb⟩
theorem itoa_any (n:Int) (w:World) (hg:Glob w) (h0 : -9223372036854775808<=n) (h1:n<=9223372036854775807) :
 Calls Tryz.prog 161 #[.int .i64 n] w fun en w'=>en=.returned (str (Lib.itoa n))/\Below w.heap.size w w':=by
 refine (Tryz.strconv_Itoa n h0 h1 w hg.tab).mono ?_
 rintro en w' ⟨rfl,k,os,rfl⟩
 exact ⟨rfl,(below_drewN (Below.refl _ _) k).trans (below_grow (w.drewN k) os)⟩
theorem atoiAll_bd {l:Bs} {v:Int} (h:Lib.atoiAll l=.ok v) : -9223372036854775808<=v/\v<=9223372036854775807:=by
 unfold Lib.atoiAll at h
 split at h
 ·simp at h
 ·simp only at h
  split at h
  ·simp at h
  ·simp at h
  ·split at h
   ·simp at h
   ·split at h
    ·simp at h
    ·rename_i h1 h2
     simp only [Lib.NumEnd.ok.injEq] at h
     split at h <;> omega
theorem itoa_of {l:Bs} {v:Int} (h:Lib.atoiAll l=.ok v) (w:World) (hg:Glob w) :
 Calls Tryz.prog 161 #[.int .i64 v] w fun en w'=>en=.returned (str (Lib.itoa v))/\Below w.heap.size w w' :=
 itoa_any v w hg (atoiAll_bd h).1 (atoiAll_bd h).2
def BPost (sr:Nat) (w:World) (o:Option (Bd×Bs×Nat)) (en:Ending) (w':World):Prop :=
 ∃ (v:Value) (r':Bs) (left':Int),en=.returned v/\But (fun x=>x=sr) w w'/\Scan sr [.int .i64 left'] 209 r' w'/\(o=none->v=.pointer none) /\
   (∀ b rest left2,o=some (b,rest,left2)->r'=rest/\left'=(left2:Nat)/\Rep (w.heap.size<=·) w' (encB b) v)
theorem encB_ptr {F:Nat->Prop} {w:World} {b:Bd} {v:Value} (h:Rep F w (encB b) v):∃ a,v=.pointer (some ⟨a,0,none⟩):=by
 cases b with
 | leaf c=>rw [encB,Rep_ptr] at h;obtain ⟨a,c,h,_⟩:=h;exact ⟨a,h⟩
 | ask v ss y n=>rw [encB,Rep_ptr] at h;obtain ⟨a,c,h,_⟩:=h;exact ⟨a,h⟩
theorem BPost.no {sr:Nat} {w:World} {o:Option (Bd×Bs×Nat)} {w':World} {r:Bs} {left:Int} (ho:o=none) (hb:But (fun x=>x=sr) w w') (hs:Scan sr [.int .i64 left] 209 r w') :
 BPost sr w o (.returned (.pointer none)) w' :=
 ⟨_,r,left,rfl,hb,hs,fun _=>rfl,fun _ _ _ h=>by rw [ho] at h;simp at h⟩
theorem BPost.yes {sr:Nat} {w:World} {o:Option (Bd×Bs×Nat)} {w':World} {r:Bs} {left:Nat} {b:Bd} {v:Value} (ho:o=some (b,r,left)) (hb:But (fun x=>x=sr) w w') (hs:Scan sr [.int .i64 left] 209 r w')
 (hv:Rep (w.heap.size<=·) w' (encB b) v):BPost sr w o (.returned v) w' :=
 ⟨_,r,left,rfl,hb,hs,fun h=>by rw [ho] at h;simp at h,fun _ _ _ h=>by rw [ho] at h;simp at h;obtain ⟨rfl,rfl,rfl⟩:=h;exact ⟨rfl,rfl,hv⟩⟩
def HandOk (d:Nat) (levels:List Ty):Prop:=(∀ t∈levels,atomsT t<=15)/\levels.length+15*d<=10000
def BodySaid (d:Nat):Prop:=∀ (sr left:Nat) (levels:List Ty) (l:Bs) (lv:Value) (F:Nat->Prop) (w:World),Glob w->NotG sr ->
 Scan sr [.int .i64 left] 209 l w->left<=1000->Lim l.length->HandOk d levels ->
 Rep F w (.sl 71 1 levels.length (encKs levels)) lv->(∀ b,F b->b≠sr) ->
 Calls Tryz.prog 156 #[.pointer (some ⟨sr,0,none⟩),lv,.int .i64 d] w (BPost sr w (rdB d levels left l))
theorem encKs_append (a b:List Ty):encKs (a++b)=encKs a++encKs b:=by
 induction a with
 | nil=>rfl
 | cons t ts ih=>simp [encKs,ih]
theorem srcSl_but {F:Nat->Prop} {m:Nat->Prop} {w w':World} {e:TypeId} {sz n:Nat} {cs:List DV} {v:Value} {news:List Value} (hb:But m w w') (hF:∀ b,F b->¬ m b) (h:Rep F w (.sl e sz n cs) v) (hs:SrcSl sz v n news w):SrcSl sz v n news w':=by
 rw [Rep_sl] at h
 obtain ⟨hl,a,cap,rfl,hn,hz,h⟩:=h
 obtain ⟨h1,h2,h3⟩:=hs
 refine ⟨h1,h2,?_⟩
 rcases h with rfl | ⟨b,o,c,fr,rfl,hb',hc,hr⟩
 ·have:news=[]:=List.eq_nil_of_length_eq_zero (by simpa using h1)
  subst this
  rcases h3 with ⟨a',c',e',_⟩ | h3
  ·exact .inl ⟨a',c',e',by simp⟩
  ·exact .inr h3
 ·rcases h3 with ⟨a',c',e',h3⟩ | ⟨h3,_⟩
  ·simp at e'
   obtain ⟨e1,e2⟩:=e'
   subst e1
   refine .inl ⟨_,cap,rfl,fun j u hj=>?_⟩
   have:=h3 j u hj
   rw [hb.cell (World.block_lt_of_cell? w _ this) ?_]
   ·exact this
   ·unfold Addr.add;split <;> exact hF b hb'
  ·simp at h3
theorem part_pre {F:Nat->Prop} {sr:Nat} {left:Int} {levels more:List Ty} {r1:Bs} {xs1 xs2:List Value} {ac:Option Addr} {kc:Nat} {w w1 wx wc:World} (hg:Glob w) (hn:NotG sr) (hsr:sr<w.heap.size)
 (hb1:But (fun x=>x=sr) w w1) (hs1:Scan sr [.int .i64 left] 209 r1 w1)
 (hF:∀ b,F b->b≠sr) (G1:Reps F w1 (encKs levels) xs1) (G2:Reps F w1 (encKs more) xs2)
 (hx:Below w1.heap.size w1 wx) (hoc:Own wc 71 1 (.slice ac (levels.length+more.length) kc) (levels.length+more.length) (xs1++xs2))
 (hbc:Below wx.heap.size wx wc) (hfc:∀ g,(Value.slice ac (levels.length+more.length) kc).ownBlock=some g->wx.heap.size<=g) :
 Below w1.heap.size w1 wc/\Glob wc/\Scan sr [.int .i64 left] 209 r1 wc /\
  Rep (fun b=>b≠sr) wc (.sl 71 1 (levels++more).length (encKs (levels++more))) (.slice ac (levels.length+more.length) kc):=by
 have z1:=hb1.size
 have hb:Below w1.heap.size w1 wc:=zzT hx hbc
 refine ⟨hb,(hg.but hb1 fun i e=>by subst e;exact hn).below hb,(hb.block sr (by omega)).trans hs1,?_⟩
 rw [List.length_append,encKs_append]
 refine hoc.rep (fun g h=>?_) (Reps.append (G1.below hb hF) (G2.below hb hF))
 have:=hfc g h;have:=hx.size;omega
set_option maxRecDepth 100000 in
theorem part_any (d:Nat) (ih:BodySaid d) (sr left:Nat) (levels more:List Ty) (l:Bs) (lv mv:Value) (F:Nat->Prop) (w:World) (b1 b2 b3:Nat) (hg:Glob w) (hn:NotG sr)
 (hs:Scan sr [.int .i64 left] 209 l w) (hl:left<=1000) (hr:Lim l.length) (hh:HandOk d (levels++more)) (hd:d<=1000)
 (hlv:Rep F w (.sl 71 1 levels.length (encKs levels)) lv) (hmv:Rep F w (.sl 71 1 more.length (encKs more)) mv) (hF:∀ b,F b->b≠sr)
 (c1:w.cell? ⟨b1,0,none⟩=some (.pointer (some ⟨sr,0,none⟩))) (c2:w.cell? ⟨b2,0,none⟩=some lv) (c3:w.cell? ⟨b3,0,none⟩=some (.int .i64 ((d:Int)+1)))
 (n1:b1≠sr) (n2:b2≠sr) (n3:b3≠sr) :
 Calls Tryz.prog 187 #[mv,.pointer (some ⟨b1,0,none⟩),.pointer (some ⟨b2,0,none⟩),.pointer (some ⟨b3,0,none⟩)] w (BPost sr w (rdPart (rdB d) (levels++more) left l)):=by
 have IH:=Lib.hid ih;clear ih
 have HF:=Lib.hid hF;clear hF
 have l1:=World.block_lt_of_cell? w _ c1
 have l2:=World.block_lt_of_cell? w _ c2
 have l3:=World.block_lt_of_cell? w _ c3
 go_enter Tryz.func187,Tryz.ntmps187
 go_wp2_with fail
 rcases cut_cases [32] l with h1 | ⟨r1,h1⟩
 ·refine (take_no hs h1).mono ?_
  rintro en w1 ⟨rfl,hb1,hs1⟩
  go_wp2_with fail
  go_ret
  exact BPost.no (by simp [rdPart,h1.out]) hb1 hs1
 ·refine (take_yes hs h1).mono ?_
  rintro en w1 ⟨rfl,hb1,hs1⟩
  have d1:w1.cell? ⟨b1,0,none⟩=some (.pointer (some ⟨sr,0,none⟩)):=by rw [hb1.cell l1 n1];exact c1
  have d2:w1.cell? ⟨b2,0,none⟩=some lv:=by rw [hb1.cell l2 n2];exact c2
  have d3:w1.cell? ⟨b3,0,none⟩=some (.int .i64 ((d:Int)+1)):=by rw [hb1.cell l3 n3];exact c3
  obtain ⟨xs1,hx1,g1⟩:=SrcSl.ofRep hlv (oneCell_encKs _)
  obtain ⟨xs2,hx2,g2⟩:=SrcSl.ofRep hmv (oneCell_encKs _)
  have lim:levels.length+more.length<=10000:=by have:=hh.2;simp at this;omega
  have hsr:=scan_lt hs
  have z1:=hb1.size
  have hF':=HF.out
  have G1:=Lib.hid (Reps.but hb1 (fun b hb=>⟨HF.out b hb,hb⟩) hx1)
  have G2:=Lib.hid (Reps.but hb1 (fun b hb=>⟨HF.out b hb,hb⟩) hx2)
  have W1:SrcSl 1 lv levels.length xs1 w1:=srcSl_but hb1 hF' hlv g1
  have W2:SrcSl 1 mv more.length xs2 w1:=srcSl_but hb1 hF' hmv g2
  clear hF' hx1 hx2 g1 g2 c1 c2 c3
  obtain ⟨a1,k1,rfl⟩:=W1.slice
  obtain ⟨a2,k2,rfl⟩:=W2.slice
  have l1':b1<w1.heap.size:=by omega
  have l2':b2<w1.heap.size:=by omega
  have l3':b3<w1.heap.size:=by omega
  go_wp2_with fail
  have HW:=Lib.hid (IntWalk.i64_in (d:Int) (by omega))
  go_region_held3 (fun w'=>w'.cell? ⟨b1,0,none⟩=some (.pointer (some ⟨sr,0,none⟩))/\w'.cell? ⟨b2,0,none⟩=some (.slice a1 levels.length k1)/\w'.cell? ⟨b3,0,none⟩=some (.int .i64 ((d:Int)+1)))
   (first
    | exact ⟨(hbg.cell l1' n1).trans d1,(hbg.cell l2' n2).trans d2,(hbg.cell l3' n3).trans d3⟩
    | exact ⟨(hbb.cell l1').trans d1,(hbb.cell l2').trans d2,(hbb.cell l3').trans d3⟩
    | go_keep)
   (first
    | (go_at_call 184;refine (concatK_any w1.heap.size levels.length more.length (.slice a1 levels.length k1) (.slice a2 more.length k2) xs1 xs2 _ (by simp) (by simp) (W1.keep fun _ _ h=>by simpa using cell_alloc h) (W2.keep fun _ _ h=>by simpa using cell_alloc h) (show _<=_ by omega) (show _<=_ by omega) (show _<=_ by omega)).mono ?_;rintro en wc ⟨ac,kc,rfl,hoc,hbc,hfc⟩;obtain ⟨hbb,hgc,hsc,hrc⟩:=part_pre hg hn hsr hb1 hs1 HF.out G1.out G2.out (((Below.refl w1.heap.size w1).alloc (Nat.le_refl _) _).drew) hoc hbc hfc)
    | (go_at_call 156
       rw [HW.out]
       refine (IH.out sr left (levels++more) r1 _ (fun b=>b≠sr) wc hgc hn hsc hl (hr.mono h1.le) hh hrc (fun b h=>h)).mono ?_
       rintro en wf ⟨v,r',left',rfl,hbf,hsf,hnf,hyf⟩;have hbg:=(But.ofBelow (m:=fun x=>x=sr) hbb).trans hbf))
  go_wp2_with fail
  go_ret
  refine ⟨v,r',left',rfl,hb1.trans hbg,hsf,fun h=>hnf ?_,fun b rest left2 h=>?_⟩
  ·simpa [rdPart,h1.out] using h
  ·obtain ⟨e1,e2,e3⟩:=hyf b rest left2 (by simpa [rdPart,h1.out] using h)
   exact ⟨e1,e2,(Rep.keep fun b o h ho=>⟨by have:=h;have:=hbb.size;omega,ho⟩).1 _ _ e3⟩
theorem Scan.cell1 {sc:Nat} {c:List Value} {e:TypeId} {r:Bs} {u:Value} {w:World} (h:Scan sc (u::c) e r w):w.cell? ⟨sc,1,none⟩=some u:=by
 simp [World.cell?,Scan] at *;simp [h]
theorem Scan.put1 {sc:Nat} {c:List Value} {e:TypeId} {r:Bs} {u u':Value} {w:World} (h:Scan sc (u::c) e r w):Scan sc (u'::c) e r (w.setCell ⟨sc,1,none⟩ u'):=by
 unfold Scan at *
 have hlt:=lt_of_heap h
 have h':w.heap[sc]=.cells (str r::u::c).toArray e (0,0):=by simpa [Array.getElem?_eq_getElem hlt] using h
 show (w.heap.modify sc _)[sc]? = _
 rw [Array.getElem?_eq_getElem (by simpa using hlt),Array.getElem_modify_self,h']
 simp
def Boxes (B sr:Nat) (lv:Value) (d:Nat) (w:World):Prop :=
 w.cell? ⟨B,0,none⟩=some (.pointer (some ⟨sr,0,none⟩))/\w.cell? ⟨B+1,0,none⟩=some lv/\w.cell? ⟨B+1+1,0,none⟩=some (.int .i64 (d:Int))
theorem Boxes.but {B sr:Nat} {lv:Value} {d:Nat} {m:Nat->Prop} {w w':World} (h:Boxes B sr lv d w) (hb:But m w w') (hm:∀ i,m i->i≠B/\i≠B+1/\i≠B+1+1):Boxes B sr lv d w':=by
 obtain ⟨h1,h2,h3⟩:=h
 refine ⟨?_,?_,?_⟩
 ·rw [hb.cell (World.block_lt_of_cell? w _ h1) (fun e=>(hm _ e).1 rfl)];exact h1
 ·rw [hb.cell (World.block_lt_of_cell? w _ h2) (fun e=>(hm _ e).2.1 rfl)];exact h2
 ·rw [hb.cell (World.block_lt_of_cell? w _ h3) (fun e=>(hm _ e).2.2 rfl)];exact h3
def NewB (ob v:Nat) (slv y n:Value) (w:World):Prop:=w.heap[ob]? = some (.cells #[str [],.int .i64 v,slv,y,n] 141 (0,0))
theorem NewB.cells {ob v:Nat} {slv y n:Value} {w:World} (h:NewB ob v slv y n w):w.cell? ⟨ob,2,none⟩=some slv/\w.cell? ⟨ob,3,none⟩=some y/\w.cell? ⟨ob,4,none⟩=some n/\ob<w.heap.size/\(∀ o,w.frozen? ⟨ob,o,none⟩=false):=by
 have hl:=lt_of_heap h
 unfold NewB at h
 exact ⟨by simp [World.cell?,h],by simp [World.cell?,h],by simp [World.cell?,h],hl,fun o=>by simp [World.frozen?,h]⟩
theorem setCell_at {w:World} {b o:Nat} {c:Array Value} {e:TypeId} {u:Value} (h:w.heap[b]? = some (.cells c e (0,0))):(w.setCell ⟨b,o,none⟩ u).heap[b]? = some (.cells (c.setIfInBounds o u) e (0,0)):=by
 have hlt:=lt_of_heap h
 have h':w.heap[b]=.cells c e (0,0):=by simpa [Array.getElem?_eq_getElem hlt] using h
 show (w.heap.modify b _)[b]? = _
 rw [Array.getElem?_eq_getElem (by simpa using hlt),Array.getElem_modify_self,h']
 simp
theorem NewB.put2 {ob v:Nat} {slv y n u:Value} {w:World} (h:NewB ob v slv y n w):NewB ob v u y n (w.setCell ⟨ob,2,none⟩ u):=by
 unfold NewB;rw [setCell_at h];rfl
theorem NewB.put3 {ob v:Nat} {slv y n u:Value} {w:World} (h:NewB ob v slv y n w):NewB ob v slv u n (w.setCell ⟨ob,3,none⟩ u):=by
 unfold NewB;rw [setCell_at h];rfl
theorem NewB.put4 {ob v:Nat} {slv y n u:Value} {w:World} (h:NewB ob v slv y n w):NewB ob v slv y u (w.setCell ⟨ob,4,none⟩ u):=by
 unfold NewB;rw [setCell_at h];rfl
def BodyRel (sr B ob Z v d:Nat) (lv:Value) (levels ts:List Ty) (left0:Nat) (r0:Bs) (w:World) (rd:Rd) (k:Nat) (wr:World):Prop :=
 ∃ bs lk leftk slv vs,rdParts rd (hands levels (ts.take k)) left0 r0=some (bs,lk,leftk)/\But (fun x=>x=sr) w wr/\Scan sr [.int .i64 (leftk:Nat)] 209 lk wr /\
   NewB ob v slv (.pointer none) (.pointer none) wr/\Own wr 72 1 slv k vs/\(∀ g,slv.ownBlock=some g->Z<=g)/\Reps (fun b=>Z<=b/\slv.ownBlock≠some b) wr (encBs bs) vs/\Boxes B sr lv (d+1) wr/\Z<=wr.heap.size
theorem encBs_append (a b:List Bd):encBs (a++b)=encBs a++encBs b:=by
 induction a with
 | nil=>rfl
 | cons t ts ih=>simp [encBs,ih]
theorem Tryz.infoB:(Tryz.prog.info? 72).map (fun i=>(i.zero,i.size,i.bytes))=some (some (.pointer none),1,8):=by kernel_rfl
theorem leaf_end {sr left:Nat} {x:UInt8} {r:Bs} {w w2:World} {o:Option (Bd×Bs×Nat)} {u:Value} (hw:u=str [x]) (hm:o=some (.leaf x,r,left)) (hb:But (fun x=>x=sr) w w2) (hs:Scan sr [.int .i64 (left:Nat)] 209 r w2) :
 BPost sr w o (.returned (.pointer (some ⟨w2.heap.size,0,none⟩))) (w2.alloc (.cells #[u,.int .i64 0,.slice none 0 0,.pointer none,.pointer none] 141)):=by
 refine BPost.yes hm (hb.alloc _) (hs.alloc _) ?_
 rw [encB,Rep_ptr]
 refine ⟨_,_,rfl,hb.size,heap_new _ _,?_⟩
 subst hw
 refine Reps_cons.2 ⟨_,_,rfl,Rep_val.2 rfl,Reps_cons.2 ⟨_,_,rfl,Rep_val.2 rfl,Reps_cons.2 ⟨_,_,rfl,?_,Reps_cons.2 ⟨_,_,rfl,Rep_val.2 rfl,Reps_cons.2 ⟨_,_,rfl,Rep_val.2 rfl,Reps_nil.2 rfl⟩⟩⟩⟩⟩
 exact Rep_sl.2 ⟨rfl,none,0,rfl,Nat.le_refl _,fun _=>rfl,.inl rfl⟩
theorem HandOk.next {d:Nat} {levels:List Ty} {v:Nat} {t a:Ty} (h:HandOk (d+1) levels) (hv:levels[v]? = some t) (ha:a∈t.args):HandOk d (levels++a.args):=by
 have ht:=h.1 t (List.mem_of_getElem? hv)
 have hle:∀ ts:List Ty,∀ a∈ts,1+atomsT a<=atomsTs ts:=by
  intro ts
  induction ts with
  | nil=>simp
  | cons x xs ih =>
    intro a ha
    rcases List.mem_cons.1 ha with rfl | ha
    ·simp [atomsTs]
    ·have:=ih a ha;simp [atomsTs];omega
 have hlen:∀ ts:List Ty,ts.length<=atomsTs ts:=by
  intro ts
  induction ts with
  | nil=>simp
  | cons x xs ih=>simp [atomsTs];omega
 have h1:=hle _ a ha
 have h2:=atomsT_mk t
 have h3:=atomsT_mk a
 refine ⟨fun x hx=>?_,?_⟩
 ·rcases List.mem_append.1 hx with hx | hx
  ·exact h.1 x hx
  ·have:=hle _ x hx;omega
 ·have:=hlen a.args;have:=h.2;simp;omega
theorem HandOk.same {d:Nat} {levels:List Ty} (h:HandOk (d+1) levels):HandOk d (levels++[]):=by
 refine ⟨fun x hx=>h.1 x (by simpa using hx),?_⟩
 have:=h.2;simp;omega
theorem BodyRel.next {sr B ob Z v d:Nat} {lv:Value} {levels ts:List Ty} {left0:Nat} {r0:Bs} {w:World} {rd:Rd} {k:Nat} {wr w1 w2:World} {t:Ty} {bs:List Bd} {lk:Bs} {leftk:Nat} {slv:Value} {vs:List Value}
 {b:Bd} {rest:Bs} {left2:Nat} {vb:Value} {o:Obj} {a':Option Addr} {c':Nat}
 (ht:ts[k]? = some t) (hp:rdParts rd (hands levels (ts.take k)) left0 r0=some (bs,lk,leftk)) (hb:But (fun x=>x=sr) w wr)
 (hnb:NewB ob v slv (.pointer none) (.pointer none) wr) (hZ:∀ g,slv.ownBlock=some g->Z<=g) (hown:Own wr 72 1 slv k vs) (hr:Reps (fun b=>Z<=b/\slv.ownBlock≠some b) wr (encBs bs) vs) (hx:Boxes B sr lv (d+1) wr)
 (hz:Z<=wr.heap.size) (hq:rdPart rd (levels++t.args) leftk lk=some (b,rest,left2))
 (hb1:But (fun x=>x=sr) wr w1) (hs1:Scan sr [.int .i64 (left2:Nat)] 209 rest w1) (hv:Rep (wr.heap.size<=·) w1 (encB b) vb)
 (hown':Own w2 72 1 (.slice a' (k+1) c') (k+1) (vs++[vb])) (hb2:But (fun b=>slv.ownBlock=some b) (w1.alloc o) w2) (hg:∀ g,(Value.slice a' (k+1) c').ownBlock=some g->slv.ownBlock=some g\/g=(w1.alloc o).heap.size)
 (hsr:sr<w.heap.size) (hB:w.heap.size<=B) (hob:B+1+1<ob) (hobZ:ob<Z) :
 BodyRel sr B ob Z v d lv levels ts left0 r0 w rd (k+1) (w2.setCell ⟨ob,2,none⟩ (.slice a' (k+1) c')):=by
 have z1:=hb1.size;have z2:=hb2.size;have zw:=hb.size
 rw [size_alloc] at hg z2
 have hlt:∀ g,slv.ownBlock=some g->g<wr.heap.size:=fun g h=>hown.lt h
 have hnsr:∀ g,slv.ownBlock=some g->Z<=g:=hZ
 have keep:∀ i x,w1.heap[i]? = some x->slv.ownBlock≠some i->i≠ob->(w2.setCell ⟨ob,2,none⟩ (.slice a' (k+1) c')).heap[i]? = some x:=by
  intro i x hi hne ho
  rw [Below.heap_setCell _ _ _ _ (by simpa using ho),hb2.block i (by rw [size_alloc];have:=lt_of_heap hi;omega) hne]
  exact heap_past hi
 have hnb1:NewB ob v slv (.pointer none) (.pointer none) w1:=(hb1.block ob (lt_of_heap hnb) (by omega)).trans hnb
 have hnb2:NewB ob v slv (.pointer none) (.pointer none) w2:=by
  unfold NewB;rw [hb2.block ob (by rw [size_alloc];have:=lt_of_heap hnb1;omega) (fun e=>by have:=hZ ob e;omega)]
  exact heap_past hnb1
 have hx1:=hx.but hb1 (fun i e=>by subst e;omega)
 refine ⟨bs++[b],rest,left2,_,vs++[vb],?_,?_,?_,hnb2.put2,?_,?_,?_,?_,?_⟩
 ·rw [hands_next ht hp,hq];rfl
 ·refine ((hb.trans hb1).trans' ((But.refl (fun b=>slv.ownBlock=some b) w1).alloc o |>.trans hb2) fun i hi e=>?_).setCell (p:=⟨ob,2,none⟩) (.inr (by simp;omega)) _
  have:=hZ i e;omega
 ·exact keep sr _ hs1 (fun e=>by have:=hZ sr e;omega) (by omega)
 ·refine hown'.keep fun g x hg' hx'=>?_
  rw [Below.heap_setCell _ _ _ _ (by
   rcases hg g hg' with h | h
   ·have:=hZ g h;simp;omega
   ·simp;omega)]
  exact hx'
 ·intro g h
  rcases hg g h with h | h
  ·exact hZ g h
  ·omega
 ·rw [encBs_append]
  refine Reps.append ?_ (Reps.one ?_)
  ·refine (Rep.keep fun i x hi hx'=>⟨⟨hi.1,fun e=>?_⟩,?_⟩).2 _ _ hr
   ·have hne:i≠sr:=by omega
    exact keep i x (by rw [hb1.block i (lt_of_heap hx') hne];exact hx') hi.2 (by omega)
   ·rcases hg i e with h | h
    ·exact hi.2 h
    ·have:=lt_of_heap hx';omega
  ·refine (Rep.keep fun i x hi hx'=>⟨⟨by have:=hi;omega,fun e=>?_⟩,?_⟩).1 _ _ hv
   ·exact keep i x hx' (fun e=>by have:=hlt i e;have:=hi;omega) (by have:=hi;omega)
   ·rcases hg i e with h | h
    ·have:=hlt i h;have:=hi;omega
    ·have:=lt_of_heap hx';omega
 ·obtain ⟨y1,y2,y3⟩:=hx1
  have ck:∀ i u,w1.cell? ⟨i,0,none⟩=some u->slv.ownBlock≠some i->i≠ob->(w2.setCell ⟨ob,2,none⟩ (.slice a' (k+1) c')).cell? ⟨i,0,none⟩=some u:=by
   intro i u hi hne ho
   rw [World.cell?_of_block (w:=w1) (a:=⟨i,0,none⟩) ?_];exact hi
   have hl:=World.block_lt_of_cell? w1 _ hi
   obtain ⟨x,hx'⟩:∃ x,w1.heap[i]? = some x:=⟨w1.heap[i],by simp at hl;simp [hl]⟩
   show (w2.setCell ⟨ob,2,none⟩ (.slice a' (k+1) c')).heap[i]? = w1.heap[i]?
   rw [keep i x hx' hne ho,hx']
  exact ⟨ck _ _ y1 (fun e=>by have:=hZ _ e;omega) (by omega),ck _ _ y2 (fun e=>by have:=hZ _ e;omega) (by omega),ck _ _ y3 (fun e=>by have:=hZ _ e;omega) (by omega)⟩
 ·simp only [World.setCell];simp;omega
theorem body_ask (d:Nat) (hd:d+1<=1000) (ih:BodySaid d) (sr left:Nat) (levels:List Ty) (l:Bs) (lv:Value) (F:Nat->Prop) (w:World) (hg:Glob w) (hn:NotG sr)
 (hs:Scan sr [.int .i64 ((left+1:Nat):Int)] 209 l w) (hl:left+1<=1000) (hr:Lim l.length) (hh:HandOk (d+1) levels)
 (hlv:Rep F w (.sl 71 1 levels.length (encKs levels)) lv) (hF:∀ b,F b->b≠sr) (r1:Bs) (v:Nat) (t:Ty) (h1:Cut [40] l r1) (hlvl:lvl (wordOf r1) levels.length=some v) (ht:levels[v]? = some t) :
 Calls Tryz.prog 156 #[.pointer (some ⟨sr,0,none⟩),lv,.int .i64 ((d:Int)+1)] w (BPost sr w (rdB (d+1) levels (left+1) l)):=by
 have HM:=Lib.hid (rdB_ask (d+1) levels left h1.out)
 have hm:rdB (d+1) levels (left+1) l=rdAsk (rdB d) levels v t left (wordRest r1):=by rw [HM.out,hlvl];simp only [ht]
 have HM:=Lib.hid hm;clear hm
 rw [rdAsk_eq] at HM
 have IH:=Lib.hid ih;clear ih
 obtain ⟨hvl,hok,hit⟩:=lvl_lt hlvl
 have hok':=Lib.hid hok;have hit':=Lib.hid hit;have hlvl':=Lib.hid hlvl;have HT:=Lib.hid ht
 have c1:=hs.cell1
 have f1:=hs.free 1
 have lsr:=scan_lt hs
 have lsr1:sr<w.heap.size+1:=by omega
 have lsr2:sr<w.heap.size+1+1:=by omega
 obtain ⟨a0,k0,elv,_,_,hat⟩:=Rep_sl1_open hlv
 obtain ⟨bl,ol,u,dv,ea,hFl,_,hdv,hcl,hru⟩:=hat v hvl
 rw [encKs_at,ht] at hdv
 simp only [Option.map_some,Option.some.injEq] at hdv
 subst hdv;subst ea;subst elv
 obtain ⟨bt,st,eu,hFt,hct,hst⟩:=encK_open hru
 subst eu
 obtain ⟨sa,ks,est,hks,_,hats⟩:=Rep_sl1_open hst
 subst est
 have hctc:w.cell? ⟨bt,0,none⟩=some (.slice sa t.args.length ks):=by simp [World.cell?,hct]
 have nl:=hF bl hFl
 have nt:=hF bt hFt
 have HF:=Lib.hid hF;have HATS:=Lib.hid hats
 have CL:=Lib.hid hcl;have CT:=Lib.hid hctc
 clear hok hit hlvl ht hat hru hct hst hF hats hcl hctc
 have hlen:levels.length<=10000:=by have:=hh.2;omega
 have hta:t.args.length<=15:=by
  have h1:=hh.1 t (List.mem_of_getElem? HT.out)
  have h2:=atomsT_mk t
  have hlen:∀ ts:List Ty,ts.length<=atomsTs ts:=by
   intro ts
   induction ts with
   | nil=>simp
   | cons x xs ih=>simp [atomsTs];omega
  have:=hlen t.args;omega
 go_enter Tryz.func156,Tryz.ntmps156
 go_wp2_with fail
 obtain ⟨W0,hW0⟩:=zzM (((((w.setCell ⟨sr,1,none⟩ (.int .i64 left)).alloc (.cells #[.pointer (some ⟨sr,0,none⟩)] 207)).alloc (.cells #[.slice (some ⟨bl,ol,none⟩) levels.length k0] 110)).alloc (.cells #[.int .i64 ((d:Int)+1)] 3)))
 rw [<- hW0]
 have hb0:But (fun x=>x=sr) w W0:=by subst hW0;exact ((((But.refl _ _).setS 1 _).alloc _).alloc _).alloc _
 have hs0:Scan sr [.int .i64 left] 209 l W0:=by subst hW0;exact ((hs.put1).alloc _).alloc _ |>.alloc _
 have hx0:Boxes w.heap.size sr (.slice (some ⟨bl,ol,none⟩) levels.length k0) (d+1) W0:=by subst hW0;refine ⟨?_,?_,?_⟩ <;> go_simp
 have z0:W0.heap.size=w.heap.size+3:=by subst hW0;simp
 clear hW0 c1 f1
 refine (take_yes hs0 h1).mono ?_
 rintro en w1 ⟨rfl,hb1,hs1⟩
 have hx1:=hx0.but hb1 (fun i e=>by subst e;omega)
 have hb:=hb0.trans hb1
 have z1:=hb1.size
 clear hb0 hb1 hs0 hx0
 obtain ⟨x1,x2,x3⟩:=id hx1
 go_wp2_with fail
 refine (word_any _ _ _ _ _ hs1 (hr.mono h1.le)).mono ?_
 rintro en w2 ⟨rfl,hb2,hs2⟩
 have hr1:=hr.mono h1.le
 have hwl:=hr1.mono (show (wordOf r1).length<=r1.length by have:=word_le r1;omega)
 have hx2:=hx1.but hb2 (fun i e=>by subst e;omega)
 have hb':=hb.trans hb2
 have z2:=hb2.size
 have hg2:=hg.but hb' (fun i e=>by subst e;exact hn)
 clear x1 x2 x3 hb hb2 hs1 hx1
 go_wp2_with fail
 refine (atoi_ok _ _ hwl (v:Int) hok'.out).mono ?_
 rintro en w3 ⟨rfl,hb3⟩
 have z3:=hb3.size
 have hg3:=hg2.below hb3
 have hs3:=(hb3.block sr (by omega)).trans hs2
 have hx3:=hx2.but (But.ofBelow (m:=fun _=>False) hb3) (fun i e=>e.elim)
 have hb:=hb'.trans (But.ofBelow hb3)
 clear hb' hb3 hs2 hx2 hg2
 go_wp2_with fail
 refine (itoa_of hok'.out w3 hg3).mono ?_
 rintro en w4 ⟨rfl,hb4⟩
 have z4:=hb4.size
 have hs4:=(hb4.block sr (by omega)).trans hs3
 have hg4:=hg3.below hb4
 have hx4:=hx3.but (But.ofBelow (m:=fun _=>False) hb4) (fun i e=>e.elim)
 obtain ⟨x1,x2,x3⟩:=id hx4
 have hb':=hb.trans (But.ofBelow hb4)
 have hq:(Lib.itoa (v:Int) == wordOf r1)=true:=by rw [beq_iff_eq];exact hit'.out
 have hv0:decide ((v:Int)<0)=false:=by rw [decide_eq_false_iff_not];omega
 have hv1:decide (levels.length<=v)=false:=by rw [decide_eq_false_iff_not];omega
 have hd0:(((d:Int)+1) == 0)=false:=by rw [beq_eq_false_iff_ne];omega
 have s1:w.heap.size+1<w4.heap.size:=by omega
 have s2:w.heap.size<w4.heap.size:=by omega
 have s3:w.heap.size+1+1<w4.heap.size:=by omega
 have d1:w4.cell? ⟨bl,ol+v,none⟩=some (.pointer (some ⟨bt,0,none⟩)):=by rw [hb'.cell (World.block_lt_of_cell? w _ CL.out) nl];exact CL.out
 have d2:w4.cell? ⟨bt,0,none⟩=some (.slice sa t.args.length ks):=by rw [hb'.cell (World.block_lt_of_cell? w _ CT.out) nt];exact CT.out
 have d3:=World.block_lt_of_cell? w4 _ d1
 have d4:=World.block_lt_of_cell? w4 _ d2
 clear hb hb4 hs3 hx3 hg3
 go_wp2_with fail
 have hrel0:BodyRel sr w.heap.size w4.heap.size (w4.heap.size+1) v d (.slice (some ⟨bl,ol,none⟩) levels.length k0) levels t.args left (wordRest r1) w (rdB d) 0
  (w4.alloc (.cells #[.string ⟨#[]⟩,.int .i64 v,.slice none 0 0,.pointer none,.pointer none] 141)):=by
  refine ⟨[],wordRest r1,left,.slice none 0 0,[],by simp [hands,rdParts],hb'.alloc _,Scan.alloc hs4 _,heap_new _ _,World.ownsRow_nil _ _ _ _,fun g h=>by simp [Value.ownBlock] at h,Reps_nil.2 rfl,hx4.but ((But.refl (fun _=>False) _).alloc _) (fun i e=>e.elim),by simp⟩
 have hz4:w.heap.size+1+1<w4.heap.size:=s3
 clear x1 x2 x3 d1 d2 d3 d4 hx4 hs4 hb' hg4
 generalize hZ:w4.heap.size+1=Z at hrel0
 generalize hO:w4.heap.size=ob at *
 have HZ:=Lib.hid hZ;clear hZ
 have HO:=Lib.hid hO;clear hO
 go_loopw [93] (fun i wr=>∃ k:Nat,k<=t.args.length/\i=.int .i64 k/\BodyRel sr w.heap.size ob Z v d (.slice (some ⟨bl,ol,none⟩) levels.length k0) levels t.args left (wordRest r1) w (rdB d) k wr)
  (fun i _=>t.args.length-(intOf i).toNat)
 case atStart=>exact ⟨0,Nat.zero_le _,rfl,hrel0⟩
 case round =>
  clear hrel0
  rename_i wr
  obtain ⟨k,hk,rfl,hrel⟩:=hrel
  obtain ⟨bs,lk,leftk,slv,vs,hp,hb,hsk,hnb,hown,hZb,hrs,hbx,hzr⟩:=hrel
  have hple:=rdParts_le (rdB_le d) _ hp
  have hle1:leftk<=1000:=by omega
  have hwr:=wordRest_le r1
  have hlimk:Lim lk.length:=hr.mono (by have:=h1.le;omega)
  have hgk:Glob wr:=hg.but hb (fun i e=>by subst e;exact hn)
  have hlvk:Rep F wr (.sl 71 1 levels.length (encKs levels)) (.slice (some ⟨bl,ol,none⟩) levels.length k0):=Rep.but hb (fun b hb=>⟨HF.out b hb,hb⟩) hlv
  have hp':=Lib.hid hp;have HZb:=Lib.hid hZb;clear hp hZb hple
  by_cases hlt:k<t.args.length
  ·obtain ⟨ba,oa,uk,dk,esa,hFa,_,hdk,hck,hrk⟩:=HATS.out k hlt
   subst esa
   rw [encKs_at,Option.map_eq_some_iff] at hdk
   obtain ⟨tk,htk,rfl⟩:=hdk
   obtain ⟨bk,sk,euk,hFk,hchk,hslk⟩:=encK_open hrk
   subst euk
   obtain ⟨ask,ksk,esk⟩:∃ a c,sk=.slice a tk.args.length c:=by obtain ⟨a,c,e,_⟩:=Rep_sl1_open hslk;exact ⟨a,c,e⟩
   subst esk
   have e1:wr.cell? ⟨ba,oa+k,none⟩=some (.pointer (some ⟨bk,0,none⟩)):=by rw [hb.cell (World.block_lt_of_cell? w _ hck) (HF.out ba hFa)];exact hck
   have e2:wr.cell? ⟨bk,0,none⟩=some (.slice ask tk.args.length ksk):=by
    have:w.cell? ⟨bk,0,none⟩=some (.slice ask tk.args.length ksk):=by simp [World.cell?,hchk]
    rw [hb.cell (World.block_lt_of_cell? w _ this) (HF.out bk hFk)];exact this
   have hslk':Rep F wr (.sl 71 1 tk.args.length (encKs tk.args)) (.slice ask tk.args.length ksk):=Rep.but hb (fun b hb=>⟨HF.out b hb,hb⟩) hslk
   have hhk:HandOk d (levels++tk.args):=hh.next HT.out (List.mem_of_getElem? htk)
   have HTK:=Lib.hid htk
   clear htk hck hchk hrk hslk
   obtain ⟨y1,y2,y3⟩:=id hbx
   go_wp2_with fail
   refine (part_any d IH.out sr leftk levels tk.args lk _ _ F wr w.heap.size (w.heap.size+1) (w.heap.size+1+1) hgk hn hsk hle1 hlimk hhk (by omega) hlvk hslk' HF.out y1 y2 y3 (by omega) (by omega) (by omega)).mono ?_
   rintro en w5 ⟨vb,r',left',rfl,hb5,hs5,hn5,hy5⟩
   clear y1 y2 y3 e1 e2
   cases hq:rdPart (rdB d) (levels++tk.args) leftk lk with
   | none =>
     obtain rfl:=hn5 hq
     have HQ:=Lib.hid hq;clear hq hn5 hy5
     go_wp2_with fail
     go_ret
     refine BPost.no ?_ (hb.trans hb5) hs5
     rw [HM.out,hands_none (k+1) (by rw [hands_next HTK.out hp'.out,HQ.out];rfl)];rfl
   | some x =>
     obtain ⟨b,rest,left2⟩:=x
     obtain ⟨rfl,rfl,hv5⟩:=hy5 b rest left2 hq
     have HQ:=Lib.hid hq;clear hq hn5 hy5
     obtain ⟨ab,evb⟩:=encB_ptr hv5
     subst evb
     have hnb5:NewB ob v slv (.pointer none) (.pointer none) w5:=(hb5.block ob (lt_of_heap hnb) (by have:=HO.out;omega)).trans hnb
     obtain ⟨q1,_,_,q4,q5⟩:=hnb5.cells
     have q6:=q5 2
     have hown5:Own w5 72 1 slv k vs:=hown.keep fun g o hg' ho=>by rw [hb5.block g (lt_of_heap ho) (by have:=HZb.out g hg';have:=HZ.out;omega)];exact ho
     clear q5
     go_wp2_with (at_builtin;refine wpList_append_gen rfl _ _ 139 rfl 72 (.pointer none) 1 8 Tryz.underlying139 Tryz.infoB rfl (by decide) slv k vs rfl ?c1 _ 1 [.pointer (some ⟨ab,0,none⟩)] rfl ?c2 ?c3 ?c4 ?_)
     case c1=>exact hown5.keep fun g o hg' ho=>heap_past ho
     case c2=>exact SrcSl.lit rfl
     case c3=>unfold maxLen;omega
     case c4=>omega
     intro a' c' w6 hown' hb6 hg'
     have hnb6:NewB ob v slv (.pointer none) (.pointer none) w6:=by
      unfold NewB;rw [hb6.block ob (by simp;omega) (fun e=>by have:=HZb.out ob e;have:=HZ.out;omega)]
      exact heap_past hnb5
     have hnext:=BodyRel.next HTK.out hp'.out hb hnb HZb.out hown hrs hbx hzr HQ.out hb5 hs5 hv5 hown' hb6 (fun g h=>(hg' g h).imp_right fun e=>e.trans (by simp)) lsr (Nat.le_refl _) hz4 (by have:=HZ.out;omega)
     obtain ⟨p1,_,_,p4,p5⟩:=hnb6.cells
     have p6:=p5 2
     have HG:=Lib.hid hg';clear hg' p5
     go_wp2_with fail
     go_roundw
     case rel=>exact ⟨k+1,by omega,by go_num,hnext⟩
     case measure=>simp [intOf];omega
  ·obtain rfl:k=t.args.length:=by omega
   have hp:rdParts (rdB d) (hands levels t.args) left (wordRest r1)=some (bs,lk,leftk):=by have:=hp'.out;rwa [List.take_length] at this
   have HP:=Lib.hid hp;clear hp hp' hlt hk
   have hnil:∀ W:World,Rep F W (.sl 71 1 ([]:List Ty).length (encKs [])) (.slice none 0 0):=fun W=>Rep_sl.2 ⟨rfl,none,0,rfl,Nat.le_refl _,fun _=>rfl,.inl rfl⟩
   have hh0:=hh.same
   have HNIL:=Lib.hid hnil;clear hnil
   obtain ⟨y1,y2,y3⟩:=id hbx
   go_wp2_with fail
   refine (part_any d IH.out sr leftk levels [] lk _ _ F wr w.heap.size (w.heap.size+1) (w.heap.size+1+1) hgk hn hsk hle1 hlimk hh0 (by omega) hlvk (HNIL.out wr) HF.out y1 y2 y3 (by omega) (by omega) (by omega)).mono ?_
   rw [List.append_nil] at *
   rintro en w5 ⟨vb,r',left',rfl,hb5,hs5,hn5,hy5⟩
   clear y1 y2 y3
   have hnb5:NewB ob v slv (.pointer none) (.pointer none) w5:=(hb5.block ob (lt_of_heap hnb) (by have:=HO.out;omega)).trans hnb
   have hbx5:=hbx.but hb5 (fun i e=>by subst e;omega)
   have hbA:=hb.trans hb5
   have z5:=hb5.size
   have zr:=hb.size
   obtain ⟨_,q2,_,q4,q5⟩:=hnb5.cells
   have q6:=q5 3;clear q5
   cases hq:rdPart (rdB d) levels leftk lk with
   | none =>
     obtain rfl:=hn5 hq
     have HQ:=Lib.hid hq;clear hq hn5 hy5
     go_wp2_with fail
     go_ret
     refine BPost.no ?_ (hbA.setCell (p:=⟨ob,3,none⟩) (.inr (by simp;omega)) _) (r:=r') (left:=left') ?_
     ·rw [HM.out];simp only [HP.out,Option.bind_eq_bind,Option.bind_some,HQ.out,Option.bind_none]
     ·unfold Scan;rw [Below.heap_setCell _ _ _ _ (by simp;omega)];exact hs5
   | some x =>
     obtain ⟨by1,rest1,left1⟩:=x
     obtain ⟨rfl,rfl,hv5⟩:=hy5 _ _ _ hq
     have hle5:=rdPart_le (rdB_le d) hq
     have HQ:=Lib.hid hq;clear hq hn5 hy5
     obtain ⟨ab,evb⟩:=encB_ptr hv5
     subst evb
     have hnbA:=hnb5.put3 (u:=.pointer (some ⟨ab,0,none⟩))
     obtain ⟨WA,hWA⟩:=zzM (w5.setCell ⟨ob,3,none⟩ (.pointer (some ⟨ab,0,none⟩)))
     go_wp2_with fail
     rw [<- hWA] at hnbA ⊢
     have hbB:But (fun x=>x=sr) w WA:=by subst hWA;exact hbA.setCell (p:=⟨ob,3,none⟩) (.inr (by simp;omega)) _
     have kA:∀ i x,w5.heap[i]? = some x->i≠ob->WA.heap[i]? = some x:=by
      intro i x hx hne;subst hWA;rw [Below.heap_setCell _ _ _ _ (by simpa using hne)];exact hx
     have zA:WA.heap.size=w5.heap.size:=by subst hWA;simp [World.setCell]
     have hsA:Scan sr [.int .i64 (left1:Nat)] 209 r' WA:=kA _ _ hs5 (by omega)
     have hbxA:Boxes w.heap.size sr (.slice (some ⟨bl,ol,none⟩) levels.length k0) (d+1) WA:=by
      subst hWA
      exact hbx5.but (m:=fun i=>i=ob) ((But.refl (fun i=>i=ob) w5).setCell (p:=⟨ob,3,none⟩) (.inl rfl) _) (fun i e=>by subst e;omega)
     have hrsA:Reps (fun b=>Z<=b/\slv.ownBlock≠some b) WA (encBs bs) vs :=
      (Rep.keep fun i x hi hx=>⟨hi,kA i x (by rw [hb5.block i (lt_of_heap hx) (by have:=HZ.out;omega)];exact hx) (by have:=HZ.out;omega)⟩).2 _ _ hrs
     have hownA:Own WA 72 1 slv t.args.length vs:=hown.keep fun g o hg' ho=>kA g o (by rw [hb5.block g (lt_of_heap ho) (by have:=HZb.out g hg';have:=HZ.out;omega)];exact ho) (by have:=HZb.out g hg';have:=HZ.out;omega)
     have hv5A:Rep (wr.heap.size<=·) WA (encB by1) (.pointer (some ⟨ab,0,none⟩)):=(Rep.keep fun i x hi hx=>⟨hi,kA i x hx (by have:=lt_of_heap hnb;have:=hi;omega)⟩).1 _ _ hv5
     have hgA:Glob WA:=hg.but hbB (fun i e=>by subst e;exact hn)
     have hlvA:Rep F WA (.sl 71 1 levels.length (encKs levels)) (.slice (some ⟨bl,ol,none⟩) levels.length k0):=Rep.but hbB (fun b hb=>⟨HF.out b hb,hb⟩) hlv
     have KA:=Lib.hid kA
     clear hWA kA q2 q4 q6 hnb5 hb5 hbx5 hs5 hrs hv5 hsk hbx hlvk hgk
     obtain ⟨y1,y2,y3⟩:=id hbxA
     refine (part_any d IH.out sr left1 levels [] r' _ _ F WA w.heap.size (w.heap.size+1) (w.heap.size+1+1) hgA hn hsA (by omega) (hlimk.mono (by omega)) (by rw [List.append_nil];exact hh0) (by omega) hlvA (HNIL.out WA) HF.out y1 y2 y3 (by omega) (by omega) (by omega)).mono ?_
     rw [List.append_nil] at *
     rintro en w6 ⟨vn,r6,left6,rfl,hb6,hs6,hn6,hy6⟩
     clear y1 y2 y3
     have hnb6:NewB ob v slv (.pointer (some ⟨ab,0,none⟩)) (.pointer none) w6:=(hb6.block ob (lt_of_heap hnbA) (by have:=HO.out;omega)).trans hnbA
     have hbx6:=hbxA.but hb6 (fun i e=>by subst e;omega)
     obtain ⟨x1,_,_⟩:=id hbx6
     have hbC:=hbB.trans hb6
     have z6:=hb6.size
     obtain ⟨_,_,q3,q4,q5⟩:=hnb6.cells
     have q6:=q5 4;clear q5
     cases hq2:rdPart (rdB d) levels left1 r' with
     | none =>
       obtain rfl:=hn6 hq2
       have HQ2:=Lib.hid hq2;clear hq2 hn6 hy6
       go_wp2_with fail
       go_ret
       refine BPost.no ?_ (hbC.setCell (p:=⟨ob,4,none⟩) (.inr (by simp;omega)) _) (r:=r6) (left:=left6) ?_
       ·rw [HM.out];simp only [HP.out,Option.bind_eq_bind,Option.bind_some,HQ.out,HQ2.out,Option.bind_none]
       ·unfold Scan;rw [Below.heap_setCell _ _ _ _ (by simp;omega)];exact hs6
     | some x =>
       obtain ⟨bn,rest2,left2⟩:=x
       obtain ⟨rfl,rfl,hv6⟩:=hy6 _ _ _ hq2
       have hle6:=rdPart_le (rdB_le d) hq2
       have HQ2:=Lib.hid hq2;clear hq2 hn6 hy6
       obtain ⟨an,evn⟩:=encB_ptr hv6
       subst evn
       have hnbD:=hnb6.put4 (u:=.pointer (some ⟨an,0,none⟩))
       have hbD:But (fun x=>x=sr) w (w6.setCell ⟨ob,4,none⟩ (.pointer (some ⟨an,0,none⟩))):=hbC.setCell (p:=⟨ob,4,none⟩) (.inr (by simp;omega)) _
       have hsD:Scan sr [.int .i64 (left2:Nat)] 209 r6 (w6.setCell ⟨ob,4,none⟩ (.pointer (some ⟨an,0,none⟩))):=by
        unfold Scan;rw [Below.heap_setCell _ _ _ _ (by simp;omega)];exact hs6
       go_wp2_with fail
       rcases cut_cases [41] r6 with h7 | ⟨r7,h7⟩
       ·refine (take_no hsD h7).mono ?_
        rintro en w7 ⟨rfl,hb7,hs7⟩
        go_wp2_with fail
        go_ret
        refine BPost.no ?_ (hbD.trans hb7) hs7
        rw [HM.out];simp only [HP.out,Option.bind_eq_bind,Option.bind_some,HQ.out,HQ2.out,h7.out,Option.bind_none]
       refine (take_yes hsD h7).mono ?_
       rintro en w7 ⟨rfl,hb7,hs7⟩
       go_wp2_with fail
       go_ret
       refine BPost.yes (b:=.ask v bs by1 bn) (r:=r7) (left:=left2) ?_ (hbD.trans hb7) hs7 ?_
       ·rw [HM.out];simp only [HP.out,Option.bind_eq_bind,Option.bind_some,HQ.out,HQ2.out,h7.out]
       ·have keep7:∀ i x,w6.heap[i]? = some x->i≠ob->i≠sr->w7.heap[i]? = some x:=by
         intro i x hx hne hns
         rw [hb7.block i (by have:=lt_of_heap hx;simpa [World.setCell] using this) hns,Below.heap_setCell _ _ _ _ (by simpa using hne)];exact hx
        have keepA:∀ i x,WA.heap[i]? = some x->i≠ob->i≠sr->w7.heap[i]? = some x:=fun i x hx hne hns=>keep7 i x (by rw [hb6.block i (lt_of_heap hx) hns];exact hx) hne hns
        have hnb7:NewB ob v slv (.pointer (some ⟨ab,0,none⟩)) (.pointer (some ⟨an,0,none⟩)) w7:=(hb7.block ob (lt_of_heap hnbD) (by omega)).trans hnbD
        have hZo:=HZ.out
        have hbl:bs.length=t.args.length:=by
         have:=(rdParts_le (rdB_le d) _ HP.out).2.2;simpa [hands] using this
        rw [encB,Rep_ptr]
        refine ⟨ob,_,rfl,by omega,hnb7,?_⟩
        refine Reps_cons.2 ⟨_,_,rfl,Rep_val.2 rfl,Reps_cons.2 ⟨_,_,rfl,Rep_val.2 rfl,Reps_cons.2 ⟨_,_,rfl,?_,Reps_cons.2 ⟨_,_,rfl,?_,Reps_cons.2 ⟨_,_,rfl,?_,Reps_nil.2 rfl⟩⟩⟩⟩⟩
        ·rw [hbl]
         refine (hownA.keep fun g o hg' ho=>keepA g o ho (by have:=HZb.out g hg';omega) (by have:=HZb.out g hg';omega)).rep (fun g hg'=>by have:=HZb.out g hg';omega) ?_
         exact (Rep.keep fun i x hi hx=>⟨by omega,keepA i x hx (by omega) (by omega)⟩).2 _ _ hrsA
        ·exact (Rep.keep fun i x hi hx=>⟨by have:=hi;omega,keepA i x hx (by have:=hi;omega) (by have:=hi;omega)⟩).1 _ _ hv5A
        ·exact (Rep.keep fun i x hi hx=>⟨by have:=hi;omega,keep7 i x hx (by have:=hi;omega) (by have:=hi;omega)⟩).1 _ _ hv6
theorem body_step (d:Nat) (hd:d<=1000) (ih:∀ d',d=d'+1->BodySaid d'):BodySaid d:=by
 intro sr left levels l lv F w hg hn hs hl hr hh hlv hF
 have IH:=Lib.hid ih;clear ih
 have HF:=Lib.hid hF;clear hF
 have c1:=hs.cell1
 have f1:=hs.free 1
 have lsr:=scan_lt hs
 have lsr1:sr<w.heap.size+1:=by omega
 have lsr2:sr<w.heap.size+1+1:=by omega
 obtain ⟨a0,k0,elv⟩:∃ a k,lv=.slice a levels.length k:=by obtain ⟨a,k,e,_⟩:=Rep_sl1_open hlv;exact ⟨a,k,e⟩
 subst elv
 rcases left with _ | left
 ·clear IH
  go_enter Tryz.func156,Tryz.ntmps156
  go_wp2_with fail
  go_ret
  refine BPost.no (by unfold rdB;rfl) (((((But.refl _ _).setS 1 _).alloc _).alloc _).alloc _) (((hs.put1).alloc _).alloc _ |>.alloc _)
 by_cases hask:∃ d' r1 v t,d=d'+1/\Cut [40] l r1/\lvl (wordOf r1) levels.length=some v/\levels[v]? = some t
 ·obtain ⟨d',r1,v,t,rfl,h1,h2,h3⟩:=hask
  exact body_ask d' hd (IH.out d' rfl) sr left levels l _ F w hg hn hs hl hr hh hlv HF.out r1 v t h1 h2 h3
 have HASK:=Lib.hid hask;clear hask IH
 go_enter Tryz.func156,Tryz.ntmps156
 go_wp2_with fail
 obtain ⟨W0,hW0⟩:=zzM (((((w.setCell ⟨sr,1,none⟩ (.int .i64 left)).alloc (.cells #[.pointer (some ⟨sr,0,none⟩)] 207)).alloc (.cells #[.slice a0 levels.length k0] 110)).alloc (.cells #[.int .i64 d] 3)))
 rw [<- hW0]
 have hb0:But (fun x=>x=sr) w W0:=by subst hW0;exact ((((But.refl _ _).setS 1 _).alloc _).alloc _).alloc _
 have hs0:Scan sr [.int .i64 left] 209 l W0:=by subst hW0;exact ((hs.put1).alloc _).alloc _ |>.alloc _
 have hx0:Boxes w.heap.size sr (.slice a0 levels.length k0) d W0:=by subst hW0;refine ⟨?_,?_,?_⟩ <;> go_simp
 have z0:W0.heap.size=w.heap.size+3:=by subst hW0;simp
 have hb0':=hb0
 clear hW0 c1 f1
 have n1:w.heap.size≠sr:=by omega
 have n2:w.heap.size+1≠sr:=by omega
 have n3:w.heap.size+1+1≠sr:=by omega
 rcases cut_cases [40] l with h1 | ⟨r1,h1⟩
 ·refine (take_no hs0 h1).mono ?_
  rintro en w1 ⟨rfl,hb1,hs1⟩
  obtain ⟨x1,x2,x3⟩:=hx0.but hb1 (fun i e=>by subst e;omega)
  go_wp2_with fail
  refine (word_any _ _ _ _ _ hs1 hr).mono ?_
  rintro en w2 ⟨rfl,hb2,hs2⟩
  have hb:=(hb0.trans hb1).trans hb2
  have hm:rdB d levels (left+1) l=(if wordOf l=[116] then some (Bd.leaf 116,wordRest l,left) else if wordOf l=[102] then some (.leaf 102,wordRest l,left) else if wordOf l=[117] then some (.leaf 117,wordRest l,left) else none):=by
   unfold rdB;simp only [h1.out]
  have HM:=Lib.hid hm;clear hm
  go_wp2_with fail
  ·have hw:wordOf l=[116]:=by assumption
   go_ret
   exact leaf_end (o:=rdB d levels (left+1) l) (x:=116) rfl (by rw [HM.out,if_pos hw]) hb hs2
  ·have hw:wordOf l=[102]:=by assumption
   go_ret
   exact leaf_end (o:=rdB d levels (left+1) l) (x:=102) rfl (by rw [HM.out,if_neg (by rw [hw];decide),if_pos hw]) hb hs2
  ·have hw:((!wordOf l == [116])=true/\(!wordOf l == [102])=true)/\(!wordOf l == [117])=true:=by assumption
   go_ret
   simp only [Bool.not_eq_true',beq_eq_false_iff_ne] at hw
   exact BPost.no (by rw [HM.out,if_neg hw.1.1,if_neg hw.1.2,if_neg hw.2]) hb hs2
  ·have hw:((!wordOf l == [116])=false\/(!wordOf l == [102])=false)\/(!wordOf l == [117])=false:=by assumption
   have hw1:¬ wordOf l=[116]:=by assumption
   have hw2:¬ wordOf l=[102]:=by assumption
   have hw3:wordOf l=[117]:=by simpa [hw1,hw2] using hw
   go_ret
   exact leaf_end (o:=rdB d levels (left+1) l) (x:=117) (by rw [hw3]) (by rw [HM.out,if_neg hw1,if_neg hw2,if_pos hw3]) hb hs2
 refine (take_yes hs0 h1).mono ?_
 rintro en w1 ⟨rfl,hb1,hs1⟩
 have hx1:=hx0.but hb1 (fun i e=>by subst e;omega)
 obtain ⟨x1,x2,x3⟩:=hx1
 go_wp2_with fail
 refine (word_any _ _ _ _ _ hs1 (hr.mono h1.le)).mono ?_
 rintro en w2 ⟨rfl,hb2,hs2⟩
 have hr1:=hr.mono h1.le
 have hb:=(hb0.trans hb1).trans hb2
 have hx2:=(hx0.but hb1 (fun i e=>by subst e;omega)).but hb2 (fun i e=>by subst e;omega)
 clear x1 x2 x3
 have hg2:=hg.but hb (fun i e=>by subst e;exact hn)
 have hwl:=hr1.mono (show (wordOf r1).length<=r1.length by have:=word_le r1;omega)
 have z2:=hb.size
 have z2':w.heap.size+3<=w2.heap.size:=by have:=hb1.size;have:=hb2.size;omega
 clear hb1 hb2 hs0 hb0 hb0' hx0 hs1
 have HM:=Lib.hid (rdB_ask d levels left h1.out)
 go_wp2_with fail
 cases hlv':lvl (wordOf r1) levels.length with
 | none =>
   have HN:rdB d levels (left+1) l=none:=by rw [HM.out,hlv']
   rcases lvl_no hlv' with hno | ⟨v,hok,hv⟩
   ·refine (atoi_no _ _ hwl hg2 hno).mono ?_
    rintro en w3 ⟨v,t,p,rfl,hb3⟩
    have HN':=Lib.hid HN;clear HN hlv' hno
    go_wp2_with fail
    go_ret
    exact BPost.no HN'.out (hb.trans (But.ofBelow hb3)) ((hb3.block sr (by omega)).trans hs2)
   ·refine (atoi_ok _ _ hwl v hok).mono ?_
    rintro en w3 ⟨rfl,hb3⟩
    have HN':=Lib.hid HN;clear HN hlv'
    have hg3:=hg2.below hb3
    have hs3:=(hb3.block sr (by omega)).trans hs2
    have hx3:=hx2.but (But.ofBelow (m:=fun _=>False) hb3) (fun i e=>e.elim)
    have hok':=Lib.hid hok;clear hok
    go_wp2_with fail
    refine (itoa_of hok'.out w3 hg3).mono ?_
    rintro en w4 ⟨rfl,hb4⟩
    have z3:=hb3.size
    have hs4:=(hb4.block sr (by omega)).trans hs3
    obtain ⟨x1,x2,x3⟩:=hx3.but (But.ofBelow (m:=fun _=>False) hb4) (fun i e=>e.elim)
    have hb':=(hb.trans (But.ofBelow hb3)).trans (But.ofBelow hb4)
    rcases hv with hv | ⟨hv,hv2⟩ | ⟨hv,hv2,hv3⟩
    ·have hq:(Lib.itoa v == wordOf r1)=false:=by rw [beq_eq_false_iff_ne];exact hv
     clear hv
     go_wp2_with fail
     go_ret
     exact BPost.no HN'.out hb' hs4
    ·have hq:(Lib.itoa v == wordOf r1)=true:=by rw [beq_iff_eq];exact hv
     clear hv
     go_wp2_with fail
     go_ret
     exact BPost.no HN'.out hb' hs4
    ·have hq:(Lib.itoa v == wordOf r1)=true:=by rw [beq_iff_eq];exact hv
     clear hv
     go_wp2_with fail
     go_ret
     exact BPost.no HN'.out hb' hs4
 | some v =>
   obtain ⟨hvl,hok,hit⟩:=lvl_lt hlv'
   have hd00:d=0:=by
    rcases Nat.eq_zero_or_pos d with h | h
    ·exact h
    ·exact absurd ⟨d-1,r1,v,levels[v],by omega,h1,hlv',by simp [hvl]⟩ HASK.out
   have HD:=Lib.hid hd00;clear hd00 HASK
   refine (atoi_ok _ _ hwl (v:Int) hok).mono ?_
   rintro en w3 ⟨rfl,hb3⟩
   have hg3:=hg2.below hb3
   have hs3:=(hb3.block sr (by omega)).trans hs2
   have hx3:=hx2.but (But.ofBelow (m:=fun _=>False) hb3) (fun i e=>e.elim)
   have hok':=Lib.hid hok;clear hok
   have hlvl:=Lib.hid hlv';clear hlv'
   have hit':=Lib.hid hit;clear hit
   go_wp2_with fail
   refine (itoa_of hok'.out w3 hg3).mono ?_
   rintro en w4 ⟨rfl,hb4⟩
   have z3:=hb3.size
   have z4:=hb4.size
   have hs4:=(hb4.block sr (by omega)).trans hs3
   have hg4:=hg3.below hb4
   have hx4:=hx3.but (But.ofBelow (m:=fun _=>False) hb4) (fun i e=>e.elim)
   obtain ⟨x1,x2,x3⟩:=hx4
   have hb':=(hb.trans (But.ofBelow hb3)).trans (But.ofBelow hb4)
   have hq:(Lib.itoa (v:Int) == wordOf r1)=true:=by rw [beq_iff_eq];exact hit'.out
   have hlen:levels.length<=10000:=by have:=hh.2;omega
   clear hb hb3 hb4 hs2 hx2 hx3 hs3 hg2 hg3
   have hd0:((d:Int) == 0)=true:=by rw [beq_iff_eq];have:=HD.out;omega
   go_wp2_with fail
   go_ret
   exact BPost.no (by rw [HM.out,hlvl.out];have:=HD.out;subst this;rfl) hb' hs4
theorem body_any (d:Nat) (hd:d<=1000):BodySaid d:=by
 induction d with
 | zero=>exact body_step 0 hd (fun d' h=>by omega)
 | succ d ih=>exact body_step (d+1) hd (fun d' h=>by obtain rfl:d=d':=by omega
                                                     exact ih (by omega))
def rdStrat (t:Ty) (l:Bs):Option Bd:=match rdB 100 t.args 200 l with
 | some (b,[],_)=>some b
 | _=>none
def RPost {α:Type} (enc:α->DV) (w:World) (o:Option α) (en:Ending) (w':World):Prop :=
 ∃ v,en=.returned v/\Below w.heap.size w w'/\(o=none->v=.pointer none)/\(∀ b,o=some b->Rep (w.heap.size<=·) w' (enc b) v)
theorem handOk_of {t:Ty} (h:atomsT t<=15):HandOk 100 t.args:=by
 have h1:=atomsT_mk t
 have hlen:∀ ts:List Ty,ts.length<=atomsTs ts:=by
  intro ts;induction ts with
  | nil=>simp
  | cons x xs ih=>simp [atomsTs];omega
 have hle:∀ ts:List Ty,∀ a∈ts,1+atomsT a<=atomsTs ts:=by
  intro ts
  induction ts with
  | nil=>simp
  | cons x xs ih =>
    intro a ha
    rcases List.mem_cons.1 ha with rfl | ha
    ·simp [atomsTs]
    ·have:=ih a ha;simp [atomsTs];omega
 refine ⟨fun a ha=>?_,?_⟩
 ·have:=hle _ a ha;omega
 ·have:=hlen t.args;omega
theorem readStrategy_any (F:Nat->Prop) (t:Ty) (l:Bs) (kv:Value) (w:World) (hg:Glob w) (hk:Rep F w (encK t) kv) (ht:atomsT t<=15) (hl:Lim l.length) :
 Calls Tryz.prog 103 #[kv,str l] w (RPost encB w (rdStrat t l)):=by
 obtain ⟨bk,sk,rfl,hFk,hc,hs⟩:=encK_open hk
 obtain ⟨a,c,e,_⟩:=Rep_sl1_open hs
 subst e
 have c1:w.cell? ⟨bk,0,none⟩=some (.slice a t.args.length c):=by simp [World.cell?,hc]
 have lk:=lt_of_heap hc
 have HC:=Lib.hid hc;clear hc
 go_enter Tryz.func103,Tryz.ntmps103
 go_wp2_with fail
 have hs0:Scan w.heap.size [.int .i64 (200:Nat)] 209 l (w.alloc (.cells #[str l,.int .i64 200] 209)):=heap_new _ _
 have hk':Rep (fun b=>b<w.heap.size) (w.alloc (.cells #[str l,.int .i64 200] 209)) (.sl 71 1 t.args.length (encKs t.args)) (.slice a t.args.length c) :=
  (Rep.keep fun b o _ ho=>⟨lt_of_heap ho,heap_past ho⟩).1 _ _ hs
 refine (body_any 100 (by omega) w.heap.size 200 t.args l _ _ _ (hg.below ((Below.refl _ _).alloc (Nat.le_refl _) _)) (hg.new (Nat.le_refl _)) hs0 (by omega) hl (handOk_of ht) hk' (fun b hb=>by have:=hb;omega)).mono ?_
 rintro en w1 ⟨v,r',left',rfl,hb1,hs1,hn1,hy1⟩
 have hb:Below w.heap.size w w1:=((Below.refl w.heap.size w).alloc (Nat.le_refl _) _).trans (hb1.toBelow (by simp) (fun i hi e=>by omega))
 have hc1:=hs1.cell
 have hz:w.heap.size<w1.heap.size:=scan_lt hs1
 cases hq:rdB 100 t.args 200 l with
 | none =>
   obtain rfl:=hn1 hq
   have HQ:=Lib.hid hq;clear hq hn1 hy1
   go_wp2_with fail
   go_ret
   exact ⟨_,rfl,hb,fun _=>rfl,fun b h=>by simp [rdStrat,HQ.out] at h⟩
 | some x =>
   obtain ⟨b,rest,left⟩:=x
   obtain ⟨rfl,_,hv⟩:=hy1 _ _ _ hq
   have HQ:=Lib.hid hq;clear hq hn1 hy1
   obtain ⟨av,ev⟩:=encB_ptr hv
   subst ev
   cases r' with
   | cons x xs =>
     have hne:(!(x::xs).isEmpty)=true:=rfl
     go_wp2_with fail
     go_ret
     exact ⟨_,rfl,hb,fun _=>rfl,fun b h=>by simp [rdStrat,HQ.out] at h⟩
   | nil =>
     go_wp2_with fail
     go_ret
     have HM:rdStrat t l=some b:=by simp [rdStrat,HQ.out]
     refine ⟨_,rfl,hb,fun h=>by simp [HM] at h,fun b' h=>?_⟩
     rw [HM] at h;simp at h;subst h
     exact (Rep.keep fun b o h ho=>⟨by have:=h;simp at this;omega,ho⟩).1 _ _ hv
def rdTS (s l:Bs):Option (Ty×Bd):=do
 let t<-rdKind s
 let b<-rdStrat t l
 some (t,b)
def TSPost (w:World) (s l:Bs) (en:Ending) (w':World):Prop :=
 ∃ kv bv,en=.returned (.tuple #[kv,bv])/\Below w.heap.size w w'/\(rdTS s l=none->bv=.pointer none) /\
   (∀ t b,rdTS s l=some (t,b)->Rep (w.heap.size<=·) w' (encK t) kv/\Rep (w.heap.size<=·) w' (encB b) bv)
theorem rdKind_le {s:Bs} {t:Ty} (h:rdKind s=some t):atomsT t<=15:=by
 unfold rdKind at h
 split at h
 ·split at h
  ·rename_i h15;simp at h;subst h;exact h15
  ·simp at h
 ·simp at h
theorem strategy_any (s l:Bs) (w:World) (hg:Glob w) (hs:Lim s.length) (hl:Lim l.length) :
 Calls Tryz.prog 51 #[str s,str l] w (TSPost w s l):=by
 go_enter Tryz.func51,Tryz.ntmps51
 go_wp2_with fail
 refine (readKind_any s w hs).mono ?_
 rintro en w1 ⟨kv,rfl,hb1,hn1,hy1⟩
 cases hq:rdKind s with
 | none =>
   obtain rfl:=hn1 hq
   have HQ:=Lib.hid hq;clear hq hn1 hy1
   go_wp2_with fail
   go_ret2
   exact ⟨_,_,rfl,hb1,fun _=>rfl,fun t b h=>by simp [rdTS,HQ.out] at h⟩
 | some t =>
   have hv:=hy1 _ hq
   have ht:=rdKind_le hq
   have HQ:=Lib.hid hq;clear hq hn1 hy1
   obtain ⟨ak,_,ek,_⟩:=encK_open hv
   subst ek
   go_wp2_with fail
   refine (readStrategy_any _ t l _ w1 (hg.below hb1) hv ht hl).mono ?_
   rintro en w2 ⟨bv,rfl,hb2,hn2,hy2⟩
   go_wp2_with fail
   go_ret2
   refine ⟨_,_,rfl,zzT hb1 hb2,fun h=>hn2 ?_,fun t' b h=>?_⟩
   ·cases hr:rdStrat t l with
    | none=>rfl
    | some b=>simp [rdTS,HQ.out,hr] at h
   ·cases hr:rdStrat t l with
    | none=>simp [rdTS,HQ.out,hr] at h
    | some b' =>
      simp [rdTS,HQ.out,hr] at h
      obtain ⟨rfl,rfl⟩:=h
      exact ⟨Rep.below hb2 (fun _ h=>h) hv,(Rep.keep fun i o hi ho=>⟨by have:=hb1.size;have:=hi;omega,ho⟩).1 _ _ (hy2 _ hr)⟩
theorem encBs_at (ts:List Bd):∀ k:Nat,(encBs ts)[k]? = ts[k]?.map encB:=by
 induction ts with
 | nil=>intro k;simp [encBs]
 | cons t ts ih=>intro k;cases k <;> simp [encBs,ih]
theorem leaf_open {F:Nat->Prop} {w:World} {c:UInt8} {v:Value} (h:Rep F w (encB (.leaf c)) v) :
 ∃ b sl,v=.pointer (some ⟨b,0,none⟩)/\F b/\w.heap[b]? = some (.cells #[str [c],.int .i64 (0:Nat),sl,.pointer none,.pointer none] 141 (0,0))/\Rep F w (.sl 72 1 0 []) sl:=by
 rw [encB,Rep_ptr] at h
 obtain ⟨b,cs,hv,hb,hc,hr⟩:=h
 simp only [Reps_cons,Reps_nil,Rep_val] at hr
 obtain ⟨_,_,e1,rfl,_,_,rfl,rfl,sl,_,rfl,h3,_,_,rfl,rfl,_,_,rfl,rfl,rfl⟩:=hr
 have:cs=#[str [c],.int .i64 (0:Nat),sl,.pointer none,.pointer none]:=by apply Array.ext';simpa using e1
 subst this
 exact ⟨b,sl,hv,hb,hc,h3⟩
theorem ask_open {F:Nat->Prop} {w:World} {v:Nat} {ss:List Bd} {y n:Bd} {p:Value} (h:Rep F w (encB (.ask v ss y n)) p) :
 ∃ b sl yv nv,p=.pointer (some ⟨b,0,none⟩)/\F b/\w.heap[b]? = some (.cells #[str [],.int .i64 v,sl,yv,nv] 141 (0,0)) /\
   Rep F w (.sl 72 1 ss.length (encBs ss)) sl/\Rep F w (encB y) yv/\Rep F w (encB n) nv:=by
 rw [encB,Rep_ptr] at h
 obtain ⟨b,cs,hv,hb,hc,hr⟩:=h
 simp only [Reps_cons,Reps_nil,Rep_val] at hr
 obtain ⟨_,_,e1,rfl,_,_,rfl,rfl,sl,_,rfl,h3,yv,_,rfl,h4,nv,_,rfl,h5,rfl⟩:=hr
 have:cs=#[str [],.int .i64 v,sl,yv,nv]:=by apply Array.ext';simpa using e1
 subst this
 exact ⟨b,sl,yv,nv,hv,hb,hc,h3,h4,h5⟩
theorem isList_leaf (F:Nat->Prop) (w:World) (c:UInt8) (v:Value) (h:Rep F w (encB (.leaf c)) v) :
 Calls Tryz.prog 104 #[v] w fun en w'=>en=.returned (.bool false)/\w'=w:=by
 obtain ⟨b,sl,rfl,_,hc,_⟩:=leaf_open h
 have c1:w.cell? ⟨b,0,none⟩=some (.string ⟨#[c]⟩):=by simp [World.cell?,hc]
 clear hc h
 go_enter Tryz.func104,Tryz.ntmps104
 go_wp2_with fail
 go_ret
 exact ⟨rfl,rfl⟩
theorem isList_ask (F:Nat->Prop) (w:World) (v:Nat) (ss:List Bd) (y n:Bd) (p:Value) (h:Rep F w (encB (.ask v ss y n)) p) :
 Calls Tryz.prog 104 #[p] w fun en w'=>en=.returned (.bool true)/\w'=w:=by
 obtain ⟨b,sl,yv,nv,rfl,_,hc,_⟩:=ask_open h
 have c1:w.cell? ⟨b,0,none⟩=some (.string ⟨#[]⟩):=by simp [World.cell?,hc]
 clear hc h
 go_enter Tryz.func104,Tryz.ntmps104
 go_wp2_with fail
 go_ret
 exact ⟨rfl,rfl⟩
mutual
def encS:Ty->DV
 | .mk ts=>.sl 78 1 ts.length (encSs ts)
def encSs:List Ty->List DV
 | []=>[]
 | t::ts=>encS t::encSs ts
end
def T1Post (L:Nat) (w:World) (o:Option (Ty×Bs)) (en:Ending) (w':World):Prop :=
 ∃ (v:Value) (k:Int) (t:Ty),en=.returned (.tuple #[.agg #[v],.int .i64 k])/\Below w.heap.size w w'/\Rep (w.heap.size<=·) w' (encS t) v/\(o=none->k = -1/\t=.mk [])/\(∀ t' rest,o=some (t',rest)->k=(L:Int)-rest.length/\t=t')
theorem Tryz.infoS:(Tryz.prog.info? 78).map (fun i=>(i.zero,i.size,i.bytes))=some (some (.agg #[.slice none 0 0]),1,24):=by kernel_rfl
theorem encSs_at (ts:List Ty):∀ k:Nat,(encSs ts)[k]? = ts[k]?.map encS:=by
 induction ts with
 | nil=>intro k;simp [encSs]
 | cons t ts ih=>intro k;cases k <;> simp [encSs,ih]
theorem encSs_append (a b:List Ty):encSs (a++b)=encSs a++encSs b:=by
 induction a with
 | nil=>rfl
 | cons t ts ih=>simp [encSs,ih]
theorem encS_eq (t:Ty):encS t=.sl 78 1 t.args.length (encSs t.args):=by cases t;rw [encS];rfl
theorem encS_slice {F:Nat->Prop} {w:World} {t:Ty} {v:Value} (h:Rep F w (encS t) v):∃ a c,v=.slice a t.args.length c:=by
 rw [encS_eq] at h;obtain ⟨a,c,e,_⟩:=Rep_sl1_open h;exact ⟨a,c,e⟩
theorem oneCell_encSs {F:Nat->Prop} {w:World} (ts:List Ty):∀ us,Reps F w (encSs ts) us->∀ u∈us,u.oneCell'=true:=by
 induction ts with
 | nil=>intro us h;rw [encSs,Reps_nil] at h;subst h;simp
 | cons t ts ih =>
   intro us h u hu
   rw [encSs,Reps_cons] at h
   obtain ⟨v,vs',rfl,h1,h2⟩:=h
   rcases List.mem_cons.1 hu with rfl | hu
   ·obtain ⟨a,c,rfl⟩:=encS_slice h1;rfl
   ·exact ih _ h2 u hu
theorem encS_none (F:Nat->Prop) (w:World):Rep F w (encS (.mk [])) (.slice none 0 0):=by
 rw [encS_eq];exact Rep_sl.2 ⟨rfl,none,0,rfl,Nat.le_refl _,fun _=>rfl,.inl rfl⟩
theorem T1Post.no {L:Nat} {w w':World} {o:Option (Ty×Bs)} (ho:o=none) (hb:Below w.heap.size w w') :
 T1Post L w o (.returned (.tuple #[.agg #[.slice none 0 0],.int .i64 (-1)])) w' :=
 ⟨_,_,.mk [],rfl,hb,encS_none _ _,fun _=>⟨rfl,rfl⟩,fun _ _ h=>by rw [ho] at h;simp at h⟩
theorem T1Post.yes {L:Nat} {w w':World} {o:Option (Ty×Bs)} {t:Ty} {rest:Bs} {v:Value} {k:Int} (ho:o=some (t,rest)) (hk:k=(L:Int)-rest.length) (hb:Below w.heap.size w w') (hv:Rep (w.heap.size<=·) w' (encS t) v) :
 T1Post L w o (.returned (.tuple #[.agg #[v],.int .i64 k])) w' :=
 ⟨_,_,t,rfl,hb,hv,fun h=>by rw [ho] at h;simp at h,fun _ _ h=>by rw [ho] at h;simp at h;obtain ⟨rfl,rfl⟩:=h;exact ⟨hk,rfl⟩⟩
def ReadSaid (l:Bs) (d:Nat):Prop:=∀ (i:Nat) (w:World),i<=l.length->d<=21 ->
    Calls Tryz.prog 147 #[str l,.int .i64 i,.int .i64 d] w (T1Post l.length w (rdS (21-d) (l.drop i)))
theorem l1Read_step (l:Bs) (hl:Lim l.length) (d:Nat) (ih:d<=20->ReadSaid l (d+1)):ReadSaid l d:=by
 intro i w hi hd
 have hl':=hl.le
 have IH:=Lib.hid ih;clear ih
 by_cases hd20:d<=20
 rotate_left
 ·have h0:Hid (21-d=0):=by show 21-d=0;omega
  go_enter Tryz.func147,Tryz.ntmps147
  go_wp2_with fail
  refine bodyPost_ret (v:=.tuple #[.agg #[.slice none 0 0],.int .i64 (-1)]) (by simp [results,Tryz.results147,go_sem]) rfl ?_
  exact T1Post.no (by rw [h0.out];rfl) ((Below.refl _ _).alloc (Nat.le_refl _) _)
 obtain ⟨n,hn⟩:∃ n,21-d=n+1:=⟨20-d,by omega⟩
 have IH':=Lib.hid (IH.out hd20);clear IH
 have HN:=Lib.hid hn
 have HN':Hid (21-(d+1)=n):=by show 21-(d+1)=n;omega
 clear hn
 by_cases hlt:i<l.length
 rotate_left
 ·go_enter Tryz.func147,Tryz.ntmps147
  go_wp2_with fail
  refine bodyPost_ret (v:=.tuple #[.agg #[.slice none 0 0],.int .i64 (-1)]) (by simp [results,Tryz.results147,go_sem]) rfl ?_
  exact T1Post.no (by rw [HN.out,rdS_no (cut_end (by omega)),cut_end (by omega)];rfl) ((Below.refl _ _).alloc (Nat.le_refl _) _)
 by_cases hb:l[i]=98
 ·have f1:=byte_yes hlt (n:=98) (by decide) hb
  have hc:Cut [98] (l.drop i) (l.drop (i+1)):=by unfold Cut;rw [cut_one hlt,if_pos hb]
  clear hb
  go_enter Tryz.func147,Tryz.ntmps147
  go_wp2_with fail
  refine bodyPost_ret (v:=.tuple #[.agg #[.slice none 0 0],.int .i64 ((i:Int)+1)]) (by simp [results,Tryz.results147,go_sem]) rfl ?_
  exact T1Post.yes (t:=.mk []) (by rw [HN.out,rdS_b hc]) (by simp;omega) ((Below.refl _ _).alloc (Nat.le_refl _) _) (encS_none _ _)
 have f1:=byte_no hlt (n:=98) (by decide) hb
 have hc:NoCut [98] (l.drop i):=by unfold NoCut;rw [cut_one hlt,if_neg hb]
 have HM:=Lib.hid (rdS_no (n:=n) hc)
 clear hb hc
 by_cases h3:i+3<=l.length
 rotate_left
 ·have h3':(l.length:Int)<(i:Int)+3:=by omega
  have hc2:Hid (cut [40,62,32] (l.drop i)=none):=by
   show cut [40,62,32] (l.drop i)=none
   cases hq:cut [40,62,32] (l.drop i) with
   | none=>rfl
   | some r=>have:=(cut_drop hq).2;simp at this;omega
  go_enter Tryz.func147,Tryz.ntmps147
  go_wp2_with fail
  refine bodyPost_ret (v:=.tuple #[.agg #[.slice none 0 0],.int .i64 (-1)]) (by simp [results,Tryz.results147,go_sem]) rfl ?_
  exact T1Post.no (by rw [HN.out,HM.out,hc2.out];rfl) ((Below.refl _ _).alloc (Nat.le_refl _) _)
 have h3':(i:Int)+3<=(l.length:Int):=by omega
 have hx:(l.take (i+3)).drop i=(l.drop i).take 3:=by rw [List.drop_take];congr 1;omega
 rcases cut_cases [40,62,32] (l.drop i) with h4 | ⟨r1,h4⟩
 ·have f2:(((⟨l.toArray⟩:ByteArray).extract i (i+3)).toList == [40,62,32])=false:=by
   rw [ext_list,hx,beq_eq_false_iff_ne]
   intro e
   have h5:=h4.out
   have hp:[40,62,32].isPrefixOf (l.drop i)=true:=by rw [List.isPrefixOf_iff_prefix,<- e];exact List.take_prefix _ _
   unfold cut at h5;rw [if_pos hp] at h5;simp at h5
  clear hx
  go_enter Tryz.func147,Tryz.ntmps147
  go_wp2_with fail
  refine bodyPost_ret (v:=.tuple #[.agg #[.slice none 0 0],.int .i64 (-1)]) (by simp [results,Tryz.results147,go_sem]) rfl ?_
  exact T1Post.no (by rw [HN.out,HM.out,h4.out];rfl) ((Below.refl _ _).alloc (Nat.le_refl _) _)
 have f2:(((⟨l.toArray⟩:ByteArray).extract i (i+3)).toList == [40,62,32])=true:=by
  rw [ext_list,hx,beq_iff_eq]
  have h5:=h4.out
  unfold cut at h5;split at h5
  ·rename_i hp
   exact (List.prefix_iff_eq_take.1 (List.isPrefixOf_iff_prefix.1 hp)).symm
  ·simp at h5
 have hr1:=(cut_drop h4.out).1
 have hr1':r1=l.drop (i+3):=hr1
 subst hr1'
 clear hx hr1
 go_enter Tryz.func147,Tryz.ntmps147
 go_wp2_with fail
 rw [show (i:Int)+3=((i+3:Nat):Int) from by omega,show (d:Int)+1=((d+1:Nat):Int) from by omega]
 refine (IH'.out (i+3) _ h3 (by omega)).mono ?_
 rintro en w1 ⟨v1,k1,t1,rfl,hb1,hv1,hn1,hy1⟩
 rw [HN'.out] at hn1 hy1
 have hbA:Below w.heap.size w w1:=((Below.refl w.heap.size w).alloc (Nat.le_refl _) _).trans (hb1.mono (by simp))
 have z1:=hb1.size
 have hz1:w.heap.size<w1.heap.size:=by simp at z1;omega
 have hcell:w1.cell? ⟨w.heap.size,0,none⟩=some (.slice none 0 0):=by rw [hb1.cell (by simp)];simp
 have hfree:w1.frozen? ⟨w.heap.size,0,none⟩=false:=by rw [hb1.frozen (by simp)];simp
 obtain ⟨a1,c1,e1⟩:=encS_slice hv1
 subst e1
 cases hq:rdS n (l.drop (i+3)) with
 | none =>
   obtain ⟨rfl,rfl⟩:=hn1 hq
   have HQ:=Lib.hid hq;clear hq hn1 hy1
   go_wp2_with fail
   refine bodyPost_ret (v:=.tuple #[.agg #[.slice none 0 0],.int .i64 (-1)]) (by simp [results,Tryz.results147,go_sem,hz1,cell_put hcell]) rfl ?_
   exact T1Post.no (by rw [HN.out,HM.out,h4.out];simp [HQ.out]) (by repeat (first | exact hbA | refine Below.alloc ?_ (by simp;omega) _ | refine Below.setCell ?_ (by simp) _ | refine Below.drew ?_))
 | some x =>
   obtain ⟨ta,r2⟩:=x
   obtain ⟨rfl,rfl⟩:=hy1 _ _ hq
   have hsf:=suffix_drop (rdS_suffix hq)
   have hr2:=(rdS_le hq).1
   have HQ:=Lib.hid hq;clear hq hn1 hy1
   obtain ⟨e,he⟩:=zzM (l.length-r2.length)
   have hel:e<=l.length:=by omega
   have hr2l:r2.length<=l.length:=by simp at hr2;omega
   have hk:(l.length:Int)-(r2.length:Int)=(e:Int):=by omega
   rw [<- he] at hsf
   rw [hk]
   have HSF:=Lib.hid hsf
   clear hk hsf hr2
   by_cases hee:e<l.length
   rotate_left
   ·have hc5:Hid (cut [32] r2=none):=by show cut [32] r2=none;rw [HSF.out];exact cut_end (by omega)
    have HE:=Lib.hid he;clear he
    go_wp2_with fail
    refine bodyPost_ret (v:=.tuple #[.agg #[.slice none 0 0],.int .i64 (-1)]) (by simp [results,Tryz.results147,go_sem,hz1,cell_put hcell]) rfl ?_
    exact T1Post.no (by rw [HN.out,HM.out,h4.out];simp [HQ.out,hc5.out]) (by repeat (first | exact hbA | refine Below.alloc ?_ (by simp;omega) _ | refine Below.setCell ?_ (by simp) _ | refine Below.drew ?_))
   have HE:=Lib.hid he;clear he
   by_cases hb5:l[e]=32
   rotate_left
   ·have f5:=byte_no2 hee (n:=32) (by decide) hb5
    have hc5:Hid (cut [32] r2=none):=by show cut [32] r2=none;rw [HSF.out,cut_one hee,if_neg hb5]
    clear hb5
    go_wp2_with fail
    refine bodyPost_ret (v:=.tuple #[.agg #[.slice none 0 0],.int .i64 (-1)]) (by simp [results,Tryz.results147,go_sem,hz1,cell_put hcell]) rfl ?_
    exact T1Post.no (by rw [HN.out,HM.out,h4.out];simp [HQ.out,hc5.out]) (by repeat (first | exact hbA | refine Below.alloc ?_ (by simp;omega) _ | refine Below.setCell ?_ (by simp) _ | refine Below.drew ?_))
   have f5:=byte_yes2 hee (n:=32) (by decide) hb5
   have g1:decide ((e:Int)<0)=false:=by rw [decide_eq_false_iff_not];omega
   have g2:decide (l.length<=e)=false:=by rw [decide_eq_false_iff_not];omega
   have hc5:Hid (cut [32] r2=some (l.drop (e+1))):=by show cut [32] r2=_;rw [HSF.out,cut_one hee,if_pos hb5]
   clear hb5
   go_wp2_with fail
   rw [show (e:Int)+1=((e+1:Nat):Int) from by omega,show (d:Int)+1=((d+1:Nat):Int) from by omega]
   refine (IH'.out (e+1) _ hee (by omega)).mono ?_
   rintro en w2 ⟨v2,k2,t2,rfl,hb2,hv2,hn2,hy2⟩
   rw [HN'.out] at hn2 hy2
   obtain ⟨a2,c2,e2⟩:=encS_slice hv2
   subst e2
   have z2:=hb2.size
   rw [size_alloc] at z2
   have hbB:Below w.heap.size w w2:=(hbA.alloc hbA.size _).trans (hb2.mono (by rw [size_alloc];omega))
   have hz2:w.heap.size<w2.heap.size:=by omega
   have hz2':w1.heap.size<w2.heap.size:=by omega
   have hcell2:w2.cell? ⟨w.heap.size,0,none⟩=some (.slice none 0 0):=by rw [hb2.cell (by simp;omega)];exact cell_alloc hcell
   have hfree2:w2.frozen? ⟨w.heap.size,0,none⟩=false:=by rw [hb2.frozen (by simp;omega)];rw [World.frozen?_of_block (w:=w1) (Below.heap_alloc _ _ _ hz1)];exact hfree
   have hcellA:w2.cell? ⟨w1.heap.size,0,none⟩=some (.slice a1 t1.args.length c1):=by rw [hb2.cell (by simp)];simp
   have hv1':Rep (w1.heap.size<=·) w2 (encS t1) (.slice a1 t1.args.length c1)\/True:=.inr trivial
   clear hv1' hcell hfree
   cases hq:rdS n (l.drop (e+1)) with
   | none =>
     obtain ⟨rfl,rfl⟩:=hn2 hq
     have HQ2:=Lib.hid hq;clear hq hn2 hy2
     go_wp2_with fail
     refine bodyPost_ret (v:=.tuple #[.agg #[.slice none 0 0],.int .i64 (-1)]) (by simp [results,Tryz.results147,go_sem,hz2,cell_put hcell2]) rfl ?_
     exact T1Post.no (by rw [HN.out,HM.out,h4.out];simp [HQ.out,hc5.out,HQ2.out]) (by repeat (first | exact hbB | refine Below.alloc ?_ (by simp;omega) _ | refine Below.setCell ?_ (by simp) _ | refine Below.drew ?_))
   | some x =>
     obtain ⟨tb,r4⟩:=x
     obtain ⟨rfl,rfl⟩:=hy2 _ _ hq
     have hsf:=suffix_drop (rdS_suffix hq)
     have hr4:=rdS_le hq
     have HQ2:=Lib.hid hq;clear hq hn2 hy2
     obtain ⟨e2,he⟩:=zzM (l.length-r4.length)
     have hel:e2<=l.length:=by omega
     have hr2l:r4.length<=l.length:=by simp at hr4;omega
     have hk:(l.length:Int)-(r4.length:Int)=(e2:Int):=by omega
     have htl:t2.args.length<=16777216:=by simp at hr4;omega
     rw [<- he] at hsf
     rw [hk]
     have HSF2:=Lib.hid hsf
     clear hk hsf hr4
     have HE2:=Lib.hid he;clear he
     by_cases hee2:e2<l.length
     rotate_left
     ·have hc6:Hid (cut [41] r4=none):=by show cut [41] r4=none;rw [HSF2.out];exact cut_end (by omega)
      go_wp2_with fail
      refine bodyPost_ret (v:=.tuple #[.agg #[.slice none 0 0],.int .i64 (-1)]) (by simp [results,Tryz.results147,go_sem,hz2,cell_put hcell2]) rfl ?_
      exact T1Post.no (by rw [HN.out,HM.out,h4.out];simp [HQ.out,hc5.out,HQ2.out,hc6.out]) (by repeat (first | exact hbB | refine Below.alloc ?_ (by simp;omega) _ | refine Below.setCell ?_ (by simp) _ | refine Below.drew ?_))
     by_cases hb6:l[e2]=41
     rotate_left
     ·have f6:=byte_no2 hee2 (n:=41) (by decide) hb6
      have hc6:Hid (cut [41] r4=none):=by show cut [41] r4=none;rw [HSF2.out,cut_one hee2,if_neg hb6]
      clear hb6
      go_wp2_with fail
      refine bodyPost_ret (v:=.tuple #[.agg #[.slice none 0 0],.int .i64 (-1)]) (by simp [results,Tryz.results147,go_sem,hz2,cell_put hcell2]) rfl ?_
      exact T1Post.no (by rw [HN.out,HM.out,h4.out];simp [HQ.out,hc5.out,HQ2.out,hc6.out]) (by repeat (first | exact hbB | refine Below.alloc ?_ (by simp;omega) _ | refine Below.setCell ?_ (by simp) _ | refine Below.drew ?_))
     have f6:=byte_yes2 hee2 (n:=41) (by decide) hb6
     have g3:decide ((e2:Int)<0)=false:=by rw [decide_eq_false_iff_not];omega
     have g4:decide (l.length<=e2)=false:=by rw [decide_eq_false_iff_not];omega
     have hc6:Hid (cut [41] r4=some (l.drop (e2+1))):=by show cut [41] r4=_;rw [HSF2.out,cut_one hee2,if_pos hb6]
     clear hb6
     rw [encS_eq] at hv2
     obtain ⟨xs,hxs,hsrc⟩:=SrcSl.ofRep hv2 (oneCell_encSs _)
     go_wp2_with (at_builtin;refine wpList_append_gen rfl _ _ 76 rfl 78 (.agg #[.slice none 0 0]) 1 24 Tryz.underlying76 Tryz.infoS rfl (by decide) _ 1 [.slice a1 t1.args.length c1] rfl ?c1 _ t2.args.length xs rfl ?c2 ?c3 ?c4 ?_)
     case c1=>exact Own.litAt #[.slice a1 t1.args.length c1] 1 _ (by simp) (by decide) rfl
     case c2=>exact hsrc.keep fun _ _ h=>cell_alloc (cell_alloc h)
     case c3=>unfold maxLen;omega
     case c4=>omega
     intro a' c' w3 ho hb3 hg3
     have hbW:Below w2.heap.size w2 ((w2.alloc (.cells #[.slice a2 t2.args.length c2] 78)).alloc (.cells #[.slice a1 t1.args.length c1] 78)):=((Below.refl _ _).alloc (Nat.le_refl _) _).alloc (by simp) _
     have hb2w:Below w2.heap.size w2 w3:=hbW.trans (hb3.toBelow (by simp;omega) (fun i hi e=>by simp [Value.ownBlock] at e;omega))
     have hbC:Below w.heap.size w w3:=hbB.trans (hb2w.mono (by omega))
     have hcell3:w3.cell? ⟨w.heap.size,0,none⟩=some (.slice none 0 0):=by rw [hb2w.cell hz2];exact hcell2
     have hfree3:w3.frozen? ⟨w.heap.size,0,none⟩=false:=by rw [hb2w.frozen hz2];exact hfree2
     have hv1W:Rep (w.heap.size<=·) w3 (encS t1) (.slice a1 t1.args.length c1):=by
      refine (Rep.keep fun b o h ho=>⟨by have:=sz_le h;omega,?_⟩).1 _ _ hv1
      rw [hb2w.block b (by have:=lt_of_heap ho;omega),hb2.block b (by have:=lt_of_heap ho;simp;omega)]
      exact heap_past ho
     have hxsW:Reps (w.heap.size<=·) w3 (encSs t2.args) xs :=
      (Rep.keep fun b o h ho=>⟨by have:=sz_le h;omega,by rw [hb2w.block b (lt_of_heap ho)];exact ho⟩).2 _ _ hxs
     have hown:∀ g,(Value.slice a' (1+t2.args.length) c').ownBlock=some g->w.heap.size<=g:=by
      intro g h
      rcases hg3 g h with h | h
      ·simp [Value.ownBlock] at h;omega
      ·have:=hb2w.size;omega
     have HG:=Lib.hid hown;have HG3:=Lib.hid hg3;clear hg3 hown
     go_wp2_with fail
     refine bodyPost_ret (v:=.tuple #[.agg #[.slice a' (1+t2.args.length) c'],.int .i64 ((e2:Int)+1)]) (by simp [results,Tryz.results147,go_sem,cell_put hcell3]) rfl ?_
     refine T1Post.yes (t:=arrowT t1 t2) (rest:=l.drop (e2+1)) (by rw [HN.out,HM.out,h4.out];simp [HQ.out,hc5.out,HQ2.out,hc6.out]) (by simp;omega) (hbC.setCell (Nat.le_refl _) _) ?_
     refine (Rep.keep (w:=w3) (F:=fun b=>w.heap.size<=b/\b≠w.heap.size) fun b o h ho=>⟨h.1,?_⟩).1 _ _ ?_
     ·rw [Below.heap_setCell _ _ _ _ (by simpa using h.2)];exact ho
     rw [encS_eq,show (arrowT t1 t2).args.length=1+t2.args.length from by simp [arrowT,Ty.args,Nat.add_comm]]
     refine ho.rep (fun g h=>⟨HG.out g h,?_⟩) ?_
     ·rcases HG3.out g h with h | h
      ·simp [Value.ownBlock] at h;omega
      ·have:=hb2w.size;omega
     ·show Reps _ _ (encS t1::encSs t2.args) _
      refine Reps_cons.2 ⟨_,_,rfl,?_,?_⟩
      ·refine (Rep.keep fun b o h ho=>⟨⟨by have:=sz_le h;omega,by have:=sz_le h;omega⟩,?_⟩).1 _ _ hv1
       rw [hb2w.block b (by have:=lt_of_heap ho;omega),hb2.block b (by have:=lt_of_heap ho;simp;omega)]
       exact heap_past ho
      ·exact (Rep.keep fun b o h ho=>⟨⟨by have:=sz_le h;omega,by have:=sz_le h;omega⟩,by rw [hb2w.block b (lt_of_heap ho)];exact ho⟩).2 _ _ hxs
theorem l1Read_any (l:Bs) (hl:Lim l.length) (n:Nat):∀ d,21-d=n->ReadSaid l d:=by
 induction n with
 | zero=>exact fun d h=>l1Read_step l hl d (fun h'=>by omega)
 | succ n ih=>exact fun d h=>l1Read_step l hl d (fun h'=>ih (d+1) (by omega))
def SizeSSaid (t:Ty):Prop:=∀ (F:Nat->Prop) (w:World) (v:Value),Rep F w (encS t) v ->
 Calls Tryz.prog 148 #[.agg #[v]] w fun en w'=>en=.returned (.int .i64 (atomsT t))/\Below w.heap.size w w'
theorem length_le_atomsTs (ts:List Ty):ts.length<=atomsTs ts:=by
 induction ts with
 | nil=>simp
 | cons t ts ih=>simp [atomsTs];omega
theorem l1Size_step (t:Ty) (hl:Lim (atomsT t)) (ih:∀ t',atomsT t'<atomsT t->SizeSSaid t'):SizeSSaid t:=by
 intro F w v hv
 obtain ⟨a,cap,e⟩:=encS_slice hv
 subst e
 have hv':=hv
 rw [encS_eq] at hv'
 obtain ⟨_,_,e,_,hlen,hat⟩:=Rep_sl1_open hv'
 simp only [Value.slice.injEq] at e
 obtain ⟨rfl,_,rfl⟩:=e
 have IH:=Lib.hid ih;clear ih
 have hl':=hl.le
 have E1:=Lib.hid (atomsT_mk t)
 have hlb:t.args.length<=16777216:=by have:=length_le_atomsTs t.args;have:=E1.out;omega
 have AT:=Lib.hid hat;clear hat hlen hv'
 go_enter Tryz.func148,Tryz.ntmps148
 go_wp2_with fail
 go_loopw [3,4] (fun n i wr=>∃ k:Nat,k<=t.args.length/\i=.int .i64 k/\n=.int .i64 ((1+atomsTs (t.args.take k):Nat):Int)/\Below w.heap.size w wr/\wr.cell? ⟨w.heap.size,0,none⟩=some (.slice a t.args.length cap)) (fun _ i _=>t.args.length-(intOf i).toNat)
 case atStart=>exact ⟨0,Nat.zero_le _,rfl,by simp [atomsTs],(Below.refl _ _).alloc (Nat.le_refl _) _,by simp⟩
 case round =>
  rename_i wr
  obtain ⟨k,hk,rfl,rfl,hb,hc⟩:=hrel
  by_cases hlt:k<t.args.length
  ·obtain ⟨b',o,u,d,rfl,_,hb',hd,hu,hr⟩:=AT.out k hlt
   rw [encSs_at,Option.map_eq_some_iff] at hd
   obtain ⟨t',ht',rfl⟩:=hd
   obtain ⟨ua,uc,rfl⟩:=encS_slice hr
   have hu':wr.cell? ⟨b',o+k,none⟩=some (.slice ua t'.args.length uc):=by rw [hb.cell hb'];exact hu
   have hr':=Rep.below (F':=F) hb (fun _ h=>h) hr
   have hs:=atomsTs_take ht'
   have hle:=atomsTs_take_le t.args (k+1)
   have hat':=E1.out
   have IH':=Lib.hid (IH.out t' (by omega))
   have HS:=Lib.hid hs
   have b1:1+atomsTs (t.args.take k)+(1+atomsT t')<=16777216:=by omega
   have hz:=World.block_lt_of_cell? wr _ hc
   clear hs ht' hat' hu hr
   go_wp2_with fail
   refine (IH'.out _ _ _ hr').mono ?_
   rintro en w2 ⟨rfl,hb2⟩
   have hb3:=zzT hb hb2
   have hc2:w2.cell? ⟨w.heap.size,0,none⟩=some (.slice (some ⟨b',o,none⟩) t.args.length cap):=by rw [hb2.cell hz];exact hc
   go_wp2_with fail
   go_roundw
   case rel=>exact ⟨k+1,by omega,by go_num,by rw [HS.out] <;> go_num,hb3,hc2⟩
   case measure=>simp [intOf];omega
  ·obtain rfl:k=t.args.length:=by omega
   go_wp2_with fail
   go_ret
   exact ⟨ret_i64 (by rw [E1.out,List.take_length]),hb⟩
theorem l1Size_any (n:Nat):∀ t,atomsT t<=n->Lim n->SizeSSaid t:=by
 induction n with
 | zero=>intro t h _;have:=atomsT_pos t;omega
 | succ n ih=>exact fun t h hn=>l1Size_step t (hn.mono h) (fun t' h'=>ih t' (by omega) (hn.mono (by omega)))
def specType (l:Bs):Ty×Bool :=
 if 100<l.length then (.mk [],false) else
 match rdS 21 l with
 | none=>(.mk [],false)
 | some (t,rest)=>(t,rest.isEmpty && decide (atomsT t<=15))
def TypePost (l:Bs) (w:World) (en:Ending) (w':World):Prop :=
 ∃ v,en=.returned (.tuple #[.agg #[v],.bool (specType l).2])/\Below w.heap.size w w'/\Rep (w.heap.size<=·) w' (encS (specType l).1) v
set_option maxRecDepth 100000 in
theorem l1Type_any (l:Bs) (hl:Lim l.length) (w:World):Calls Tryz.prog 90 #[str l] w (TypePost l w):=by
 have hl':=hl.le
 by_cases h100:100<l.length
 ·have h100':(100:Int)<(l.length:Int):=by omega
  have HM:specType l=(.mk [],false):=by unfold specType;rw [if_pos h100]
  have HM:=Lib.hid HM
  go_enter Tryz.func90,Tryz.ntmps90
  go_wp2_with fail
  refine bodyPost_ret (v:=.tuple #[.agg #[.slice none 0 0],.bool false]) (by simp [results,Tryz.results90,go_sem]) rfl ?_
  refine ⟨_,by rw [HM.out],(Below.refl _ _).alloc (Nat.le_refl _) _,?_⟩
  rw [HM.out];exact encS_none _ _
 have h100':¬ (100:Int)<(l.length:Int):=by omega
 have HM:specType l=(match rdS 21 l with
  | none=>(.mk [],false)
  | some (t,rest)=>(t,rest.isEmpty && decide (atomsT t<=15))):=by unfold specType;rw [if_neg h100]
 have HM:=Lib.hid HM
 go_enter Tryz.func90,Tryz.ntmps90
 go_wp2_with fail
 refine (l1Read_any l hl 21 0 rfl 0 _ (Nat.zero_le _) (by omega)).mono ?_
 rintro en w1 ⟨v1,k1,t1,rfl,hb1,hv1,hn1,hy1⟩
 rw [show (21-0:Nat)=21 from rfl,List.drop_zero] at hn1 hy1
 obtain ⟨a1,c1,e1⟩:=encS_slice hv1
 subst e1
 have z1:=hb1.size
 rw [size_alloc] at z1
 have hz1:w.heap.size<w1.heap.size:=by omega
 have hbA:Below w.heap.size w w1:=((Below.refl w.heap.size w).alloc (Nat.le_refl _) _).trans (hb1.mono (by simp))
 have hcell:w1.cell? ⟨w.heap.size,0,none⟩=some (.slice none 0 0):=by rw [hb1.cell (by simp)];simp
 have hfree:w1.frozen? ⟨w.heap.size,0,none⟩=false:=by rw [hb1.frozen (by simp)];simp
 cases hq:rdS 21 l with
 | none =>
   obtain ⟨rfl,rfl⟩:=hn1 hq
   have HQ:=Lib.hid hq;clear hq hn1 hy1
   have g1:((-1:Int) == (l.length:Int))=false:=by rw [beq_eq_false_iff_ne];omega
   go_wp2_with fail
   go_region
   go_wp2_with fail
   refine bodyPost_ret (v:=.tuple #[.agg #[.slice a1 0 c1],.bool false]) (by simp [results,Tryz.results90,go_sem,hz1,cell_put hcell,Ty.args]) rfl ?_
   refine ⟨_,by rw [HM.out,HQ.out],(by repeat (first | exact hbA | refine Below.alloc ?_ (by simp;omega) _ | refine Below.setCell ?_ (by simp) _ | refine Below.drew ?_)),?_⟩
   rw [HM.out,HQ.out]
   rw [encS_eq]
   refine Rep_sl.2 ⟨rfl,a1,c1,rfl,Nat.zero_le _,?_,.inl rfl⟩
   obtain ⟨_,_,_,e,_,h0,_⟩:=Rep_sl.1 (by rw [encS_eq] at hv1;exact hv1)
   simp only [Value.slice.injEq] at e
   obtain ⟨rfl,_,rfl⟩:=e;exact h0
 | some x =>
   obtain ⟨t,rest⟩:=x
   obtain ⟨rfl,rfl⟩:=hy1 _ _ hq
   have hat:=rdS_atoms hq
   have HQ:=Lib.hid hq;clear hq hn1 hy1
   obtain ⟨e,he⟩:=zzM (l.length-rest.length)
   rw [show (l.length:Int)-(rest.length:Int)=(e:Int) from by omega]
   have HE:=Lib.hid he;clear he
   cases rest with
   | cons x xs =>
     have g1:((e:Int) == (l.length:Int))=false:=by rw [beq_eq_false_iff_ne];have:=HE.out;simp at this hat;omega
     go_wp2_with fail
     go_region
     go_wp2_with fail
     refine bodyPost_ret (v:=.tuple #[.agg #[.slice a1 t1.args.length c1],.bool false]) (by simp [results,Tryz.results90,go_sem,hz1,cell_put hcell]) rfl ?_
     refine ⟨_,by rw [HM.out,HQ.out];rfl,(by repeat (first | exact hbA | refine Below.alloc ?_ (by simp;omega) _ | refine Below.setCell ?_ (by simp) _ | refine Below.drew ?_)),?_⟩
     rw [HM.out,HQ.out]
     refine (Rep.keep fun b o h ho=>⟨by have:=sz_le h;omega,?_⟩).1 _ _ hv1
     have hb:b≠w.heap.size:=by have:=sz_le h;omega
     exact heap_past (by rw [Below.heap_setCell _ _ _ _ (by simpa using hb)];exact ho)
   | nil =>
     obtain rfl:e=l.length:=by have:=HE.out;simpa using this
     have g1:((l.length:Int) == (l.length:Int))=true:=by simp
     have hlA:Lim (atomsT t1):=hl.mono (by simp at hat;omega)
     have hrA:Rep (w.heap.size < ·) (w1.alloc (.cells #[.slice a1 t1.args.length c1] 78)) (encS t1) (.slice a1 t1.args.length c1):=(Rep.keep fun b o h ho=>⟨by have:=sz_le h;omega,heap_past ho⟩).1 _ _ hv1
     have hcA:(w1.alloc (.cells #[.slice a1 t1.args.length c1] 78)).cell? ⟨w1.heap.size,0,none⟩=some (.slice a1 t1.args.length c1):=by simp
     go_wp2_with fail
     go_region_held3 (fun w'=>w'.cell? ⟨w1.heap.size,0,none⟩=some (.slice a1 t1.args.length c1))
      (first
       | exact (hb2.cell (by simp)).trans hcA
       | (rw [World.cell?_of_block (w:=w2) (Below.heap_setCell _ _ _ _ (by simp;omega))];exact (hb2.cell (by simp)).trans hcA)
       | go_keep)
      (first
       | (go_at_call 148;refine (l1Size_any (atomsT t1) t1 (Nat.le_refl _) hlA (w.heap.size < ·) _ _ (by exact hrA.drew)).mono ?_;rintro en w2 ⟨rfl,hb2⟩;have z2:=hb2.size;have hz2:w.heap.size<w2.heap.size:=(by simp at z2;omega);have hcell2:w2.cell? ⟨w.heap.size,0,none⟩=some (.slice none 0 0):=(hb2.cell (by simp;omega)).trans (cell_alloc hcell);have hfree2:w2.frozen? ⟨w.heap.size,0,none⟩=false:=(hb2.frozen (by simp;omega)).trans ((World.frozen?_of_block (w:=w1) (Below.heap_alloc _ _ _ hz1)).trans hfree)))
     go_wp2_with fail
     refine bodyPost_ret (v:=.tuple #[.agg #[.slice a1 t1.args.length c1],.bool (decide ((atomsT t1:Int)<=15))]) (by simp [results,Tryz.results90,go_sem,cell_put hcell2]) rfl ?_
     have hbB:Below w.heap.size w w2:=((hbA.alloc hbA.size _).drew).trans (hb2.mono (by simp;omega))
     refine ⟨.slice a1 t1.args.length c1,?_,hbB.setCell (Nat.le_refl _) _,?_⟩
     ·have e15:decide ((atomsT t1:Int)<=15)=decide (atomsT t1<=15):=by rw [decide_eq_decide];omega
      rw [HM.out,HQ.out,e15];rfl
     ·rw [HM.out,HQ.out]
      refine (Rep.keep fun b o h ho=>⟨by have:=sz_le h;omega,?_⟩).1 _ _ hv1
      have hb:b≠w.heap.size:=by have:=sz_le h;omega
      rw [Below.heap_setCell _ _ _ _ (by simpa using hb),hb2.block b (by have:=lt_of_heap ho;simp;omega)]
      exact heap_past ho
theorem rdK_mono (d:Nat):∀ {l:Bs} {t:Ty} {r:Bs} (e:Nat),d<=e->rdK d l=some (t,r)->rdK e l=some (t,r):=by
 induction d with
 | zero =>
   intro l t r e he h
   rcases cut_cases [98] l with hc | ⟨r',hc⟩
   ·rw [rdK_zero hc] at h;simp at h
   ·rw [rdK_b hc] at h ⊢;exact h
 | succ d ih =>
   intro l t r e he h
   obtain ⟨e,rfl⟩:∃ e',e=e'+1:=⟨e-1,by omega⟩
   rcases cut_cases [98] l with hc | ⟨r',hc⟩
   ·rw [rdK_succ hc] at h ⊢
    simp only [Option.bind_eq_bind,Option.bind_eq_some_iff,Prod.exists] at h ⊢
    obtain ⟨r1,h1,a,r2,h2,r3,h3,b,r4,h4,r5,h5,h6⟩:=h
    exact ⟨r1,h1,a,r2,ih e (by omega) h2,r3,h3,b,r4,ih e (by omega) h4,r5,h5,h6⟩
   ·rw [rdK_b hc] at h ⊢;exact h
theorem cut_len {p l r:Bs} (h:cut p l=some r):l.length=p.length+r.length:=by
 unfold cut at h;split at h
 ·rename_i hp
  have:=List.IsPrefix.length_le (List.isPrefixOf_iff_prefix.1 hp)
  simp at h;subst h;simp;omega
 ·simp at h
theorem atomsT_arrow (a b:Ty):atomsT (arrowT a b)=1+atomsT a+atomsT b:=by cases b;simp [arrowT,atomsT,atomsTs,Ty.args];omega
theorem rdK_shallow (e:Nat):∀ {l:Bs} {t:Ty} {r:Bs} (d:Nat),atomsT t<=2*d+1->rdK e l=some (t,r)->rdK d l=some (t,r):=by
 induction e with
 | zero =>
   intro l t r d hd h
   exact rdK_mono 0 d (Nat.zero_le _) h
 | succ e ih =>
   intro l t r d hd h
   rcases cut_cases [98] l with hc | ⟨r',hc⟩
   ·rw [rdK_succ hc] at h
    simp only [Option.bind_eq_bind,Option.bind_eq_some_iff,Prod.exists] at h
    obtain ⟨r1,h1,a,r2,h2,r3,h3,b,r4,h4,r5,h5,h6⟩:=h
    simp at h6;obtain ⟨rfl,rfl⟩:=h6
    have hat:=atomsT_arrow a b
    have pa:=atomsT_pos a;have pb:=atomsT_pos b
    obtain ⟨d,rfl⟩:∃ d',d=d'+1:=⟨d-1,by omega⟩
    rw [rdK_succ hc]
    simp only [Option.bind_eq_bind,Option.bind_eq_some_iff,Prod.exists]
    exact ⟨r1,h1,a,r2,ih d (by omega) h2,r3,h3,b,r4,ih d (by omega) h4,r5,h5,rfl⟩
   ·rw [rdK_b hc] at h ⊢;exact h
theorem rdK_len (e:Nat):∀ {l:Bs} {t:Ty} {r:Bs},rdK e l=some (t,r)->l.length+5<=r.length+6*atomsT t:=by
 induction e with
 | zero =>
   intro l t r h
   rcases cut_cases [98] l with hc | ⟨r',hc⟩
   ·rw [rdK_zero hc] at h;simp at h
   ·rw [rdK_b hc] at h;simp at h;obtain ⟨rfl,rfl⟩:=h
    have:=cut_len hc;simp [atomsT,atomsTs] at *;omega
 | succ e ih =>
   intro l t r h
   rcases cut_cases [98] l with hc | ⟨r',hc⟩
   ·rw [rdK_succ hc] at h
    simp only [Option.bind_eq_bind,Option.bind_eq_some_iff,Prod.exists] at h
    obtain ⟨r1,h1,a,r2,h2,r3,h3,b,r4,h4,r5,h5,h6⟩:=h
    simp at h6;obtain ⟨rfl,rfl⟩:=h6
    have hat:=atomsT_arrow a b
    have k1:=cut_len h1;have k2:=ih h2;have k3:=cut_len h3;have k4:=ih h4;have k5:=cut_len h5
    simp at k1 k3 k5;omega
   ·rw [rdK_b hc] at h;simp at h;obtain ⟨rfl,rfl⟩:=h
    have:=cut_len hc;simp [atomsT,atomsTs] at *;omega
theorem specType_eq (l:Bs):rdKind l=if (specType l).2 then some (specType l).1 else none:=by
 unfold rdKind specType
 by_cases h100:100<l.length
 ·rw [if_pos h100]
  simp only [Bool.false_eq_true,if_false]
  split
  ·rename_i t hq
   have:=rdK_len 15 hq
   rw [if_neg (by simp at this;omega)]
  ·rfl
 ·rw [if_neg h100]
  have e21:rdS 21 l=rdK 20 l:=rfl
  rw [e21]
  cases hq:rdK 20 l with
  | none =>
    simp only [Bool.false_eq_true,if_false]
    split
    ·rename_i t hq2
     have:=rdK_mono 15 20 (by omega) hq2
     rw [hq] at this;simp at this
    ·rfl
  | some x =>
    obtain ⟨t,rest⟩:=x
    simp only
    by_cases ht:atomsT t<=15
    ·have hq2:=rdK_shallow 20 15 (by omega) hq
     rw [hq2]
     cases rest with
     | nil=>simp [ht]
     | cons x xs=>simp
    ·cases hq2:rdK 15 l with
     | none=>simp [ht]
     | some y =>
       obtain ⟨t2,r2⟩:=y
       have:=rdK_mono 15 20 (by omega) hq2
       rw [hq] at this;simp at this;obtain ⟨rfl,rfl⟩:=this
       cases rest <;> simp [ht]
set_option maxRecDepth 100000 in
theorem l3Hand_any (F:Nat->Prop) (hand:List Ty) (t:Ty) (hv tv:Value) (w:World) (hh:Rep F w (.sl 78 1 hand.length (encSs hand)) hv) (ht:Rep F w (encS t) tv) (hl:Lim (hand.length+t.args.length)) :
 Calls Tryz.prog 155 #[hv,.agg #[tv]] w fun en w' =>
  ∃ a c,en=.returned (.slice a (hand++t.args).length c)/\Below w.heap.size w w'/\Rep (fun k=>F k\/w.heap.size<=k) w' (.sl 78 1 (hand++t.args).length (encSs (hand++t.args))) (.slice a (hand++t.args).length c):=by
 have hl':=hl.le
 obtain ⟨xs1,hx1,g1⟩:=SrcSl.ofRep hh (oneCell_encSs _)
 have ht':=ht
 rw [encS_eq] at ht'
 obtain ⟨xs2,hx2,g2⟩:=SrcSl.ofRep ht' (oneCell_encSs _)
 obtain ⟨a1,c1,e1⟩:=g1.slice
 obtain ⟨a2,c2,e2⟩:=g2.slice
 subst e1;subst e2
 have hcA:(w.alloc (.cells #[.slice a2 t.args.length c2] 78)).cell? ⟨w.heap.size,0,none⟩=some (.slice a2 t.args.length c2):=by simp
 go_enter Tryz.func155,Tryz.ntmps155
 go_wp2_with fail
 go_region_held3 (fun w'=>w'.cell? ⟨w.heap.size,0,none⟩=some (.slice a2 t.args.length c2))
  (first
   | exact (hbY.cell (by simp)).trans hcA
   | exact (hbX.cell (by simp)).trans hcA
   | go_keep)
  (first
   | (refine step_append_gen (by rfl) (.tmp 7) (.tmp 9) _ (by rfl) 78 (.agg #[.slice none 0 0]) 1 24 Tryz.underlying76 Tryz.infoS rfl (by omega) (.slice ax hand.length cx) hand.length xs1 (by rfl) (by exact hox) (.slice a2 t.args.length c2) t.args.length xs2 (by rfl) (by exact (g2.alloc _).below hbX) (by unfold maxLen;omega) (by omega) ?_;intro ay cy wy hoy hby hgy;obtain ⟨hbY,hfy⟩:=fresh_append hbX hfx hby hgy)
   | (refine step_append_gen (by rfl) (.tmp 5) (.tmp 6) _ (by rfl) 78 (.agg #[.slice none 0 0]) 1 24 Tryz.underlying76 Tryz.infoS rfl (by omega) (.slice (some ⟨w.heap.size+1,0,none⟩) 0 0) 0 [] (by rfl) (by exact (Own.litAt #[] 0 _ (by simp) (by decide) rfl).drew) (.slice a1 hand.length c1) hand.length xs1 (by rfl) (by exact ((g1.alloc _).alloc _).drew) (by unfold maxLen;omega) (by omega) ?_;rw [Nat.zero_add,List.nil_append];intro ax cx wx hox hbx hgx;obtain ⟨hbX,hfx⟩:=fresh_append (((Below.refl _ _).alloc (Nat.le_refl _) _).drew) (own_some (by simp)) hbx hgx))
 go_wp2_with fail
 go_ret
 have hb1:Below w.heap.size w (w.alloc (.cells #[.slice a2 t.args.length c2] 78)):=(Below.refl _ _).alloc (Nat.le_refl _) _
 have hbZ:Below w.heap.size w wy:=hb1.trans (hbY.mono (by simp))
 rw [List.length_append]
 refine ⟨ay,cy,rfl,hbZ,?_⟩
 rw [encSs_append]
 exact hoy.rep (fun g h=>.inr (by have:=hfy g h;simp at this;omega)) (Reps.append (hx1.below hbZ (fun _ h=>.inl h)) (hx2.below hbZ (fun _ h=>.inl h)))
end Go.Proofs.YtdfkiicodfbibaaGreatDoor

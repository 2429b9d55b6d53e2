import Derived.Test.YtapjaflnmklmeaaGreatDoorW3
import Derived.Test.YtapjaflnmklmeaaGreatDoorP4
import Derived.Test.YtapjaflnmklmeaaGreatDoorI1
import Derived.Deep.RegionHeld3
/- The walks of impl's word, and the library's numbers, in the words of this work. -/
namespace Go.Proofs.YtapjaflnmklmeaaGreatDoor
open Go.RowKit
def idxSep (l:Bs):Int:=if (wordRest l)=[] then -1 else (wordOf l).length
theorem word_append (l:Bs):wordOf l++wordRest l=l:=List.takeWhile_append_dropWhile
theorem word_take (l:Bs):l.take (wordOf l).length=wordOf l:=by
 have h:=word_append l
 have:=List.take_left (l₁:=wordOf l) (l₂:=wordRest l);rw [h] at this;exact this
theorem word_drop (l:Bs):l.drop (wordOf l).length=wordRest l:=by
 have h:=word_append l
 have:=List.drop_left (l₁:=wordOf l) (l₂:=wordRest l);rw [h] at this;exact this
theorem word_le (l:Bs):(wordOf l).length+(wordRest l).length=l.length:=by
 have:=congrArg List.length (word_append l);simpa using this
theorem indexAny_sep (l:Bs):Lib.indexAny l [32,40,41]=idxSep l:=by
 induction l with
 | nil=>rfl
 | cons b l ih =>
   rw [Lib.indexAny]
   have hs:([32,40,41]:Bs).contains b=sep b:=by
    rw [Bool.eq_iff_iff];simp [sep,or_assoc]
   rw [hs]
   cases hb:sep b
   ·have e1:wordOf (b::l)=b::wordOf l:=by simp [wordOf,hb]
    have e2:wordRest (b::l)=wordRest l:=by simp [wordRest,hb]
    rw [ih]
    unfold idxSep
    rw [e1,e2]
    by_cases h:wordRest l=[]
    ·simp [h]
    ·simp only [h,if_false,Bool.false_eq_true]
     rw [if_neg (by rw [beq_iff_eq];omega)]
     simp
   ·have e1:wordOf (b::l)=[]:=by simp [wordOf,hb]
    have e2:wordRest (b::l)=b::l:=by simp [wordRest,hb]
    unfold idxSep
    rw [e1,e2];simp
theorem indexAny_any (l:Bs) (w:World) (hl:Lim l.length) :
 Calls Tryz.prog 84 #[str l,.string ⟨#[32,40,41]⟩] w fun en w'=>en=.returned (.int .i64 (idxSep l))∧Below w.heap.size w w':=by
 have hl':=hl.le
 have hsz:(⟨l.toArray⟩:ByteArray).size=l.length:=size_str l
 rw [← indexAny_sep]
 by_cases h8:l.length≤8
 ·have:=indexAny_short ⟨l.toArray⟩ (by omega) w
  simpa [str] using this
 ·refine (Tryz.strings_IndexAny_long (zero_of_info (n:=256) (by kernel_rfl)).1 ⟨l.toArray⟩ ⟨#[32,40,41]⟩ w (by show 2≤3;omega) (by omega) (by omega) (by show 3<4294967281;omega) (by
   intro j b hj
   have:b∈([32,40,41]:Bs):=List.mem_of_getElem? hj
   simp at this
   rcases this with rfl | rfl | rfl <;> decide)).mono ?_
  rintro e w' ⟨rfl,rfl⟩
  refine ⟨by simp,((Below.refl _ _).alloc (Nat.le_refl _) _).alloc (by simp) _⟩
set_option maxHeartbeats 400000 in
theorem word_any (sc:Nat) (c:List Value) (e:TypeId) (r:Bs) (w:World) (h:Scan sc c e r w) (hr:Lim r.length) :
 Calls Tryz.prog 67 #[.pointer (some ⟨sc,0,none⟩)] w fun en w' =>
  en=.returned (str (wordOf r))∧But (· = sc) w w'∧Scan sc c e (wordRest r) w':=by
 have h1:=h.cell
 have h2:=h.free 0
 have hsc:=scan_lt h
 have hl:=hr.le
 have hw:=word_le r
 go_enter Tryz.func67,Tryz.ntmps67
 go_wp2_with fail
 refine (indexAny_any r w hr).mono ?_
 rintro en w1 ⟨rfl,hb⟩
 have c1:w1.cell? ⟨sc,0,none⟩=some (str r):=by rw [hb.cell hsc];exact h1
 have c2:w1.frozen? ⟨sc,0,none⟩=false:=by rw [hb.frozen hsc];exact h2
 have hS:Scan sc c e r w1:=by unfold Scan;rw [hb.block sc hsc];exact h
 clear h1 h2
 by_cases h0:wordRest r=[]
 ·have hi:idxSep r = -1:=by simp [idxSep,h0]
  rw [hi]
  have e1:wordOf r=r:=by have:=word_append r;rw [h0] at this;simpa using this
  have HE:=Lib.hid e1;have H0:=Lib.hid h0;clear e1 h0 hi
  go_wp2_with fail
  go_ret
  have e2:(⟨r.toArray⟩:ByteArray).extract 0 r.length=⟨(wordOf r).toArray⟩:=by rw [ext_str,HE.out];simp
  refine ⟨?_,(But.ofBelow hb).setS 0 _,?_⟩
  ·show Ending.returned (.string _)=_;rw [e2]
  ·have:=hS.put (r':=wordRest r);rw [H0.out] at this ⊢;exact this
 ·have hi:idxSep r=(wordOf r).length:=by simp [idxSep,h0]
  rw [hi]
  have hlt:(wordOf r).length≤r.length:=by omega
  have H0:=Lib.hid h0;clear h0 hi
  go_wp2_with fail
  go_ret
  have e2:(⟨r.toArray⟩:ByteArray).extract 0 (wordOf r).length=⟨(wordOf r).toArray⟩:=by rw [ext_str,List.drop_zero,word_take]
  have e3:(⟨r.toArray⟩:ByteArray).extract (wordOf r).length r.length=⟨(wordRest r).toArray⟩:=by rw [ext_str,List.take_length,word_drop]
  refine ⟨?_,(But.ofBelow hb).setS 0 _,?_⟩
  ·show Ending.returned (.string _)=_;rw [e2]
  ·rw [e3];exact hS.put
structure Glob (w:World):Prop where
 tab:Lib.TabIs Tryz.prog w "internal/strconv.uint64pow10" .u64 Lib.pow10Tab
def NotG (b:Nat):Prop:=b≠1
theorem Tryz.gn2:Tryz.prog.globalNamed "internal/strconv.uint64pow10" = some 1:=by kernel_rfl
theorem var_lt {P:Program} {w:World} {nm:String} {g:Nat} {x:Array Value} (hg:P.globalNamed nm=some g) (h:w.var? P nm=some x):g<w.heap.size:=by
 unfold World.var? at h
 rw [hg] at h
 simp only [Option.bind_some] at h
 rcases Nat.lt_or_ge g w.heap.size with h' | h'
 ·exact h'
 ·rw [Array.getElem?_eq_none h'] at h;simp at h
theorem var_keep {P:Program} {w w':World} {nm:String} {g:Nat} {x:Array Value} (hg:P.globalNamed nm=some g) (hk:w'.heap[g]? = w.heap[g]?) (h:w.var? P nm=some x):w'.var? P nm=some x:=by
 unfold World.var? at *
 rw [hg] at *
 simp only [Option.bind_some] at *
 rw [hk];exact h
theorem Glob.but {m:Nat→Prop} {w w':World} (h:Glob w) (hb:But m w w') (hm:∀ i,m i→NotG i):Glob w':=by
 have l2:=var_lt Tryz.gn2 h.tab
 exact ⟨var_keep Tryz.gn2 (hb.block _ l2 fun e=>(hm _ e) rfl) h.tab⟩
theorem Glob.below {w w':World} (h:Glob w) (hb:Below w.heap.size w w'):Glob w':=h.but (m:=fun _=>False) (But.ofBelow hb) (fun _ e=>e.elim)
theorem Glob.new {w:World} (h:Glob w) {b:Nat} (hb:w.heap.size≤b):NotG b:=by
 have l2:=var_lt Tryz.gn2 h.tab
 exact (show b≠_ by omega)
theorem below_drewN {B:Nat} {a w:World} (h:Below B a w) (n:Nat):Below B a (w.drewN n):=h.trans ⟨rfl,rfl,rfl,Nat.le_refl _,fun _ _=>rfl⟩
theorem below_grow (w:World) (os:Array Obj):Below w.heap.size w (Go.Sort.grow w os) :=
 ⟨rfl,rfl,rfl,by simp [Go.Sort.grow],fun k hk=>by simp [Go.Sort.grow,Array.getElem?_append_left hk]⟩
theorem itoa_any (n:Int) (w:World) (hg:Glob w) (h0 : -9223372036854775808≤n) (h1:n≤9223372036854775807) :
 Calls Tryz.prog 34 #[.int .i64 n] w fun en w'=>en=.returned (str (Lib.itoa n))∧Below w.heap.size w w':=by
 refine (Tryz.strconv_Itoa n h0 h1 w hg.tab).mono ?_
 rintro en w' ⟨rfl,k,os,rfl⟩
 exact ⟨rfl,(below_drewN (Below.refl _ _) k).trans (below_grow (w.drewN k) os)⟩
end Go.Proofs.YtapjaflnmklmeaaGreatDoor
namespace Go.Proofs.YtapjaflnmklmeaaGreatDoor
open Go.RowKit
theorem encB_ptr {F:Nat→Prop} {w:World} {b:Bd} {v:Value} (h:Rep F w (encB b) v):∃ a,v=.pointer (some ⟨a,0,none⟩):=by
 cases b with
 | leaf c=>rw [encB,Rep_ptr] at h;obtain ⟨a,c,h,_⟩:=h;exact ⟨a,h⟩
 | ask v ss y n=>rw [encB,Rep_ptr] at h;obtain ⟨a,c,h,_⟩:=h;exact ⟨a,h⟩
def HandOk (d:Nat) (levels:List Ty):Prop:=(∀ t∈levels,atomsT t≤15)∧levels.length+15*d≤10000
theorem encKs_append (a b:List Ty):encKs (a++b)=encKs a++encKs b:=by
 induction a with
 | nil=>rfl
 | cons t ts ih=>simp [encKs,ih]
theorem srcSl_but {F:Nat→Prop} {m:Nat→Prop} {w w':World} {e:TypeId} {sz n:Nat} {cs:List DV} {v:Value} {news:List Value} (hb:But m w w') (hF:∀ b,F b→¬ m b) (h:Rep F w (.sl e sz n cs) v) (hs:SrcSl sz v n news w):SrcSl sz v n news w':=by
 rw [Rep_sl] at h
 obtain ⟨hl,a,cap,rfl,hn,hz,h⟩:=h
 obtain ⟨h1,h2,h3⟩:=hs
 refine ⟨h1,h2,?_⟩
 rcases h with rfl | ⟨b,o,c,fr,rfl,hb',hc,hr⟩
 ·have:news=[]:=List.eq_nil_of_length_eq_zero (by simpa using h1)
  subst this
  rcases h3 with ⟨a',c',e',_⟩ | h3
  ·exact .inl ⟨a',c',e',by simp⟩
  ·exact .inr h3
 ·rcases h3 with ⟨a',c',e',h3⟩ | ⟨h3,_⟩
  ·simp at e'
   obtain ⟨e1,e2⟩:=e'
   subst e1
   refine .inl ⟨_,cap,rfl,fun j u hj=>?_⟩
   have:=h3 j u hj
   rw [hb.cell (World.block_lt_of_cell? w _ this) ?_]
   ·exact this
   ·unfold Addr.add;split <;> exact hF b hb'
  ·simp at h3
theorem Scan.put1 {sc:Nat} {c:List Value} {e:TypeId} {r:Bs} {u u':Value} {w:World} (h:Scan sc (u::c) e r w):Scan sc (u'::c) e r (w.setCell ⟨sc,1,none⟩ u'):=by
 unfold Scan at *
 have hlt:=lt_of_heap h
 have h':w.heap[sc]=.cells (str r::u::c).toArray e (0,0):=by simpa [Array.getElem?_eq_getElem hlt] using h
 show (w.heap.modify sc _)[sc]? = _
 rw [Array.getElem?_eq_getElem (by simpa using hlt),Array.getElem_modify_self,h']
 simp
def Boxes (B sr:Nat) (lv:Value) (d:Nat) (w:World):Prop :=
 w.cell? ⟨B,0,none⟩=some (.pointer (some ⟨sr,0,none⟩))∧w.cell? ⟨B+1,0,none⟩=some lv∧w.cell? ⟨B+1+1,0,none⟩=some (.int .i64 (d:Int))
theorem Boxes.but {B sr:Nat} {lv:Value} {d:Nat} {m:Nat→Prop} {w w':World} (h:Boxes B sr lv d w) (hb:But m w w') (hm:∀ i,m i→i≠B∧i≠B+1∧i≠B+1+1):Boxes B sr lv d w':=by
 obtain ⟨h1,h2,h3⟩:=h
 refine ⟨?_,?_,?_⟩
 ·rw [hb.cell (World.block_lt_of_cell? w _ h1) (fun e=>(hm _ e).1 rfl)];exact h1
 ·rw [hb.cell (World.block_lt_of_cell? w _ h2) (fun e=>(hm _ e).2.1 rfl)];exact h2
 ·rw [hb.cell (World.block_lt_of_cell? w _ h3) (fun e=>(hm _ e).2.2 rfl)];exact h3
def NewB (ob v:Nat) (slv y n:Value) (w:World):Prop:=w.heap[ob]? = some (.cells #[str [],.int .i64 v,slv,y,n] 72 (0,0))
theorem NewB.cells {ob v:Nat} {slv y n:Value} {w:World} (h:NewB ob v slv y n w):w.cell? ⟨ob,2,none⟩=some slv∧w.cell? ⟨ob,3,none⟩=some y∧w.cell? ⟨ob,4,none⟩=some n∧ob<w.heap.size∧(∀ o,w.frozen? ⟨ob,o,none⟩=false):=by
 have hl:=lt_of_heap h
 unfold NewB at h
 exact ⟨by simp [World.cell?,h],by simp [World.cell?,h],by simp [World.cell?,h],hl,fun o=>by simp [World.frozen?,h]⟩
theorem setCell_at {w:World} {b o:Nat} {c:Array Value} {e:TypeId} {u:Value} (h:w.heap[b]? = some (.cells c e (0,0))):(w.setCell ⟨b,o,none⟩ u).heap[b]? = some (.cells (c.setIfInBounds o u) e (0,0)):=by
 have hlt:=lt_of_heap h
 have h':w.heap[b]=.cells c e (0,0):=by simpa [Array.getElem?_eq_getElem hlt] using h
 show (w.heap.modify b _)[b]? = _
 rw [Array.getElem?_eq_getElem (by simpa using hlt),Array.getElem_modify_self,h']
 simp
theorem NewB.put2 {ob v:Nat} {slv y n u:Value} {w:World} (h:NewB ob v slv y n w):NewB ob v u y n (w.setCell ⟨ob,2,none⟩ u):=by
 unfold NewB;rw [setCell_at h];rfl
theorem NewB.put3 {ob v:Nat} {slv y n u:Value} {w:World} (h:NewB ob v slv y n w):NewB ob v slv u n (w.setCell ⟨ob,3,none⟩ u):=by
 unfold NewB;rw [setCell_at h];rfl
theorem encBs_append (a b:List Bd):encBs (a++b)=encBs a++encBs b:=by
 induction a with
 | nil=>rfl
 | cons t ts ih=>simp [encBs,ih]
theorem Tryz.infoB:(Tryz.prog.info? 44).map (fun i=>(i.zero,i.size,i.bytes))=some (some (.pointer none),1,8):=by kernel_rfl
theorem HandOk.next {d:Nat} {levels:List Ty} {v:Nat} {t a:Ty} (h:HandOk (d+1) levels) (hv:levels[v]? = some t) (ha:a∈t.args):HandOk d (levels++a.args):=by
 have ht:=h.1 t (List.mem_of_getElem? hv)
 have hle:∀ ts:List Ty,∀ a∈ts,1+atomsT a≤atomsTs ts:=by
  intro ts
  induction ts with
  | nil=>simp
  | cons x xs ih =>
    intro a ha
    rcases List.mem_cons.1 ha with rfl | ha
    ·simp [atomsTs]
    ·have:=ih a ha;simp [atomsTs];omega
 have hlen:∀ ts:List Ty,ts.length≤atomsTs ts:=by
  intro ts
  induction ts with
  | nil=>simp
  | cons x xs ih=>simp [atomsTs];omega
 have h1:=hle _ a ha
 have h2:=atomsT_mk t
 have h3:=atomsT_mk a
 refine ⟨fun x hx=>?_,?_⟩
 ·rcases List.mem_append.1 hx with hx | hx
  ·exact h.1 x hx
  ·have:=hle _ x hx;omega
 ·have:=hlen a.args;have:=h.2;simp;omega
theorem HandOk.same {d:Nat} {levels:List Ty} (h:HandOk (d+1) levels):HandOk d (levels++[]):=by
 refine ⟨fun x hx=>h.1 x (by simpa using hx),?_⟩
 have:=h.2;simp;omega
end Go.Proofs.YtapjaflnmklmeaaGreatDoor
namespace Go.Proofs.YtapjaflnmklmeaaGreatDoor
open Go.RowKit
end Go.Proofs.YtapjaflnmklmeaaGreatDoor
namespace Go.Proofs.YtapjaflnmklmeaaGreatDoor
open Go.RowKit
end Go.Proofs.YtapjaflnmklmeaaGreatDoor
namespace Go.Proofs.YtapjaflnmklmeaaGreatDoor
open Go.RowKit
theorem handOk_of {t:Ty} (h:atomsT t≤15):HandOk 100 t.args:=by
 have h1:=atomsT_mk t
 have hlen:∀ ts:List Ty,ts.length≤atomsTs ts:=by
  intro ts;induction ts with
  | nil=>simp
  | cons x xs ih=>simp [atomsTs];omega
 have hle:∀ ts:List Ty,∀ a∈ts,1+atomsT a≤atomsTs ts:=by
  intro ts
  induction ts with
  | nil=>simp
  | cons x xs ih =>
    intro a ha
    rcases List.mem_cons.1 ha with rfl | ha
    ·simp [atomsTs]
    ·have:=ih a ha;simp [atomsTs];omega
 refine ⟨fun a ha=>?_,?_⟩
 ·have:=hle _ a ha;omega
 ·have:=hlen t.args;omega
end Go.Proofs.YtapjaflnmklmeaaGreatDoor
namespace Go.Proofs.YtapjaflnmklmeaaGreatDoor
open Go.RowKit
theorem encBs_at (ts:List Bd):∀ k:Nat,(encBs ts)[k]? = ts[k]?.map encB:=by
 induction ts with
 | nil=>intro k;simp [encBs]
 | cons t ts ih=>intro k;cases k <;> simp [encBs,ih]
theorem oneCell_encBs {F:Nat→Prop} {w:World} (ts:List Bd):∀ us,Reps F w (encBs ts) us→∀ u∈us,u.oneCell'=true:=by
 induction ts with
 | nil=>intro us h;rw [encBs,Reps_nil] at h;subst h;simp
 | cons t ts ih =>
   intro us h u hu
   rw [encBs,Reps_cons] at h
   obtain ⟨v,vs',rfl,h1,h2⟩:=h
   rcases List.mem_cons.1 hu with rfl | hu
   ·obtain ⟨a,rfl⟩:=encB_ptr h1;rfl
   ·exact ih _ h2 u hu
theorem leaf_open {F:Nat→Prop} {w:World} {c:UInt8} {v:Value} (h:Rep F w (encB (.leaf c)) v) :
 ∃ b sl,v=.pointer (some ⟨b,0,none⟩)∧F b∧w.heap[b]? = some (.cells #[str [c],.int .i64 (0:Nat),sl,.pointer none,.pointer none] 72 (0,0))∧Rep F w (.sl 44 1 0 []) sl:=by
 rw [encB,Rep_ptr] at h
 obtain ⟨b,cs,hv,hb,hc,hr⟩:=h
 simp only [Reps_cons,Reps_nil,Rep_val] at hr
 obtain ⟨_,_,e1,rfl,_,_,rfl,rfl,sl,_,rfl,h3,_,_,rfl,rfl,_,_,rfl,rfl,rfl⟩:=hr
 have:cs=#[str [c],.int .i64 (0:Nat),sl,.pointer none,.pointer none]:=by apply Array.ext';simpa using e1
 subst this
 exact ⟨b,sl,hv,hb,hc,h3⟩
theorem ask_open {F:Nat→Prop} {w:World} {v:Nat} {ss:List Bd} {y n:Bd} {p:Value} (h:Rep F w (encB (.ask v ss y n)) p) :
 ∃ b sl yv nv,p=.pointer (some ⟨b,0,none⟩)∧F b∧w.heap[b]? = some (.cells #[str [],.int .i64 v,sl,yv,nv] 72 (0,0)) ∧
   Rep F w (.sl 44 1 ss.length (encBs ss)) sl∧Rep F w (encB y) yv∧Rep F w (encB n) nv:=by
 rw [encB,Rep_ptr] at h
 obtain ⟨b,cs,hv,hb,hc,hr⟩:=h
 simp only [Reps_cons,Reps_nil,Rep_val] at hr
 obtain ⟨_,_,e1,rfl,_,_,rfl,rfl,sl,_,rfl,h3,yv,_,rfl,h4,nv,_,rfl,h5,rfl⟩:=hr
 have:cs=#[str [],.int .i64 v,sl,yv,nv]:=by apply Array.ext';simpa using e1
 subst this
 exact ⟨b,sl,yv,nv,hv,hb,hc,h3,h4,h5⟩
theorem isList_leaf (F:Nat→Prop) (w:World) (c:UInt8) (v:Value) (h:Rep F w (encB (.leaf c)) v) :
 Calls Tryz.prog 33 #[v] w fun en w'=>en=.returned (.bool false)∧w'=w:=by
 obtain ⟨b,sl,rfl,_,hc,_⟩:=leaf_open h
 have c1:w.cell? ⟨b,0,none⟩=some (.string ⟨#[c]⟩):=by simp [World.cell?,hc]
 clear hc h
 go_enter Tryz.func33,Tryz.ntmps33
 go_wp2_with fail
 go_ret
 exact ⟨rfl,rfl⟩
theorem isList_ask (F:Nat→Prop) (w:World) (v:Nat) (ss:List Bd) (y n:Bd) (p:Value) (h:Rep F w (encB (.ask v ss y n)) p) :
 Calls Tryz.prog 33 #[p] w fun en w'=>en=.returned (.bool true)∧w'=w:=by
 obtain ⟨b,sl,yv,nv,rfl,_,hc,_⟩:=ask_open h
 have c1:w.cell? ⟨b,0,none⟩=some (.string ⟨#[]⟩):=by simp [World.cell?,hc]
 clear hc h
 go_enter Tryz.func33,Tryz.ntmps33
 go_wp2_with fail
 go_ret
 exact ⟨rfl,rfl⟩
end Go.Proofs.YtapjaflnmklmeaaGreatDoor

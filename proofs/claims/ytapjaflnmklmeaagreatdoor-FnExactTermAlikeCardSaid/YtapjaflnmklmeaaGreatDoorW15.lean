import Derived.Test.YtapjaflnmklmeaaGreatDoorW9a
import Derived.Lib.SliceRun
import Derived.Deep.RegionHeld3
import Derived.Test.YtapjaflnmklmeaaGreatDoorP8
import Derived.RangeFuncNested
import Derived.RangeFuncBound
import Derived.RangeFuncCalls
import Derived.RangeFuncLeaves
import Derived.RangeFuncFrom
import Derived.RangeFuncBox
import Derived.Shelf.Abstract
import Derived.Shelf.RegionOpen
import Derived.WalkKit
import Derived.OwnWalkIn
import Derived.TacticsInMore
import Derived.LoopNIn
import Derived.LoopIn
/- The walks of a body's parts, its depth and its size. -/
namespace Go.Proofs.YtapjaflnmklmeaaGreatDoor
open Go.RowKit
set_option maxHeartbeats 400000 in
theorem cloneB_any (n:Nat) (s:Value) (xs:List Value) (w:World) (h:SrcSl 1 s n xs w) (hn:Lim n) :
 Calls Tryz.prog 55 #[s] w fun en w' =>
  ∃ a c,en=.returned (.slice a n c)∧Own w' 44 1 (.slice a n c) n xs∧Below w.heap.size w w'∧(∀ g,(Value.slice a n c).ownBlock=some g→w.heap.size≤g):=by
 have hl:=hn.le
 obtain ⟨a,c,e⟩:=h.slice
 subst e
 cases a with
 | none =>
   have h0:n=0∧c=0:=by
    obtain ⟨_,_,⟨a',c',e,_⟩ | ⟨e,h0⟩⟩:=h
    ·simp at e
    ·simp at e;exact e
   obtain ⟨rfl,rfl⟩:=h0
   have hx:xs=[]:=List.eq_nil_of_length_eq_zero (by simpa using h.1)
   subst hx
   have q:=fun w=>Lib.run_eql_slice_nil (P:=Tryz.prog) w 70 44 none 0 0 0 0 Tryz.underlying70
   go_enter Tryz.func55,Tryz.ntmps55
   go_wp2_with fail
   go_ret
   exact ⟨none,0,rfl,World.ownsRow_nil _ _ _ _,Below.refl _ _,fun g h=>by simp [Value.ownBlock] at h⟩
 | some a =>
   have q:=fun w=>Lib.run_eql_slice_nil (P:=Tryz.prog) w 70 44 (some a) n c 0 0 Tryz.underlying70
   go_enter Tryz.func55,Tryz.ntmps55
   go_wp2_with (at_builtin;refine wpList_append_gen rfl _ _ 70 rfl 44 (.pointer none) 1 8 Tryz.underlying70 Tryz.infoB rfl (by decide) _ 0 [] rfl ?c1 _ n xs rfl ?c2 ?c3 ?c4 ?_)
   case c1=>exact Own.lit #[] 0 (by decide) rfl
   case c2=>exact h.keep fun _ _ h=>cell_alloc h
   case c3=>unfold maxLen;omega
   case c4=>omega
   intro a' c' w' ho hb hg
   go_wp2_with fail
   go_ret
   refine ⟨a',c',rfl,ho,((Below.refl w.heap.size w).alloc (Nat.le_refl _) _).trans (hb.toBelow (by simp) (fun i hi e=>by simp [Value.ownBlock] at e;omega)),fun g h=>?_⟩
   rcases hg g h with h | h
   ·simp [Value.ownBlock] at h;omega
   ·omega
def PartsPost (F:Nat→Prop) (w:World) (b:Bd) (en:Ending) (w':World):Prop :=
 ∃ v,en=.returned v∧Below w.heap.size w w'∧Rep (fun k=>F k∨w.heap.size≤k) w' (.sl 44 1 (partsOf b).length (encBs (partsOf b))) v
theorem parts_leaf (F:Nat→Prop) (w:World) (c:UInt8) (v:Value) (h:Rep F w (encB (.leaf c)) v) :
 Calls Tryz.prog 35 #[v] w (PartsPost F w (.leaf c)):=by
 obtain ⟨a,e⟩:=encB_ptr h
 subst e
 go_enter Tryz.func35,Tryz.ntmps35
 go_wp2_with fail
 refine (isList_leaf F w c _ h).mono ?_
 rintro en w' ⟨rfl,e⟩
 subst e
 go_wp2_with fail
 go_ret
 exact ⟨_,rfl,Below.refl _ _,Rep_sl.2 ⟨rfl,none,0,rfl,Nat.le_refl _,fun _=>rfl,.inl rfl⟩⟩
theorem but_below {w wc w6:World} {o:Obj} {v:Value} (hbb:Below w.heap.size w wc) (hb6:But (fun b=>v.ownBlock=some b) (wc.alloc o) w6)
 (hfc:∀ g,v.ownBlock=some g→w.heap.size≤g):Below w.heap.size w w6:=by
 refine (hbb.alloc hbb.size _).trans (hb6.toBelow ?_ ?_)
 ·have:=hbb.size
  show w.heap.size≤(wc.heap.push o).size
  rw [Array.size_push];omega
 ·intro i hi e
  have h:w.heap.size≤i:=hfc i e
  omega
theorem but_below2 {w wc w6:World} {v:Value} (hbb:Below w.heap.size w wc) (hb6:But (fun b=>v.ownBlock=some b) wc w6)
 (hfc:∀ g,v.ownBlock=some g→w.heap.size≤g):Below w.heap.size w w6:=by
 refine hbb.trans (hb6.toBelow hbb.size ?_)
 intro i hi e
 have h:w.heap.size≤i:=hfc i e
 omega
theorem own_1 {w wc:World} {o:Obj} {v v':Value} (hbb:Below w.heap.size w wc) (hfc:∀ g,v.ownBlock=some g→w.heap.size≤g)
 (hg:∀ g,v'.ownBlock=some g→v.ownBlock=some g∨g=(wc.alloc o).heap.size):∀ g,v'.ownBlock=some g→w.heap.size≤g:=by
 intro g h
 rcases hg g h with h | h
 ·exact hfc g h
 ·have:=hbb.size
  rw [h,size_alloc];omega
theorem own_2 {w wc:World} {v v':Value} (hbb:Below w.heap.size w wc) (hfc:∀ g,v.ownBlock=some g→w.heap.size≤g)
 (hg:∀ g,v'.ownBlock=some g→v.ownBlock=some g∨g=wc.heap.size):∀ g,v'.ownBlock=some g→w.heap.size≤g:=by
 intro g h
 rcases hg g h with h | h
 ·exact hfc g h
 ·have:=hbb.size
  rw [h];omega
theorem own_ad {w:World} {o:Obj} {v:Value} (h:∀ g,v.ownBlock=some g→(w.alloc o).drew.heap.size≤g):∀ g,v.ownBlock=some g→w.heap.size≤g:=by
 intro g hg
 have:=h g hg
 have h2:(w.alloc o).drew.heap.size=w.heap.size+1:=size_alloc w o
 omega
set_option maxRecDepth 100000 in
set_option maxHeartbeats 1000000 in
theorem parts_ask (F:Nat→Prop) (w:World) (v:Nat) (ss:List Bd) (y n:Bd) (p:Value) (h:Rep F w (encB (.ask v ss y n)) p) (hn:Lim (ss.length+2)) :
 Calls Tryz.prog 35 #[p] w (PartsPost F w (.ask v ss y n)):=by
 obtain ⟨b,sl,yv,nv,e,hFb,hc,hsl,hy,hnn⟩:=ask_open h
 subst e
 obtain ⟨xs,hxs,hsrc⟩:=SrcSl.ofRep hsl (oneCell_encBs _)
 obtain ⟨sa,sc,esl⟩:=hsrc.slice
 subst esl
 obtain ⟨ya,ey⟩:=encB_ptr hy
 obtain ⟨na,ena⟩:=encB_ptr hnn
 subst ey;subst ena
 have c2:w.cell? ⟨b,2,none⟩=some (.slice sa ss.length sc):=by simp [World.cell?,hc]
 have c3:w.cell? ⟨b,3,none⟩=some (.pointer (some ⟨ya,0,none⟩)):=by simp [World.cell?,hc]
 have c4:w.cell? ⟨b,4,none⟩=some (.pointer (some ⟨na,0,none⟩)):=by simp [World.cell?,hc]
 have lb:=lt_of_heap hc
 have hl:=hn.le
 clear hc
 go_enter Tryz.func35,Tryz.ntmps35
 go_wp2_with fail
 refine (isList_ask F w v ss y n _ h).mono ?_
 rintro en w' ⟨rfl,e⟩
 obtain rfl:w=w':=e.symm
 go_wp2_with fail
 have hn0:Lim ss.length:=hn.mono (by omega)
 have hm:ss.length+2≤maxLen:=by unfold maxLen;omega
 have hby:(ss.length+2)*8≤140737488355328:=by omega
 have h01:0<1:=by omega
 have hone:∀ u∈(#[.pointer (some ⟨ya,0,none⟩),.pointer (some ⟨na,0,none⟩)]:Array Value).toList,u.oneCell'=true:=by simp [Value.oneCell']
 have HO:=Lib.hid hone;clear hone
 go_region_held3 (fun w'=>w'.cell? ⟨b,2,none⟩=some (.slice sa ss.length sc)∧w'.cell? ⟨b,3,none⟩=some (.pointer (some ⟨ya,0,none⟩))∧w'.cell? ⟨b,4,none⟩=some (.pointer (some ⟨na,0,none⟩)))
  (first
   | exact ⟨(hbg.cell lb).trans c2,(hbg.cell lb).trans c3,(hbg.cell lb).trans c4⟩
   | exact ⟨(hbb.cell lb).trans c2,(hbb.cell lb).trans c3,(hbb.cell lb).trans c4⟩
   | go_keep)
  (first
   | (go_at_call 55;refine (cloneB_any ss.length _ xs _ hsrc.drew hn0).mono ?_;rintro en wc ⟨ac,kc,rfl,hoc,hbc,hfc'⟩;have hbb:Below w.heap.size w wc:=(Below.refl w.heap.size w).drew.trans hbc;have hfc:∀ g,(Value.slice ac ss.length kc).ownBlock=some g→w.heap.size≤g:=hfc')
   | (go_at_call 55;refine (cloneB_any ss.length _ xs _ (hsrc.alloc _).drew hn0).mono ?_;rintro en wc ⟨ac,kc,rfl,hoc,hbc,hfc'⟩;have hlit:=(SrcSl.lits #[.pointer (some ⟨ya,0,none⟩),.pointer (some ⟨na,0,none⟩)] 2 rfl HO.out _ rfl).drew.below hbc;have hbb:Below w.heap.size w wc:=below_ad hbc;have hfc:=own_ad hfc')
   | (refine step_append_gen (by rfl) _ _ _ (by rfl) 44 (.pointer none) 1 8 Tryz.underlying70 Tryz.infoB rfl h01 (.slice ac ss.length kc) ss.length xs (by rfl) hoc _ 2 [.pointer (some ⟨ya,0,none⟩),.pointer (some ⟨na,0,none⟩)] (by rfl) hlit hm hby ?_;intro a' c' w6 hown' hb6 hg';have hbg:Below w.heap.size w w6:=but_below2 hbb hb6 hfc;have hFg:=own_2 hbb hfc hg')
   | (refine step_append_gen (by rfl) _ _ _ (by rfl) 44 (.pointer none) 1 8 Tryz.underlying70 Tryz.infoB rfl h01 (.slice ac ss.length kc) ss.length xs (by rfl) (hoc.alloc _) _ 2 [.pointer (some ⟨ya,0,none⟩),.pointer (some ⟨na,0,none⟩)] (by rfl) (SrcSl.lits #[.pointer (some ⟨ya,0,none⟩),.pointer (some ⟨na,0,none⟩)] 2 rfl HO.out _ rfl) hm hby ?_;intro a' c' w6 hown' hb6 hg';have hbg:Below w.heap.size w w6:=but_below hbb hb6 hfc;have hFg:=own_1 hbb hfc hg'))
 all_goals
  go_wp2_with fail
  go_ret
  refine ⟨_,rfl,hbg,?_⟩
  have:(partsOf (.ask v ss y n)).length=ss.length+2:=by simp [partsOf]
  rw [this]
  refine hown'.rep (fun g h=>.inr (hFg g h)) ?_
  show Reps _ _ (encBs (ss++[y,n])) _
  rw [encBs_append]
  refine Reps.append (Reps.below hbg (fun _ h=>.inl h) hxs) ?_
  exact Reps_cons.2 ⟨_,_,rfl,Rep.below hbg (fun _ h=>.inl h) hy,Reps.one (Rep.below hbg (fun _ h=>.inl h) hnn)⟩
end Go.Proofs.YtapjaflnmklmeaaGreatDoor
namespace Go.Proofs.YtapjaflnmklmeaaGreatDoor
open Go.RowKit
theorem parts_any (F:Nat→Prop) (w:World) (b:Bd) (v:Value) (h:Rep F w (encB b) v) (hn:Lim (sizeB b)) :
 Calls Tryz.prog 35 #[v] w (PartsPost F w b):=by
 cases b with
 | leaf c=>exact parts_leaf F w c v h
 | ask u ss y n=>exact parts_ask F w u ss y n v h (hn.mono (by
  have:=length_le_sizeBs ss;have:=sizeB_pos y;have:=sizeB_pos n;simp [sizeB];omega))
def depthSaid (b:Bd):Prop:=∀ (F:Nat→Prop) (w:World) (v:Value),Rep F w (encB b) v →
 Calls Tryz.prog 76 #[v] w fun en w'=>en=.returned (.int .i64 (depthB b:Nat))∧Below w.heap.size w w'
set_option maxHeartbeats 1000000 in
theorem depth_step (b:Bd) (hl:Lim (sizeB b)) (ih:∀ t,sizeB t<sizeB b→depthSaid t):depthSaid b:=by
 intro F w v hv
 have IH:=Lib.hid ih;clear ih
 have hl':=hl.le
 obtain ⟨a0,e⟩:=encB_ptr hv
 subst e
 have hsz:=sizeB_parts b
 have hdl:=depthB_lt _ b (Nat.le_refl _)
 go_enter Tryz.func76,Tryz.ntmps76
 go_wp2_with fail
 refine (parts_any F w b _ hv hl).mono ?_
 rintro en w1 ⟨pv,rfl,hb1,hp⟩
 obtain ⟨pa,pc,e,_,_,hat⟩:=Rep_sl1_open hp
 subst e
 have AT:=Lib.hid hat;clear hat hp
 have hlen:=length_le_sizeBs (partsOf b)
 have HS:=Lib.hid hsz;clear hsz
 have hlen':(partsOf b).length≤16777216:=by have:=HS.out;omega
 go_wp2_with fail
 go_loopw [3,9] (fun n i wr=>∃ k:Nat,k≤(partsOf b).length∧i=.int .i64 k∧n=.int .i64 (( depthBs ((partsOf b).take k):Nat):Int)∧Below w1.heap.size w1 wr) (fun _ i _=>(partsOf b).length-(intOf i).toNat)
 case atStart=>exact ⟨0,Nat.zero_le _,rfl,by simp [depthBs],Below.refl _ _⟩
 case round =>
  rename_i wr
  obtain ⟨k,hk,rfl,rfl,hb⟩:=hrel
  by_cases hlt:k<(partsOf b).length
  ·obtain ⟨ba,oa,u,d,ea,_,hba,hd,hu,hr⟩:=AT.out k hlt
   subst ea
   rw [encBs_at,Option.map_eq_some_iff] at hd
   obtain ⟨t,ht,rfl⟩:=hd
   obtain ⟨ta,eu⟩:=encB_ptr hr
   subst eu
   have hc:wr.cell? ⟨ba,oa+k,none⟩=some (.pointer (some ⟨ta,0,none⟩)):=by rw [hb.cell hba];exact hu
   have hst:=depthBs_take ht
   have hss:=sizeBs_take ht
   have hle:=sizeBs_take_le (partsOf b) (k+1)
   have hr':Rep _ wr (encB t) (.pointer (some ⟨ta,0,none⟩)):=Rep.below hb (fun _ h=>h) hr
   have hsz:=HS.out
   have htlt:sizeB t<sizeB b:=by omega
   have hdt:=depthB_lt _ t (Nat.le_refl _)
   have IH':=Lib.hid (IH.out t htlt)
   have hkd:depthBs ((partsOf b).take k)≤16777216:=by have h:=depthBs_lt (ts:=(partsOf b).take k) (fun t _=>depthB_lt _ t (Nat.le_refl _));have:=sizeBs_take_le (partsOf b) k;omega
   have htd:depthB t≤16777216:=by omega
   have HT:=Lib.hid hst
   clear hst hss hsz ht hu hr
   go_wp2_with fail
   refine (IH'.out _ _ _ hr').mono ?_
   rintro en w2 ⟨rfl,hb2⟩
   have hb3:=hb.trans (hb2.mono hb.size)
   go_wp2_with fail
   all_goals
    go_roundw
    case rel=>exact ⟨k+1,by omega,by go_num,by rw [HT.out];congr 1;omega,hb3⟩
    case measure=>simp [intOf];omega
  ·obtain rfl:k=(partsOf b).length:=by omega
   go_wp2_with fail
   go_ret
   refine ⟨ret_i64 ?_,hb1.trans (hb.mono hb1.size)⟩
   rw [List.take_length,depthB_parts b]
theorem depth_any (n:Nat):∀ b,sizeB b≤n→Lim n→depthSaid b:=by
 induction n with
 | zero=>intro b h _;have:=sizeB_pos b;omega
 | succ n ih=>exact fun b h hn=>depth_step b (hn.mono h) (fun t h'=>ih t (by omega) (hn.mono (by omega)))
end Go.Proofs.YtapjaflnmklmeaaGreatDoor
namespace Go.Proofs.YtapjaflnmklmeaaGreatDoor
open Go.RowKit
def sizeSaid (b:Bd):Prop:=∀ (F:Nat→Prop) (w:World) (v:Value),Rep F w (encB b) v →
 Calls Tryz.prog 75 #[v] w fun en w'=>en=.returned (.int .i64 (sizeB b:Nat))∧Below w.heap.size w w'
set_option maxHeartbeats 1000000 in
theorem size_step (b:Bd) (hl:Lim (sizeB b)) (ih:∀ t,sizeB t<sizeB b→sizeSaid t):sizeSaid b:=by
 intro F w v hv
 have IH:=Lib.hid ih;clear ih
 have hl':=hl.le
 obtain ⟨a0,e⟩:=encB_ptr hv
 subst e
 have hsz:=sizeB_parts b
 go_enter Tryz.func75,Tryz.ntmps75
 go_wp2_with fail
 refine (parts_any F w b _ hv hl).mono ?_
 rintro en w1 ⟨pv,rfl,hb1,hp⟩
 obtain ⟨pa,pc,e,_,_,hat⟩:=Rep_sl1_open hp
 subst e
 have AT:=Lib.hid hat;clear hat hp
 have hlen:=length_le_sizeBs (partsOf b)
 have HS:=Lib.hid hsz;clear hsz
 have hlen':(partsOf b).length≤16777216:=by have:=HS.out;omega
 go_wp2_with fail
 go_loopw [3,9] (fun n i wr=>∃ k:Nat,k≤(partsOf b).length∧i=.int .i64 k∧n=.int .i64 ((1+sizeBs ((partsOf b).take k):Nat):Int)∧Below w1.heap.size w1 wr) (fun _ i _=>(partsOf b).length-(intOf i).toNat)
 case atStart=>exact ⟨0,Nat.zero_le _,rfl,by simp [sizeBs],Below.refl _ _⟩
 case round =>
  rename_i wr
  obtain ⟨k,hk,rfl,rfl,hb⟩:=hrel
  by_cases hlt:k<(partsOf b).length
  ·obtain ⟨ba,oa,u,d,ea,_,hba,hd,hu,hr⟩:=AT.out k hlt
   subst ea
   rw [encBs_at,Option.map_eq_some_iff] at hd
   obtain ⟨t,ht,rfl⟩:=hd
   obtain ⟨ta,eu⟩:=encB_ptr hr
   subst eu
   have hc:wr.cell? ⟨ba,oa+k,none⟩=some (.pointer (some ⟨ta,0,none⟩)):=by rw [hb.cell hba];exact hu
   have hss:=sizeBs_take ht
   have hle:=sizeBs_take_le (partsOf b) (k+1)
   have hr':Rep _ wr (encB t) (.pointer (some ⟨ta,0,none⟩)):=Rep.below hb (fun _ h=>h) hr
   have hsz:=HS.out
   have htlt:sizeB t<sizeB b:=by omega
   have IH':=Lib.hid (IH.out t htlt)
   have hkd:1+sizeBs ((partsOf b).take k)≤16777216:=by omega
   have htd:sizeB t≤16777216:=by omega
   have hsum:1+sizeBs ((partsOf b).take k)+sizeB t≤16777216:=by omega
   have HT:=Lib.hid hss
   clear hss hsz ht hu hr
   go_wp2_with fail
   refine (IH'.out _ _ _ hr').mono ?_
   rintro en w2 ⟨rfl,hb2⟩
   have hb3:=hb.trans (hb2.mono hb.size)
   go_wp2_with fail
   all_goals
    go_roundw
    case rel=>exact ⟨k+1,by omega,by go_num,by rw [HT.out];congr 1;omega,hb3⟩
    case measure=>simp [intOf];omega
  ·obtain rfl:k=(partsOf b).length:=by omega
   have hkd:1+sizeBs (partsOf b)≤16777216:=by have:=HS.out;omega
   rw [List.take_length]
   go_wp2_with fail
   go_ret
   exact ⟨ret_i64 (by rw [HS.out]),hb1.trans (hb.mono hb1.size)⟩
theorem size_any (n:Nat):∀ b,sizeB b≤n→Lim n→sizeSaid b:=by
 induction n with
 | zero=>intro b h _;have:=sizeB_pos b;omega
 | succ n ih=>exact fun b h hn=>size_step b (hn.mono h) (fun t h'=>ih t (by omega) (hn.mono (by omega)))
end Go.Proofs.YtapjaflnmklmeaaGreatDoor
namespace Go.Proofs.YtapjaflnmklmeaaGreatDoor
open Go.RowKit Go.Shelf
attribute [local go_sem] Oper.semAt_some
def KpB (n₀:Nat) (p:Addr) (sv:Value) (W W':World):Prop:=Below n₀ W W'∧(W.cell? p=some sv→W'.cell? p=some sv)
theorem kpB_t {n₀:Nat} {p:Addr} {sv:Value} {A B C:World} (h:KpB n₀ p sv A B) (k:KpB n₀ p sv B C):KpB n₀ p sv A C:=⟨h.1.trans k.1,fun e=>k.2 (h.2 e)⟩
theorem kpB_b {n₀:Nat} {p:Addr} {sv:Value} {w:World} (hn:n₀≤w.heap.size) (W:World) (l:Nat) (o o':Obj) (hl:w.heap.size≤l) (h:W.heap[l]? = some o) (hc:o.isCells=false) (hw:o.isWalk=false):KpB n₀ p sv W (W.putObj l o') :=
 ⟨belowK_b hn W l o o' hl h hc hw,fun e=>cell_kept e (grownBy_putObj' _ l o') (fun r e=>by cases e;exact ⟨_,h,hc⟩)⟩
def BackAt {α:Type} (ix bl:α→Nat) (n₀:Nat) (w:World) (a:Option Addr) (xs:List α):Prop :=
 ∀ k x,xs[k]? = some x→ix x+k+1=xs.length∧∃ b o,a=some ⟨b,o,none⟩∧b<n₀∧w.cell? ⟨b,o+ix x,none⟩=some (.pointer (some ⟨bl x,0,none⟩))
set_option maxRecDepth 100000 in
set_option maxHeartbeats 2000000 in
theorem back1_in {α:Type} (ix bl:α→Nat) (F:Fence) (n:Nat) (hf:F.fn 80) (hro:F.round=none) (hn:1≤n) (l Bs n₀ cap:Nat) (a:Option Addr) (xs:List α) (hlen:xs.length≤16777216) (J Jx:List α→World→Prop)
 (hY:∀ pre x W,J pre W→pre.length<xs.length→YieldAt F (n-1) Tryz.prog l #[.int .i64 (ix x:Nat),.pointer (some ⟨bl x,0,none⟩)] W fun e W' =>
  (e=.returned (.bool true)∧J (pre++[x]) W'∧KpB n₀ ⟨Bs,0,none⟩ (.slice a xs.length cap) W W')∨(e=.returned (.bool false)∧Jx (pre++[x]) W'))
 (W:World) (hBs:W.cell? ⟨Bs,0,none⟩=some (.slice a xs.length cap)) (hc:BackAt ix bl n₀ W a xs) (h0:J [] W) :
 CallsIn F n Tryz.prog 80 #[.func (.yield l) #[] #[],.pointer (some ⟨Bs,0,none⟩)] W fun e W'=>(∃ v,e=.returned v) ∧
  ((∃ ys,ys=xs∧J ys W')∨(∃ pre,pre <+: xs∧Jx pre W')):=by
 refine callsIn_of_wp Tryz.func80 rfl hf ?_ hro
 simp only [Tryz.ntmps80,List.size_toArray,List.length_cons,List.length_nil,Nat.reduceAdd,Nat.reduceSub,Array.replicate_succ,Array.replicate_zero,List.push_toArray,List.append_toArray,List.nil_append,List.cons_append]
 have hw1:IntKind.i64.wrap ((xs.length:Int)-1)=(xs.length:Int)-1:=IntWalk.i64_in _ (by omega)
 gi_wp2
 clear hw1
 gi_loopw [3] (fun i wr=>Below n₀ W wr∧wr.cell? ⟨Bs,0,none⟩=some (.slice a xs.length cap)∧((i=.int .i64 (-1)∧J xs wr)∨(∃ j:Nat,j<xs.length∧i=.int .i64 (j:Nat)∧J (xs.take (xs.length-1-j)) wr)))
  (fun i _=>(intOf i+1).toNat)
 case atStart =>
  refine ⟨Below.refl _ _,hBs,?_⟩
  cases hx:xs with
  | nil=>subst hx;exact .inl ⟨by simp,h0⟩
  | cons x ys=>subst hx;exact .inr ⟨ys.length,by simp,by simp,by simpa using h0⟩
 case round =>
  obtain ⟨hbw,hbs,⟨rfl,hJs⟩ | ⟨j,hj,rfl,hJs⟩⟩:=hrel
  ·gi_wp2
   go_end0
   exact ⟨⟨_,rfl⟩,.inl ⟨_,rfl,hJs⟩⟩
  ·have hj0:(0:Int)≤(j:Int):=by omega
   obtain ⟨x,hx⟩:∃ x,xs[xs.length-1-j]? = some x:=⟨xs[xs.length-1-j],by simp [show xs.length-1-j<xs.length from by omega]⟩
   obtain ⟨e1,b,o,rfl,hb,hcell⟩:=hc _ x hx
   have e2:ix x=j:=by omega
   have hcx:=(hbw.cell (p:=⟨b,o+ix x,none⟩) hb).trans hcell
   obtain ⟨fn,tmps,assign,body,hy,hR⟩:=hY _ x wr hJs (by rw [List.length_take];omega)
   rw [e2] at hcx hy
   have htake:xs.take (xs.length-1-j)++[x]=xs.take (xs.length-1-j+1):=by rw [List.take_add_one,hx];rfl
   have HX:=Lib.hid (And.intro e1 (And.intro e2 (And.intro hx htake)))
   clear hx e1 e2 htake hcell
   have hjl:(j:Int)<(xs.length:Int):=by omega
   have hw2:IntKind.i64.wrap ((j:Int)-1)=(j:Int)-1:=IntWalk.i64_in _ (by omega)
   gi_wp2
   refine hR.mono ?_
   rintro e W3 (⟨rfl,hJ3,hk3⟩ | ⟨rfl,hJx3⟩)
   ·have hbs3:=hk3.2 hbs
    have hbw3:=hbw.trans hk3.1
    gi_wp2
    go_roundw
    case rel =>
     refine ⟨hbw3,hbs3,?_⟩
     rw [HX.out.2.2.2] at hJ3
     cases j with
     | zero =>
       left
       refine ⟨by simp,?_⟩
       rw [show xs.length-1-0+1=xs.length from by omega,List.take_length] at hJ3
       exact hJ3
     | succ j =>
       right
       refine ⟨j,by omega,by simp,?_⟩
       rw [show xs.length-1-(j+1)+1=xs.length-1-j from by omega] at hJ3
       exact hJ3
    case measure=>simp [intOf]
   ·gi_wp2
    refine bodyPost_ret (results_none rfl _ _ _) rfl ?_
    exact ⟨⟨_,rfl⟩,.inr ⟨_,by rw [HX.out.2.2.2];exact List.take_prefix _ _,hJx3⟩⟩
set_option maxHeartbeats 1000000 in
theorem back_in (F:Fence) (n:Nat) (hf:F.fn 59) (hro:F.round=none) (a:Option Addr) (len cap:Nat) (w:World) :
 CallsIn F n Tryz.prog 59 #[.slice a len cap] w fun e w'=>e=.returned (.func (.func 80) #[] #[.pointer (some ⟨w.heap.size,0,none⟩)])∧w'=w.alloc (.cells #[.slice a len cap] 106):=by
 refine callsIn_of_wp Tryz.func59 rfl hf ?_ hro
 simp only [Tryz.ntmps59,List.size_toArray,List.length_cons,List.length_nil,Nat.reduceAdd,Nat.reduceSub,Array.replicate_succ,Array.replicate_zero,List.push_toArray,List.append_toArray,List.nil_append,List.cons_append]
 gi_wp2
 go_ret
 exact ⟨rfl,rfl⟩
theorem back_stops {α:Type} (ix bl:α→Nat) (F:Fence) (n:Nat) (hf:F.fn 80) (hro:F.round=none) (hn:1≤n) (Bs n₀ cap:Nat) (a:Option Addr) (xs:List α) (hlen:xs.length≤16777216) (w:World) (hBs:Bs<w.heap.size) (hn₀:n₀≤w.heap.size)
 (hc:w.cell? ⟨Bs,0,none⟩=some (.slice a xs.length cap)) (hI:BackAt ix bl n₀ w a xs) :
 SeqStopsK F n Tryz.prog 80 #[.pointer (some ⟨Bs,0,none⟩)] (fun x:α=>#[Value.int .i64 (ix x:Nat),.pointer (some ⟨bl x,0,none⟩)]) (KpB n₀ ⟨Bs,0,none⟩ (.slice a xs.length cap)) (fun ys=>ys=xs) (fun pre=>pre <+: xs) xs.length w:=fun l J Jx W hW _ _ hY h0 =>
 back1_in ix bl F n hf hro hn l Bs n₀ cap a xs hlen J Jx hY W ((hW.cell (p:=⟨Bs,0,none⟩) hBs).trans hc) (fun k x hx=>by
  obtain ⟨h1,b,o,h2,h3,h4⟩:=hI k x hx
  exact ⟨h1,b,o,h2,h3,((hW.mono hn₀).cell (p:=⟨b,o+ix x,none⟩) h3).trans h4⟩) h0
def textFrom:List Ty→Bs:=List.foldl (fun s t=>[40,62,32]++textT t++[32]++s++[41]) [98]
theorem textFrom_snoc (pre:List Ty) (t:Ty):textFrom (pre++[t])=[40,62,32]++textT t++[32]++textFrom pre++[41]:=by simp [textFrom]
theorem textFrom_all:∀ ts:List Ty,textFrom ts.reverse=textT (.mk ts)
 | []=>by rw [textT_nil];rfl
 | t::ts=>by rw [List.reverse_cons,textFrom_snoc,textFrom_all ts,textT_cons];simp
structure Item (F:Nat→Prop) (w:World) (t0:Ty) where
 ix:Nat
 bl:Nat
 ty:Ty
 rep:Rep F w (encK ty) (.pointer (some ⟨bl,0,none⟩))
 low:atomsT ty<atomsT t0
def textSaidK (t:Ty):Prop:=∀ (F:Nat→Prop) (w:World) (v:Value),Rep F w (encK t) v →
 Calls Tryz.prog 37 #[v] w fun en w'=>en=.returned (str (textT t))∧Below w.heap.size w w'
theorem textFrom_len (pre:List Ty) (C:Nat) (h:∀ t∈pre,(textT t).length≤C):(textFrom pre).length≤1+pre.length*(C+5):=by
 have key:∀ (pre:List Ty) (s:Bs),(∀ t∈pre,(textT t).length≤C)→(pre.foldl (fun s t=>[40,62,32]++textT t++[32]++s++[41]) s).length≤s.length+pre.length*(C+5):=by
  intro pre
  induction pre with
  | nil=>intro s _;simp
  | cons t pre ih =>
    intro s h
    have h1:=ih ([40,62,32]++textT t++[32]++s++[41]) fun x hx=>h x (by simp [hx])
    have h2:=h t (by simp)
    simp only [List.foldl_cons,List.length_append,List.length_cons,List.length_nil] at h1 ⊢
    rw [Nat.add_mul]
    omega
 have:=key pre [98] h
 simpa [textFrom] using this
theorem items_of {F:Nat→Prop} {w:World} {t:Ty} {a:Option Addr} {n₀:Nat} (hF:∀ i,F i→i<n₀) (hat:Ats F w t.args.length (encKs t.args) a) :
 ∃ xs:List (Item F w t),xs.length=t.args.length∧xs.map Item.ty=t.args.reverse∧BackAt Item.ix Item.bl n₀ w a xs:=by
 have key:∀ m,m≤t.args.length→∃ xs:List (Item F w t),xs.length=m∧xs.map Item.ty=(t.args.take m).reverse∧∀ k x,xs[k]? = some x→x.ix+k+1=m∧∃ b o,a=some ⟨b,o,none⟩∧b<n₀∧w.cell? ⟨b,o+x.ix,none⟩=some (.pointer (some ⟨x.bl,0,none⟩)):=by
  intro m
  induction m with
  | zero=>intro _;exact ⟨[],rfl,by simp,by simp⟩
  | succ m ih =>
    intro hm
    obtain ⟨xs,h1,h2,h3⟩:=ih (by omega)
    obtain ⟨b,o,u,d,ea,hFb,hbw,hd,hc,hru⟩:=hat m (by omega)
    rw [encKs_at,Option.map_eq_some_iff] at hd
    obtain ⟨ty,ht,rfl⟩:=hd
    obtain ⟨ub,_,rfl,_⟩:=encK_open hru
    have hlow:atomsT ty<atomsT t:=by
     have:=atomsTs_take ht
     have:=atomsTs_take_le t.args (m+1)
     have:=atomsT_mk t
     omega
    refine ⟨⟨m,ub,ty,hru,hlow⟩::xs,by simp [h1],?_,fun k x hk=>?_⟩
    ·rw [List.map_cons,h2,List.take_add_one,ht];simp
    ·cases k with
     | zero =>
       simp at hk;subst hk
       exact ⟨rfl,b,o,ea,hF b hFb,hc⟩
     | succ k =>
       obtain ⟨q1,q2⟩:=h3 k x (by simpa using hk)
       exact ⟨by omega,q2⟩
 obtain ⟨xs,h1,h2,h3⟩:=key t.args.length (Nat.le_refl _)
 rw [List.take_length] at h2
 exact ⟨xs,h1,h2,fun k x hk=>by obtain ⟨q1,q2⟩:=h3 k x hk;exact ⟨by omega,q2⟩⟩
theorem keepsOthers_of {A B:World} (h:Below A.heap.size A B):KeepsOthers A B :=
 ⟨h.size,fun k o hk _=>(h.block k (lt_of_heap hk)).trans hk⟩
theorem keeps_round {w W w':World} {sv:Value} {R O T:Bs} {n₀:Nat} (hn:n₀≤w.heap.size) (hB:Below w.heap.size w W) (hb:Below W.heap.size W.drew w') (hc:w'.cell? ⟨w.heap.size,0,none⟩=some (str R)) (hf:w'.frozen? ⟨w.heap.size,0,none⟩=false) (hT:T=O) :
 KeepsOthers W (w'.setCell ⟨w.heap.size,0,none⟩ (str O))∧KpB w.heap.size ⟨w.heap.size+1,0,none⟩ sv W (w'.setCell ⟨w.heap.size,0,none⟩ (str O)) ∧
  ((w'.setCell ⟨w.heap.size,0,none⟩ (str O)).cell? ⟨w.heap.size,0,none⟩=some (str T)∧(w'.setCell ⟨w.heap.size,0,none⟩ (str O)).frozen? ⟨w.heap.size,0,none⟩=false)∧Below w.heap.size w (w'.setCell ⟨w.heap.size,0,none⟩ (str O)):=by
 have h1:Below W.heap.size W w':=⟨hb.os,hb.tape,hb.output,hb.size,hb.block⟩
 have h2:=(h1.mono hB.size).setCell (p:=⟨w.heap.size,0,none⟩) (Nat.le_refl _) (str O)
 subst hT
 refine ⟨(keepsOthers_of h1).trans (KeepsOthers.setCell _ _ _),⟨h2,fun e=>?_⟩,⟨World.cell?_setCell_same' _ _ _ (by rw [hc];rfl),by rw [World.frozen?_setCell];exact hf⟩,hB.trans h2⟩
 have h3:=(h1.cell (p:=⟨w.heap.size+1,0,none⟩) (World.block_lt_of_cell? W _ e)).trans e
 rw [World.cell?_of_block (w:=w') (Below.heap_setCell _ _ _ _ (by simp))]
 exact h3
set_option maxRecDepth 100000 in
set_option maxHeartbeats 2000000 in
theorem textK_step (t:Ty) (hl:atomsT t≤1000) (ih:∀ t',atomsT t'<atomsT t→textSaidK t'):textSaidK t:=by
 intro F0 w v h0
 have h1:Rep (fun i=>F0 i∧i<w.heap.size) w (encK t) v:=(Rep.keep fun b o hf ho=>⟨⟨hf,lt_of_heap ho⟩,ho⟩).1 _ _ h0
 obtain ⟨b,s,rfl,hb,hc,hs⟩:=encK_open h1
 have c1:w.cell? ⟨b,0,none⟩=some s:=by simp [World.cell?,hc]
 obtain ⟨a,cap,rfl,hn,hlen,hat⟩:=Rep_sl1_open hs
 have hal:t.args.length≤1000:=by have:=length_le_atomsTs t.args;have:=atomsT_mk t;omega
 clear hc hs h0 h1 hn hlen
 obtain ⟨W0,hW0⟩:∃ W0,(w.alloc (.cells #[str [98]] 9)).alloc (.cells #[.slice a t.args.length cap] 106)=W0:=⟨_,rfl⟩
 obtain ⟨xs,x1,x2,x3⟩:=items_of (n₀:=w.heap.size) (fun i hi=>hi.2) hat
 refine (callsIn_wide (n:=4)).1 ?_
 refine callsIn_of_wp_marks Tryz.func37 rfl trivial ?_ rfl
 simp only [Tryz.ntmps37,List.size_toArray,List.length_cons,List.length_nil,Nat.reduceAdd,Nat.reduceSub,Array.replicate_succ,Array.replicate_zero,List.push_toArray,List.append_toArray,List.nil_append,List.cons_append]
 gi_wp2_with (refine ⟨trivial,?_⟩;gi_at_call 59;refine (back_in Fence.wide _ trivial rfl _ _ _ _).mono ?_;rintro e w' ⟨rfl,rfl⟩)
 have hB1:W0.heap[w.heap.size]? = some (.cells #[str [98]] 9 (0,0)):=by rw [← hW0];exact heap_past (heap_new w _)
 have hc0:W0.cell? ⟨w.heap.size,0,none⟩=some (str [98]):=by simp [World.cell?,hB1]
 have hf0:W0.frozen? ⟨w.heap.size,0,none⟩=false:=by simp [World.frozen?,hB1]
 have hz0:W0.heap.size=w.heap.size+2:=by rw [← hW0];simp
 have hs0:W0.cell? ⟨w.heap.size+1,0,none⟩=some (.slice a xs.length cap):=by
  have h:W0.heap[w.heap.size+1]? = some (.cells #[.slice a t.args.length cap] 106 (0,0)):=by
   rw [← hW0]
   have:=heap_new (w.alloc (.cells #[str [98]] 9)) (.cells #[.slice a t.args.length cap] 106)
   rwa [size_alloc] at this
  simp [World.cell?,h,x1]
 have hB0:Below w.heap.size w W0:=by rw [← hW0];exact ((Below.refl _ w).alloc (Nat.le_refl _) _).alloc (by simp) _
 have hI0:BackAt Item.ix Item.bl w.heap.size W0 a xs:=fun k x hx=>by
  obtain ⟨q1,b,o,q2,q3,q4⟩:=x3 k x hx
  exact ⟨q1,b,o,q2,q3,(hB0.cell (p:=⟨b,o+x.ix,none⟩) q3).trans q4⟩
 have hx1000:xs.length≤1000:=by omega
 have hend:textFrom (xs.map Item.ty)=textT t:=by rw [x2,textFrom_all];cases t;rfl
 have IH:=Lib.hid ih
 clear ih
 refine wpIn_rangeFunc_ownF rfl (by omega) (gf:=80) (lb:=#[.pointer (some ⟨w.heap.size+1,0,none⟩)]) rfl trivial (enters_of Tryz.func80 (by kernel_rfl) rfl)
  (back_stops (α:=Item (fun i=>F0 i∧i<w.heap.size) w t) Item.ix Item.bl Fence.wide _ trivial rfl (by omega) (w.heap.size+1) w.heap.size cap a xs (by omega) W0 (by omega) (by omega) hs0 hI0) kpB_t (kpB_b (by omega)) (Below.refl _ _) (fun _=>rfl)
  (fun pre W=>(W.cell? ⟨w.heap.size,0,none⟩=some (str (textFrom (pre.map Item.ty)))∧W.frozen? ⟨w.heap.size,0,none⟩=false)∧Below w.heap.size w W)
  (fun _ _ _=>False)
  (OwnFrom.and (Own.from (fun s A B row hs hg hr=>⟨cell_kept hs.1 hg hr,(frozen_kept hs.1 hg hr).trans hs.2⟩) _) (ownFrom_below (Nat.le_refl _) (by omega)))
  (fun _ _ _ _ _ hs _ _=>hs)
  ⟨⟨hc0,hf0⟩,hB0⟩
  (fun x=>{ tmps:=#[.pointer (some ⟨b,0,none⟩),undef,str [],.pointer (some ⟨w.heap.size,0,none⟩),undef,.pointer (some ⟨x.bl,0,none⟩),.pointer (some ⟨b,0,none⟩),.pointer (some ⟨b,0,none⟩),.pointer (some ⟨b,0,none⟩),.slice a t.args.length cap,.func (.func 80) #[] #[.pointer (some ⟨w.heap.size+1,0,none⟩)],.int .i64 (x.ix:Nat),.pointer (some ⟨x.bl,0,none⟩),undef,undef,undef,undef,undef,undef,undef,undef],defers:=[] }) ?assign ?body ?done ?stop
 case assign =>
  intro l x W K hK
  gi_wp2
  exact hK
 case body =>
  rintro l pre x W ⟨⟨hc,hf⟩,hB⟩ hpre
  have hmx:Tryz.prog.follows .mixedOrders=true:=by kernel_rfl
  have hlx:(textT x.ty).length≤3000:=by have:=textT_length 1000 x.ty (by have:=x.low;omega);have:=x.low;omega
  have hle:(textFrom (pre.map Item.ty)).length≤1+pre.length*(3000+5):=by
   have:=textFrom_len (pre.map Item.ty) 3000 fun t' ht'=>by
    obtain ⟨y,_,rfl⟩:=List.mem_map.1 ht'
    have:=textT_length 1000 y.ty (by have:=y.low;omega);have:=y.low;omega
   rwa [List.length_map] at this
  have hne:textFrom ((pre++[x]).map Item.ty)=[40,62,32]++textT x.ty++[32]++textFrom (pre.map Item.ty)++[41]:=by rw [List.map_append,List.map_cons,List.map_nil,textFrom_snoc]
  have hrx:Rep (fun i=>F0 i∧i<w.heap.size) W (encK x.ty) (.pointer (some ⟨x.bl,0,none⟩)):=(Rep.keep fun b o hf ho=>⟨hf,by rw [hB.block b hf.2];exact ho⟩).1 _ _ x.rep
  have C1:Hid (∀ X,X=textT x.ty→Calls Tryz.prog 37 #[.pointer (some ⟨x.bl,0,none⟩)] W.drew fun en w'=>en=.returned (str X)∧Below W.heap.size W.drew w'):=by
   show ∀ X,_→_
   rintro X rfl
   exact IH.out x.ty x.low _ W.drew _ ((Rep.keep (w:=W) (w':=W.drew) fun _ _ hf ho=>⟨hf,ho⟩).1 _ _ hrx)
  obtain ⟨X,hX⟩:∃ X,X=textT x.ty:=⟨_,rfl⟩
  obtain ⟨R,hR⟩:∃ R,R=textFrom (pre.map Item.ty):=⟨_,rfl⟩
  rw [← hX] at hlx hne
  rw [← hR] at hle hne hc
  have C2:=Lib.hid (C1.out X hX)
  obtain ⟨O1,h1⟩:∃ x,x=[40,62,32]++X:=⟨_,rfl⟩
  obtain ⟨O2,h2⟩:∃ x,x=O1++[32]:=⟨_,rfl⟩
  obtain ⟨O3,h3⟩:∃ x,x=O2++R:=⟨_,rfl⟩
  obtain ⟨O4,h4⟩:∃ x,x=O3++[41]:=⟨_,rfl⟩
  have m1:O1.length=X.length+3:=by rw [h1];simp
  have m2:O2.length=O1.length+1:=by rw [h2];simp
  have m3:O3.length=O2.length+R.length:=by rw [h3];simp
  have hadd1:=fun w0=>add_str (P:=Tryz.prog) [40,62,32] X (by simp;omega) w0
  have hadd2:=fun w0=>add_str (P:=Tryz.prog) O1 [32] (by simp;omega) w0
  have hadd3:=fun w0=>add_str (P:=Tryz.prog) O2 R (by omega) w0
  have hadd4:=fun w0=>add_str (P:=Tryz.prog) O3 [41] (by simp;omega) w0
  have H4:Hid (textFrom ((pre++[x]).map Item.ty)=O4):=by show _=_;rw [hne,h4,h3,h2,h1]
  rw [← h1] at hadd1;rw [← h2] at hadd2;rw [← h3] at hadd3;rw [← h4] at hadd4
  have HB:=Lib.hid hB
  have HXX:=Lib.hid (And.intro x3 (And.intro hI0 (And.intro hs0 hB0)))
  clear h1 h2 h3 h4 m1 m2 m3 hX hR C1 hrx hne hlx hle hB x3 hI0 hs0 hB0 hend x2 hW0 hc0 hf0 hat c1
  gi_wp2
  have hcd:W.drew.cell? ⟨w.heap.size,0,none⟩=some (str R):=hc
  have hz:=World.block_lt_of_cell? W _ hc
  gi_region_with_o (refine ⟨trivial,?_⟩;gi_at_call 37;refine (CallsIn.inRound l (callsIn_wide.2 C2.out)).mono ?_;rintro e w' ⟨rfl,hb'⟩;have hc':w'.cell? ⟨w.heap.size,0,none⟩=some (str R):=(hb'.cell (p:=⟨w.heap.size,0,none⟩) hz).trans hcd;have hf':w'.frozen? ⟨w.heap.size,0,none⟩=false:=(hb'.frozen (p:=⟨w.heap.size,0,none⟩) hz).trans hf)
  all_goals gi_wp2
  all_goals exact keeps_round (Nat.le_refl _) HB.out hb' hc' hf' (by rw [H4.out])
 case done =>
  rintro D ys W hD rfl ⟨⟨hc,hf⟩,hB⟩ hK
  rw [hend] at hc
  gi_wp2
  refine ⟨by simp,.inl ⟨_,_,rfl,run_takeDeferred hK,?_⟩⟩
  exact ⟨_,results_tmp rfl _ _ _,rfl,hB.trans (belowK_b (w:=w) (Nat.le_refl _) W D _ _ (by omega) hK rfl rfl)⟩
 case stop =>
  rintro D c pre W _ _ h _
  exact h.elim
theorem textK_any (n:Nat):∀ t,atomsT t≤n→n≤1000→textSaidK t:=by
 induction n with
 | zero=>intro t h _;have:=atomsT_pos t;omega
 | succ n ih=>exact fun t h hn=>textK_step t (by omega) (fun t' h'=>ih t' (by omega) (by omega))
end Go.Proofs.YtapjaflnmklmeaaGreatDoor

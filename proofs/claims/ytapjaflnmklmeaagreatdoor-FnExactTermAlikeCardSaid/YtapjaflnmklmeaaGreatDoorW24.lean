import Derived.Test.YtapjaflnmklmeaaGreatDoorW22
import Derived.Test.YtapjaflnmklmeaaGreatDoorK1
/- The walks of impl's kindsOf, fits, answered and raised. -/
set_option linter.unusedVariables false
set_option linter.unusedSimpArgs false
namespace Go.Proofs.YtapjaflnmklmeaaGreatDoor
open Go.RowKit
structure GrowF (F0:Nat→Prop) (w:World) (P:Nat) (o:Value→Obj) (e:TypeId) (sz k:Nat) (cs:List DV) (sv:Value) (us:List Value) (wr:World):Prop where
 below:Below P w wr
 blk:wr.heap[P]? = some (o sv)
 own:Own wr e sz sv k us
 rep:Reps (fun i=>(F0 i∨P<i)∧sv.ownBlock≠some i) wr cs us
 fr:∀ g,sv.ownBlock=some g→P<g
theorem GrowF.start {F0:Nat→Prop} {w:World} {P:Nat} {o:Value→Obj} {e:TypeId} {sz:Nat} (h:w.heap[P]? = some (o (.slice none 0 0))):GrowF F0 w P o e sz 0 [] (.slice none 0 0) [] w :=
 ⟨Below.refl _ _,h,World.ownsRow_nil _ _ _ _,by rw [Reps_nil],fun g hg=>by simp [Value.ownBlock] at hg⟩
theorem GrowF.slice {F0:Nat→Prop} {w:World} {P:Nat} {o:Value→Obj} {e:TypeId} {sz k:Nat} {cs:List DV} {sv:Value} {us:List Value} {wr:World} (h:GrowF F0 w P o e sz k cs sv us wr):∃ a c,sv=.slice a k c:=h.own.slice
theorem GrowF.next {F0:Nat→Prop} {w:World} {P:Nat} {o:Value→Obj} {e:TypeId} {sz k:Nat} {cs:List DV} {sv:Value} {us:List Value} {wr:World} (h:GrowF F0 w P o e sz k cs sv us wr) (hF0:∀ i,F0 i→i<P)
 {w6 w7 w8:World} {ob:Obj} {ds:List DV} {news:List Value} {sv':Value} (hb6:Below wr.heap.size wr w6) (hr6:Reps (fun i=>F0 i∨wr.heap.size≤i) w6 ds news)
 (ho7:Own w7 e sz sv' (k+1) (us++news)) (hb7:But (fun b=>sv.ownBlock=some b) (w6.alloc ob) w7) (hg7:∀ g,sv'.ownBlock=some g→sv.ownBlock=some g∨g=(w6.alloc ob).heap.size)
 (h8:w8.heap[P]? = some (o sv')) (hb8:But (fun b=>b=P) w7 w8):GrowF F0 w P o e sz (k+1) (cs++ds) sv' (us++news) w8:=by
 have hz6:=hb6.size
 have hz7:=hb7.size
 rw [size_alloc] at hz7
 have hPl:=lt_of_heap h.blk
 have hsv:∀ i,sv.ownBlock=some i→P<i∧i<wr.heap.size:=fun i e=>⟨h.fr i e,h.own.lt e⟩
 have past:∀ (i:Nat) (x:Obj),i≠P→sv.ownBlock≠some i→w6.heap[i]? = some x→w8.heap[i]? = some x:=fun i x h1 h2 hx=>by
  have hl:=lt_of_heap hx
  rw [hb8.block i (by omega) h1,hb7.block i (by rw [size_alloc];omega) h2,Below.heap_alloc _ _ _ hl];exact hx
 have hg':∀ g,sv'.ownBlock=some g→sv.ownBlock=some g∨w6.heap.size<g:=fun g hg=>by
  rcases hg7 g hg with e | e
  ·exact .inl e
  ·rw [size_alloc] at e;exact .inr (by omega)
 refine ⟨?_,h8,ho7.keep fun g x hg hx=>?_,Reps.append ?_ ?_,fun g hg=>?_⟩
 ·have h1:Below P w (w6.alloc ob):=(h.below.trans (hb6.mono (Nat.le_of_lt hPl))).alloc (by omega) _
  have h2:Below P w w7:=h1.trans (hb7.toBelow (by rw [size_alloc];omega) fun i hi e=>by have:=hsv i e;omega)
  exact h2.trans (hb8.toBelow (by omega) fun i hi e=>by omega)
 ·rw [hb8.block g (lt_of_heap hx) (fun e=>by rcases hg' g hg with e' | e';· have:=hsv g e';omega
                                             ·omega)];exact hx
 ·have hk:∀ i x,((F0 i∨P<i)∧sv.ownBlock≠some i)→wr.heap[i]? = some x→((F0 i∨P<i)∧sv'.ownBlock≠some i)∧w8.heap[i]? = some x:=fun i x hi hx=>by
   refine ⟨⟨hi.1,fun e2=>?_⟩,past i x (by rcases hi.1 with h | h;have:=hF0 i h;omega;omega) hi.2 (by rw [hb6.block i (lt_of_heap hx)];exact hx)⟩
   rcases hg' i e2 with e' | e'
   ·exact hi.2 e'
   ·have:=lt_of_heap hx;omega
  exact (Rep.keep hk).2 _ _ h.rep
 ·have hk:∀ i x,(F0 i∨wr.heap.size≤i)→w6.heap[i]? = some x→((F0 i∨P<i)∧sv'.ownBlock≠some i)∧w8.heap[i]? = some x:=fun i x hi0 hx=>by
   have hi:F0 i∧i<P∨wr.heap.size≤i:=hi0.elim (fun h=>.inl ⟨h,hF0 i h⟩) .inr
   refine ⟨⟨hi0.elim .inl (fun h=>.inr (by omega)),fun e2=>?_⟩,past i x (by rcases hi with h | h;have:=h.2;omega;omega) (fun e2=>by have:=hsv i e2;rcases hi with h | h;have:=h.2;omega;omega) hx⟩
   rcases hg' i e2 with e' | e'
   ·have:=hsv i e';rcases hi with h | h;have:=h.2;omega;omega
   ·have:=lt_of_heap hx;omega
  exact (Rep.keep hk).2 _ _ hr6
 ·rcases hg' g hg with e' | e'
  ·exact h.fr g e'
  ·omega
theorem GrowF.own6 {F0:Nat→Prop} {w:World} {P:Nat} {o:Value→Obj} {e:TypeId} {sz k:Nat} {cs:List DV} {sv:Value} {us:List Value} {wr:World} (h:GrowF F0 w P o e sz k cs sv us wr) {w6:World} (hb6:Below wr.heap.size wr w6) (ob:Obj):Own (w6.alloc ob) e sz sv k us :=
 (h.own.keep (w':=w6) fun g _ _ hx=>by rw [hb6.block g (lt_of_heap hx)];exact hx).alloc ob
theorem GrowF.not {F0:Nat→Prop} {w:World} {P:Nat} {o:Value→Obj} {e:TypeId} {sz k:Nat} {cs:List DV} {sv:Value} {us:List Value} {wr:World} (h:GrowF F0 w P o e sz k cs sv us wr):¬ sv.ownBlock=some P:=fun e=>by have:=h.fr P e;omega
theorem GrowF.sl {F0:Nat→Prop} {w:World} {P:Nat} {o:Value→Obj} {e:TypeId} {sz k:Nat} {cs:List DV} {sv:Value} {us:List Value} {wr:World} (h:GrowF F0 w P o e sz k cs sv us wr):Rep (fun i=>F0 i∨P<i) wr (.sl e sz k cs) sv :=
 h.own.rep (fun g hg=>.inr (h.fr g hg)) ((Rep.keep fun _ _ hi hx=>⟨hi.1,hx⟩).2 _ _ h.rep)
theorem GrowF.cell7 {F0:Nat→Prop} {w:World} {P:Nat} {o:Value→Obj} {e:TypeId} {sz k:Nat} {cs:List DV} {sv:Value} {us:List Value} {wr:World} (h:GrowF F0 w P o e sz k cs sv us wr) {w6 w7:World} {ob:Obj} (hb6:Below wr.heap.size wr w6) (hb7:But (fun b=>sv.ownBlock=some b) (w6.alloc ob) w7) :
 w7.heap[P]? = some (o sv):=by
 have hPl:=lt_of_heap h.blk
 have:=hb6.size
 rw [hb7.block P (by rw [size_alloc];omega) h.not,Below.heap_alloc _ _ _ (by omega),hb6.block P hPl];exact h.blk
def PtrPost (F:Nat→Prop) (w:World) (b:Bd) (en:Ending) (w':World):Prop :=
 ∃ p,en=.returned (.pointer (some ⟨p,0,none⟩))∧Below w.heap.size w w'∧Rep (fun i=>F i∨w.heap.size≤i) w' (encB b) (.pointer (some ⟨p,0,none⟩))
theorem ask_new {F:Nat→Prop} {w:World} {v:Nat} {ss:List Bd} {y n:Bd} {b:Nat} {sv yv nv:Value} (hb:F b) (hc:w.heap[b]? = some (.cells #[str [],.int .i64 (v:Nat),sv,yv,nv] 72 (0,0)))
 (hs:Rep F w (.sl 44 1 ss.length (encBs ss)) sv) (hy:Rep F w (encB y) yv) (hn:Rep F w (encB n) nv):Rep F w (encB (.ask v ss y n)) (.pointer (some ⟨b,0,none⟩)):=by
 rw [encB,Rep_ptr]
 exact ⟨_,_,rfl,hb,hc,Reps_cons.2 ⟨_,_,rfl,Rep_val.2 rfl,Reps_cons.2 ⟨_,_,rfl,Rep_val.2 rfl,Reps_cons.2 ⟨_,_,rfl,hs,Reps_cons.2 ⟨_,_,rfl,hy,Reps_cons.2 ⟨_,_,rfl,hn,Reps_nil.2 rfl⟩⟩⟩⟩⟩⟩
set_option maxHeartbeats 1000000 in
theorem fits2_any (F:Nat→Prop) (w:World) (b:Bd) (v:Value) (hv:Rep F w (encB b) v) (hn:sizeB b≤100000) :
 Calls Tryz.prog 53 #[v] w fun en w'=>en=.returned (.bool (decide (sizeB b≤200∧depthB b≤100)))∧Below w.heap.size w w':=by
 obtain ⟨vb,rfl⟩:=encB_ptr hv
 have hL:Lim 100000:=by unfold Lim;omega
 have C1:=Lib.hid (size_any 100000 b hn hL F w _ hv)
 go_enter Tryz.func53,Tryz.ntmps53
 go_wp2_with fail
 (with_reducible refine C1.out.mono ?_)
 rintro en w1 ⟨rfl,hb1⟩
 have C2:=Lib.hid (depth_any 100000 b hn hL F w1 _ (Rep.below hb1 (fun _ h=>h) hv))
 have HB:=Lib.hid hb1;clear hb1
 by_cases h200:sizeB b≤200
 ·have h1:decide ((sizeB b:Int)≤200)=true:=decide_eq_true (by omega)
  go_wp2_with fail
  (with_reducible refine C2.out.mono ?_)
  rintro en w2 ⟨rfl,hb2⟩
  have hb:=HB.out.trans (hb2.mono HB.out.size)
  clear hb2
  by_cases h100:depthB b≤100
  ·have h2:decide ((depthB b:Int)≤100)=true:=decide_eq_true (by omega)
   have HE:=Lib.hid (And.intro (show decide (sizeB b≤200∧depthB b≤100)=true from decide_eq_true ⟨h200,h100⟩) hb);clear hb
   go_wp2_with fail
   go_ret
   rw [HE.out.1]
   exact ⟨rfl,HE.out.2⟩
  ·have h2:decide ((depthB b:Int)≤100)=false:=decide_eq_false (by omega)
   have HE:=Lib.hid (And.intro (show decide (sizeB b≤200∧depthB b≤100)=false from decide_eq_false (by omega)) hb);clear hb
   go_wp2_with fail
   go_ret
   rw [HE.out.1]
   exact ⟨rfl,HE.out.2⟩
 ·have h1:decide ((sizeB b:Int)≤200)=false:=decide_eq_false (by omega)
  have HE:=Lib.hid (show decide (sizeB b≤200∧depthB b≤100)=false from decide_eq_false (by omega))
  go_wp2_with fail
  go_ret
  rw [HE.out]
  exact ⟨rfl,HB.out⟩
set_option maxRecDepth 100000 in
set_option maxHeartbeats 4000000 in
theorem kindsOf_any (F:Nat→Prop) (ns:List Nm) (lv:Value) (w:World) (hn:ns.length≤1000) (hr:Rep F w (.sl 105 2 ns.length (encNms ns)) lv) :
 Calls Tryz.prog 72 #[lv] w fun en w'=>∃ a c,en=.returned (.slice a ns.length c)∧Below w.heap.size w w'∧Rep (fun i=>F i∨w.heap.size≤i) w' (.sl 43 1 ns.length (encKs (kinds ns))) (.slice a ns.length c):=by
 obtain ⟨la,lc,rfl,_,hat⟩:=AtNms.of hr
 have AT:=Lib.hid hat
 clear hat hr
 go_enter Tryz.func72,Tryz.ntmps72
 go_wp2_with fail
 go_loopw [3,8] (fun ov i wr=>∃ k:Nat,k≤ns.length∧i=.int .i64 k∧∃ a c us,ov=.slice a k c∧Own wr 43 1 (.slice a k c) k us∧Reps F w (encKs (kinds (ns.take k))) us∧Below w.heap.size w wr∧(∀ g,(Value.slice a k c).ownBlock=some g→w.heap.size≤g)) (fun _ i _=>ns.length-(intOf i).toNat)
 case atStart=>exact ⟨0,Nat.zero_le _,rfl,none,0,[],rfl,World.ownsRow_nil _ _ _ _,by simp [kinds,encKs,Reps_nil],Below.refl _ _,fun g h=>by simp [Value.ownBlock] at h⟩
 case round =>
  rename_i wr
  obtain ⟨k,hk,rfl,a,c,us,rfl,ho,hus,hb,hf⟩:=hrel
  have HO:=Lib.hid ho;have HF:=Lib.hid hf;have HB:=Lib.hid hb;have HU:=Lib.hid hus
  clear ho hf hb hus
  by_cases hlt:k<ns.length
  ·have hlt':(k:Int)<(ns.length:Int):=by omega
   obtain ⟨b,o,x,t,kb,e,hbw,hp,h1,h2,hrk⟩:=AT.out k hlt
   subst e
   have q0:=(HB.out.cell (p:=⟨b,o+k*2,none⟩) hbw).trans h1
   have q1:=(HB.out.cell (p:=⟨b,o+k*2+1,none⟩) hbw).trans h2
   have HP:=Lib.hid (And.intro hp hrk)
   clear hp hrk h1 h2
   go_wp2_with (at_builtin;refine wpList_append_gen rfl _ _ 106 rfl 43 (.pointer none) 1 8 Tryz.underlying106 Tryz.infoK rfl (by decide) (.slice a k c) k us rfl ?c1 _ 1 [.pointer (some ⟨kb,0,none⟩)] rfl ?c2 ?c3 ?c4 ?_)
   case c1=>exact (HO.out.alloc _).alloc _
   case c2=>exact SrcSl.lit1 #[.pointer (some ⟨kb,0,none⟩)] rfl (by simp [Value.oneCell']) _ (by simp)
   case c3=>unfold maxLen;omega
   case c4=>omega
   intro a' c' w7 ho7 hb7 hg7
   have hsz:w.heap.size≤wr.heap.size:=HB.out.size
   have hbA:Below w.heap.size w ((wr.alloc (.cells #[str x,.pointer (some ⟨kb,0,none⟩)] 105)).alloc (.cells #[.pointer (some ⟨kb,0,none⟩)] 43)):=(HB.out.alloc HB.out.size _).alloc (by rw [size_alloc];omega) _
   have hb17:Below w.heap.size w w7:=hbA.trans (hb7.toBelow (by rw [size_alloc,size_alloc];omega) fun i hi e=>by have:=HF.out i e;omega)
   have hf7:∀ g,(Value.slice a' (k+1) c').ownBlock=some g→w.heap.size≤g:=by
    intro g h
    rcases hg7 g h with h | h
    ·exact HF.out g h
    ·omega
   have hu7:Reps F w (encKs (kinds (ns.take (k+1)))) (us++[.pointer (some ⟨kb,0,none⟩)]):=by
    have e:kinds (ns.take (k+1))=kinds (ns.take k)++[t]:=by
     rw [List.take_add_one,HP.out.1];simp [kinds]
    rw [e,encKs_append]
    exact HU.out.append (Reps_cons.2 ⟨_,_,rfl,HP.out.2,Reps_nil.2 rfl⟩)
   have HA:=Lib.hid (And.intro ho7 (And.intro hb17 (And.intro hf7 hu7)));clear ho7 hb17 hf7 hb7 hg7 hu7 hbA
   go_wp2_with fail
   go_roundw
   case rel=>exact ⟨k+1,by omega,by go_num,a',c',_,rfl,HA.out.1,HA.out.2.2.2,HA.out.2.1,HA.out.2.2.1⟩
   case measure=>simp [intOf];omega
  ·obtain rfl:k=ns.length:=by omega
   go_wp2_with fail
   refine bodyPost_ret (v:=.slice a ns.length c) (by simp [results,Tryz.results72,go_sem]) rfl ?_
   have hU:=HU.out
   rw [List.take_length] at hU
   exact ⟨a,c,rfl,HB.out,HO.out.rep (fun g hg=>.inr (HF.out g hg)) (Reps.below HB.out (fun _ h=>.inl h) hU)⟩
def AnsSaid (N:Nat):Prop:=∀ (F:Nat→Prop) (b y n:Bd) (bv yv nv:Value) (w:World),sizeB b≤N→wfB b→Rep F w (encB b) bv→Rep F w (encB y) yv→Rep F w (encB n) nv →
 Calls Tryz.prog 74 #[bv,yv,nv] w (PtrPost F w (graftB b y n))
set_option maxRecDepth 100000 in
set_option maxHeartbeats 4000000 in
theorem ans_step (N:Nat) (ih:AnsSaid N):AnsSaid (N+1):=by
 intro F b y n bv yv nv w hsz hwf hb hy hn
 obtain ⟨yb,rfl⟩:=encB_ptr hy
 obtain ⟨nb,rfl⟩:=encB_ptr hn
 cases b with
 | leaf c =>
   obtain ⟨a0,sl,rfl,_,hblk,_⟩:=leaf_open hb
   have r0:w.cell? ⟨a0,0,none⟩=some (str [c]):=by simp [World.cell?,hblk]
   rw [wfB] at hwf
   have HY:=Lib.hid hy;have HN:=Lib.hid hn;have HB:=Lib.hid hb
   clear hblk ih hy hn hb
   rcases hwf with rfl | rfl | rfl
   ·go_enter Tryz.func74,Tryz.ntmps74
    go_wp2_with fail
    go_ret
    exact ⟨_,rfl,Below.refl _ _,by rw [graftB];simpa using HY.out.weak fun _ h=>.inl h⟩
   ·go_enter Tryz.func74,Tryz.ntmps74
    go_wp2_with fail
    go_ret
    exact ⟨_,rfl,Below.refl _ _,by rw [graftB];simpa using HN.out.weak fun _ h=>.inl h⟩
   ·go_enter Tryz.func74,Tryz.ntmps74
    go_wp2_with fail
    go_ret
    exact ⟨_,rfl,Below.refl _ _,by rw [graftB];simpa using HB.out.weak fun _ h=>.inl h⟩
 | ask v ss yy nn =>
   obtain ⟨a0,sl,y0,n0,rfl,_,hblk,hss,hy0,hn0⟩:=ask_open hb
   obtain ⟨sa,sc,rfl,_,_,_⟩:=Rep_sl1_open hss
   obtain ⟨yp,rfl⟩:=encB_ptr hy0
   obtain ⟨np,rfl⟩:=encB_ptr hn0
   have r0:w.cell? ⟨a0,0,none⟩=some (str []):=by simp [World.cell?,hblk]
   have r1:w.cell? ⟨a0,1,none⟩=some (.int .i64 (v:Nat)):=by simp [World.cell?,hblk]
   have r2:w.cell? ⟨a0,2,none⟩=some (.slice sa ss.length sc):=by simp [World.cell?,hblk]
   have r3:w.cell? ⟨a0,3,none⟩=some (.pointer (some ⟨yp,0,none⟩)):=by simp [World.cell?,hblk]
   have r4:w.cell? ⟨a0,4,none⟩=some (.pointer (some ⟨np,0,none⟩)):=by simp [World.cell?,hblk]
   have ha0:=lt_of_heap hblk
   have SX:Hid (∀ w',Below w.heap.size w w'→w'.cell? ⟨a0,1,none⟩=some (.int .i64 (v:Nat))∧w'.cell? ⟨a0,2,none⟩=some (.slice sa ss.length sc)∧w'.cell? ⟨a0,3,none⟩=some (.pointer (some ⟨yp,0,none⟩))∧w'.cell? ⟨a0,4,none⟩=some (.pointer (some ⟨np,0,none⟩))):=by
    show ∀ w',_→_
    intro w' h
    exact ⟨(h.cell ha0).trans r1,(h.cell ha0).trans r2,(h.cell ha0).trans r3,(h.cell ha0).trans r4⟩
   rw [sizeB] at hsz
   rw [wfB] at hwf
   have C0:=Lib.hid (fun wz (h:Below w.heap.size w wz)=>ih F yy y n _ _ _ wz (by omega) hwf.2.1 (Rep.below h (fun _ h=>h) hy0) (Rep.below h (fun _ h=>h) hy) (Rep.below h (fun _ h=>h) hn))
   have C1:=Lib.hid (fun wz (h:Below w.heap.size w wz)=>ih F nn y n _ _ _ wz (by omega) hwf.2.2 (Rep.below h (fun _ h=>h) hn0) (Rep.below h (fun _ h=>h) hy) (Rep.below h (fun _ h=>h) hn))
   have HS:=Lib.hid hss
   clear ih hblk hss hy0 hn0 hb hy hn hwf r1 r2 r3 r4
   go_enter Tryz.func74,Tryz.ntmps74
   go_wp2_with fail
   refine wp_region_noPanic ?_
   refine wp_region_S (fun w'=>Below w.heap.size w w') (fun _=>false) (by kernel_rfl) ?_
   have hSd:(fun w'=>Below w.heap.size w w') w.drew:=Below.drew (Below.refl _ _)
   refine tk [0,1,2,3,4,5,6,7,8,9,10,11,12,13,15,16,17,18,19,20] hSd ?_
   (intro d hd;simp [tkD] at hd;subst hd;simp only [tks,pQ,pZ,pS])
   iterate 20 (refine ⟨?_,?_,?_⟩;rotate_left;· (intro oi ho;simp at ho;subst ho;refine Or.inl ⟨by rfl,fun w' hw'=>?_⟩;obtain ⟨e1,e2,e3,e4⟩:=SX.out w' hw';go_simp;try with_reducible rfl))
   (refine on 14 ?_;intro o ho K' hK;simp at ho;subst ho;go_simp)
   go_at_call 74
   (with_reducible refine (C0.out _ hSd).mono ?_)
   rintro en v0 ⟨p0,rfl,hb0,hr0⟩
   have HB0:Hid (Below w.heap.size w v0):=hSd.trans hb0
   have HR0:Hid (Rep (fun i=>F i∨w.heap.size≤i) v0 (encB (graftB yy y n)) (.pointer (some ⟨p0,0,none⟩))):=hr0.weak fun i h=>by rcases h with h | h;exact .inl h;exact .inr (h)
   have HC0:=Lib.hid hb0
   clear hb0 hr0
   (refine hK.out _ _ (fun _=>HB0.out) ?_;clear hK K';try simp only [pQ,pN,pZ,pS])
   have hS14:=HB0.out
   (refine on 21 ?_;intro o ho K' hK;simp at ho;subst ho;go_simp)
   go_at_call 74
   (with_reducible refine (C1.out _ HB0.out).mono ?_)
   rintro en v1 ⟨p1,rfl,hb1,hr1⟩
   have HB1:Hid (Below w.heap.size w v1):=HB0.out.trans (hb1.mono HB0.out.size)
   have HR1:Hid (Rep (fun i=>F i∨w.heap.size≤i) v1 (encB (graftB nn y n)) (.pointer (some ⟨p1,0,none⟩))):=hr1.weak fun i h=>by rcases h with h | h;exact .inl h;exact .inr (Nat.le_trans HB0.out.size h)
   have HC1:=Lib.hid hb1
   clear hb1 hr1
   (refine hK.out _ _ (fun _=>HB1.out) ?_;clear hK K';try simp only [pQ,pN,pZ,pS])
   have hS21:=HB1.out
   refine tk [22] hS21 ?_
   (intro d hd;simp [tkD] at hd;subst hd;simp only [tks,pQ,pZ,pS])
   (refine ⟨?_,?_,?_⟩;rotate_left;· (intro oi ho;simp at ho;subst ho;refine Or.inl ⟨by rfl,fun w' hw'=>?_⟩;go_simp;try with_reducible rfl))
   (refine on 23 ?_;intro o ho K' hK;simp at ho;subst ho;go_simp)
   (refine hK.out _ _ (fun _=>HB1.out.alloc HB1.out.size _) ?_;clear hK K';try simp only [pQ,pN,pZ,pS])
   (refine on 24 ?_;intro o ho K' hK;simp at ho;subst ho;go_simp)
   (refine hK.out _ _ (fun _=>HB1.out.alloc HB1.out.size _) ?_;clear hK K';try simp only [pQ,pN,pZ,pS])
   refine wpAnyS_done (by kernel_rfl) (NoPanic.normal ?_) _
   go_wp2_with fail
   go_ret
   refine ⟨v1.heap.size,rfl,HB1.out.alloc HB1.out.size _,?_⟩
   rw [graftB]
   have k1:∀ i x,(F i∨w.heap.size≤i)→v1.heap[i]? = some x→(F i∨w.heap.size≤i)∧(v1.alloc (.cells #[str [],.int .i64 (v:Nat),.slice sa ss.length sc,.pointer (some ⟨p0,0,none⟩),.pointer (some ⟨p1,0,none⟩)] 72)).heap[i]? = some x:=fun i x h hx=>⟨h,heap_past hx⟩
   exact ask_new (.inr HB1.out.size) (heap_new _ _) ((Rep.keep k1).1 _ _ (Rep.below HB1.out (fun _ h=>.inl h) HS.out)) ((Rep.keep k1).1 _ _ (Rep.below HC1.out (fun _ h=>h) HR0.out)) ((Rep.keep k1).1 _ _ HR1.out)
theorem answered_any (N:Nat):AnsSaid N:=by
 induction N with
 | zero=>exact fun F b y n bv yv nv w h=>by have:=sizeB_pos b;omega
 | succ N ih=>exact ans_step N ih
end Go.Proofs.YtapjaflnmklmeaaGreatDoor
namespace Go.Proofs.YtapjaflnmklmeaaGreatDoor
open Go.RowKit
theorem shiftBs_map (n k:Nat):∀ ss:List Bd,shiftBs ss n k=ss.map fun b=>shiftB b n k
 | []=>by rw [shiftBs];rfl
 | b::bs=>by rw [shiftBs,shiftBs_map n k bs];rfl
theorem shiftBs_take {ss:List Bd} {j:Nat} {s:Bd} (h:ss[j]? = some s) (n k:Nat):shiftBs (ss.take (j+1)) n k=shiftBs (ss.take j) n k++[shiftB s n k]:=by
 rw [shiftBs_map,shiftBs_map,List.take_add_one,h];simp
theorem lvBs_atR:∀ (bs:List Bd),lvBs bs→∀ (k:Nat) (b:Bd),bs[k]? = some b→lvB b
 | [],_,k,b,h=>by simp at h
 | p::ps,ho,0,b,h=>by simp at h;subst h;rw [lvBs] at ho;exact ho.1
 | p::ps,ho,k+1,b,h=>by rw [lvBs] at ho;exact lvBs_atR ps ho.2 k b (by simpa using h)
def RaSaid (N:Nat):Prop:=∀ (F:Nat→Prop) (b:Bd) (n k:Nat) (bv:Value) (w:World),sizeB b≤N→sizeB b≤1000000→lvB b→n≤10000→k≤10000→Rep F w (encB b) bv →
 Calls Tryz.prog 73 #[bv,.int .i64 (n:Nat),.int .i64 (k:Nat)] w (PtrPost F w (shiftB b n k))
set_option maxRecDepth 100000 in
set_option maxHeartbeats 4000000 in
theorem ra_step (N:Nat) (ih:RaSaid N):RaSaid (N+1):=by
 intro F b n k bv w hN hM hlv hn hk hb
 cases b with
 | leaf c =>
   obtain ⟨bb,rfl⟩:=encB_ptr hb
   have CL:=Lib.hid (isList_leaf F w c _ hb)
   have HB:=Lib.hid hb
   clear hb ih
   go_enter Tryz.func73,Tryz.ntmps73
   go_wp2_with fail
   (with_reducible refine CL.out.mono ?_)
   rintro en w1 ⟨rfl,e⟩
   subst w1
   go_wp2_with fail
   go_ret
   exact ⟨_,rfl,Below.refl _ _,by rw [shiftB];exact HB.out.weak fun _ h=>.inl h⟩
 | ask v ss yy nn =>
   obtain ⟨a0,sl,y0,n0,rfl,_,hblk,hss,hy0,hn0⟩:=ask_open hb
   obtain ⟨sa,sc,rfl,_,_,hatS⟩:=Rep_sl1_open hss
   obtain ⟨yp,rfl⟩:=encB_ptr hy0
   obtain ⟨np,rfl⟩:=encB_ptr hn0
   have r1:w.cell? ⟨a0,1,none⟩=some (.int .i64 (v:Nat)):=by simp [World.cell?,hblk]
   have r2:w.cell? ⟨a0,2,none⟩=some (.slice sa ss.length sc):=by simp [World.cell?,hblk]
   have r3:w.cell? ⟨a0,3,none⟩=some (.pointer (some ⟨yp,0,none⟩)):=by simp [World.cell?,hblk]
   have r4:w.cell? ⟨a0,4,none⟩=some (.pointer (some ⟨np,0,none⟩)):=by simp [World.cell?,hblk]
   have ha0:=lt_of_heap hblk
   have SX:Hid (∀ w',Below w.heap.size w w'→w'.cell? ⟨a0,1,none⟩=some (.int .i64 (v:Nat))∧w'.cell? ⟨a0,3,none⟩=some (.pointer (some ⟨yp,0,none⟩))∧w'.cell? ⟨a0,4,none⟩=some (.pointer (some ⟨np,0,none⟩))):=by
    show ∀ w',_→_
    intro w' h
    exact ⟨(h.cell ha0).trans r1,(h.cell ha0).trans r3,(h.cell ha0).trans r4⟩
   rw [sizeB] at hN hM
   rw [lvB] at hlv
   have CL:=Lib.hid (isList_ask F w v ss yy nn _ hb)
   have C0:=Lib.hid (fun wz (h:Below w.heap.size w wz)=>ih F yy n k _ wz (by omega) (by omega) hlv.2.2.1 hn hk (Rep.below h (fun _ h=>h) hy0))
   have C1:=Lib.hid (fun wz (h:Below w.heap.size w wz)=>ih F nn n k _ wz (by omega) (by omega) hlv.2.2.2 hn hk (Rep.below h (fun _ h=>h) hn0))
   have HS:=Lib.hid hatS
   have HQ:=Lib.hid (And.intro hN (And.intro hM hlv))
   have IH:=Lib.hid ih
   have hvb:v≤10000:=hlv.1
   have hsl:ss.length≤1000000:=by have:=length_le_sizeBs ss;omega
   clear ih hblk hss hy0 hn0 hb r1 r3 r4 hatS hN hM hlv
   go_enter Tryz.func73,Tryz.ntmps73
   go_wp2_with fail
   (with_reducible refine CL.out.mono ?_)
   rintro en w1 ⟨rfl,e⟩
   subst w1
   go_wp2_with fail
   refine wp_region_noPanic ?_
   refine wp_region_S (fun w'=>Below w.heap.size w w') (fun _=>false) (by kernel_rfl) ?_
   have hSd:(fun w'=>Below w.heap.size w w') w.drew:=Below.drew (Below.refl _ _)
   refine tk [0,1,2,3,4,5,6,7,8,9,11,12,13,14,15,16] hSd ?_
   (intro d hd;simp [tkD] at hd;subst hd;simp only [tks,pQ,pZ,pS])
   iterate 16 (refine ⟨?_,?_,?_⟩;rotate_left;· (intro oi ho;simp at ho;subst ho;refine Or.inl ⟨by rfl,fun w' hw'=>?_⟩;obtain ⟨e1,e3,e4⟩:=SX.out w' hw';go_simp;try with_reducible rfl))
   (refine on 10 ?_;intro o ho K' hK;simp at ho;subst ho;go_simp)
   go_at_call 73
   (with_reducible refine (C0.out _ hSd).mono ?_)
   rintro en v0 ⟨p0,rfl,hb0,hr0⟩
   have HB0:Hid (Below w.heap.size w v0):=hSd.trans hb0
   have HR0:Hid (Rep (fun i=>F i∨w.heap.size≤i) v0 (encB (shiftB yy n k)) (.pointer (some ⟨p0,0,none⟩))):=hr0.weak fun i h=>by rcases h with h | h;exact .inl h;exact .inr (h)
   have HC0:=Lib.hid hb0
   clear hb0 hr0
   (refine hK.out _ _ (fun _=>HB0.out) ?_;clear hK K';try simp only [pQ,pN,pZ,pS])
   have hS10:=HB0.out
   (refine on 17 ?_;intro o ho K' hK;simp at ho;subst ho;go_simp)
   go_at_call 73
   (with_reducible refine (C1.out _ HB0.out).mono ?_)
   rintro en v1 ⟨p1,rfl,hb1,hr1⟩
   have HB1:Hid (Below w.heap.size w v1):=HB0.out.trans (hb1.mono HB0.out.size)
   have HR1:Hid (Rep (fun i=>F i∨w.heap.size≤i) v1 (encB (shiftB nn n k)) (.pointer (some ⟨p1,0,none⟩))):=hr1.weak fun i h=>by rcases h with h | h;exact .inl h;exact .inr (Nat.le_trans HB0.out.size h)
   have HC1:=Lib.hid hb1
   clear hb1 hr1
   (refine hK.out _ _ (fun _=>HB1.out) ?_;clear hK K';try simp only [pQ,pN,pZ,pS])
   have hS17:=HB1.out
   refine tk [18] hS17 ?_
   (intro d hd;simp [tkD] at hd;subst hd;simp only [tks,pQ,pZ,pS])
   (refine ⟨?_,?_,?_⟩;rotate_left;· (intro oi ho;simp at ho;subst ho;refine Or.inl ⟨by rfl,fun w' hw'=>?_⟩;go_simp;try with_reducible rfl))
   (refine on 19 ?_;intro o ho K' hK;simp at ho;subst ho;go_simp)
   (refine hK.out _ _ (fun _=>HB1.out.alloc HB1.out.size _) ?_;clear hK K';try simp only [pQ,pN,pZ,pS])
   (refine on 20 ?_;intro o ho K' hK;simp at ho;subst ho;go_simp)
   (refine hK.out _ _ (fun _=>HB1.out.alloc HB1.out.size _) ?_;clear hK K';try simp only [pQ,pN,pZ,pS])
   refine wpAnyS_done (by kernel_rfl) (NoPanic.normal ?_) _
   have blkP:(v1.alloc (.cells #[str [],.int .i64 (v:Nat),.slice none 0 0,.pointer (some ⟨p0,0,none⟩),.pointer (some ⟨p1,0,none⟩)] 72)).heap[v1.heap.size]? = some (.cells #[str [],.int .i64 (v:Nat),.slice none 0 0,.pointer (some ⟨p0,0,none⟩),.pointer (some ⟨p1,0,none⟩)] 72 (0,0)):=heap_new _ _
   have hbV:Below v1.heap.size v1 (v1.alloc (.cells #[str [],.int .i64 (v:Nat),.slice none 0 0,.pointer (some ⟨p0,0,none⟩),.pointer (some ⟨p1,0,none⟩)] 72)):=(Below.refl _ _).alloc (Nat.le_refl _) _
   obtain ⟨V,hV⟩:∃ V,v1.alloc (.cells #[str [],.int .i64 (v:Nat),.slice none 0 0,.pointer (some ⟨p0,0,none⟩),.pointer (some ⟨p1,0,none⟩)] 72)=V:=⟨_,rfl⟩
   rw [hV] at blkP hbV ⊢
   obtain ⟨P,hP⟩:∃ P,v1.heap.size=P:=⟨_,rfl⟩
   rw [hP] at blkP hbV ⊢
   have hwP:w.heap.size≤P:=by rw [← hP];exact HB1.out.size
   have HR0':=Lib.hid (Rep.below (F':=fun i=>F i∨w.heap.size≤i) HC1.out (fun _ h=>h) HR0.out)
   clear hV HR0 HC1 HC0 CL C0 C1
   obtain ⟨z0,z1,z2,z3,z4,zf⟩:=cells5 blkP
   have zf1:=zf 1
   clear zf
   have HP:=Lib.hid (And.intro blkP hbV)
   clear blkP hbV
   by_cases hv:n≤v
   ·have hvI:(n:Int)≤(v:Int):=by omega
    have hwr:IntKind.i64.wrap ((v:Int)+(k:Int))=(v:Int)+(k:Int):=IntWalk.i64_in _ (by omega)
    go_upto_region 6 with (fail)
    obtain ⟨W,hW⟩:∃ W,V.setCell ⟨P,1,none⟩ (.int .i64 ((v:Int)+(k:Int)))=W:=⟨_,rfl⟩
    rw [hW]
    have hWP:W.heap[P]? = some (askObj (v+k) (.pointer (some ⟨p0,0,none⟩)) (.pointer (some ⟨p1,0,none⟩)) (.slice none 0 0)):=by
     rw [← hW]
     rw [setCell_at HP.out.1,askObj,Int.natCast_add];rfl
    have hvW:Below P v1 W:=by rw [← hW];exact HP.out.2.setCell (p:=⟨P,1,none⟩) (Nat.le_refl _) _
    have hwW:Below w.heap.size w W:=HB1.out.trans (hvW.mono hwP)
    have q2:=(hwW.cell (p:=⟨a0,2,none⟩) ha0).trans r2
    have HW:=Lib.hid (And.intro hWP (And.intro hvW hwW))
    clear hW hWP hvW hwW z0 z1 z2 z3 z4 zf1 r2
    go_wp2_with fail
    go_loopw [53] (fun i wr=>∃ (j:Nat) (sv:Value) (us:List Value),j≤ss.length∧i=.int .i64 j∧GrowF (fun i=>F i∧i<w.heap.size) W P (askObj (v+k) (.pointer (some ⟨p0,0,none⟩)) (.pointer (some ⟨p1,0,none⟩))) 44 1 j (encBs (shiftBs (ss.take j) n k)) sv us wr) (fun i _=>ss.length-(intOf i).toNat)
    case atStart=>exact ⟨0,_,_,Nat.zero_le _,rfl,by simpa [shiftBs,encBs] using GrowF.start HW.out.1⟩
    case round =>
     rename_i wr
     obtain ⟨j,sv,us,hj,rfl,hinv⟩:=hrel
     obtain ⟨ga,gc,e⟩:=hinv.slice
     subst e
     have hblk:wr.heap[P]? = some (.cells #[str [],.int .i64 ((v+k:Nat):Int),.slice ga j gc,.pointer (some ⟨p0,0,none⟩),.pointer (some ⟨p1,0,none⟩)] 72 (0,0)):=hinv.blk
     have hbw:Below w.heap.size w wr:=HW.out.2.2.trans (hinv.below.mono hwP)
     obtain ⟨y0,y1,y2,y3,y4,yf⟩:=cells5 hblk
     have HI:=Lib.hid (And.intro hinv (And.intro hblk hbw));clear hinv hblk hbw
     clear y0 y1 y3 y4 yf q2
     by_cases hlt:j<ss.length
     ·have hlt':(j:Int)<(ss.length:Int):=by omega
      obtain ⟨sb,so,su,sd,e,_,hsw,hsd,hsc,hsr⟩:=HS.out j hlt
      subst e
      rw [encBs_at,Option.map_eq_some_iff] at hsd
      obtain ⟨s,hs,rfl⟩:=hsd
      obtain ⟨sp,rfl⟩:=encB_ptr hsr
      have hszs:=mem_sizeBs (List.mem_of_getElem? hs)
      have q3:wr.cell? ⟨sb,so+j,none⟩=some (.pointer (some ⟨sp,0,none⟩)):=(HI.out.2.2.cell (p:=⟨sb,so+j,none⟩) hsw).trans hsc
      have hsr':Rep (fun i=>F i∧i<w.heap.size) w (encB s) (.pointer (some ⟨sp,0,none⟩)):=(Rep.keep fun i x h hx=>⟨⟨h,lt_of_heap hx⟩,hx⟩).1 _ _ hsr
      have CC:=Lib.hid (IH.out (fun i=>F i∧i<w.heap.size) s n k (.pointer (some ⟨sp,0,none⟩)) wr.drew (by have:=HQ.out.1;omega) (by have:=HQ.out.2.1;omega) (lvBs_atR ss HQ.out.2.2.2.1 j s hs) hn hk (Rep.below HI.out.2.2 (fun _ h=>h) hsr').drew)
      have HK:=Lib.hid (shiftBs_take hs n k)
      have SY:Hid (∀ w',But (fun i=>(Value.slice ga j gc).ownBlock=some i) wr w'→w'.cell? ⟨P,2,none⟩=some (.slice ga j gc)∧True):=by
       show ∀ w',_→_
       intro w' hb'
       exact ⟨(hb'.cell (World.block_lt_of_cell? wr _ y2) HI.out.1.not).trans y2,trivial⟩
      have hmx:j+1≤maxLen:=by unfold maxLen;omega
      have hby:(j+1)*8≤140737488355328:=by omega
      clear hsr hsr' hs hsc
      go_wp2_with fail
      refine wp_region_noPanic ?_
      refine wp_region_S (fun w'=>But (fun i=>(Value.slice ga j gc).ownBlock=some i) wr w') (fun i=>i == 13) (by kernel_rfl) ?_
      have hSd:(fun w'=>But (fun i=>(Value.slice ga j gc).ownBlock=some i) wr w') wr.drew:=(But.refl _ wr).drew
      refine tk [0,1,2,3,4,5,6,7] hSd ?_
      (intro d hd;simp [tkD] at hd;subst hd;simp only [tks,pQ,pZ,pS])
      iterate 8 (refine ⟨?_,?_,?_⟩;rotate_left;· (intro oi ho;simp at ho;subst ho;refine Or.inl ⟨by rfl,fun w' hw'=>?_⟩;obtain ⟨e2,_⟩:=SY.out w' hw';go_simp;try with_reducible rfl))
      (refine on 8 ?_;intro o ho K' hK;simp at ho;subst ho;go_simp)
      go_at_call 73
      (with_reducible refine CC.out.mono ?_)
      rintro en6 w6 ⟨vb,rfl,hb6,hr6⟩
      have hB6:Below wr.heap.size wr w6:=(Below.drew (Below.refl _ _)).trans hb6
      have HB6:Hid (But (fun i=>(Value.slice ga j gc).ownBlock=some i) wr w6):=But.ofBelow hB6
      have OWN6:=HI.out.1.own6 hB6 (.cells #[.pointer (some ⟨vb,0,none⟩)] 44)
      have H6:=Lib.hid (And.intro hB6 hr6);clear hb6 hr6 hB6
      (refine hK.out _ _ (fun _=>HB6.out) ?_;clear hK K';try simp only [pQ,pN,pZ,pS])
      (refine on 9 ?_;intro o ho K' hK;simp at ho;subst ho;go_simp)
      (refine hK.out _ _ (fun _=>HB6.out.alloc _) ?_;clear hK K';try simp only [pQ,pN,pZ,pS])
      (refine on 10 ?_;intro o ho K' hK;simp at ho;subst ho)
      refine step_append_gen (by rfl) _ _ _ (by rfl) 44 (.pointer none) 1 8 Tryz.underlying70 Tryz.infoB rfl (by decide) (.slice ga j gc) j us (by rfl) OWN6 _ 1 [.pointer (some ⟨vb,0,none⟩)] (by rfl) (SrcSl.lit1 #[.pointer (some ⟨vb,0,none⟩)] rfl (by simp [Value.oneCell']) _ (by rfl)) hmx hby ?_
      intro a' c' w7 ho7 hb7 hg7
      (refine hK.out _ _ (fun _=>(HB6.out.alloc _).trans hb7) ?_;clear hK K';try simp only [pQ,pN,pZ,pS])
      have hc7:=HI.out.1.cell7 H6.out.1 hb7
      have hc7':w7.cell? ⟨P,2,none⟩=some (.slice ga j gc)∧w7.frozen? ⟨P,2,none⟩=false:=by rw [askObj] at hc7;exact ⟨by simp [World.cell?,hc7],by simp [World.frozen?,hc7]⟩
      obtain ⟨hc8,hf8⟩:=hc7'
      have HC7:=Lib.hid hc7;clear hc7
      (refine on 11 ?_;intro o ho K' hK;simp at ho;subst ho;go_simp)
      (refine hK.out _ _ (fun _=>(HB6.out.alloc _).trans hb7) ?_;clear hK K';try simp only [pQ,pN,pZ,pS])
      (refine on 12 ?_;intro o ho K' hK;simp at ho;subst ho;go_simp)
      (refine hK.out _ _ (fun _=>(HB6.out.alloc _).trans hb7) ?_;clear hK K';try simp only [pQ,pN,pZ,pS])
      (refine on 13 ?_;intro o ho K' hK;simp at ho;subst ho;go_simp)
      (refine hK.out _ _ (fun h=>by simp at h) ?_;clear hK K';try simp only [pQ,pN,pZ,pS])
      refine wpAnyS_done (by kernel_rfl) (NoPanic.normal ?_) _
      have hX:=HI.out.1.next (fun i h=>Nat.lt_of_lt_of_le h.2 hwP) (w8:=w7.setCell ⟨P,2,none⟩ (.slice a' (j+1) c')) H6.out.1 (Reps.one H6.out.2) ho7 hb7 hg7 (by rw [setCell_at HC7.out];rfl) (but_set _ _ _ _)
      have hX2:encBs (shiftBs (ss.take j) n k)++[encB (shiftB s n k)]=encBs (shiftBs (ss.take (j+1)) n k):=by rw [HK.out,encBs_snoc]
      rw [hX2] at hX
      have HN:=Lib.hid hX
      clear hX hX2 ho7 hb7 hg7 hSd OWN6 hc8 hf8
      go_wp2_with fail
      go_roundw
      case rel=>exact ⟨j+1,_,_,by omega,by go_num,HN.out⟩
      case measure=>simp [intOf];omega
     ·obtain rfl:j=ss.length:=by omega
      clear y2
      go_wp2_with fail
      go_ret
      refine ⟨P,rfl,HI.out.2.2,?_⟩
      have hsl:=HI.out.1.sl
      rw [List.take_length] at hsl
      have hvr:Below P v1 wr:=HW.out.2.1.trans HI.out.1.below
      rw [← hP] at hvr
      have hL:(shiftBs ss n k).length=ss.length:=by rw [shiftBs_map];simp
      rw [shiftB,if_pos hv]
      refine ask_new (.inr hwP) HI.out.2.1 ?_ (Rep.below hvr (fun _ h=>h) HR0'.out) (Rep.below hvr (fun _ h=>h) HR1.out)
      rw [hL]
      exact hsl.weak fun i h=>by rcases h with h | h;exact .inl h.1;exact .inr (by omega)
   ·have hvI:¬ (n:Int)≤(v:Int):=by omega
    go_upto_region 6 with (fail)
    obtain ⟨W,hW⟩:∃ W,V=W:=⟨_,rfl⟩
    rw [hW]
    have hWP:W.heap[P]? = some (askObj (v) (.pointer (some ⟨p0,0,none⟩)) (.pointer (some ⟨p1,0,none⟩)) (.slice none 0 0)):=by
     rw [← hW]
     exact HP.out.1
    have hvW:Below P v1 W:=by rw [← hW];exact HP.out.2
    have hwW:Below w.heap.size w W:=HB1.out.trans (hvW.mono hwP)
    have q2:=(hwW.cell (p:=⟨a0,2,none⟩) ha0).trans r2
    have HW:=Lib.hid (And.intro hWP (And.intro hvW hwW))
    clear hW hWP hvW hwW z0 z1 z2 z3 z4 zf1 r2
    go_wp2_with fail
    go_loopw [53] (fun i wr=>∃ (j:Nat) (sv:Value) (us:List Value),j≤ss.length∧i=.int .i64 j∧GrowF (fun i=>F i∧i<w.heap.size) W P (askObj (v) (.pointer (some ⟨p0,0,none⟩)) (.pointer (some ⟨p1,0,none⟩))) 44 1 j (encBs (shiftBs (ss.take j) n k)) sv us wr) (fun i _=>ss.length-(intOf i).toNat)
    case atStart=>exact ⟨0,_,_,Nat.zero_le _,rfl,by simpa [shiftBs,encBs] using GrowF.start HW.out.1⟩
    case round =>
     rename_i wr
     obtain ⟨j,sv,us,hj,rfl,hinv⟩:=hrel
     obtain ⟨ga,gc,e⟩:=hinv.slice
     subst e
     have hblk:wr.heap[P]? = some (.cells #[str [],.int .i64 ((v:Nat):Int),.slice ga j gc,.pointer (some ⟨p0,0,none⟩),.pointer (some ⟨p1,0,none⟩)] 72 (0,0)):=hinv.blk
     have hbw:Below w.heap.size w wr:=HW.out.2.2.trans (hinv.below.mono hwP)
     obtain ⟨y0,y1,y2,y3,y4,yf⟩:=cells5 hblk
     have HI:=Lib.hid (And.intro hinv (And.intro hblk hbw));clear hinv hblk hbw
     clear y0 y1 y3 y4 yf q2
     by_cases hlt:j<ss.length
     ·have hlt':(j:Int)<(ss.length:Int):=by omega
      obtain ⟨sb,so,su,sd,e,_,hsw,hsd,hsc,hsr⟩:=HS.out j hlt
      subst e
      rw [encBs_at,Option.map_eq_some_iff] at hsd
      obtain ⟨s,hs,rfl⟩:=hsd
      obtain ⟨sp,rfl⟩:=encB_ptr hsr
      have hszs:=mem_sizeBs (List.mem_of_getElem? hs)
      have q3:wr.cell? ⟨sb,so+j,none⟩=some (.pointer (some ⟨sp,0,none⟩)):=(HI.out.2.2.cell (p:=⟨sb,so+j,none⟩) hsw).trans hsc
      have hsr':Rep (fun i=>F i∧i<w.heap.size) w (encB s) (.pointer (some ⟨sp,0,none⟩)):=(Rep.keep fun i x h hx=>⟨⟨h,lt_of_heap hx⟩,hx⟩).1 _ _ hsr
      have CC:=Lib.hid (IH.out (fun i=>F i∧i<w.heap.size) s n k (.pointer (some ⟨sp,0,none⟩)) wr.drew (by have:=HQ.out.1;omega) (by have:=HQ.out.2.1;omega) (lvBs_atR ss HQ.out.2.2.2.1 j s hs) hn hk (Rep.below HI.out.2.2 (fun _ h=>h) hsr').drew)
      have HK:=Lib.hid (shiftBs_take hs n k)
      have SY:Hid (∀ w',But (fun i=>(Value.slice ga j gc).ownBlock=some i) wr w'→w'.cell? ⟨P,2,none⟩=some (.slice ga j gc)∧True):=by
       show ∀ w',_→_
       intro w' hb'
       exact ⟨(hb'.cell (World.block_lt_of_cell? wr _ y2) HI.out.1.not).trans y2,trivial⟩
      have hmx:j+1≤maxLen:=by unfold maxLen;omega
      have hby:(j+1)*8≤140737488355328:=by omega
      clear hsr hsr' hs hsc
      go_wp2_with fail
      refine wp_region_noPanic ?_
      refine wp_region_S (fun w'=>But (fun i=>(Value.slice ga j gc).ownBlock=some i) wr w') (fun i=>i == 13) (by kernel_rfl) ?_
      have hSd:(fun w'=>But (fun i=>(Value.slice ga j gc).ownBlock=some i) wr w') wr.drew:=(But.refl _ wr).drew
      refine tk [0,1,2,3,4,5,6,7] hSd ?_
      (intro d hd;simp [tkD] at hd;subst hd;simp only [tks,pQ,pZ,pS])
      iterate 8 (refine ⟨?_,?_,?_⟩;rotate_left;· (intro oi ho;simp at ho;subst ho;refine Or.inl ⟨by rfl,fun w' hw'=>?_⟩;obtain ⟨e2,_⟩:=SY.out w' hw';go_simp;try with_reducible rfl))
      (refine on 8 ?_;intro o ho K' hK;simp at ho;subst ho;go_simp)
      go_at_call 73
      (with_reducible refine CC.out.mono ?_)
      rintro en6 w6 ⟨vb,rfl,hb6,hr6⟩
      have hB6:Below wr.heap.size wr w6:=(Below.drew (Below.refl _ _)).trans hb6
      have HB6:Hid (But (fun i=>(Value.slice ga j gc).ownBlock=some i) wr w6):=But.ofBelow hB6
      have OWN6:=HI.out.1.own6 hB6 (.cells #[.pointer (some ⟨vb,0,none⟩)] 44)
      have H6:=Lib.hid (And.intro hB6 hr6);clear hb6 hr6 hB6
      (refine hK.out _ _ (fun _=>HB6.out) ?_;clear hK K';try simp only [pQ,pN,pZ,pS])
      (refine on 9 ?_;intro o ho K' hK;simp at ho;subst ho;go_simp)
      (refine hK.out _ _ (fun _=>HB6.out.alloc _) ?_;clear hK K';try simp only [pQ,pN,pZ,pS])
      (refine on 10 ?_;intro o ho K' hK;simp at ho;subst ho)
      refine step_append_gen (by rfl) _ _ _ (by rfl) 44 (.pointer none) 1 8 Tryz.underlying70 Tryz.infoB rfl (by decide) (.slice ga j gc) j us (by rfl) OWN6 _ 1 [.pointer (some ⟨vb,0,none⟩)] (by rfl) (SrcSl.lit1 #[.pointer (some ⟨vb,0,none⟩)] rfl (by simp [Value.oneCell']) _ (by rfl)) hmx hby ?_
      intro a' c' w7 ho7 hb7 hg7
      (refine hK.out _ _ (fun _=>(HB6.out.alloc _).trans hb7) ?_;clear hK K';try simp only [pQ,pN,pZ,pS])
      have hc7:=HI.out.1.cell7 H6.out.1 hb7
      have hc7':w7.cell? ⟨P,2,none⟩=some (.slice ga j gc)∧w7.frozen? ⟨P,2,none⟩=false:=by rw [askObj] at hc7;exact ⟨by simp [World.cell?,hc7],by simp [World.frozen?,hc7]⟩
      obtain ⟨hc8,hf8⟩:=hc7'
      have HC7:=Lib.hid hc7;clear hc7
      (refine on 11 ?_;intro o ho K' hK;simp at ho;subst ho;go_simp)
      (refine hK.out _ _ (fun _=>(HB6.out.alloc _).trans hb7) ?_;clear hK K';try simp only [pQ,pN,pZ,pS])
      (refine on 12 ?_;intro o ho K' hK;simp at ho;subst ho;go_simp)
      (refine hK.out _ _ (fun _=>(HB6.out.alloc _).trans hb7) ?_;clear hK K';try simp only [pQ,pN,pZ,pS])
      (refine on 13 ?_;intro o ho K' hK;simp at ho;subst ho;go_simp)
      (refine hK.out _ _ (fun h=>by simp at h) ?_;clear hK K';try simp only [pQ,pN,pZ,pS])
      refine wpAnyS_done (by kernel_rfl) (NoPanic.normal ?_) _
      have hX:=HI.out.1.next (fun i h=>Nat.lt_of_lt_of_le h.2 hwP) (w8:=w7.setCell ⟨P,2,none⟩ (.slice a' (j+1) c')) H6.out.1 (Reps.one H6.out.2) ho7 hb7 hg7 (by rw [setCell_at HC7.out];rfl) (but_set _ _ _ _)
      have hX2:encBs (shiftBs (ss.take j) n k)++[encB (shiftB s n k)]=encBs (shiftBs (ss.take (j+1)) n k):=by rw [HK.out,encBs_snoc]
      rw [hX2] at hX
      have HN:=Lib.hid hX
      clear hX hX2 ho7 hb7 hg7 hSd OWN6 hc8 hf8
      go_wp2_with fail
      go_roundw
      case rel=>exact ⟨j+1,_,_,by omega,by go_num,HN.out⟩
      case measure=>simp [intOf];omega
     ·obtain rfl:j=ss.length:=by omega
      clear y2
      go_wp2_with fail
      go_ret
      refine ⟨P,rfl,HI.out.2.2,?_⟩
      have hsl:=HI.out.1.sl
      rw [List.take_length] at hsl
      have hvr:Below P v1 wr:=HW.out.2.1.trans HI.out.1.below
      rw [← hP] at hvr
      have hL:(shiftBs ss n k).length=ss.length:=by rw [shiftBs_map];simp
      rw [shiftB,if_neg hv]
      refine ask_new (.inr hwP) HI.out.2.1 ?_ (Rep.below hvr (fun _ h=>h) HR0'.out) (Rep.below hvr (fun _ h=>h) HR1.out)
      rw [hL]
      exact hsl.weak fun i h=>by rcases h with h | h;exact .inl h.1;exact .inr (by omega)
theorem raised_any (N:Nat):RaSaid N:=by
 induction N with
 | zero=>exact fun F b n k bv w h=>by have:=sizeB_pos b;omega
 | succ N ih=>exact ra_step N ih
end Go.Proofs.YtapjaflnmklmeaaGreatDoor

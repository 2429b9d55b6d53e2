/- Walks of functions that the statement reaches, and plain words. No conditions. -/
import Derived.Test.YtdfkiicodfbibaaGreatDoorQ7
set_option linter.unusedVariables false
set_option linter.unusedSimpArgs false
set_option maxHeartbeats 8000000
namespace Go.Proofs.YtdfkiicodfbibaaGreatDoor
open Go.RowKit
theorem boxes_4 (w:World) (A B C D:Obj):∃ W,(((w.alloc A).alloc B).alloc C).alloc D=W/\Below w.heap.size w W/\W.heap.size=w.heap.size+4/\W.heap[w.heap.size]? = some A/\W.heap[w.heap.size+1]? = some B/\W.heap[w.heap.size+2]? = some C/\W.heap[w.heap.size+3]? = some D:=by
 obtain ⟨X,hX,hbX,hz,x0,x1⟩:=boxes_2 w A B
 obtain ⟨Y,hY,hbY,hz2,y0,y1⟩:=boxes_2 X C D
 rw [hX,hY]
 have hl:=hbX.size
 refine ⟨Y,rfl,hbX.trans (hbY.mono hl),by omega,(hbY.block _ (lt_of_heap x0)).trans x0,(hbY.block _ (lt_of_heap x1)).trans x1,?_,?_⟩
 ·rw [<- hz];exact y0
 ·rw [show w.heap.size+3=X.heap.size+1 from by omega];exact y1
def BegP (s:Bs) (v:Int) (a2:Option Addr) (n2 c2:Nat) (a3:Option Addr) (n3 c3:Nat) (begun args:List Nat) (n idx:Nat) (w:World) (en:Ending) (w':World):Prop :=
 ∃ ba bc aa ac,en=.returned (.agg #[str s,.int .i64 v,.slice a2 n2 c2,.slice a3 n3 c3,.slice ba (begun.length+n) bc,.slice aa (args.length+n) ac,.int .i64 (idx:Nat)])/\Below w.heap.size w w' /\
   Rep (w.heap.size<=·) w' (numD (begun++List.replicate n idx)) (.slice ba (begun.length+n) bc)/\Rep (w.heap.size<=·) w' (numD (args++List.range n)) (.slice aa (args.length+n) ac)
def intsV (ns:List Nat):List Value:=ns.map fun n=>Value.int .i64 (n:Nat)
theorem Own.numD {F:Nat->Prop} {w:World} {ns:List Nat} {a:Option Addr} {n c:Nat} (h:Own w 3 1 (.slice a n c) n (intsV ns)) (hn:n=ns.length) (hF:∀ g,(Value.slice a n c).ownBlock=some g->F g):Rep F w (numD ns) (.slice a n c):=by
 subst hn
 refine h.rep hF ?_
 rw [show (ns.map fun n=>DV.val (.int .i64 (n:Nat)))=(intsV ns).map DV.val from by simp [intsV,Function.comp_def]]
 exact (Reps_vals _ _).2 rfl
theorem cells7_set4 {w:World} {b:Nat} {x0 x1 x2 x3 x4 x5 x6:Value} {T:TypeId} (h:w.heap[b]? = some (.cells #[x0,x1,x2,x3,x4,x5,x6] T (0,0))) (u:Value):(w.setCell ⟨b,4,none⟩ u).heap[b]? = some (.cells #[x0,x1,x2,x3,u,x5,x6] T (0,0)):=by rw [setCell_at' h];rfl
theorem cells7_set5 {w:World} {b:Nat} {x0 x1 x2 x3 x4 x5 x6:Value} {T:TypeId} (h:w.heap[b]? = some (.cells #[x0,x1,x2,x3,x4,x5,x6] T (0,0))) (u:Value):(w.setCell ⟨b,5,none⟩ u).heap[b]? = some (.cells #[x0,x1,x2,x3,x4,u,x6] T (0,0)):=by rw [setCell_at' h];rfl
theorem set_seven {w:World} {b:Nat} {x0 x1 x2 x3 x4 x5 x6:Value} {T:TypeId} (h:w.heap[b]? = some (.cells #[x0,x1,x2,x3,x4,x5,x6] T (0,0))) (y0 y1 y2 y3 y4 y5 y6:Value) :
 (((((((w.setCell ⟨b,0,none⟩ y0).setCell ⟨b,1,none⟩ y1).setCell ⟨b,2,none⟩ y2).setCell ⟨b,3,none⟩ y3).setCell ⟨b,4,none⟩ y4).setCell ⟨b,5,none⟩ y5).setCell ⟨b,6,none⟩ y6).heap[b]? = some (.cells #[y0,y1,y2,y3,y4,y5,y6] T (0,0)):=by
 rw [setCell_at' (setCell_at' (setCell_at' (setCell_at' (setCell_at' (setCell_at' (setCell_at' h))))))];rfl
structure BegI (g:Nat) (s:Bs) (v:Int) (a2:Option Addr) (n2 c2:Nat) (a3:Option Addr) (n3 c3:Nat) (nb na:Nat) (xs ys:List Nat) (idx:Nat) (k:Nat) (a5:Option Addr) (c5:Nat) (a6:Option Addr) (c6:Nat) (w wr:World):Prop where
 below:Below w.heap.size w wr
 box:wr.heap[g]? = some (.cells #[str s,.int .i64 v,.slice a2 n2 c2,.slice a3 n3 c3,.slice a5 (nb+k) c5,.slice a6 (na+k) c6,.int .i64 (idx:Nat)] 177 (0,0))
 o5:Own wr 3 1 (.slice a5 (nb+k) c5) (nb+k) (intsV xs++List.replicate k (.int .i64 (idx:Nat)))
 o6:Own wr 3 1 (.slice a6 (na+k) c6) (na+k) (intsV ys++intsV (List.range k))
 gw:w.heap.size<=g
 f5:∀ i,(Value.slice a5 (nb+k) c5).ownBlock=some i->w.heap.size<=i/\i≠g
 f6:∀ i,(Value.slice a6 (na+k) c6).ownBlock=some i->w.heap.size<=i/\i≠g
 ap:∀ i,(Value.slice a5 (nb+k) c5).ownBlock=some i->(Value.slice a6 (na+k) c6).ownBlock≠some i
theorem BegI.half {g:Nat} {s:Bs} {v:Int} {a2:Option Addr} {n2 c2:Nat} {a3:Option Addr} {n3 c3:Nat} {nb na:Nat} {xs ys:List Nat} {idx k:Nat} {a5:Option Addr} {c5:Nat} {a6:Option Addr} {c6:Nat} {w wr:World} (h:BegI g s v a2 n2 c2 a3 n3 c3 nb na xs ys idx k a5 c5 a6 c6 w wr)
 {a7:Option Addr} {c7:Nat} {w7:World} {o:Obj} (ho:Own w7 3 1 (.slice a7 (nb+k+1) c7) (nb+k+1) (intsV xs++List.replicate k (.int .i64 (idx:Nat))++[.int .i64 (idx:Nat)])) (hb:But (fun b=>(Value.slice a5 (nb+k) c5).ownBlock=some b) (wr.alloc o) w7)
 (hg:∀ i,(Value.slice a7 (nb+k+1) c7).ownBlock=some i->(Value.slice a5 (nb+k) c5).ownBlock=some i\/i=wr.heap.size+1) :
 ∃ W7,w7.setCell ⟨g,4,none⟩ (.slice a7 (nb+k+1) c7)=W7/\Below w.heap.size w W7/\W7.heap[g]? = some (.cells #[str s,.int .i64 v,.slice a2 n2 c2,.slice a3 n3 c3,.slice a7 (nb+k+1) c7,.slice a6 (na+k) c6,.int .i64 (idx:Nat)] 177 (0,0)) /\
   Own W7 3 1 (.slice a7 (nb+k+1) c7) (nb+k+1) (intsV xs++List.replicate (k+1) (.int .i64 (idx:Nat)))/\Own W7 3 1 (.slice a6 (na+k) c6) (na+k) (intsV ys++intsV (List.range k)) /\
   (∀ i,(Value.slice a7 (nb+k+1) c7).ownBlock=some i->w.heap.size<=i/\i≠g)/\(∀ i,(Value.slice a7 (nb+k+1) c7).ownBlock=some i->(Value.slice a6 (na+k) c6).ownBlock≠some i):=by
 have hz:=h.below.size
 have hgl:=lt_of_heap h.box
 have hlt6:∀ i,(Value.slice a6 (na+k) c6).ownBlock=some i->i<wr.heap.size:=fun i hi=>h.o6.lt hi
 have hlt5:∀ i,(Value.slice a5 (nb+k) c5).ownBlock=some i->i<wr.heap.size:=fun i hi=>h.o5.lt hi
 have hf7:∀ i,(Value.slice a7 (nb+k+1) c7).ownBlock=some i->w.heap.size<=i/\i≠g:=fun i hi=>by
  rcases hg i hi with e | e
  ·exact h.f5 i e
  ·omega
 have hbox7:w7.heap[g]? = some (.cells #[str s,.int .i64 v,.slice a2 n2 c2,.slice a3 n3 c3,.slice a5 (nb+k) c5,.slice a6 (na+k) c6,.int .i64 (idx:Nat)] 177 (0,0)) :=
  (hb.block g (by rw [size_alloc];omega) (fun e=>(h.f5 g e).2 rfl)).trans (heap_past h.box)
 refine ⟨_,rfl,?_,cells7_set4 hbox7 _,?_,?_,hf7,fun i hi=>?_⟩
 ·exact ((h.below.alloc hz o).trans (hb.toBelow (by rw [size_alloc];omega) fun i hi e=>by have:=(h.f5 i e).1;omega)).setCell (p:=⟨g,4,none⟩) h.gw _
 ·rw [List.append_assoc] at ho
  rw [List.replicate_succ']
  exact ho.keep fun i x hi hx=>by rw [Below.heap_setCell _ _ _ _ (by show i≠g;exact (hf7 i hi).2)];exact hx
 ·exact h.o6.keep fun i x hi hx=>by
   rw [Below.heap_setCell _ _ _ _ (by show i≠g;exact (h.f6 i hi).2),hb.block i (by rw [size_alloc];have:=hlt6 i hi;omega) (fun e=>h.ap i e hi)];exact heap_past hx
 ·rcases hg i hi with e | e
  ·exact h.ap i e
  ·intro e6;have:=hlt6 i e6;omega
theorem BegI.next {g:Nat} {s:Bs} {v:Int} {a2:Option Addr} {n2 c2:Nat} {a3:Option Addr} {n3 c3:Nat} {nb na:Nat} {xs ys:List Nat} {idx k:Nat} {a7:Option Addr} {c7:Nat} {a6:Option Addr} {c6:Nat} {w wr:World} (hbl:Below w.heap.size w wr) (hgw:w.heap.size<=g)
 (hbox:wr.heap[g]? = some (.cells #[str s,.int .i64 v,.slice a2 n2 c2,.slice a3 n3 c3,.slice a7 (nb+k+1) c7,.slice a6 (na+k) c6,.int .i64 (idx:Nat)] 177 (0,0)))
 (o5:Own wr 3 1 (.slice a7 (nb+k+1) c7) (nb+k+1) (intsV xs++List.replicate (k+1) (.int .i64 (idx:Nat)))) (o6:Own wr 3 1 (.slice a6 (na+k) c6) (na+k) (intsV ys++intsV (List.range k)))
 (f5:∀ i,(Value.slice a7 (nb+k+1) c7).ownBlock=some i->w.heap.size<=i/\i≠g) (f6:∀ i,(Value.slice a6 (na+k) c6).ownBlock=some i->w.heap.size<=i/\i≠g) (ap:∀ i,(Value.slice a7 (nb+k+1) c7).ownBlock=some i->(Value.slice a6 (na+k) c6).ownBlock≠some i)
 {a8:Option Addr} {c8:Nat} {w8:World} {o:Obj} (ho:Own w8 3 1 (.slice a8 (na+k+1) c8) (na+k+1) (intsV ys++intsV (List.range k)++[.int .i64 (k:Nat)])) (hb:But (fun b=>(Value.slice a6 (na+k) c6).ownBlock=some b) (wr.alloc o) w8)
 (hg:∀ i,(Value.slice a8 (na+k+1) c8).ownBlock=some i->(Value.slice a6 (na+k) c6).ownBlock=some i\/i=wr.heap.size+1) :
 BegI g s v a2 n2 c2 a3 n3 c3 nb na xs ys idx (k+1) a7 c7 a8 c8 w (w8.setCell ⟨g,5,none⟩ (.slice a8 (na+k+1) c8)):=by
 have hz:=hbl.size
 have hgl:=lt_of_heap hbox
 have hlt7:∀ i,(Value.slice a7 (nb+k+1) c7).ownBlock=some i->i<wr.heap.size:=fun i hi=>o5.lt hi
 have hf8:∀ i,(Value.slice a8 (na+k+1) c8).ownBlock=some i->w.heap.size<=i/\i≠g:=fun i hi=>by
  rcases hg i hi with e | e
  ·exact f6 i e
  ·omega
 have hbox8:w8.heap[g]? = some (.cells #[str s,.int .i64 v,.slice a2 n2 c2,.slice a3 n3 c3,.slice a7 (nb+k+1) c7,.slice a6 (na+k) c6,.int .i64 (idx:Nat)] 177 (0,0)) :=
  (hb.block g (by rw [size_alloc];omega) (fun e=>(f6 g e).2 rfl)).trans (heap_past hbox)
 refine ⟨?_,cells7_set5 hbox8 _,?_,?_,hgw,f5,hf8,fun i hi e8=>?_⟩
 ·exact ((hbl.alloc hz o).trans (hb.toBelow (by rw [size_alloc];omega) fun i hi e=>by have:=(f6 i e).1;omega)).setCell (p:=⟨g,5,none⟩) hgw _
 ·exact o5.keep fun i x hi hx=>by
   rw [Below.heap_setCell _ _ _ _ (by show i≠g;exact (f5 i hi).2),hb.block i (by rw [size_alloc];have:=hlt7 i hi;omega) (fun e=>ap i hi e)];exact heap_past hx
 ·have e:intsV ys++intsV (List.range (k+1))=intsV ys++intsV (List.range k)++[.int .i64 (k:Nat)]:=by simp [intsV,List.range_succ]
  rw [e]
  exact ho.keep fun i x hi hx=>by rw [Below.heap_setCell _ _ _ _ (by show i≠g;exact (hf8 i hi).2)];exact hx
 ·rcases hg i e8 with e | e
  ·exact ap i hi e
  ·have:=hlt7 i hi;omega
set_option maxRecDepth 100000 in
theorem l3Begin_any (F:Nat->Prop) (begun args:List Nat) (s0:Bs) (v0:Int) (p2:Option Addr) (m2 d2:Nat) (p3:Option Addr) (m3 d3:Nat) (ba:Option Addr) (bc:Nat) (aa:Option Addr) (ac:Nat) (op:Int) (s:Bs) (v:Int) (a2:Option Addr) (n2 c2:Nat) (a3:Option Addr) (n3 c3:Nat) (t:Ty) (tv:Value) (idx:Nat) (w:World)
 (hbg:Rep F w (numD begun) (.slice ba begun.length bc)) (har:Rep F w (numD args) (.slice aa args.length ac)) (ht:Rep F w (encS t) tv) (h15:t.args.length<=20) (hl1:begun.length<=1000) (hl2:args.length<=1000) :
 Calls Tryz.prog 173 #[.agg #[str s0,.int .i64 v0,.slice p2 m2 d2,.slice p3 m3 d3,.slice ba begun.length bc,.slice aa args.length ac,.int .i64 op],.agg #[str s,.int .i64 v,.slice a2 n2 c2,.slice a3 n3 c3],.agg #[tv],.int .i64 (idx:Nat)] w (BegP s v a2 n2 c2 a3 n3 c3 begun args t.args.length idx w):=by
 obtain ⟨ta,tc,rfl⟩:=encS_slice ht
 obtain ⟨W,hW,hbW,hz,b0,b1,b2,b3⟩:=boxes_4 w (.cells #[str s0,.int .i64 v0,.slice p2 m2 d2,.slice p3 m3 d3,.slice ba begun.length bc,.slice aa args.length ac,.int .i64 op] 177) (.cells #[str s,.int .i64 v,.slice a2 n2 c2,.slice a3 n3 c3] 81) (.cells #[.slice ta t.args.length tc] 78) (.cells #[str [],.int .i64 0,.slice none 0 0,.slice none 0 0,.slice none 0 0,.slice none 0 0,.int .i64 0] 177)
 have SB:=Lib.hid (fun x (hx:Below W.heap.size W x)=>((numD_src hbg).below hbW).below hx)
 have SA:=Lib.hid (fun x (hx:Below W.heap.size W x)=>((numD_src har).below hbW).below hx)
 have KEY:Hid (∀ x,Below W.heap.size W x->x.cell? ⟨w.heap.size,4,none⟩=some (.slice ba begun.length bc)/\x.cell? ⟨w.heap.size,5,none⟩=some (.slice aa args.length ac)/\x.cell? ⟨w.heap.size+1,0,none⟩=some (str s)/\x.cell? ⟨w.heap.size+1,1,none⟩=some (.int .i64 v)/\x.cell? ⟨w.heap.size+1,2,none⟩=some (.slice a2 n2 c2)/\x.cell? ⟨w.heap.size+1,3,none⟩=some (.slice a3 n3 c3)/\x.cell? ⟨w.heap.size+2,0,none⟩=some (.slice ta t.args.length tc)):=Lib.hid (fun x hx=>by
  obtain ⟨_,_,_,_,k4,k5,_⟩:=cells_7 b0
  obtain ⟨k0,k1,k2,k3⟩:=cells_4 b1
  have k6:=one_cell b2
  exact ⟨(hx.cell (World.block_lt_of_cell? _ _ k4)).trans k4,(hx.cell (World.block_lt_of_cell? _ _ k5)).trans k5,(hx.cell (World.block_lt_of_cell? _ _ k0)).trans k0,(hx.cell (World.block_lt_of_cell? _ _ k1)).trans k1,(hx.cell (World.block_lt_of_cell? _ _ k2)).trans k2,(hx.cell (World.block_lt_of_cell? _ _ k3)).trans k3,(hx.cell (World.block_lt_of_cell? _ _ k6)).trans k6⟩)
 have HW:=Lib.hid (And.intro hW (And.intro hbW (And.intro hz b3)))
 clear hW hbW hz b0 b1 b2 b3 hbg har ht
 go_enter Tryz.func173,Tryz.ntmps173
 go_upto_region 1 with (fail)
 rw [HW.out.1]
 refine cut_code (X:=Nat×Nat×Nat×Option Addr×Nat×Option Addr×Nat) (fun zz x=>((((((((((((zz.put (some 11) (.agg #[str s,.int .i64 v,.slice a2 n2 c2,.slice a3 n3 c3])).put (some 12) (.slice (some ⟨x.1,0,none⟩) 0 0)).put (some 13) (.pointer (some ⟨w.heap.size,4,none⟩))).put (some 14) (.slice ba begun.length bc)).put (some 15) (.slice x.2.2.2.1 begun.length x.2.2.2.2.1)).put (some 16) (.slice (some ⟨x.2.1,0,none⟩) 0 0)).put (some 17) (.pointer (some ⟨w.heap.size,5,none⟩))).put (some 18) (.slice aa args.length ac)).put (some 19) (.slice x.2.2.2.2.2.1 args.length x.2.2.2.2.2.2)).put (some 20) (.int .i64 (idx:Nat))).put (some 21) (.agg #[str s,.int .i64 v,.slice a2 n2 c2,.slice a3 n3 c3,.slice x.2.2.2.1 begun.length x.2.2.2.2.1,.slice x.2.2.2.2.2.1 args.length x.2.2.2.2.2.2,.int .i64 (idx:Nat)])).put (some 9) (.pointer (some ⟨x.2.2.1,0,none⟩)))) (fun x w7=>BegI x.2.2.1 s v a2 n2 c2 a3 n3 c3 begun.length args.length begun args idx 0 x.2.2.2.1 x.2.2.2.2.1 x.2.2.2.2.2.1 x.2.2.2.2.2.2 W w7) ?_ ?_
 ·refine wp_region_noPanic ?_
  refine wp_region_S (fun w'=>Below W.heap.size W w') (fun _=>false) (by kernel_rfl) ?_
  obtain ⟨y0,hy0⟩:=zzN (W.drew)
  rw [hy0]
  have hBy0:Below W.heap.size W y0:=by rw [<- hy0];exact Below.drew (Below.refl _ _)
  obtain ⟨tg0,htg0⟩:∃ x:Nat->Nat,x=fun _=>0:=⟨_,rfl⟩
  clear hy0 htg0
  refine wpAnyS_take 0 (v:=?_) (by kernel_rfl) (by kernel_rfl) (by kernel_rfl) (by kernel_rfl) (fun _ _ _ _ h=>h) hBy0 ?_ ?_
  rotate_left
  ·(intro oi ho;simp at ho;subst ho;refine Or.inl ⟨by rfl,fun w' hw'=>?_⟩;obtain ⟨e0,e1,e2,e3,e4,e5,e6⟩:=KEY.out w' hw';go_simp;try with_reducible rfl)
  (intro d hd;simp at hd;subst hd;simp only [Act.put,List.setIfInBounds_toArray,List.set_cons_zero,List.set_cons_succ])
  refine wpAnyS_take 2 (v:=?_) (by kernel_rfl) (by kernel_rfl) (by kernel_rfl) (by kernel_rfl) (fun _ _ _ _ h=>h) hBy0 ?_ ?_
  rotate_left
  ·(intro oi ho;simp at ho;subst ho;refine Or.inl ⟨by rfl,fun w' hw'=>?_⟩;go_simp;try with_reducible rfl)
  (intro d hd;simp at hd;subst hd;simp only [Act.put,List.setIfInBounds_toArray,List.set_cons_zero,List.set_cons_succ])
  refine wpAnyS_take 3 (v:=?_) (by kernel_rfl) (by kernel_rfl) (by kernel_rfl) (by kernel_rfl) (fun _ _ _ _ h=>h) hBy0 ?_ ?_
  rotate_left
  ·(intro oi ho;simp at ho;subst ho;refine Or.inl ⟨by rfl,fun w' hw'=>?_⟩;obtain ⟨e0,e1,e2,e3,e4,e5,e6⟩:=KEY.out w' hw';go_simp;try with_reducible rfl)
  (intro d hd;simp at hd;subst hd;simp only [Act.put,List.setIfInBounds_toArray,List.set_cons_zero,List.set_cons_succ])
  refine wpAnyS_take 6 (v:=?_) (by kernel_rfl) (by kernel_rfl) (by kernel_rfl) (by kernel_rfl) (fun _ _ _ _ h=>h) hBy0 ?_ ?_
  rotate_left
  ·(intro oi ho;simp at ho;subst ho;refine Or.inl ⟨by rfl,fun w' hw'=>?_⟩;go_simp;try with_reducible rfl)
  (intro d hd;simp at hd;subst hd;simp only [Act.put,List.setIfInBounds_toArray,List.set_cons_zero,List.set_cons_succ])
  refine wpAnyS_take 7 (v:=?_) (by kernel_rfl) (by kernel_rfl) (by kernel_rfl) (by kernel_rfl) (fun _ _ _ _ h=>h) hBy0 ?_ ?_
  rotate_left
  ·(intro oi ho;simp at ho;subst ho;refine Or.inl ⟨by rfl,fun w' hw'=>?_⟩;obtain ⟨e0,e1,e2,e3,e4,e5,e6⟩:=KEY.out w' hw';go_simp;try with_reducible rfl)
  (intro d hd;simp at hd;subst hd;simp only [Act.put,List.setIfInBounds_toArray,List.set_cons_zero,List.set_cons_succ])
  refine wpAnyS_take 9 (v:=?_) (by kernel_rfl) (by kernel_rfl) (by kernel_rfl) (by kernel_rfl) (fun _ _ _ _ h=>h) hBy0 ?_ ?_
  rotate_left
  ·(intro oi ho;simp at ho;subst ho;refine Or.inl ⟨by rfl,fun w' hw'=>?_⟩;go_simp;try with_reducible rfl)
  (intro d hd;simp at hd;subst hd;simp only [Act.put,List.setIfInBounds_toArray,List.set_cons_zero,List.set_cons_succ])
  refine wpAnyS_three 1 5 11 (by kernel_rfl) ?_ ?_ ?_
  ·(intro o1 ho K' hK;simp at ho;subst ho)
   go_simp
   refine hK.out _ _ (fun _=>?_) ?_
   ·exact hBy0.alloc hBy0.size _
   clear hK K'
   (try simp only [Act.put,List.setIfInBounds_toArray,List.set_cons_zero,List.set_cons_succ])
   obtain ⟨y1,hnew⟩:=zzN (y0.alloc (.cells #[] 3))
   obtain ⟨gA,hgA⟩:=zzN (y0.heap.size)
   rw [hnew,hgA]
   have hBy1:Below W.heap.size W y1:=by rw [<- hnew];exact hBy0.alloc hBy0.size _
   obtain ⟨tg1,htg⟩:=zzN (retag tg0 gA 1)
   have RA:Hid (Res W.heap.size tg1 1 y1 3 (.slice (some ⟨gA,0,none⟩) 0 0) 0 []):=by rw [<- hnew,<- htg,<- hgA];exact Res.lit tg0 1 hBy0.size 3 #[] 0 (by unfold maxLen;omega) rfl
   clear hnew hgA htg
   refine wpAnyS_three 4 5 11 (by kernel_rfl) ?_ ?_ ?_
   ·(intro o4 ho K' hK;simp at ho;subst ho)
    refine step_append_gen (by rfl) _ _ _ (by rfl) 3 (.int .i64 0) 1 8 Tryz.underlying31 Tryz.infoInt2 rfl (by decide) (.slice (some ⟨gA,0,none⟩) 0 0) 0 [] (by rfl) RA.out.1 _ begun.length (intsV begun) (by rfl) (SB.out y1 hBy1) (by unfold maxLen;omega) (by omega) ?_
    intro aA cA y2 hoA hbA hgA
    simp only [Nat.zero_add,List.nil_append] at hoA hgA ⊢
    have hBy2:Below W.heap.size W y2:=hBy1.trans (hbA.toBelow hBy1.size fun i hi e=>by have:=(RA.out.2 i e).2;omega)
    refine hK.out _ _ (fun _=>?_) ?_
    ·exact hBy2
    clear hK K'
    (try simp only [Act.put,List.setIfInBounds_toArray,List.set_cons_zero,List.set_cons_succ])
    obtain ⟨tg2,htg⟩:=zzN (retag tg1 y1.heap.size 1)
    have RA:Hid (Res W.heap.size tg2 1 y2 3 (.slice aA (begun.length) cA) (begun.length) (intsV begun)):=by rw [<- htg];exact RA.out.app hBy1.size hoA hgA
    clear hoA hbA hgA htg
    refine wpAnyS_two 5 11 (by kernel_rfl) ?_ ?_
    ·(intro o5 ho K' hK;simp at ho;subst ho)
     go_simp
     refine hK.out _ _ (fun _=>?_) ?_
     ·exact hBy2.alloc hBy2.size _
     clear hK K'
     (try simp only [Act.put,List.setIfInBounds_toArray,List.set_cons_zero,List.set_cons_succ])
     obtain ⟨y3,hnew⟩:=zzN (y2.alloc (.cells #[] 3))
     obtain ⟨gB,hgB⟩:=zzN (y2.heap.size)
     rw [hnew,hgB]
     have hBy3:Below W.heap.size W y3:=by rw [<- hnew];exact hBy2.alloc hBy2.size _
     obtain ⟨tg3,htg⟩:=zzN (retag tg2 gB 2)
     have RA:Hid (Res W.heap.size tg3 1 y3 3 (.slice aA (begun.length) cA) begun.length (intsV begun)):=by rw [<- hnew,<- htg,<- hgB];exact RA.out.alloc _ 2
     have RB:Hid (Res W.heap.size tg3 2 y3 3 (.slice (some ⟨gB,0,none⟩) 0 0) 0 []):=by rw [<- hnew,<- htg,<- hgB];exact Res.lit tg2 2 hBy2.size 3 #[] 0 (by unfold maxLen;omega) rfl
     clear hnew hgB htg
     refine wpAnyS_two 8 11 (by kernel_rfl) ?_ ?_
     ·(intro o8 ho K' hK;simp at ho;subst ho)
      refine step_append_gen (by rfl) _ _ _ (by rfl) 3 (.int .i64 0) 1 8 Tryz.underlying31 Tryz.infoInt2 rfl (by decide) (.slice (some ⟨gB,0,none⟩) 0 0) 0 [] (by rfl) RB.out.1 _ args.length (intsV args) (by rfl) (SA.out y3 hBy3) (by unfold maxLen;omega) (by omega) ?_
      intro aB cB y4 hoB hbB hgB
      simp only [Nat.zero_add,List.nil_append] at hoB hgB ⊢
      have hBy4:Below W.heap.size W y4:=hBy3.trans (hbB.toBelow hBy3.size fun i hi e=>by have:=(RB.out.2 i e).2;omega)
      refine hK.out _ _ (fun _=>?_) ?_
      ·exact hBy4
      clear hK K'
      (try simp only [Act.put,List.setIfInBounds_toArray,List.set_cons_zero,List.set_cons_succ])
      obtain ⟨tg4,htg⟩:=zzN (retag tg3 y3.heap.size 2)
      have RA:Hid (Res W.heap.size tg4 1 y4 3 (.slice aA (begun.length) cA) begun.length (intsV begun)):=by rw [<- htg];exact RA.out.but hbB (fun g hg=>by rw [(RB.out.2 g hg).1];decide) 2
      have RB:Hid (Res W.heap.size tg4 2 y4 3 (.slice aB (args.length) cB) (args.length) (intsV args)):=by rw [<- htg];exact RB.out.app hBy3.size hoB hgB
      clear hoB hbB hgB htg
      refine wpAnyS_take 10 (v:=?_) (by kernel_rfl) (by kernel_rfl) (by kernel_rfl) (by kernel_rfl) (fun _ _ _ _ h=>h) hBy4 ?_ ?_
      rotate_left
      ·(intro oi ho;simp at ho;subst ho;refine Or.inl ⟨by rfl,fun w' hw'=>?_⟩;go_simp;try with_reducible rfl)
      (intro d hd;simp at hd;subst hd;simp only [Act.put,List.setIfInBounds_toArray,List.set_cons_zero,List.set_cons_succ])
      refine wpAnyS_one 11 (by kernel_rfl) ?_
      (intro o11 ho K' hK;simp at ho;subst ho)
      go_simp
      refine hK.out _ _ (fun _=>?_) ?_
      ·exact hBy4.alloc hBy4.size _
      clear hK K'
      (try simp only [Act.put,List.setIfInBounds_toArray,List.set_cons_zero,List.set_cons_succ])
      obtain ⟨y5,hnew⟩:=zzN (y4.alloc (.cells #[str [],.int .i64 0,.slice none 0 0,.slice none 0 0,.slice none 0 0,.slice none 0 0,.int .i64 0] 177))
      obtain ⟨gP,hgP⟩:=zzN (y4.heap.size)
      rw [hnew,hgP]
      have hBy5:Below W.heap.size W y5:=by rw [<- hnew];exact hBy4.alloc hBy4.size _
      obtain ⟨tg5,htg⟩:=zzN (retag tg4 gP 3)
      have RA:Hid (Res W.heap.size tg5 1 y5 3 (.slice aA (begun.length) cA) begun.length (intsV begun)):=by rw [<- hnew,<- htg,<- hgP];exact RA.out.alloc _ 3
      have RB:Hid (Res W.heap.size tg5 2 y5 3 (.slice aB (args.length) cB) args.length (intsV args)):=by rw [<- hnew,<- htg,<- hgP];exact RB.out.alloc _ 3
      have EP:Hid (y5.heap[gP]? = some (.cells #[str [],.int .i64 0,.slice none 0 0,.slice none 0 0,.slice none 0 0,.slice none 0 0,.int .i64 0] 177 (0,0))/\tg5 gP=3/\W.heap.size<=gP):=by rw [<- hnew,<- htg,<- hgP];exact ⟨heap_new _ _,by unfold retag;rw [if_pos rfl],hBy4.size⟩
      clear hnew hgP htg
      refine wpAnyS_one 12 (by kernel_rfl) ?_
      (intro o12 ho K' hK;simp at ho;subst ho)
      obtain ⟨uP0,cP0⟩:∃ u,y5.cell? ⟨gP,0,none⟩=some u:=⟨_,by simp [World.cell?,EP.out.1];rfl⟩
      have fP0:y5.frozen? ⟨gP,0,none⟩=false:=by simp [World.frozen?,EP.out.1]
      obtain ⟨uP1,cP1⟩:∃ u,y5.cell? ⟨gP,1,none⟩=some u:=⟨_,by simp [World.cell?,EP.out.1];rfl⟩
      have fP1:y5.frozen? ⟨gP,1,none⟩=false:=by simp [World.frozen?,EP.out.1]
      obtain ⟨uP2,cP2⟩:∃ u,y5.cell? ⟨gP,2,none⟩=some u:=⟨_,by simp [World.cell?,EP.out.1];rfl⟩
      have fP2:y5.frozen? ⟨gP,2,none⟩=false:=by simp [World.frozen?,EP.out.1]
      obtain ⟨uP3,cP3⟩:∃ u,y5.cell? ⟨gP,3,none⟩=some u:=⟨_,by simp [World.cell?,EP.out.1];rfl⟩
      have fP3:y5.frozen? ⟨gP,3,none⟩=false:=by simp [World.frozen?,EP.out.1]
      obtain ⟨uP4,cP4⟩:∃ u,y5.cell? ⟨gP,4,none⟩=some u:=⟨_,by simp [World.cell?,EP.out.1];rfl⟩
      have fP4:y5.frozen? ⟨gP,4,none⟩=false:=by simp [World.frozen?,EP.out.1]
      obtain ⟨uP5,cP5⟩:∃ u,y5.cell? ⟨gP,5,none⟩=some u:=⟨_,by simp [World.cell?,EP.out.1];rfl⟩
      have fP5:y5.frozen? ⟨gP,5,none⟩=false:=by simp [World.frozen?,EP.out.1]
      obtain ⟨uP6,cP6⟩:∃ u,y5.cell? ⟨gP,6,none⟩=some u:=⟨_,by simp [World.cell?,EP.out.1];rfl⟩
      have fP6:y5.frozen? ⟨gP,6,none⟩=false:=by simp [World.frozen?,EP.out.1]
      go_simp
      refine hK.out _ _ (fun _=>?_) ?_
      ·exact (((((((hBy5.setCell (p:=⟨gP,0,none⟩) EP.out.2.2 _).setCell (p:=⟨gP,1,none⟩) EP.out.2.2 _).setCell (p:=⟨gP,2,none⟩) EP.out.2.2 _).setCell (p:=⟨gP,3,none⟩) EP.out.2.2 _).setCell (p:=⟨gP,4,none⟩) EP.out.2.2 _).setCell (p:=⟨gP,5,none⟩) EP.out.2.2 _).setCell (p:=⟨gP,6,none⟩) EP.out.2.2 _)
      clear hK K'
      (try simp only [Act.put,List.setIfInBounds_toArray,List.set_cons_zero,List.set_cons_succ])
      obtain ⟨y6,hnew⟩:=zzN ((((((((y5.setCell ⟨gP,0,none⟩ (str s)).setCell ⟨gP,1,none⟩ (.int .i64 v)).setCell ⟨gP,2,none⟩ (.slice a2 n2 c2)).setCell ⟨gP,3,none⟩ (.slice a3 n3 c3)).setCell ⟨gP,4,none⟩ (.slice aA begun.length cA)).setCell ⟨gP,5,none⟩ (.slice aB args.length cB)).setCell ⟨gP,6,none⟩ (.int .i64 (idx:Nat))))
      rw [hnew]
      have hBy6:Below W.heap.size W y6:=by rw [<- hnew];exact (((((((hBy5.setCell (p:=⟨gP,0,none⟩) EP.out.2.2 _).setCell (p:=⟨gP,1,none⟩) EP.out.2.2 _).setCell (p:=⟨gP,2,none⟩) EP.out.2.2 _).setCell (p:=⟨gP,3,none⟩) EP.out.2.2 _).setCell (p:=⟨gP,4,none⟩) EP.out.2.2 _).setCell (p:=⟨gP,5,none⟩) EP.out.2.2 _).setCell (p:=⟨gP,6,none⟩) EP.out.2.2 _)
      have hbt:But (fun i=>i=gP) y5 y6:=by rw [<- hnew];exact ((((((((But.refl (fun i=>i=gP) y5).setCell (p:=⟨gP,0,none⟩) (.inl rfl) _).setCell (p:=⟨gP,1,none⟩) (.inl rfl) _).setCell (p:=⟨gP,2,none⟩) (.inl rfl) _).setCell (p:=⟨gP,3,none⟩) (.inl rfl) _).setCell (p:=⟨gP,4,none⟩) (.inl rfl) _).setCell (p:=⟨gP,5,none⟩) (.inl rfl) _).setCell (p:=⟨gP,6,none⟩) (.inl rfl) _)
      have htg:∀ g,g=gP->tg5 g=3:=fun g e=>by rw [e];exact EP.out.2.1
      have RA:Hid (Res W.heap.size tg5 1 y6 3 (.slice aA (begun.length) cA) begun.length (intsV begun)):=⟨RA.out.1.keep fun g o hg ho=>by rw [hbt.block g (lt_of_heap ho) (fun e=>by have:=(RA.out.2 g hg).1;rw [htg g e] at this;exact absurd this (by decide))];exact ho,RA.out.2⟩
      have RB:Hid (Res W.heap.size tg5 2 y6 3 (.slice aB (args.length) cB) args.length (intsV args)):=⟨RB.out.1.keep fun g o hg ho=>by rw [hbt.block g (lt_of_heap ho) (fun e=>by have:=(RB.out.2 g hg).1;rw [htg g e] at this;exact absurd this (by decide))];exact ho,RB.out.2⟩
      have EP:Hid (y6.heap[gP]? = some (.cells #[str s,.int .i64 v,.slice a2 n2 c2,.slice a3 n3 c3,.slice aA begun.length cA,.slice aB args.length cB,.int .i64 (idx:Nat)] 177 (0,0))/\tg5 gP=3/\W.heap.size<=gP):=⟨by rw [<- hnew];exact (setCell_at' (setCell_at' (setCell_at' (setCell_at' (setCell_at' (setCell_at' (setCell_at' EP.out.1))))))),EP.out.2⟩
      clear hnew hbt htg cP0 fP0 cP1 fP1 cP2 fP2 cP3 fP3 cP4 fP4 cP5 fP5 cP6 fP6
      refine wpAnyS_done (by kernel_rfl) (NoPanic.normal ?_) _
      refine ⟨rfl,⟨gA,gB,gP,aA,cA,aB,cB⟩,by rfl,?_⟩
      exact { below:=hBy6,box:=EP.out.1,o5:=by rw [List.replicate_zero,List.append_nil];exact RA.out.1,o6:=by rw [show intsV args++intsV (List.range 0)=intsV args from by simp [intsV]];exact RB.out.1,gw:=EP.out.2.2,f5:=fun i hi=>⟨(RA.out.2 i hi).2,fun e=>by have h1:=(RA.out.2 i hi).1;rw [e,EP.out.2.1] at h1;exact absurd h1 (by decide)⟩,f6:=fun i hi=>⟨(RB.out.2 i hi).2,fun e=>by have h1:=(RB.out.2 i hi).1;rw [e,EP.out.2.1] at h1;exact absurd h1 (by decide)⟩,ap:=fun i hi e=>by have h1:=(RA.out.2 i hi).1;have h2:=(RB.out.2 i e).1;rw [h1] at h2;exact absurd h2 (by decide) }
     ·(intro o11 ho K' hK;simp at ho;subst ho)
      go_simp
      refine hK.out _ _ (fun _=>?_) ?_
      ·exact hBy3.alloc hBy3.size _
      clear hK K'
      (try simp only [Act.put,List.setIfInBounds_toArray,List.set_cons_zero,List.set_cons_succ])
      obtain ⟨y7,hnew⟩:=zzN (y3.alloc (.cells #[str [],.int .i64 0,.slice none 0 0,.slice none 0 0,.slice none 0 0,.slice none 0 0,.int .i64 0] 177))
      obtain ⟨gP,hgP⟩:=zzN (y3.heap.size)
      rw [hnew,hgP]
      have hBy7:Below W.heap.size W y7:=by rw [<- hnew];exact hBy3.alloc hBy3.size _
      obtain ⟨tg7,htg⟩:=zzN (retag tg3 gP 3)
      have RA:Hid (Res W.heap.size tg7 1 y7 3 (.slice aA (begun.length) cA) begun.length (intsV begun)):=by rw [<- hnew,<- htg,<- hgP];exact RA.out.alloc _ 3
      have RB:Hid (Res W.heap.size tg7 2 y7 3 (.slice (some ⟨gB,0,none⟩) 0 0) 0 []):=by rw [<- hnew,<- htg,<- hgP];exact RB.out.alloc _ 3
      have EP:Hid (y7.heap[gP]? = some (.cells #[str [],.int .i64 0,.slice none 0 0,.slice none 0 0,.slice none 0 0,.slice none 0 0,.int .i64 0] 177 (0,0))/\tg7 gP=3/\W.heap.size<=gP):=by rw [<- hnew,<- htg,<- hgP];exact ⟨heap_new _ _,by unfold retag;rw [if_pos rfl],hBy3.size⟩
      clear hnew hgP htg
      refine wpAnyS_one 8 (by kernel_rfl) ?_
      (intro o8 ho K' hK;simp at ho;subst ho)
      refine step_append_gen (by rfl) _ _ _ (by rfl) 3 (.int .i64 0) 1 8 Tryz.underlying31 Tryz.infoInt2 rfl (by decide) (.slice (some ⟨gB,0,none⟩) 0 0) 0 [] (by rfl) RB.out.1 _ args.length (intsV args) (by rfl) (SA.out y7 hBy7) (by unfold maxLen;omega) (by omega) ?_
      intro aB cB y8 hoB hbB hgB
      simp only [Nat.zero_add,List.nil_append] at hoB hgB ⊢
      have hBy8:Below W.heap.size W y8:=hBy7.trans (hbB.toBelow hBy7.size fun i hi e=>by have:=(RB.out.2 i e).2;omega)
      refine hK.out _ _ (fun _=>?_) ?_
      ·exact hBy8
      clear hK K'
      (try simp only [Act.put,List.setIfInBounds_toArray,List.set_cons_zero,List.set_cons_succ])
      obtain ⟨tg8,htg⟩:=zzN (retag tg7 y7.heap.size 2)
      have RA:Hid (Res W.heap.size tg8 1 y8 3 (.slice aA (begun.length) cA) begun.length (intsV begun)):=by rw [<- htg];exact RA.out.but hbB (fun g hg=>by rw [(RB.out.2 g hg).1];decide) 2
      have EP:Hid (y8.heap[gP]? = some (.cells #[str [],.int .i64 0,.slice none 0 0,.slice none 0 0,.slice none 0 0,.slice none 0 0,.int .i64 0] 177 (0,0))/\tg8 gP=3/\W.heap.size<=gP):=by rw [<- htg];exact ⟨(hbB.block _ (lt_of_heap EP.out.1) (fun e=>by have:=(RB.out.2 _ e).1;rw [EP.out.2.1] at this;exact absurd this (by decide))).trans EP.out.1,by unfold retag;rw [if_neg (by have:=lt_of_heap EP.out.1;omega)];exact EP.out.2.1,EP.out.2.2⟩
      have RB:Hid (Res W.heap.size tg8 2 y8 3 (.slice aB (args.length) cB) (args.length) (intsV args)):=by rw [<- htg];exact RB.out.app hBy7.size hoB hgB
      clear hoB hbB hgB htg
      refine wpAnyS_take 10 (v:=?_) (by kernel_rfl) (by kernel_rfl) (by kernel_rfl) (by kernel_rfl) (fun _ _ _ _ h=>h) hBy8 ?_ ?_
      rotate_left
      ·(intro oi ho;simp at ho;subst ho;refine Or.inl ⟨by rfl,fun w' hw'=>?_⟩;go_simp;try with_reducible rfl)
      (intro d hd;simp at hd;subst hd;simp only [Act.put,List.setIfInBounds_toArray,List.set_cons_zero,List.set_cons_succ])
      refine wpAnyS_one 12 (by kernel_rfl) ?_
      (intro o12 ho K' hK;simp at ho;subst ho)
      obtain ⟨uP0,cP0⟩:∃ u,y8.cell? ⟨gP,0,none⟩=some u:=⟨_,by simp [World.cell?,EP.out.1];rfl⟩
      have fP0:y8.frozen? ⟨gP,0,none⟩=false:=by simp [World.frozen?,EP.out.1]
      obtain ⟨uP1,cP1⟩:∃ u,y8.cell? ⟨gP,1,none⟩=some u:=⟨_,by simp [World.cell?,EP.out.1];rfl⟩
      have fP1:y8.frozen? ⟨gP,1,none⟩=false:=by simp [World.frozen?,EP.out.1]
      obtain ⟨uP2,cP2⟩:∃ u,y8.cell? ⟨gP,2,none⟩=some u:=⟨_,by simp [World.cell?,EP.out.1];rfl⟩
      have fP2:y8.frozen? ⟨gP,2,none⟩=false:=by simp [World.frozen?,EP.out.1]
      obtain ⟨uP3,cP3⟩:∃ u,y8.cell? ⟨gP,3,none⟩=some u:=⟨_,by simp [World.cell?,EP.out.1];rfl⟩
      have fP3:y8.frozen? ⟨gP,3,none⟩=false:=by simp [World.frozen?,EP.out.1]
      obtain ⟨uP4,cP4⟩:∃ u,y8.cell? ⟨gP,4,none⟩=some u:=⟨_,by simp [World.cell?,EP.out.1];rfl⟩
      have fP4:y8.frozen? ⟨gP,4,none⟩=false:=by simp [World.frozen?,EP.out.1]
      obtain ⟨uP5,cP5⟩:∃ u,y8.cell? ⟨gP,5,none⟩=some u:=⟨_,by simp [World.cell?,EP.out.1];rfl⟩
      have fP5:y8.frozen? ⟨gP,5,none⟩=false:=by simp [World.frozen?,EP.out.1]
      obtain ⟨uP6,cP6⟩:∃ u,y8.cell? ⟨gP,6,none⟩=some u:=⟨_,by simp [World.cell?,EP.out.1];rfl⟩
      have fP6:y8.frozen? ⟨gP,6,none⟩=false:=by simp [World.frozen?,EP.out.1]
      go_simp
      refine hK.out _ _ (fun _=>?_) ?_
      ·exact (((((((hBy8.setCell (p:=⟨gP,0,none⟩) EP.out.2.2 _).setCell (p:=⟨gP,1,none⟩) EP.out.2.2 _).setCell (p:=⟨gP,2,none⟩) EP.out.2.2 _).setCell (p:=⟨gP,3,none⟩) EP.out.2.2 _).setCell (p:=⟨gP,4,none⟩) EP.out.2.2 _).setCell (p:=⟨gP,5,none⟩) EP.out.2.2 _).setCell (p:=⟨gP,6,none⟩) EP.out.2.2 _)
      clear hK K'
      (try simp only [Act.put,List.setIfInBounds_toArray,List.set_cons_zero,List.set_cons_succ])
      obtain ⟨y9,hnew⟩:=zzN ((((((((y8.setCell ⟨gP,0,none⟩ (str s)).setCell ⟨gP,1,none⟩ (.int .i64 v)).setCell ⟨gP,2,none⟩ (.slice a2 n2 c2)).setCell ⟨gP,3,none⟩ (.slice a3 n3 c3)).setCell ⟨gP,4,none⟩ (.slice aA begun.length cA)).setCell ⟨gP,5,none⟩ (.slice aB args.length cB)).setCell ⟨gP,6,none⟩ (.int .i64 (idx:Nat))))
      rw [hnew]
      have hBy9:Below W.heap.size W y9:=by rw [<- hnew];exact (((((((hBy8.setCell (p:=⟨gP,0,none⟩) EP.out.2.2 _).setCell (p:=⟨gP,1,none⟩) EP.out.2.2 _).setCell (p:=⟨gP,2,none⟩) EP.out.2.2 _).setCell (p:=⟨gP,3,none⟩) EP.out.2.2 _).setCell (p:=⟨gP,4,none⟩) EP.out.2.2 _).setCell (p:=⟨gP,5,none⟩) EP.out.2.2 _).setCell (p:=⟨gP,6,none⟩) EP.out.2.2 _)
      have hbt:But (fun i=>i=gP) y8 y9:=by rw [<- hnew];exact ((((((((But.refl (fun i=>i=gP) y8).setCell (p:=⟨gP,0,none⟩) (.inl rfl) _).setCell (p:=⟨gP,1,none⟩) (.inl rfl) _).setCell (p:=⟨gP,2,none⟩) (.inl rfl) _).setCell (p:=⟨gP,3,none⟩) (.inl rfl) _).setCell (p:=⟨gP,4,none⟩) (.inl rfl) _).setCell (p:=⟨gP,5,none⟩) (.inl rfl) _).setCell (p:=⟨gP,6,none⟩) (.inl rfl) _)
      have htg:∀ g,g=gP->tg8 g=3:=fun g e=>by rw [e];exact EP.out.2.1
      have RA:Hid (Res W.heap.size tg8 1 y9 3 (.slice aA (begun.length) cA) begun.length (intsV begun)):=⟨RA.out.1.keep fun g o hg ho=>by rw [hbt.block g (lt_of_heap ho) (fun e=>by have:=(RA.out.2 g hg).1;rw [htg g e] at this;exact absurd this (by decide))];exact ho,RA.out.2⟩
      have RB:Hid (Res W.heap.size tg8 2 y9 3 (.slice aB (args.length) cB) args.length (intsV args)):=⟨RB.out.1.keep fun g o hg ho=>by rw [hbt.block g (lt_of_heap ho) (fun e=>by have:=(RB.out.2 g hg).1;rw [htg g e] at this;exact absurd this (by decide))];exact ho,RB.out.2⟩
      have EP:Hid (y9.heap[gP]? = some (.cells #[str s,.int .i64 v,.slice a2 n2 c2,.slice a3 n3 c3,.slice aA begun.length cA,.slice aB args.length cB,.int .i64 (idx:Nat)] 177 (0,0))/\tg8 gP=3/\W.heap.size<=gP):=⟨by rw [<- hnew];exact (setCell_at' (setCell_at' (setCell_at' (setCell_at' (setCell_at' (setCell_at' (setCell_at' EP.out.1))))))),EP.out.2⟩
      clear hnew hbt htg cP0 fP0 cP1 fP1 cP2 fP2 cP3 fP3 cP4 fP4 cP5 fP5 cP6 fP6
      refine wpAnyS_done (by kernel_rfl) (NoPanic.normal ?_) _
      refine ⟨rfl,⟨gA,gB,gP,aA,cA,aB,cB⟩,by rfl,?_⟩
      exact { below:=hBy9,box:=EP.out.1,o5:=by rw [List.replicate_zero,List.append_nil];exact RA.out.1,o6:=by rw [show intsV args++intsV (List.range 0)=intsV args from by simp [intsV]];exact RB.out.1,gw:=EP.out.2.2,f5:=fun i hi=>⟨(RA.out.2 i hi).2,fun e=>by have h1:=(RA.out.2 i hi).1;rw [e,EP.out.2.1] at h1;exact absurd h1 (by decide)⟩,f6:=fun i hi=>⟨(RB.out.2 i hi).2,fun e=>by have h1:=(RB.out.2 i hi).1;rw [e,EP.out.2.1] at h1;exact absurd h1 (by decide)⟩,ap:=fun i hi e=>by have h1:=(RA.out.2 i hi).1;have h2:=(RB.out.2 i e).1;rw [h1] at h2;exact absurd h2 (by decide) }
    ·(intro o11 ho K' hK;simp at ho;subst ho)
     go_simp
     refine hK.out _ _ (fun _=>?_) ?_
     ·exact hBy2.alloc hBy2.size _
     clear hK K'
     (try simp only [Act.put,List.setIfInBounds_toArray,List.set_cons_zero,List.set_cons_succ])
     obtain ⟨y10,hnew⟩:=zzN (y2.alloc (.cells #[str [],.int .i64 0,.slice none 0 0,.slice none 0 0,.slice none 0 0,.slice none 0 0,.int .i64 0] 177))
     obtain ⟨gP,hgP⟩:=zzN (y2.heap.size)
     rw [hnew,hgP]
     have hBy10:Below W.heap.size W y10:=by rw [<- hnew];exact hBy2.alloc hBy2.size _
     obtain ⟨tg10,htg⟩:=zzN (retag tg2 gP 3)
     have RA:Hid (Res W.heap.size tg10 1 y10 3 (.slice aA (begun.length) cA) begun.length (intsV begun)):=by rw [<- hnew,<- htg,<- hgP];exact RA.out.alloc _ 3
     have EP:Hid (y10.heap[gP]? = some (.cells #[str [],.int .i64 0,.slice none 0 0,.slice none 0 0,.slice none 0 0,.slice none 0 0,.int .i64 0] 177 (0,0))/\tg10 gP=3/\W.heap.size<=gP):=by rw [<- hnew,<- htg,<- hgP];exact ⟨heap_new _ _,by unfold retag;rw [if_pos rfl],hBy2.size⟩
     clear hnew hgP htg
     refine wpAnyS_one 5 (by kernel_rfl) ?_
     (intro o5 ho K' hK;simp at ho;subst ho)
     go_simp
     refine hK.out _ _ (fun _=>?_) ?_
     ·exact hBy10.alloc hBy10.size _
     clear hK K'
     (try simp only [Act.put,List.setIfInBounds_toArray,List.set_cons_zero,List.set_cons_succ])
     obtain ⟨y11,hnew⟩:=zzN (y10.alloc (.cells #[] 3))
     obtain ⟨gB,hgB⟩:=zzN (y10.heap.size)
     rw [hnew,hgB]
     have hBy11:Below W.heap.size W y11:=by rw [<- hnew];exact hBy10.alloc hBy10.size _
     obtain ⟨tg11,htg⟩:=zzN (retag tg10 gB 2)
     have RA:Hid (Res W.heap.size tg11 1 y11 3 (.slice aA (begun.length) cA) begun.length (intsV begun)):=by rw [<- hnew,<- htg,<- hgB];exact RA.out.alloc _ 2
     have EP:Hid (y11.heap[gP]? = some (.cells #[str [],.int .i64 0,.slice none 0 0,.slice none 0 0,.slice none 0 0,.slice none 0 0,.int .i64 0] 177 (0,0))/\tg11 gP=3/\W.heap.size<=gP):=by rw [<- hnew,<- htg];exact ⟨heap_past EP.out.1,by unfold retag;rw [if_neg (by have:=lt_of_heap EP.out.1;omega)];exact EP.out.2.1,EP.out.2.2⟩
     have RB:Hid (Res W.heap.size tg11 2 y11 3 (.slice (some ⟨gB,0,none⟩) 0 0) 0 []):=by rw [<- hnew,<- htg,<- hgB];exact Res.lit tg10 2 hBy10.size 3 #[] 0 (by unfold maxLen;omega) rfl
     clear hnew hgB htg
     refine wpAnyS_one 8 (by kernel_rfl) ?_
     (intro o8 ho K' hK;simp at ho;subst ho)
     refine step_append_gen (by rfl) _ _ _ (by rfl) 3 (.int .i64 0) 1 8 Tryz.underlying31 Tryz.infoInt2 rfl (by decide) (.slice (some ⟨gB,0,none⟩) 0 0) 0 [] (by rfl) RB.out.1 _ args.length (intsV args) (by rfl) (SA.out y11 hBy11) (by unfold maxLen;omega) (by omega) ?_
     intro aB cB y12 hoB hbB hgB
     simp only [Nat.zero_add,List.nil_append] at hoB hgB ⊢
     have hBy12:Below W.heap.size W y12:=hBy11.trans (hbB.toBelow hBy11.size fun i hi e=>by have:=(RB.out.2 i e).2;omega)
     refine hK.out _ _ (fun _=>?_) ?_
     ·exact hBy12
     clear hK K'
     (try simp only [Act.put,List.setIfInBounds_toArray,List.set_cons_zero,List.set_cons_succ])
     obtain ⟨tg12,htg⟩:=zzN (retag tg11 y11.heap.size 2)
     have RA:Hid (Res W.heap.size tg12 1 y12 3 (.slice aA (begun.length) cA) begun.length (intsV begun)):=by rw [<- htg];exact RA.out.but hbB (fun g hg=>by rw [(RB.out.2 g hg).1];decide) 2
     have EP:Hid (y12.heap[gP]? = some (.cells #[str [],.int .i64 0,.slice none 0 0,.slice none 0 0,.slice none 0 0,.slice none 0 0,.int .i64 0] 177 (0,0))/\tg12 gP=3/\W.heap.size<=gP):=by rw [<- htg];exact ⟨(hbB.block _ (lt_of_heap EP.out.1) (fun e=>by have:=(RB.out.2 _ e).1;rw [EP.out.2.1] at this;exact absurd this (by decide))).trans EP.out.1,by unfold retag;rw [if_neg (by have:=lt_of_heap EP.out.1;omega)];exact EP.out.2.1,EP.out.2.2⟩
     have RB:Hid (Res W.heap.size tg12 2 y12 3 (.slice aB (args.length) cB) (args.length) (intsV args)):=by rw [<- htg];exact RB.out.app hBy11.size hoB hgB
     clear hoB hbB hgB htg
     refine wpAnyS_take 10 (v:=?_) (by kernel_rfl) (by kernel_rfl) (by kernel_rfl) (by kernel_rfl) (fun _ _ _ _ h=>h) hBy12 ?_ ?_
     rotate_left
     ·(intro oi ho;simp at ho;subst ho;refine Or.inl ⟨by rfl,fun w' hw'=>?_⟩;go_simp;try with_reducible rfl)
     (intro d hd;simp at hd;subst hd;simp only [Act.put,List.setIfInBounds_toArray,List.set_cons_zero,List.set_cons_succ])
     refine wpAnyS_one 12 (by kernel_rfl) ?_
     (intro o12 ho K' hK;simp at ho;subst ho)
     obtain ⟨uP0,cP0⟩:∃ u,y12.cell? ⟨gP,0,none⟩=some u:=⟨_,by simp [World.cell?,EP.out.1];rfl⟩
     have fP0:y12.frozen? ⟨gP,0,none⟩=false:=by simp [World.frozen?,EP.out.1]
     obtain ⟨uP1,cP1⟩:∃ u,y12.cell? ⟨gP,1,none⟩=some u:=⟨_,by simp [World.cell?,EP.out.1];rfl⟩
     have fP1:y12.frozen? ⟨gP,1,none⟩=false:=by simp [World.frozen?,EP.out.1]
     obtain ⟨uP2,cP2⟩:∃ u,y12.cell? ⟨gP,2,none⟩=some u:=⟨_,by simp [World.cell?,EP.out.1];rfl⟩
     have fP2:y12.frozen? ⟨gP,2,none⟩=false:=by simp [World.frozen?,EP.out.1]
     obtain ⟨uP3,cP3⟩:∃ u,y12.cell? ⟨gP,3,none⟩=some u:=⟨_,by simp [World.cell?,EP.out.1];rfl⟩
     have fP3:y12.frozen? ⟨gP,3,none⟩=false:=by simp [World.frozen?,EP.out.1]
     obtain ⟨uP4,cP4⟩:∃ u,y12.cell? ⟨gP,4,none⟩=some u:=⟨_,by simp [World.cell?,EP.out.1];rfl⟩
     have fP4:y12.frozen? ⟨gP,4,none⟩=false:=by simp [World.frozen?,EP.out.1]
     obtain ⟨uP5,cP5⟩:∃ u,y12.cell? ⟨gP,5,none⟩=some u:=⟨_,by simp [World.cell?,EP.out.1];rfl⟩
     have fP5:y12.frozen? ⟨gP,5,none⟩=false:=by simp [World.frozen?,EP.out.1]
     obtain ⟨uP6,cP6⟩:∃ u,y12.cell? ⟨gP,6,none⟩=some u:=⟨_,by simp [World.cell?,EP.out.1];rfl⟩
     have fP6:y12.frozen? ⟨gP,6,none⟩=false:=by simp [World.frozen?,EP.out.1]
     go_simp
     refine hK.out _ _ (fun _=>?_) ?_
     ·exact (((((((hBy12.setCell (p:=⟨gP,0,none⟩) EP.out.2.2 _).setCell (p:=⟨gP,1,none⟩) EP.out.2.2 _).setCell (p:=⟨gP,2,none⟩) EP.out.2.2 _).setCell (p:=⟨gP,3,none⟩) EP.out.2.2 _).setCell (p:=⟨gP,4,none⟩) EP.out.2.2 _).setCell (p:=⟨gP,5,none⟩) EP.out.2.2 _).setCell (p:=⟨gP,6,none⟩) EP.out.2.2 _)
     clear hK K'
     (try simp only [Act.put,List.setIfInBounds_toArray,List.set_cons_zero,List.set_cons_succ])
     obtain ⟨y13,hnew⟩:=zzN ((((((((y12.setCell ⟨gP,0,none⟩ (str s)).setCell ⟨gP,1,none⟩ (.int .i64 v)).setCell ⟨gP,2,none⟩ (.slice a2 n2 c2)).setCell ⟨gP,3,none⟩ (.slice a3 n3 c3)).setCell ⟨gP,4,none⟩ (.slice aA begun.length cA)).setCell ⟨gP,5,none⟩ (.slice aB args.length cB)).setCell ⟨gP,6,none⟩ (.int .i64 (idx:Nat))))
     rw [hnew]
     have hBy13:Below W.heap.size W y13:=by rw [<- hnew];exact (((((((hBy12.setCell (p:=⟨gP,0,none⟩) EP.out.2.2 _).setCell (p:=⟨gP,1,none⟩) EP.out.2.2 _).setCell (p:=⟨gP,2,none⟩) EP.out.2.2 _).setCell (p:=⟨gP,3,none⟩) EP.out.2.2 _).setCell (p:=⟨gP,4,none⟩) EP.out.2.2 _).setCell (p:=⟨gP,5,none⟩) EP.out.2.2 _).setCell (p:=⟨gP,6,none⟩) EP.out.2.2 _)
     have hbt:But (fun i=>i=gP) y12 y13:=by rw [<- hnew];exact ((((((((But.refl (fun i=>i=gP) y12).setCell (p:=⟨gP,0,none⟩) (.inl rfl) _).setCell (p:=⟨gP,1,none⟩) (.inl rfl) _).setCell (p:=⟨gP,2,none⟩) (.inl rfl) _).setCell (p:=⟨gP,3,none⟩) (.inl rfl) _).setCell (p:=⟨gP,4,none⟩) (.inl rfl) _).setCell (p:=⟨gP,5,none⟩) (.inl rfl) _).setCell (p:=⟨gP,6,none⟩) (.inl rfl) _)
     have htg:∀ g,g=gP->tg12 g=3:=fun g e=>by rw [e];exact EP.out.2.1
     have RA:Hid (Res W.heap.size tg12 1 y13 3 (.slice aA (begun.length) cA) begun.length (intsV begun)):=⟨RA.out.1.keep fun g o hg ho=>by rw [hbt.block g (lt_of_heap ho) (fun e=>by have:=(RA.out.2 g hg).1;rw [htg g e] at this;exact absurd this (by decide))];exact ho,RA.out.2⟩
     have RB:Hid (Res W.heap.size tg12 2 y13 3 (.slice aB (args.length) cB) args.length (intsV args)):=⟨RB.out.1.keep fun g o hg ho=>by rw [hbt.block g (lt_of_heap ho) (fun e=>by have:=(RB.out.2 g hg).1;rw [htg g e] at this;exact absurd this (by decide))];exact ho,RB.out.2⟩
     have EP:Hid (y13.heap[gP]? = some (.cells #[str s,.int .i64 v,.slice a2 n2 c2,.slice a3 n3 c3,.slice aA begun.length cA,.slice aB args.length cB,.int .i64 (idx:Nat)] 177 (0,0))/\tg12 gP=3/\W.heap.size<=gP):=⟨by rw [<- hnew];exact (setCell_at' (setCell_at' (setCell_at' (setCell_at' (setCell_at' (setCell_at' (setCell_at' EP.out.1))))))),EP.out.2⟩
     clear hnew hbt htg cP0 fP0 cP1 fP1 cP2 fP2 cP3 fP3 cP4 fP4 cP5 fP5 cP6 fP6
     refine wpAnyS_done (by kernel_rfl) (NoPanic.normal ?_) _
     refine ⟨rfl,⟨gA,gB,gP,aA,cA,aB,cB⟩,by rfl,?_⟩
     exact { below:=hBy13,box:=EP.out.1,o5:=by rw [List.replicate_zero,List.append_nil];exact RA.out.1,o6:=by rw [show intsV args++intsV (List.range 0)=intsV args from by simp [intsV]];exact RB.out.1,gw:=EP.out.2.2,f5:=fun i hi=>⟨(RA.out.2 i hi).2,fun e=>by have h1:=(RA.out.2 i hi).1;rw [e,EP.out.2.1] at h1;exact absurd h1 (by decide)⟩,f6:=fun i hi=>⟨(RB.out.2 i hi).2,fun e=>by have h1:=(RB.out.2 i hi).1;rw [e,EP.out.2.1] at h1;exact absurd h1 (by decide)⟩,ap:=fun i hi e=>by have h1:=(RA.out.2 i hi).1;have h2:=(RB.out.2 i e).1;rw [h1] at h2;exact absurd h2 (by decide) }
   ·(intro o5 ho K' hK;simp at ho;subst ho)
    go_simp
    refine hK.out _ _ (fun _=>?_) ?_
    ·exact hBy1.alloc hBy1.size _
    clear hK K'
    (try simp only [Act.put,List.setIfInBounds_toArray,List.set_cons_zero,List.set_cons_succ])
    obtain ⟨y14,hnew⟩:=zzN (y1.alloc (.cells #[] 3))
    obtain ⟨gB,hgB⟩:=zzN (y1.heap.size)
    rw [hnew,hgB]
    have hBy14:Below W.heap.size W y14:=by rw [<- hnew];exact hBy1.alloc hBy1.size _
    obtain ⟨tg14,htg⟩:=zzN (retag tg1 gB 2)
    have RA:Hid (Res W.heap.size tg14 1 y14 3 (.slice (some ⟨gA,0,none⟩) 0 0) 0 []):=by rw [<- hnew,<- htg,<- hgB];exact RA.out.alloc _ 2
    have RB:Hid (Res W.heap.size tg14 2 y14 3 (.slice (some ⟨gB,0,none⟩) 0 0) 0 []):=by rw [<- hnew,<- htg,<- hgB];exact Res.lit tg1 2 hBy1.size 3 #[] 0 (by unfold maxLen;omega) rfl
    clear hnew hgB htg
    refine wpAnyS_two 4 11 (by kernel_rfl) ?_ ?_
    ·(intro o4 ho K' hK;simp at ho;subst ho)
     refine step_append_gen (by rfl) _ _ _ (by rfl) 3 (.int .i64 0) 1 8 Tryz.underlying31 Tryz.infoInt2 rfl (by decide) (.slice (some ⟨gA,0,none⟩) 0 0) 0 [] (by rfl) RA.out.1 _ begun.length (intsV begun) (by rfl) (SB.out y14 hBy14) (by unfold maxLen;omega) (by omega) ?_
     intro aA cA y15 hoA hbA hgA
     simp only [Nat.zero_add,List.nil_append] at hoA hgA ⊢
     have hBy15:Below W.heap.size W y15:=hBy14.trans (hbA.toBelow hBy14.size fun i hi e=>by have:=(RA.out.2 i e).2;omega)
     refine hK.out _ _ (fun _=>?_) ?_
     ·exact hBy15
     clear hK K'
     (try simp only [Act.put,List.setIfInBounds_toArray,List.set_cons_zero,List.set_cons_succ])
     obtain ⟨tg15,htg⟩:=zzN (retag tg14 y14.heap.size 1)
     have RB:Hid (Res W.heap.size tg15 2 y15 3 (.slice (some ⟨gB,0,none⟩) 0 0) 0 []):=by rw [<- htg];exact RB.out.but hbA (fun g hg=>by rw [(RA.out.2 g hg).1];decide) 1
     have RA:Hid (Res W.heap.size tg15 1 y15 3 (.slice aA (begun.length) cA) (begun.length) (intsV begun)):=by rw [<- htg];exact RA.out.app hBy14.size hoA hgA
     clear hoA hbA hgA htg
     refine wpAnyS_two 8 11 (by kernel_rfl) ?_ ?_
     ·(intro o8 ho K' hK;simp at ho;subst ho)
      refine step_append_gen (by rfl) _ _ _ (by rfl) 3 (.int .i64 0) 1 8 Tryz.underlying31 Tryz.infoInt2 rfl (by decide) (.slice (some ⟨gB,0,none⟩) 0 0) 0 [] (by rfl) RB.out.1 _ args.length (intsV args) (by rfl) (SA.out y15 hBy15) (by unfold maxLen;omega) (by omega) ?_
      intro aB cB y16 hoB hbB hgB
      simp only [Nat.zero_add,List.nil_append] at hoB hgB ⊢
      have hBy16:Below W.heap.size W y16:=hBy15.trans (hbB.toBelow hBy15.size fun i hi e=>by have:=(RB.out.2 i e).2;omega)
      refine hK.out _ _ (fun _=>?_) ?_
      ·exact hBy16
      clear hK K'
      (try simp only [Act.put,List.setIfInBounds_toArray,List.set_cons_zero,List.set_cons_succ])
      obtain ⟨tg16,htg⟩:=zzN (retag tg15 y15.heap.size 2)
      have RA:Hid (Res W.heap.size tg16 1 y16 3 (.slice aA (begun.length) cA) begun.length (intsV begun)):=by rw [<- htg];exact RA.out.but hbB (fun g hg=>by rw [(RB.out.2 g hg).1];decide) 2
      have RB:Hid (Res W.heap.size tg16 2 y16 3 (.slice aB (args.length) cB) (args.length) (intsV args)):=by rw [<- htg];exact RB.out.app hBy15.size hoB hgB
      clear hoB hbB hgB htg
      refine wpAnyS_take 10 (v:=?_) (by kernel_rfl) (by kernel_rfl) (by kernel_rfl) (by kernel_rfl) (fun _ _ _ _ h=>h) hBy16 ?_ ?_
      rotate_left
      ·(intro oi ho;simp at ho;subst ho;refine Or.inl ⟨by rfl,fun w' hw'=>?_⟩;go_simp;try with_reducible rfl)
      (intro d hd;simp at hd;subst hd;simp only [Act.put,List.setIfInBounds_toArray,List.set_cons_zero,List.set_cons_succ])
      refine wpAnyS_one 11 (by kernel_rfl) ?_
      (intro o11 ho K' hK;simp at ho;subst ho)
      go_simp
      refine hK.out _ _ (fun _=>?_) ?_
      ·exact hBy16.alloc hBy16.size _
      clear hK K'
      (try simp only [Act.put,List.setIfInBounds_toArray,List.set_cons_zero,List.set_cons_succ])
      obtain ⟨y17,hnew⟩:=zzN (y16.alloc (.cells #[str [],.int .i64 0,.slice none 0 0,.slice none 0 0,.slice none 0 0,.slice none 0 0,.int .i64 0] 177))
      obtain ⟨gP,hgP⟩:=zzN (y16.heap.size)
      rw [hnew,hgP]
      have hBy17:Below W.heap.size W y17:=by rw [<- hnew];exact hBy16.alloc hBy16.size _
      obtain ⟨tg17,htg⟩:=zzN (retag tg16 gP 3)
      have RA:Hid (Res W.heap.size tg17 1 y17 3 (.slice aA (begun.length) cA) begun.length (intsV begun)):=by rw [<- hnew,<- htg,<- hgP];exact RA.out.alloc _ 3
      have RB:Hid (Res W.heap.size tg17 2 y17 3 (.slice aB (args.length) cB) args.length (intsV args)):=by rw [<- hnew,<- htg,<- hgP];exact RB.out.alloc _ 3
      have EP:Hid (y17.heap[gP]? = some (.cells #[str [],.int .i64 0,.slice none 0 0,.slice none 0 0,.slice none 0 0,.slice none 0 0,.int .i64 0] 177 (0,0))/\tg17 gP=3/\W.heap.size<=gP):=by rw [<- hnew,<- htg,<- hgP];exact ⟨heap_new _ _,by unfold retag;rw [if_pos rfl],hBy16.size⟩
      clear hnew hgP htg
      refine wpAnyS_one 12 (by kernel_rfl) ?_
      (intro o12 ho K' hK;simp at ho;subst ho)
      obtain ⟨uP0,cP0⟩:∃ u,y17.cell? ⟨gP,0,none⟩=some u:=⟨_,by simp [World.cell?,EP.out.1];rfl⟩
      have fP0:y17.frozen? ⟨gP,0,none⟩=false:=by simp [World.frozen?,EP.out.1]
      obtain ⟨uP1,cP1⟩:∃ u,y17.cell? ⟨gP,1,none⟩=some u:=⟨_,by simp [World.cell?,EP.out.1];rfl⟩
      have fP1:y17.frozen? ⟨gP,1,none⟩=false:=by simp [World.frozen?,EP.out.1]
      obtain ⟨uP2,cP2⟩:∃ u,y17.cell? ⟨gP,2,none⟩=some u:=⟨_,by simp [World.cell?,EP.out.1];rfl⟩
      have fP2:y17.frozen? ⟨gP,2,none⟩=false:=by simp [World.frozen?,EP.out.1]
      obtain ⟨uP3,cP3⟩:∃ u,y17.cell? ⟨gP,3,none⟩=some u:=⟨_,by simp [World.cell?,EP.out.1];rfl⟩
      have fP3:y17.frozen? ⟨gP,3,none⟩=false:=by simp [World.frozen?,EP.out.1]
      obtain ⟨uP4,cP4⟩:∃ u,y17.cell? ⟨gP,4,none⟩=some u:=⟨_,by simp [World.cell?,EP.out.1];rfl⟩
      have fP4:y17.frozen? ⟨gP,4,none⟩=false:=by simp [World.frozen?,EP.out.1]
      obtain ⟨uP5,cP5⟩:∃ u,y17.cell? ⟨gP,5,none⟩=some u:=⟨_,by simp [World.cell?,EP.out.1];rfl⟩
      have fP5:y17.frozen? ⟨gP,5,none⟩=false:=by simp [World.frozen?,EP.out.1]
      obtain ⟨uP6,cP6⟩:∃ u,y17.cell? ⟨gP,6,none⟩=some u:=⟨_,by simp [World.cell?,EP.out.1];rfl⟩
      have fP6:y17.frozen? ⟨gP,6,none⟩=false:=by simp [World.frozen?,EP.out.1]
      go_simp
      refine hK.out _ _ (fun _=>?_) ?_
      ·exact (((((((hBy17.setCell (p:=⟨gP,0,none⟩) EP.out.2.2 _).setCell (p:=⟨gP,1,none⟩) EP.out.2.2 _).setCell (p:=⟨gP,2,none⟩) EP.out.2.2 _).setCell (p:=⟨gP,3,none⟩) EP.out.2.2 _).setCell (p:=⟨gP,4,none⟩) EP.out.2.2 _).setCell (p:=⟨gP,5,none⟩) EP.out.2.2 _).setCell (p:=⟨gP,6,none⟩) EP.out.2.2 _)
      clear hK K'
      (try simp only [Act.put,List.setIfInBounds_toArray,List.set_cons_zero,List.set_cons_succ])
      obtain ⟨y18,hnew⟩:=zzN ((((((((y17.setCell ⟨gP,0,none⟩ (str s)).setCell ⟨gP,1,none⟩ (.int .i64 v)).setCell ⟨gP,2,none⟩ (.slice a2 n2 c2)).setCell ⟨gP,3,none⟩ (.slice a3 n3 c3)).setCell ⟨gP,4,none⟩ (.slice aA begun.length cA)).setCell ⟨gP,5,none⟩ (.slice aB args.length cB)).setCell ⟨gP,6,none⟩ (.int .i64 (idx:Nat))))
      rw [hnew]
      have hBy18:Below W.heap.size W y18:=by rw [<- hnew];exact (((((((hBy17.setCell (p:=⟨gP,0,none⟩) EP.out.2.2 _).setCell (p:=⟨gP,1,none⟩) EP.out.2.2 _).setCell (p:=⟨gP,2,none⟩) EP.out.2.2 _).setCell (p:=⟨gP,3,none⟩) EP.out.2.2 _).setCell (p:=⟨gP,4,none⟩) EP.out.2.2 _).setCell (p:=⟨gP,5,none⟩) EP.out.2.2 _).setCell (p:=⟨gP,6,none⟩) EP.out.2.2 _)
      have hbt:But (fun i=>i=gP) y17 y18:=by rw [<- hnew];exact ((((((((But.refl (fun i=>i=gP) y17).setCell (p:=⟨gP,0,none⟩) (.inl rfl) _).setCell (p:=⟨gP,1,none⟩) (.inl rfl) _).setCell (p:=⟨gP,2,none⟩) (.inl rfl) _).setCell (p:=⟨gP,3,none⟩) (.inl rfl) _).setCell (p:=⟨gP,4,none⟩) (.inl rfl) _).setCell (p:=⟨gP,5,none⟩) (.inl rfl) _).setCell (p:=⟨gP,6,none⟩) (.inl rfl) _)
      have htg:∀ g,g=gP->tg17 g=3:=fun g e=>by rw [e];exact EP.out.2.1
      have RA:Hid (Res W.heap.size tg17 1 y18 3 (.slice aA (begun.length) cA) begun.length (intsV begun)):=⟨RA.out.1.keep fun g o hg ho=>by rw [hbt.block g (lt_of_heap ho) (fun e=>by have:=(RA.out.2 g hg).1;rw [htg g e] at this;exact absurd this (by decide))];exact ho,RA.out.2⟩
      have RB:Hid (Res W.heap.size tg17 2 y18 3 (.slice aB (args.length) cB) args.length (intsV args)):=⟨RB.out.1.keep fun g o hg ho=>by rw [hbt.block g (lt_of_heap ho) (fun e=>by have:=(RB.out.2 g hg).1;rw [htg g e] at this;exact absurd this (by decide))];exact ho,RB.out.2⟩
      have EP:Hid (y18.heap[gP]? = some (.cells #[str s,.int .i64 v,.slice a2 n2 c2,.slice a3 n3 c3,.slice aA begun.length cA,.slice aB args.length cB,.int .i64 (idx:Nat)] 177 (0,0))/\tg17 gP=3/\W.heap.size<=gP):=⟨by rw [<- hnew];exact (setCell_at' (setCell_at' (setCell_at' (setCell_at' (setCell_at' (setCell_at' (setCell_at' EP.out.1))))))),EP.out.2⟩
      clear hnew hbt htg cP0 fP0 cP1 fP1 cP2 fP2 cP3 fP3 cP4 fP4 cP5 fP5 cP6 fP6
      refine wpAnyS_done (by kernel_rfl) (NoPanic.normal ?_) _
      refine ⟨rfl,⟨gA,gB,gP,aA,cA,aB,cB⟩,by rfl,?_⟩
      exact { below:=hBy18,box:=EP.out.1,o5:=by rw [List.replicate_zero,List.append_nil];exact RA.out.1,o6:=by rw [show intsV args++intsV (List.range 0)=intsV args from by simp [intsV]];exact RB.out.1,gw:=EP.out.2.2,f5:=fun i hi=>⟨(RA.out.2 i hi).2,fun e=>by have h1:=(RA.out.2 i hi).1;rw [e,EP.out.2.1] at h1;exact absurd h1 (by decide)⟩,f6:=fun i hi=>⟨(RB.out.2 i hi).2,fun e=>by have h1:=(RB.out.2 i hi).1;rw [e,EP.out.2.1] at h1;exact absurd h1 (by decide)⟩,ap:=fun i hi e=>by have h1:=(RA.out.2 i hi).1;have h2:=(RB.out.2 i e).1;rw [h1] at h2;exact absurd h2 (by decide) }
     ·(intro o11 ho K' hK;simp at ho;subst ho)
      go_simp
      refine hK.out _ _ (fun _=>?_) ?_
      ·exact hBy15.alloc hBy15.size _
      clear hK K'
      (try simp only [Act.put,List.setIfInBounds_toArray,List.set_cons_zero,List.set_cons_succ])
      obtain ⟨y19,hnew⟩:=zzN (y15.alloc (.cells #[str [],.int .i64 0,.slice none 0 0,.slice none 0 0,.slice none 0 0,.slice none 0 0,.int .i64 0] 177))
      obtain ⟨gP,hgP⟩:=zzN (y15.heap.size)
      rw [hnew,hgP]
      have hBy19:Below W.heap.size W y19:=by rw [<- hnew];exact hBy15.alloc hBy15.size _
      obtain ⟨tg19,htg⟩:=zzN (retag tg15 gP 3)
      have RA:Hid (Res W.heap.size tg19 1 y19 3 (.slice aA (begun.length) cA) begun.length (intsV begun)):=by rw [<- hnew,<- htg,<- hgP];exact RA.out.alloc _ 3
      have RB:Hid (Res W.heap.size tg19 2 y19 3 (.slice (some ⟨gB,0,none⟩) 0 0) 0 []):=by rw [<- hnew,<- htg,<- hgP];exact RB.out.alloc _ 3
      have EP:Hid (y19.heap[gP]? = some (.cells #[str [],.int .i64 0,.slice none 0 0,.slice none 0 0,.slice none 0 0,.slice none 0 0,.int .i64 0] 177 (0,0))/\tg19 gP=3/\W.heap.size<=gP):=by rw [<- hnew,<- htg,<- hgP];exact ⟨heap_new _ _,by unfold retag;rw [if_pos rfl],hBy15.size⟩
      clear hnew hgP htg
      refine wpAnyS_one 8 (by kernel_rfl) ?_
      (intro o8 ho K' hK;simp at ho;subst ho)
      refine step_append_gen (by rfl) _ _ _ (by rfl) 3 (.int .i64 0) 1 8 Tryz.underlying31 Tryz.infoInt2 rfl (by decide) (.slice (some ⟨gB,0,none⟩) 0 0) 0 [] (by rfl) RB.out.1 _ args.length (intsV args) (by rfl) (SA.out y19 hBy19) (by unfold maxLen;omega) (by omega) ?_
      intro aB cB y20 hoB hbB hgB
      simp only [Nat.zero_add,List.nil_append] at hoB hgB ⊢
      have hBy20:Below W.heap.size W y20:=hBy19.trans (hbB.toBelow hBy19.size fun i hi e=>by have:=(RB.out.2 i e).2;omega)
      refine hK.out _ _ (fun _=>?_) ?_
      ·exact hBy20
      clear hK K'
      (try simp only [Act.put,List.setIfInBounds_toArray,List.set_cons_zero,List.set_cons_succ])
      obtain ⟨tg20,htg⟩:=zzN (retag tg19 y19.heap.size 2)
      have RA:Hid (Res W.heap.size tg20 1 y20 3 (.slice aA (begun.length) cA) begun.length (intsV begun)):=by rw [<- htg];exact RA.out.but hbB (fun g hg=>by rw [(RB.out.2 g hg).1];decide) 2
      have EP:Hid (y20.heap[gP]? = some (.cells #[str [],.int .i64 0,.slice none 0 0,.slice none 0 0,.slice none 0 0,.slice none 0 0,.int .i64 0] 177 (0,0))/\tg20 gP=3/\W.heap.size<=gP):=by rw [<- htg];exact ⟨(hbB.block _ (lt_of_heap EP.out.1) (fun e=>by have:=(RB.out.2 _ e).1;rw [EP.out.2.1] at this;exact absurd this (by decide))).trans EP.out.1,by unfold retag;rw [if_neg (by have:=lt_of_heap EP.out.1;omega)];exact EP.out.2.1,EP.out.2.2⟩
      have RB:Hid (Res W.heap.size tg20 2 y20 3 (.slice aB (args.length) cB) (args.length) (intsV args)):=by rw [<- htg];exact RB.out.app hBy19.size hoB hgB
      clear hoB hbB hgB htg
      refine wpAnyS_take 10 (v:=?_) (by kernel_rfl) (by kernel_rfl) (by kernel_rfl) (by kernel_rfl) (fun _ _ _ _ h=>h) hBy20 ?_ ?_
      rotate_left
      ·(intro oi ho;simp at ho;subst ho;refine Or.inl ⟨by rfl,fun w' hw'=>?_⟩;go_simp;try with_reducible rfl)
      (intro d hd;simp at hd;subst hd;simp only [Act.put,List.setIfInBounds_toArray,List.set_cons_zero,List.set_cons_succ])
      refine wpAnyS_one 12 (by kernel_rfl) ?_
      (intro o12 ho K' hK;simp at ho;subst ho)
      obtain ⟨uP0,cP0⟩:∃ u,y20.cell? ⟨gP,0,none⟩=some u:=⟨_,by simp [World.cell?,EP.out.1];rfl⟩
      have fP0:y20.frozen? ⟨gP,0,none⟩=false:=by simp [World.frozen?,EP.out.1]
      obtain ⟨uP1,cP1⟩:∃ u,y20.cell? ⟨gP,1,none⟩=some u:=⟨_,by simp [World.cell?,EP.out.1];rfl⟩
      have fP1:y20.frozen? ⟨gP,1,none⟩=false:=by simp [World.frozen?,EP.out.1]
      obtain ⟨uP2,cP2⟩:∃ u,y20.cell? ⟨gP,2,none⟩=some u:=⟨_,by simp [World.cell?,EP.out.1];rfl⟩
      have fP2:y20.frozen? ⟨gP,2,none⟩=false:=by simp [World.frozen?,EP.out.1]
      obtain ⟨uP3,cP3⟩:∃ u,y20.cell? ⟨gP,3,none⟩=some u:=⟨_,by simp [World.cell?,EP.out.1];rfl⟩
      have fP3:y20.frozen? ⟨gP,3,none⟩=false:=by simp [World.frozen?,EP.out.1]
      obtain ⟨uP4,cP4⟩:∃ u,y20.cell? ⟨gP,4,none⟩=some u:=⟨_,by simp [World.cell?,EP.out.1];rfl⟩
      have fP4:y20.frozen? ⟨gP,4,none⟩=false:=by simp [World.frozen?,EP.out.1]
      obtain ⟨uP5,cP5⟩:∃ u,y20.cell? ⟨gP,5,none⟩=some u:=⟨_,by simp [World.cell?,EP.out.1];rfl⟩
      have fP5:y20.frozen? ⟨gP,5,none⟩=false:=by simp [World.frozen?,EP.out.1]
      obtain ⟨uP6,cP6⟩:∃ u,y20.cell? ⟨gP,6,none⟩=some u:=⟨_,by simp [World.cell?,EP.out.1];rfl⟩
      have fP6:y20.frozen? ⟨gP,6,none⟩=false:=by simp [World.frozen?,EP.out.1]
      go_simp
      refine hK.out _ _ (fun _=>?_) ?_
      ·exact (((((((hBy20.setCell (p:=⟨gP,0,none⟩) EP.out.2.2 _).setCell (p:=⟨gP,1,none⟩) EP.out.2.2 _).setCell (p:=⟨gP,2,none⟩) EP.out.2.2 _).setCell (p:=⟨gP,3,none⟩) EP.out.2.2 _).setCell (p:=⟨gP,4,none⟩) EP.out.2.2 _).setCell (p:=⟨gP,5,none⟩) EP.out.2.2 _).setCell (p:=⟨gP,6,none⟩) EP.out.2.2 _)
      clear hK K'
      (try simp only [Act.put,List.setIfInBounds_toArray,List.set_cons_zero,List.set_cons_succ])
      obtain ⟨y21,hnew⟩:=zzN ((((((((y20.setCell ⟨gP,0,none⟩ (str s)).setCell ⟨gP,1,none⟩ (.int .i64 v)).setCell ⟨gP,2,none⟩ (.slice a2 n2 c2)).setCell ⟨gP,3,none⟩ (.slice a3 n3 c3)).setCell ⟨gP,4,none⟩ (.slice aA begun.length cA)).setCell ⟨gP,5,none⟩ (.slice aB args.length cB)).setCell ⟨gP,6,none⟩ (.int .i64 (idx:Nat))))
      rw [hnew]
      have hBy21:Below W.heap.size W y21:=by rw [<- hnew];exact (((((((hBy20.setCell (p:=⟨gP,0,none⟩) EP.out.2.2 _).setCell (p:=⟨gP,1,none⟩) EP.out.2.2 _).setCell (p:=⟨gP,2,none⟩) EP.out.2.2 _).setCell (p:=⟨gP,3,none⟩) EP.out.2.2 _).setCell (p:=⟨gP,4,none⟩) EP.out.2.2 _).setCell (p:=⟨gP,5,none⟩) EP.out.2.2 _).setCell (p:=⟨gP,6,none⟩) EP.out.2.2 _)
      have hbt:But (fun i=>i=gP) y20 y21:=by rw [<- hnew];exact ((((((((But.refl (fun i=>i=gP) y20).setCell (p:=⟨gP,0,none⟩) (.inl rfl) _).setCell (p:=⟨gP,1,none⟩) (.inl rfl) _).setCell (p:=⟨gP,2,none⟩) (.inl rfl) _).setCell (p:=⟨gP,3,none⟩) (.inl rfl) _).setCell (p:=⟨gP,4,none⟩) (.inl rfl) _).setCell (p:=⟨gP,5,none⟩) (.inl rfl) _).setCell (p:=⟨gP,6,none⟩) (.inl rfl) _)
      have htg:∀ g,g=gP->tg20 g=3:=fun g e=>by rw [e];exact EP.out.2.1
      have RA:Hid (Res W.heap.size tg20 1 y21 3 (.slice aA (begun.length) cA) begun.length (intsV begun)):=⟨RA.out.1.keep fun g o hg ho=>by rw [hbt.block g (lt_of_heap ho) (fun e=>by have:=(RA.out.2 g hg).1;rw [htg g e] at this;exact absurd this (by decide))];exact ho,RA.out.2⟩
      have RB:Hid (Res W.heap.size tg20 2 y21 3 (.slice aB (args.length) cB) args.length (intsV args)):=⟨RB.out.1.keep fun g o hg ho=>by rw [hbt.block g (lt_of_heap ho) (fun e=>by have:=(RB.out.2 g hg).1;rw [htg g e] at this;exact absurd this (by decide))];exact ho,RB.out.2⟩
      have EP:Hid (y21.heap[gP]? = some (.cells #[str s,.int .i64 v,.slice a2 n2 c2,.slice a3 n3 c3,.slice aA begun.length cA,.slice aB args.length cB,.int .i64 (idx:Nat)] 177 (0,0))/\tg20 gP=3/\W.heap.size<=gP):=⟨by rw [<- hnew];exact (setCell_at' (setCell_at' (setCell_at' (setCell_at' (setCell_at' (setCell_at' (setCell_at' EP.out.1))))))),EP.out.2⟩
      clear hnew hbt htg cP0 fP0 cP1 fP1 cP2 fP2 cP3 fP3 cP4 fP4 cP5 fP5 cP6 fP6
      refine wpAnyS_done (by kernel_rfl) (NoPanic.normal ?_) _
      refine ⟨rfl,⟨gA,gB,gP,aA,cA,aB,cB⟩,by rfl,?_⟩
      exact { below:=hBy21,box:=EP.out.1,o5:=by rw [List.replicate_zero,List.append_nil];exact RA.out.1,o6:=by rw [show intsV args++intsV (List.range 0)=intsV args from by simp [intsV]];exact RB.out.1,gw:=EP.out.2.2,f5:=fun i hi=>⟨(RA.out.2 i hi).2,fun e=>by have h1:=(RA.out.2 i hi).1;rw [e,EP.out.2.1] at h1;exact absurd h1 (by decide)⟩,f6:=fun i hi=>⟨(RB.out.2 i hi).2,fun e=>by have h1:=(RB.out.2 i hi).1;rw [e,EP.out.2.1] at h1;exact absurd h1 (by decide)⟩,ap:=fun i hi e=>by have h1:=(RA.out.2 i hi).1;have h2:=(RB.out.2 i e).1;rw [h1] at h2;exact absurd h2 (by decide) }
    ·(intro o11 ho K' hK;simp at ho;subst ho)
     go_simp
     refine hK.out _ _ (fun _=>?_) ?_
     ·exact hBy14.alloc hBy14.size _
     clear hK K'
     (try simp only [Act.put,List.setIfInBounds_toArray,List.set_cons_zero,List.set_cons_succ])
     obtain ⟨y22,hnew⟩:=zzN (y14.alloc (.cells #[str [],.int .i64 0,.slice none 0 0,.slice none 0 0,.slice none 0 0,.slice none 0 0,.int .i64 0] 177))
     obtain ⟨gP,hgP⟩:=zzN (y14.heap.size)
     rw [hnew,hgP]
     have hBy22:Below W.heap.size W y22:=by rw [<- hnew];exact hBy14.alloc hBy14.size _
     obtain ⟨tg22,htg⟩:=zzN (retag tg14 gP 3)
     have RA:Hid (Res W.heap.size tg22 1 y22 3 (.slice (some ⟨gA,0,none⟩) 0 0) 0 []):=by rw [<- hnew,<- htg,<- hgP];exact RA.out.alloc _ 3
     have RB:Hid (Res W.heap.size tg22 2 y22 3 (.slice (some ⟨gB,0,none⟩) 0 0) 0 []):=by rw [<- hnew,<- htg,<- hgP];exact RB.out.alloc _ 3
     have EP:Hid (y22.heap[gP]? = some (.cells #[str [],.int .i64 0,.slice none 0 0,.slice none 0 0,.slice none 0 0,.slice none 0 0,.int .i64 0] 177 (0,0))/\tg22 gP=3/\W.heap.size<=gP):=by rw [<- hnew,<- htg,<- hgP];exact ⟨heap_new _ _,by unfold retag;rw [if_pos rfl],hBy14.size⟩
     clear hnew hgP htg
     refine wpAnyS_one 4 (by kernel_rfl) ?_
     (intro o4 ho K' hK;simp at ho;subst ho)
     refine step_append_gen (by rfl) _ _ _ (by rfl) 3 (.int .i64 0) 1 8 Tryz.underlying31 Tryz.infoInt2 rfl (by decide) (.slice (some ⟨gA,0,none⟩) 0 0) 0 [] (by rfl) RA.out.1 _ begun.length (intsV begun) (by rfl) (SB.out y22 hBy22) (by unfold maxLen;omega) (by omega) ?_
     intro aA cA y23 hoA hbA hgA
     simp only [Nat.zero_add,List.nil_append] at hoA hgA ⊢
     have hBy23:Below W.heap.size W y23:=hBy22.trans (hbA.toBelow hBy22.size fun i hi e=>by have:=(RA.out.2 i e).2;omega)
     refine hK.out _ _ (fun _=>?_) ?_
     ·exact hBy23
     clear hK K'
     (try simp only [Act.put,List.setIfInBounds_toArray,List.set_cons_zero,List.set_cons_succ])
     obtain ⟨tg23,htg⟩:=zzN (retag tg22 y22.heap.size 1)
     have RB:Hid (Res W.heap.size tg23 2 y23 3 (.slice (some ⟨gB,0,none⟩) 0 0) 0 []):=by rw [<- htg];exact RB.out.but hbA (fun g hg=>by rw [(RA.out.2 g hg).1];decide) 1
     have EP:Hid (y23.heap[gP]? = some (.cells #[str [],.int .i64 0,.slice none 0 0,.slice none 0 0,.slice none 0 0,.slice none 0 0,.int .i64 0] 177 (0,0))/\tg23 gP=3/\W.heap.size<=gP):=by rw [<- htg];exact ⟨(hbA.block _ (lt_of_heap EP.out.1) (fun e=>by have:=(RA.out.2 _ e).1;rw [EP.out.2.1] at this;exact absurd this (by decide))).trans EP.out.1,by unfold retag;rw [if_neg (by have:=lt_of_heap EP.out.1;omega)];exact EP.out.2.1,EP.out.2.2⟩
     have RA:Hid (Res W.heap.size tg23 1 y23 3 (.slice aA (begun.length) cA) (begun.length) (intsV begun)):=by rw [<- htg];exact RA.out.app hBy22.size hoA hgA
     clear hoA hbA hgA htg
     refine wpAnyS_one 8 (by kernel_rfl) ?_
     (intro o8 ho K' hK;simp at ho;subst ho)
     refine step_append_gen (by rfl) _ _ _ (by rfl) 3 (.int .i64 0) 1 8 Tryz.underlying31 Tryz.infoInt2 rfl (by decide) (.slice (some ⟨gB,0,none⟩) 0 0) 0 [] (by rfl) RB.out.1 _ args.length (intsV args) (by rfl) (SA.out y23 hBy23) (by unfold maxLen;omega) (by omega) ?_
     intro aB cB y24 hoB hbB hgB
     simp only [Nat.zero_add,List.nil_append] at hoB hgB ⊢
     have hBy24:Below W.heap.size W y24:=hBy23.trans (hbB.toBelow hBy23.size fun i hi e=>by have:=(RB.out.2 i e).2;omega)
     refine hK.out _ _ (fun _=>?_) ?_
     ·exact hBy24
     clear hK K'
     (try simp only [Act.put,List.setIfInBounds_toArray,List.set_cons_zero,List.set_cons_succ])
     obtain ⟨tg24,htg⟩:=zzN (retag tg23 y23.heap.size 2)
     have RA:Hid (Res W.heap.size tg24 1 y24 3 (.slice aA (begun.length) cA) begun.length (intsV begun)):=by rw [<- htg];exact RA.out.but hbB (fun g hg=>by rw [(RB.out.2 g hg).1];decide) 2
     have EP:Hid (y24.heap[gP]? = some (.cells #[str [],.int .i64 0,.slice none 0 0,.slice none 0 0,.slice none 0 0,.slice none 0 0,.int .i64 0] 177 (0,0))/\tg24 gP=3/\W.heap.size<=gP):=by rw [<- htg];exact ⟨(hbB.block _ (lt_of_heap EP.out.1) (fun e=>by have:=(RB.out.2 _ e).1;rw [EP.out.2.1] at this;exact absurd this (by decide))).trans EP.out.1,by unfold retag;rw [if_neg (by have:=lt_of_heap EP.out.1;omega)];exact EP.out.2.1,EP.out.2.2⟩
     have RB:Hid (Res W.heap.size tg24 2 y24 3 (.slice aB (args.length) cB) (args.length) (intsV args)):=by rw [<- htg];exact RB.out.app hBy23.size hoB hgB
     clear hoB hbB hgB htg
     refine wpAnyS_take 10 (v:=?_) (by kernel_rfl) (by kernel_rfl) (by kernel_rfl) (by kernel_rfl) (fun _ _ _ _ h=>h) hBy24 ?_ ?_
     rotate_left
     ·(intro oi ho;simp at ho;subst ho;refine Or.inl ⟨by rfl,fun w' hw'=>?_⟩;go_simp;try with_reducible rfl)
     (intro d hd;simp at hd;subst hd;simp only [Act.put,List.setIfInBounds_toArray,List.set_cons_zero,List.set_cons_succ])
     refine wpAnyS_one 12 (by kernel_rfl) ?_
     (intro o12 ho K' hK;simp at ho;subst ho)
     obtain ⟨uP0,cP0⟩:∃ u,y24.cell? ⟨gP,0,none⟩=some u:=⟨_,by simp [World.cell?,EP.out.1];rfl⟩
     have fP0:y24.frozen? ⟨gP,0,none⟩=false:=by simp [World.frozen?,EP.out.1]
     obtain ⟨uP1,cP1⟩:∃ u,y24.cell? ⟨gP,1,none⟩=some u:=⟨_,by simp [World.cell?,EP.out.1];rfl⟩
     have fP1:y24.frozen? ⟨gP,1,none⟩=false:=by simp [World.frozen?,EP.out.1]
     obtain ⟨uP2,cP2⟩:∃ u,y24.cell? ⟨gP,2,none⟩=some u:=⟨_,by simp [World.cell?,EP.out.1];rfl⟩
     have fP2:y24.frozen? ⟨gP,2,none⟩=false:=by simp [World.frozen?,EP.out.1]
     obtain ⟨uP3,cP3⟩:∃ u,y24.cell? ⟨gP,3,none⟩=some u:=⟨_,by simp [World.cell?,EP.out.1];rfl⟩
     have fP3:y24.frozen? ⟨gP,3,none⟩=false:=by simp [World.frozen?,EP.out.1]
     obtain ⟨uP4,cP4⟩:∃ u,y24.cell? ⟨gP,4,none⟩=some u:=⟨_,by simp [World.cell?,EP.out.1];rfl⟩
     have fP4:y24.frozen? ⟨gP,4,none⟩=false:=by simp [World.frozen?,EP.out.1]
     obtain ⟨uP5,cP5⟩:∃ u,y24.cell? ⟨gP,5,none⟩=some u:=⟨_,by simp [World.cell?,EP.out.1];rfl⟩
     have fP5:y24.frozen? ⟨gP,5,none⟩=false:=by simp [World.frozen?,EP.out.1]
     obtain ⟨uP6,cP6⟩:∃ u,y24.cell? ⟨gP,6,none⟩=some u:=⟨_,by simp [World.cell?,EP.out.1];rfl⟩
     have fP6:y24.frozen? ⟨gP,6,none⟩=false:=by simp [World.frozen?,EP.out.1]
     go_simp
     refine hK.out _ _ (fun _=>?_) ?_
     ·exact (((((((hBy24.setCell (p:=⟨gP,0,none⟩) EP.out.2.2 _).setCell (p:=⟨gP,1,none⟩) EP.out.2.2 _).setCell (p:=⟨gP,2,none⟩) EP.out.2.2 _).setCell (p:=⟨gP,3,none⟩) EP.out.2.2 _).setCell (p:=⟨gP,4,none⟩) EP.out.2.2 _).setCell (p:=⟨gP,5,none⟩) EP.out.2.2 _).setCell (p:=⟨gP,6,none⟩) EP.out.2.2 _)
     clear hK K'
     (try simp only [Act.put,List.setIfInBounds_toArray,List.set_cons_zero,List.set_cons_succ])
     obtain ⟨y25,hnew⟩:=zzN ((((((((y24.setCell ⟨gP,0,none⟩ (str s)).setCell ⟨gP,1,none⟩ (.int .i64 v)).setCell ⟨gP,2,none⟩ (.slice a2 n2 c2)).setCell ⟨gP,3,none⟩ (.slice a3 n3 c3)).setCell ⟨gP,4,none⟩ (.slice aA begun.length cA)).setCell ⟨gP,5,none⟩ (.slice aB args.length cB)).setCell ⟨gP,6,none⟩ (.int .i64 (idx:Nat))))
     rw [hnew]
     have hBy25:Below W.heap.size W y25:=by rw [<- hnew];exact (((((((hBy24.setCell (p:=⟨gP,0,none⟩) EP.out.2.2 _).setCell (p:=⟨gP,1,none⟩) EP.out.2.2 _).setCell (p:=⟨gP,2,none⟩) EP.out.2.2 _).setCell (p:=⟨gP,3,none⟩) EP.out.2.2 _).setCell (p:=⟨gP,4,none⟩) EP.out.2.2 _).setCell (p:=⟨gP,5,none⟩) EP.out.2.2 _).setCell (p:=⟨gP,6,none⟩) EP.out.2.2 _)
     have hbt:But (fun i=>i=gP) y24 y25:=by rw [<- hnew];exact ((((((((But.refl (fun i=>i=gP) y24).setCell (p:=⟨gP,0,none⟩) (.inl rfl) _).setCell (p:=⟨gP,1,none⟩) (.inl rfl) _).setCell (p:=⟨gP,2,none⟩) (.inl rfl) _).setCell (p:=⟨gP,3,none⟩) (.inl rfl) _).setCell (p:=⟨gP,4,none⟩) (.inl rfl) _).setCell (p:=⟨gP,5,none⟩) (.inl rfl) _).setCell (p:=⟨gP,6,none⟩) (.inl rfl) _)
     have htg:∀ g,g=gP->tg24 g=3:=fun g e=>by rw [e];exact EP.out.2.1
     have RA:Hid (Res W.heap.size tg24 1 y25 3 (.slice aA (begun.length) cA) begun.length (intsV begun)):=⟨RA.out.1.keep fun g o hg ho=>by rw [hbt.block g (lt_of_heap ho) (fun e=>by have:=(RA.out.2 g hg).1;rw [htg g e] at this;exact absurd this (by decide))];exact ho,RA.out.2⟩
     have RB:Hid (Res W.heap.size tg24 2 y25 3 (.slice aB (args.length) cB) args.length (intsV args)):=⟨RB.out.1.keep fun g o hg ho=>by rw [hbt.block g (lt_of_heap ho) (fun e=>by have:=(RB.out.2 g hg).1;rw [htg g e] at this;exact absurd this (by decide))];exact ho,RB.out.2⟩
     have EP:Hid (y25.heap[gP]? = some (.cells #[str s,.int .i64 v,.slice a2 n2 c2,.slice a3 n3 c3,.slice aA begun.length cA,.slice aB args.length cB,.int .i64 (idx:Nat)] 177 (0,0))/\tg24 gP=3/\W.heap.size<=gP):=⟨by rw [<- hnew];exact (setCell_at' (setCell_at' (setCell_at' (setCell_at' (setCell_at' (setCell_at' (setCell_at' EP.out.1))))))),EP.out.2⟩
     clear hnew hbt htg cP0 fP0 cP1 fP1 cP2 fP2 cP3 fP3 cP4 fP4 cP5 fP5 cP6 fP6
     refine wpAnyS_done (by kernel_rfl) (NoPanic.normal ?_) _
     refine ⟨rfl,⟨gA,gB,gP,aA,cA,aB,cB⟩,by rfl,?_⟩
     exact { below:=hBy25,box:=EP.out.1,o5:=by rw [List.replicate_zero,List.append_nil];exact RA.out.1,o6:=by rw [show intsV args++intsV (List.range 0)=intsV args from by simp [intsV]];exact RB.out.1,gw:=EP.out.2.2,f5:=fun i hi=>⟨(RA.out.2 i hi).2,fun e=>by have h1:=(RA.out.2 i hi).1;rw [e,EP.out.2.1] at h1;exact absurd h1 (by decide)⟩,f6:=fun i hi=>⟨(RB.out.2 i hi).2,fun e=>by have h1:=(RB.out.2 i hi).1;rw [e,EP.out.2.1] at h1;exact absurd h1 (by decide)⟩,ap:=fun i hi e=>by have h1:=(RA.out.2 i hi).1;have h2:=(RB.out.2 i e).1;rw [h1] at h2;exact absurd h2 (by decide) }
   ·(intro o11 ho K' hK;simp at ho;subst ho)
    go_simp
    refine hK.out _ _ (fun _=>?_) ?_
    ·exact hBy1.alloc hBy1.size _
    clear hK K'
    (try simp only [Act.put,List.setIfInBounds_toArray,List.set_cons_zero,List.set_cons_succ])
    obtain ⟨y26,hnew⟩:=zzN (y1.alloc (.cells #[str [],.int .i64 0,.slice none 0 0,.slice none 0 0,.slice none 0 0,.slice none 0 0,.int .i64 0] 177))
    obtain ⟨gP,hgP⟩:=zzN (y1.heap.size)
    rw [hnew,hgP]
    have hBy26:Below W.heap.size W y26:=by rw [<- hnew];exact hBy1.alloc hBy1.size _
    obtain ⟨tg26,htg⟩:=zzN (retag tg1 gP 3)
    have RA:Hid (Res W.heap.size tg26 1 y26 3 (.slice (some ⟨gA,0,none⟩) 0 0) 0 []):=by rw [<- hnew,<- htg,<- hgP];exact RA.out.alloc _ 3
    have EP:Hid (y26.heap[gP]? = some (.cells #[str [],.int .i64 0,.slice none 0 0,.slice none 0 0,.slice none 0 0,.slice none 0 0,.int .i64 0] 177 (0,0))/\tg26 gP=3/\W.heap.size<=gP):=by rw [<- hnew,<- htg,<- hgP];exact ⟨heap_new _ _,by unfold retag;rw [if_pos rfl],hBy1.size⟩
    clear hnew hgP htg
    refine wpAnyS_two 4 5 (by kernel_rfl) ?_ ?_
    ·(intro o4 ho K' hK;simp at ho;subst ho)
     refine step_append_gen (by rfl) _ _ _ (by rfl) 3 (.int .i64 0) 1 8 Tryz.underlying31 Tryz.infoInt2 rfl (by decide) (.slice (some ⟨gA,0,none⟩) 0 0) 0 [] (by rfl) RA.out.1 _ begun.length (intsV begun) (by rfl) (SB.out y26 hBy26) (by unfold maxLen;omega) (by omega) ?_
     intro aA cA y27 hoA hbA hgA
     simp only [Nat.zero_add,List.nil_append] at hoA hgA ⊢
     have hBy27:Below W.heap.size W y27:=hBy26.trans (hbA.toBelow hBy26.size fun i hi e=>by have:=(RA.out.2 i e).2;omega)
     refine hK.out _ _ (fun _=>?_) ?_
     ·exact hBy27
     clear hK K'
     (try simp only [Act.put,List.setIfInBounds_toArray,List.set_cons_zero,List.set_cons_succ])
     obtain ⟨tg27,htg⟩:=zzN (retag tg26 y26.heap.size 1)
     have EP:Hid (y27.heap[gP]? = some (.cells #[str [],.int .i64 0,.slice none 0 0,.slice none 0 0,.slice none 0 0,.slice none 0 0,.int .i64 0] 177 (0,0))/\tg27 gP=3/\W.heap.size<=gP):=by rw [<- htg];exact ⟨(hbA.block _ (lt_of_heap EP.out.1) (fun e=>by have:=(RA.out.2 _ e).1;rw [EP.out.2.1] at this;exact absurd this (by decide))).trans EP.out.1,by unfold retag;rw [if_neg (by have:=lt_of_heap EP.out.1;omega)];exact EP.out.2.1,EP.out.2.2⟩
     have RA:Hid (Res W.heap.size tg27 1 y27 3 (.slice aA (begun.length) cA) (begun.length) (intsV begun)):=by rw [<- htg];exact RA.out.app hBy26.size hoA hgA
     clear hoA hbA hgA htg
     refine wpAnyS_one 5 (by kernel_rfl) ?_
     (intro o5 ho K' hK;simp at ho;subst ho)
     go_simp
     refine hK.out _ _ (fun _=>?_) ?_
     ·exact hBy27.alloc hBy27.size _
     clear hK K'
     (try simp only [Act.put,List.setIfInBounds_toArray,List.set_cons_zero,List.set_cons_succ])
     obtain ⟨y28,hnew⟩:=zzN (y27.alloc (.cells #[] 3))
     obtain ⟨gB,hgB⟩:=zzN (y27.heap.size)
     rw [hnew,hgB]
     have hBy28:Below W.heap.size W y28:=by rw [<- hnew];exact hBy27.alloc hBy27.size _
     obtain ⟨tg28,htg⟩:=zzN (retag tg27 gB 2)
     have RA:Hid (Res W.heap.size tg28 1 y28 3 (.slice aA (begun.length) cA) begun.length (intsV begun)):=by rw [<- hnew,<- htg,<- hgB];exact RA.out.alloc _ 2
     have EP:Hid (y28.heap[gP]? = some (.cells #[str [],.int .i64 0,.slice none 0 0,.slice none 0 0,.slice none 0 0,.slice none 0 0,.int .i64 0] 177 (0,0))/\tg28 gP=3/\W.heap.size<=gP):=by rw [<- hnew,<- htg];exact ⟨heap_past EP.out.1,by unfold retag;rw [if_neg (by have:=lt_of_heap EP.out.1;omega)];exact EP.out.2.1,EP.out.2.2⟩
     have RB:Hid (Res W.heap.size tg28 2 y28 3 (.slice (some ⟨gB,0,none⟩) 0 0) 0 []):=by rw [<- hnew,<- htg,<- hgB];exact Res.lit tg27 2 hBy27.size 3 #[] 0 (by unfold maxLen;omega) rfl
     clear hnew hgB htg
     refine wpAnyS_one 8 (by kernel_rfl) ?_
     (intro o8 ho K' hK;simp at ho;subst ho)
     refine step_append_gen (by rfl) _ _ _ (by rfl) 3 (.int .i64 0) 1 8 Tryz.underlying31 Tryz.infoInt2 rfl (by decide) (.slice (some ⟨gB,0,none⟩) 0 0) 0 [] (by rfl) RB.out.1 _ args.length (intsV args) (by rfl) (SA.out y28 hBy28) (by unfold maxLen;omega) (by omega) ?_
     intro aB cB y29 hoB hbB hgB
     simp only [Nat.zero_add,List.nil_append] at hoB hgB ⊢
     have hBy29:Below W.heap.size W y29:=hBy28.trans (hbB.toBelow hBy28.size fun i hi e=>by have:=(RB.out.2 i e).2;omega)
     refine hK.out _ _ (fun _=>?_) ?_
     ·exact hBy29
     clear hK K'
     (try simp only [Act.put,List.setIfInBounds_toArray,List.set_cons_zero,List.set_cons_succ])
     obtain ⟨tg29,htg⟩:=zzN (retag tg28 y28.heap.size 2)
     have RA:Hid (Res W.heap.size tg29 1 y29 3 (.slice aA (begun.length) cA) begun.length (intsV begun)):=by rw [<- htg];exact RA.out.but hbB (fun g hg=>by rw [(RB.out.2 g hg).1];decide) 2
     have EP:Hid (y29.heap[gP]? = some (.cells #[str [],.int .i64 0,.slice none 0 0,.slice none 0 0,.slice none 0 0,.slice none 0 0,.int .i64 0] 177 (0,0))/\tg29 gP=3/\W.heap.size<=gP):=by rw [<- htg];exact ⟨(hbB.block _ (lt_of_heap EP.out.1) (fun e=>by have:=(RB.out.2 _ e).1;rw [EP.out.2.1] at this;exact absurd this (by decide))).trans EP.out.1,by unfold retag;rw [if_neg (by have:=lt_of_heap EP.out.1;omega)];exact EP.out.2.1,EP.out.2.2⟩
     have RB:Hid (Res W.heap.size tg29 2 y29 3 (.slice aB (args.length) cB) (args.length) (intsV args)):=by rw [<- htg];exact RB.out.app hBy28.size hoB hgB
     clear hoB hbB hgB htg
     refine wpAnyS_take 10 (v:=?_) (by kernel_rfl) (by kernel_rfl) (by kernel_rfl) (by kernel_rfl) (fun _ _ _ _ h=>h) hBy29 ?_ ?_
     rotate_left
     ·(intro oi ho;simp at ho;subst ho;refine Or.inl ⟨by rfl,fun w' hw'=>?_⟩;go_simp;try with_reducible rfl)
     (intro d hd;simp at hd;subst hd;simp only [Act.put,List.setIfInBounds_toArray,List.set_cons_zero,List.set_cons_succ])
     refine wpAnyS_one 12 (by kernel_rfl) ?_
     (intro o12 ho K' hK;simp at ho;subst ho)
     obtain ⟨uP0,cP0⟩:∃ u,y29.cell? ⟨gP,0,none⟩=some u:=⟨_,by simp [World.cell?,EP.out.1];rfl⟩
     have fP0:y29.frozen? ⟨gP,0,none⟩=false:=by simp [World.frozen?,EP.out.1]
     obtain ⟨uP1,cP1⟩:∃ u,y29.cell? ⟨gP,1,none⟩=some u:=⟨_,by simp [World.cell?,EP.out.1];rfl⟩
     have fP1:y29.frozen? ⟨gP,1,none⟩=false:=by simp [World.frozen?,EP.out.1]
     obtain ⟨uP2,cP2⟩:∃ u,y29.cell? ⟨gP,2,none⟩=some u:=⟨_,by simp [World.cell?,EP.out.1];rfl⟩
     have fP2:y29.frozen? ⟨gP,2,none⟩=false:=by simp [World.frozen?,EP.out.1]
     obtain ⟨uP3,cP3⟩:∃ u,y29.cell? ⟨gP,3,none⟩=some u:=⟨_,by simp [World.cell?,EP.out.1];rfl⟩
     have fP3:y29.frozen? ⟨gP,3,none⟩=false:=by simp [World.frozen?,EP.out.1]
     obtain ⟨uP4,cP4⟩:∃ u,y29.cell? ⟨gP,4,none⟩=some u:=⟨_,by simp [World.cell?,EP.out.1];rfl⟩
     have fP4:y29.frozen? ⟨gP,4,none⟩=false:=by simp [World.frozen?,EP.out.1]
     obtain ⟨uP5,cP5⟩:∃ u,y29.cell? ⟨gP,5,none⟩=some u:=⟨_,by simp [World.cell?,EP.out.1];rfl⟩
     have fP5:y29.frozen? ⟨gP,5,none⟩=false:=by simp [World.frozen?,EP.out.1]
     obtain ⟨uP6,cP6⟩:∃ u,y29.cell? ⟨gP,6,none⟩=some u:=⟨_,by simp [World.cell?,EP.out.1];rfl⟩
     have fP6:y29.frozen? ⟨gP,6,none⟩=false:=by simp [World.frozen?,EP.out.1]
     go_simp
     refine hK.out _ _ (fun _=>?_) ?_
     ·exact (((((((hBy29.setCell (p:=⟨gP,0,none⟩) EP.out.2.2 _).setCell (p:=⟨gP,1,none⟩) EP.out.2.2 _).setCell (p:=⟨gP,2,none⟩) EP.out.2.2 _).setCell (p:=⟨gP,3,none⟩) EP.out.2.2 _).setCell (p:=⟨gP,4,none⟩) EP.out.2.2 _).setCell (p:=⟨gP,5,none⟩) EP.out.2.2 _).setCell (p:=⟨gP,6,none⟩) EP.out.2.2 _)
     clear hK K'
     (try simp only [Act.put,List.setIfInBounds_toArray,List.set_cons_zero,List.set_cons_succ])
     obtain ⟨y30,hnew⟩:=zzN ((((((((y29.setCell ⟨gP,0,none⟩ (str s)).setCell ⟨gP,1,none⟩ (.int .i64 v)).setCell ⟨gP,2,none⟩ (.slice a2 n2 c2)).setCell ⟨gP,3,none⟩ (.slice a3 n3 c3)).setCell ⟨gP,4,none⟩ (.slice aA begun.length cA)).setCell ⟨gP,5,none⟩ (.slice aB args.length cB)).setCell ⟨gP,6,none⟩ (.int .i64 (idx:Nat))))
     rw [hnew]
     have hBy30:Below W.heap.size W y30:=by rw [<- hnew];exact (((((((hBy29.setCell (p:=⟨gP,0,none⟩) EP.out.2.2 _).setCell (p:=⟨gP,1,none⟩) EP.out.2.2 _).setCell (p:=⟨gP,2,none⟩) EP.out.2.2 _).setCell (p:=⟨gP,3,none⟩) EP.out.2.2 _).setCell (p:=⟨gP,4,none⟩) EP.out.2.2 _).setCell (p:=⟨gP,5,none⟩) EP.out.2.2 _).setCell (p:=⟨gP,6,none⟩) EP.out.2.2 _)
     have hbt:But (fun i=>i=gP) y29 y30:=by rw [<- hnew];exact ((((((((But.refl (fun i=>i=gP) y29).setCell (p:=⟨gP,0,none⟩) (.inl rfl) _).setCell (p:=⟨gP,1,none⟩) (.inl rfl) _).setCell (p:=⟨gP,2,none⟩) (.inl rfl) _).setCell (p:=⟨gP,3,none⟩) (.inl rfl) _).setCell (p:=⟨gP,4,none⟩) (.inl rfl) _).setCell (p:=⟨gP,5,none⟩) (.inl rfl) _).setCell (p:=⟨gP,6,none⟩) (.inl rfl) _)
     have htg:∀ g,g=gP->tg29 g=3:=fun g e=>by rw [e];exact EP.out.2.1
     have RA:Hid (Res W.heap.size tg29 1 y30 3 (.slice aA (begun.length) cA) begun.length (intsV begun)):=⟨RA.out.1.keep fun g o hg ho=>by rw [hbt.block g (lt_of_heap ho) (fun e=>by have:=(RA.out.2 g hg).1;rw [htg g e] at this;exact absurd this (by decide))];exact ho,RA.out.2⟩
     have RB:Hid (Res W.heap.size tg29 2 y30 3 (.slice aB (args.length) cB) args.length (intsV args)):=⟨RB.out.1.keep fun g o hg ho=>by rw [hbt.block g (lt_of_heap ho) (fun e=>by have:=(RB.out.2 g hg).1;rw [htg g e] at this;exact absurd this (by decide))];exact ho,RB.out.2⟩
     have EP:Hid (y30.heap[gP]? = some (.cells #[str s,.int .i64 v,.slice a2 n2 c2,.slice a3 n3 c3,.slice aA begun.length cA,.slice aB args.length cB,.int .i64 (idx:Nat)] 177 (0,0))/\tg29 gP=3/\W.heap.size<=gP):=⟨by rw [<- hnew];exact (setCell_at' (setCell_at' (setCell_at' (setCell_at' (setCell_at' (setCell_at' (setCell_at' EP.out.1))))))),EP.out.2⟩
     clear hnew hbt htg cP0 fP0 cP1 fP1 cP2 fP2 cP3 fP3 cP4 fP4 cP5 fP5 cP6 fP6
     refine wpAnyS_done (by kernel_rfl) (NoPanic.normal ?_) _
     refine ⟨rfl,⟨gA,gB,gP,aA,cA,aB,cB⟩,by rfl,?_⟩
     exact { below:=hBy30,box:=EP.out.1,o5:=by rw [List.replicate_zero,List.append_nil];exact RA.out.1,o6:=by rw [show intsV args++intsV (List.range 0)=intsV args from by simp [intsV]];exact RB.out.1,gw:=EP.out.2.2,f5:=fun i hi=>⟨(RA.out.2 i hi).2,fun e=>by have h1:=(RA.out.2 i hi).1;rw [e,EP.out.2.1] at h1;exact absurd h1 (by decide)⟩,f6:=fun i hi=>⟨(RB.out.2 i hi).2,fun e=>by have h1:=(RB.out.2 i hi).1;rw [e,EP.out.2.1] at h1;exact absurd h1 (by decide)⟩,ap:=fun i hi e=>by have h1:=(RA.out.2 i hi).1;have h2:=(RB.out.2 i e).1;rw [h1] at h2;exact absurd h2 (by decide) }
    ·(intro o5 ho K' hK;simp at ho;subst ho)
     go_simp
     refine hK.out _ _ (fun _=>?_) ?_
     ·exact hBy26.alloc hBy26.size _
     clear hK K'
     (try simp only [Act.put,List.setIfInBounds_toArray,List.set_cons_zero,List.set_cons_succ])
     obtain ⟨y31,hnew⟩:=zzN (y26.alloc (.cells #[] 3))
     obtain ⟨gB,hgB⟩:=zzN (y26.heap.size)
     rw [hnew,hgB]
     have hBy31:Below W.heap.size W y31:=by rw [<- hnew];exact hBy26.alloc hBy26.size _
     obtain ⟨tg31,htg⟩:=zzN (retag tg26 gB 2)
     have RA:Hid (Res W.heap.size tg31 1 y31 3 (.slice (some ⟨gA,0,none⟩) 0 0) 0 []):=by rw [<- hnew,<- htg,<- hgB];exact RA.out.alloc _ 2
     have EP:Hid (y31.heap[gP]? = some (.cells #[str [],.int .i64 0,.slice none 0 0,.slice none 0 0,.slice none 0 0,.slice none 0 0,.int .i64 0] 177 (0,0))/\tg31 gP=3/\W.heap.size<=gP):=by rw [<- hnew,<- htg];exact ⟨heap_past EP.out.1,by unfold retag;rw [if_neg (by have:=lt_of_heap EP.out.1;omega)];exact EP.out.2.1,EP.out.2.2⟩
     have RB:Hid (Res W.heap.size tg31 2 y31 3 (.slice (some ⟨gB,0,none⟩) 0 0) 0 []):=by rw [<- hnew,<- htg,<- hgB];exact Res.lit tg26 2 hBy26.size 3 #[] 0 (by unfold maxLen;omega) rfl
     clear hnew hgB htg
     refine wpAnyS_one 4 (by kernel_rfl) ?_
     (intro o4 ho K' hK;simp at ho;subst ho)
     refine step_append_gen (by rfl) _ _ _ (by rfl) 3 (.int .i64 0) 1 8 Tryz.underlying31 Tryz.infoInt2 rfl (by decide) (.slice (some ⟨gA,0,none⟩) 0 0) 0 [] (by rfl) RA.out.1 _ begun.length (intsV begun) (by rfl) (SB.out y31 hBy31) (by unfold maxLen;omega) (by omega) ?_
     intro aA cA y32 hoA hbA hgA
     simp only [Nat.zero_add,List.nil_append] at hoA hgA ⊢
     have hBy32:Below W.heap.size W y32:=hBy31.trans (hbA.toBelow hBy31.size fun i hi e=>by have:=(RA.out.2 i e).2;omega)
     refine hK.out _ _ (fun _=>?_) ?_
     ·exact hBy32
     clear hK K'
     (try simp only [Act.put,List.setIfInBounds_toArray,List.set_cons_zero,List.set_cons_succ])
     obtain ⟨tg32,htg⟩:=zzN (retag tg31 y31.heap.size 1)
     have RB:Hid (Res W.heap.size tg32 2 y32 3 (.slice (some ⟨gB,0,none⟩) 0 0) 0 []):=by rw [<- htg];exact RB.out.but hbA (fun g hg=>by rw [(RA.out.2 g hg).1];decide) 1
     have EP:Hid (y32.heap[gP]? = some (.cells #[str [],.int .i64 0,.slice none 0 0,.slice none 0 0,.slice none 0 0,.slice none 0 0,.int .i64 0] 177 (0,0))/\tg32 gP=3/\W.heap.size<=gP):=by rw [<- htg];exact ⟨(hbA.block _ (lt_of_heap EP.out.1) (fun e=>by have:=(RA.out.2 _ e).1;rw [EP.out.2.1] at this;exact absurd this (by decide))).trans EP.out.1,by unfold retag;rw [if_neg (by have:=lt_of_heap EP.out.1;omega)];exact EP.out.2.1,EP.out.2.2⟩
     have RA:Hid (Res W.heap.size tg32 1 y32 3 (.slice aA (begun.length) cA) (begun.length) (intsV begun)):=by rw [<- htg];exact RA.out.app hBy31.size hoA hgA
     clear hoA hbA hgA htg
     refine wpAnyS_one 8 (by kernel_rfl) ?_
     (intro o8 ho K' hK;simp at ho;subst ho)
     refine step_append_gen (by rfl) _ _ _ (by rfl) 3 (.int .i64 0) 1 8 Tryz.underlying31 Tryz.infoInt2 rfl (by decide) (.slice (some ⟨gB,0,none⟩) 0 0) 0 [] (by rfl) RB.out.1 _ args.length (intsV args) (by rfl) (SA.out y32 hBy32) (by unfold maxLen;omega) (by omega) ?_
     intro aB cB y33 hoB hbB hgB
     simp only [Nat.zero_add,List.nil_append] at hoB hgB ⊢
     have hBy33:Below W.heap.size W y33:=hBy32.trans (hbB.toBelow hBy32.size fun i hi e=>by have:=(RB.out.2 i e).2;omega)
     refine hK.out _ _ (fun _=>?_) ?_
     ·exact hBy33
     clear hK K'
     (try simp only [Act.put,List.setIfInBounds_toArray,List.set_cons_zero,List.set_cons_succ])
     obtain ⟨tg33,htg⟩:=zzN (retag tg32 y32.heap.size 2)
     have RA:Hid (Res W.heap.size tg33 1 y33 3 (.slice aA (begun.length) cA) begun.length (intsV begun)):=by rw [<- htg];exact RA.out.but hbB (fun g hg=>by rw [(RB.out.2 g hg).1];decide) 2
     have EP:Hid (y33.heap[gP]? = some (.cells #[str [],.int .i64 0,.slice none 0 0,.slice none 0 0,.slice none 0 0,.slice none 0 0,.int .i64 0] 177 (0,0))/\tg33 gP=3/\W.heap.size<=gP):=by rw [<- htg];exact ⟨(hbB.block _ (lt_of_heap EP.out.1) (fun e=>by have:=(RB.out.2 _ e).1;rw [EP.out.2.1] at this;exact absurd this (by decide))).trans EP.out.1,by unfold retag;rw [if_neg (by have:=lt_of_heap EP.out.1;omega)];exact EP.out.2.1,EP.out.2.2⟩
     have RB:Hid (Res W.heap.size tg33 2 y33 3 (.slice aB (args.length) cB) (args.length) (intsV args)):=by rw [<- htg];exact RB.out.app hBy32.size hoB hgB
     clear hoB hbB hgB htg
     refine wpAnyS_take 10 (v:=?_) (by kernel_rfl) (by kernel_rfl) (by kernel_rfl) (by kernel_rfl) (fun _ _ _ _ h=>h) hBy33 ?_ ?_
     rotate_left
     ·(intro oi ho;simp at ho;subst ho;refine Or.inl ⟨by rfl,fun w' hw'=>?_⟩;go_simp;try with_reducible rfl)
     (intro d hd;simp at hd;subst hd;simp only [Act.put,List.setIfInBounds_toArray,List.set_cons_zero,List.set_cons_succ])
     refine wpAnyS_one 12 (by kernel_rfl) ?_
     (intro o12 ho K' hK;simp at ho;subst ho)
     obtain ⟨uP0,cP0⟩:∃ u,y33.cell? ⟨gP,0,none⟩=some u:=⟨_,by simp [World.cell?,EP.out.1];rfl⟩
     have fP0:y33.frozen? ⟨gP,0,none⟩=false:=by simp [World.frozen?,EP.out.1]
     obtain ⟨uP1,cP1⟩:∃ u,y33.cell? ⟨gP,1,none⟩=some u:=⟨_,by simp [World.cell?,EP.out.1];rfl⟩
     have fP1:y33.frozen? ⟨gP,1,none⟩=false:=by simp [World.frozen?,EP.out.1]
     obtain ⟨uP2,cP2⟩:∃ u,y33.cell? ⟨gP,2,none⟩=some u:=⟨_,by simp [World.cell?,EP.out.1];rfl⟩
     have fP2:y33.frozen? ⟨gP,2,none⟩=false:=by simp [World.frozen?,EP.out.1]
     obtain ⟨uP3,cP3⟩:∃ u,y33.cell? ⟨gP,3,none⟩=some u:=⟨_,by simp [World.cell?,EP.out.1];rfl⟩
     have fP3:y33.frozen? ⟨gP,3,none⟩=false:=by simp [World.frozen?,EP.out.1]
     obtain ⟨uP4,cP4⟩:∃ u,y33.cell? ⟨gP,4,none⟩=some u:=⟨_,by simp [World.cell?,EP.out.1];rfl⟩
     have fP4:y33.frozen? ⟨gP,4,none⟩=false:=by simp [World.frozen?,EP.out.1]
     obtain ⟨uP5,cP5⟩:∃ u,y33.cell? ⟨gP,5,none⟩=some u:=⟨_,by simp [World.cell?,EP.out.1];rfl⟩
     have fP5:y33.frozen? ⟨gP,5,none⟩=false:=by simp [World.frozen?,EP.out.1]
     obtain ⟨uP6,cP6⟩:∃ u,y33.cell? ⟨gP,6,none⟩=some u:=⟨_,by simp [World.cell?,EP.out.1];rfl⟩
     have fP6:y33.frozen? ⟨gP,6,none⟩=false:=by simp [World.frozen?,EP.out.1]
     go_simp
     refine hK.out _ _ (fun _=>?_) ?_
     ·exact (((((((hBy33.setCell (p:=⟨gP,0,none⟩) EP.out.2.2 _).setCell (p:=⟨gP,1,none⟩) EP.out.2.2 _).setCell (p:=⟨gP,2,none⟩) EP.out.2.2 _).setCell (p:=⟨gP,3,none⟩) EP.out.2.2 _).setCell (p:=⟨gP,4,none⟩) EP.out.2.2 _).setCell (p:=⟨gP,5,none⟩) EP.out.2.2 _).setCell (p:=⟨gP,6,none⟩) EP.out.2.2 _)
     clear hK K'
     (try simp only [Act.put,List.setIfInBounds_toArray,List.set_cons_zero,List.set_cons_succ])
     obtain ⟨y34,hnew⟩:=zzN ((((((((y33.setCell ⟨gP,0,none⟩ (str s)).setCell ⟨gP,1,none⟩ (.int .i64 v)).setCell ⟨gP,2,none⟩ (.slice a2 n2 c2)).setCell ⟨gP,3,none⟩ (.slice a3 n3 c3)).setCell ⟨gP,4,none⟩ (.slice aA begun.length cA)).setCell ⟨gP,5,none⟩ (.slice aB args.length cB)).setCell ⟨gP,6,none⟩ (.int .i64 (idx:Nat))))
     rw [hnew]
     have hBy34:Below W.heap.size W y34:=by rw [<- hnew];exact (((((((hBy33.setCell (p:=⟨gP,0,none⟩) EP.out.2.2 _).setCell (p:=⟨gP,1,none⟩) EP.out.2.2 _).setCell (p:=⟨gP,2,none⟩) EP.out.2.2 _).setCell (p:=⟨gP,3,none⟩) EP.out.2.2 _).setCell (p:=⟨gP,4,none⟩) EP.out.2.2 _).setCell (p:=⟨gP,5,none⟩) EP.out.2.2 _).setCell (p:=⟨gP,6,none⟩) EP.out.2.2 _)
     have hbt:But (fun i=>i=gP) y33 y34:=by rw [<- hnew];exact ((((((((But.refl (fun i=>i=gP) y33).setCell (p:=⟨gP,0,none⟩) (.inl rfl) _).setCell (p:=⟨gP,1,none⟩) (.inl rfl) _).setCell (p:=⟨gP,2,none⟩) (.inl rfl) _).setCell (p:=⟨gP,3,none⟩) (.inl rfl) _).setCell (p:=⟨gP,4,none⟩) (.inl rfl) _).setCell (p:=⟨gP,5,none⟩) (.inl rfl) _).setCell (p:=⟨gP,6,none⟩) (.inl rfl) _)
     have htg:∀ g,g=gP->tg33 g=3:=fun g e=>by rw [e];exact EP.out.2.1
     have RA:Hid (Res W.heap.size tg33 1 y34 3 (.slice aA (begun.length) cA) begun.length (intsV begun)):=⟨RA.out.1.keep fun g o hg ho=>by rw [hbt.block g (lt_of_heap ho) (fun e=>by have:=(RA.out.2 g hg).1;rw [htg g e] at this;exact absurd this (by decide))];exact ho,RA.out.2⟩
     have RB:Hid (Res W.heap.size tg33 2 y34 3 (.slice aB (args.length) cB) args.length (intsV args)):=⟨RB.out.1.keep fun g o hg ho=>by rw [hbt.block g (lt_of_heap ho) (fun e=>by have:=(RB.out.2 g hg).1;rw [htg g e] at this;exact absurd this (by decide))];exact ho,RB.out.2⟩
     have EP:Hid (y34.heap[gP]? = some (.cells #[str s,.int .i64 v,.slice a2 n2 c2,.slice a3 n3 c3,.slice aA begun.length cA,.slice aB args.length cB,.int .i64 (idx:Nat)] 177 (0,0))/\tg33 gP=3/\W.heap.size<=gP):=⟨by rw [<- hnew];exact (setCell_at' (setCell_at' (setCell_at' (setCell_at' (setCell_at' (setCell_at' (setCell_at' EP.out.1))))))),EP.out.2⟩
     clear hnew hbt htg cP0 fP0 cP1 fP1 cP2 fP2 cP3 fP3 cP4 fP4 cP5 fP5 cP6 fP6
     refine wpAnyS_done (by kernel_rfl) (NoPanic.normal ?_) _
     refine ⟨rfl,⟨gA,gB,gP,aA,cA,aB,cB⟩,by rfl,?_⟩
     exact { below:=hBy34,box:=EP.out.1,o5:=by rw [List.replicate_zero,List.append_nil];exact RA.out.1,o6:=by rw [show intsV args++intsV (List.range 0)=intsV args from by simp [intsV]];exact RB.out.1,gw:=EP.out.2.2,f5:=fun i hi=>⟨(RA.out.2 i hi).2,fun e=>by have h1:=(RA.out.2 i hi).1;rw [e,EP.out.2.1] at h1;exact absurd h1 (by decide)⟩,f6:=fun i hi=>⟨(RB.out.2 i hi).2,fun e=>by have h1:=(RB.out.2 i hi).1;rw [e,EP.out.2.1] at h1;exact absurd h1 (by decide)⟩,ap:=fun i hi e=>by have h1:=(RA.out.2 i hi).1;have h2:=(RB.out.2 i e).1;rw [h1] at h2;exact absurd h2 (by decide) }
  ·(intro o5 ho K' hK;simp at ho;subst ho)
   go_simp
   refine hK.out _ _ (fun _=>?_) ?_
   ·exact hBy0.alloc hBy0.size _
   clear hK K'
   (try simp only [Act.put,List.setIfInBounds_toArray,List.set_cons_zero,List.set_cons_succ])
   obtain ⟨y35,hnew⟩:=zzN (y0.alloc (.cells #[] 3))
   obtain ⟨gB,hgB⟩:=zzN (y0.heap.size)
   rw [hnew,hgB]
   have hBy35:Below W.heap.size W y35:=by rw [<- hnew];exact hBy0.alloc hBy0.size _
   obtain ⟨tg35,htg⟩:=zzN (retag tg0 gB 2)
   have RB:Hid (Res W.heap.size tg35 2 y35 3 (.slice (some ⟨gB,0,none⟩) 0 0) 0 []):=by rw [<- hnew,<- htg,<- hgB];exact Res.lit tg0 2 hBy0.size 3 #[] 0 (by unfold maxLen;omega) rfl
   clear hnew hgB htg
   refine wpAnyS_two 1 11 (by kernel_rfl) ?_ ?_
   ·(intro o1 ho K' hK;simp at ho;subst ho)
    go_simp
    refine hK.out _ _ (fun _=>?_) ?_
    ·exact hBy35.alloc hBy35.size _
    clear hK K'
    (try simp only [Act.put,List.setIfInBounds_toArray,List.set_cons_zero,List.set_cons_succ])
    obtain ⟨y36,hnew⟩:=zzN (y35.alloc (.cells #[] 3))
    obtain ⟨gA,hgA⟩:=zzN (y35.heap.size)
    rw [hnew,hgA]
    have hBy36:Below W.heap.size W y36:=by rw [<- hnew];exact hBy35.alloc hBy35.size _
    obtain ⟨tg36,htg⟩:=zzN (retag tg35 gA 1)
    have RB:Hid (Res W.heap.size tg36 2 y36 3 (.slice (some ⟨gB,0,none⟩) 0 0) 0 []):=by rw [<- hnew,<- htg,<- hgA];exact RB.out.alloc _ 1
    have RA:Hid (Res W.heap.size tg36 1 y36 3 (.slice (some ⟨gA,0,none⟩) 0 0) 0 []):=by rw [<- hnew,<- htg,<- hgA];exact Res.lit tg35 1 hBy35.size 3 #[] 0 (by unfold maxLen;omega) rfl
    clear hnew hgA htg
    refine wpAnyS_two 4 11 (by kernel_rfl) ?_ ?_
    ·(intro o4 ho K' hK;simp at ho;subst ho)
     refine step_append_gen (by rfl) _ _ _ (by rfl) 3 (.int .i64 0) 1 8 Tryz.underlying31 Tryz.infoInt2 rfl (by decide) (.slice (some ⟨gA,0,none⟩) 0 0) 0 [] (by rfl) RA.out.1 _ begun.length (intsV begun) (by rfl) (SB.out y36 hBy36) (by unfold maxLen;omega) (by omega) ?_
     intro aA cA y37 hoA hbA hgA
     simp only [Nat.zero_add,List.nil_append] at hoA hgA ⊢
     have hBy37:Below W.heap.size W y37:=hBy36.trans (hbA.toBelow hBy36.size fun i hi e=>by have:=(RA.out.2 i e).2;omega)
     refine hK.out _ _ (fun _=>?_) ?_
     ·exact hBy37
     clear hK K'
     (try simp only [Act.put,List.setIfInBounds_toArray,List.set_cons_zero,List.set_cons_succ])
     obtain ⟨tg37,htg⟩:=zzN (retag tg36 y36.heap.size 1)
     have RB:Hid (Res W.heap.size tg37 2 y37 3 (.slice (some ⟨gB,0,none⟩) 0 0) 0 []):=by rw [<- htg];exact RB.out.but hbA (fun g hg=>by rw [(RA.out.2 g hg).1];decide) 1
     have RA:Hid (Res W.heap.size tg37 1 y37 3 (.slice aA (begun.length) cA) (begun.length) (intsV begun)):=by rw [<- htg];exact RA.out.app hBy36.size hoA hgA
     clear hoA hbA hgA htg
     refine wpAnyS_two 8 11 (by kernel_rfl) ?_ ?_
     ·(intro o8 ho K' hK;simp at ho;subst ho)
      refine step_append_gen (by rfl) _ _ _ (by rfl) 3 (.int .i64 0) 1 8 Tryz.underlying31 Tryz.infoInt2 rfl (by decide) (.slice (some ⟨gB,0,none⟩) 0 0) 0 [] (by rfl) RB.out.1 _ args.length (intsV args) (by rfl) (SA.out y37 hBy37) (by unfold maxLen;omega) (by omega) ?_
      intro aB cB y38 hoB hbB hgB
      simp only [Nat.zero_add,List.nil_append] at hoB hgB ⊢
      have hBy38:Below W.heap.size W y38:=hBy37.trans (hbB.toBelow hBy37.size fun i hi e=>by have:=(RB.out.2 i e).2;omega)
      refine hK.out _ _ (fun _=>?_) ?_
      ·exact hBy38
      clear hK K'
      (try simp only [Act.put,List.setIfInBounds_toArray,List.set_cons_zero,List.set_cons_succ])
      obtain ⟨tg38,htg⟩:=zzN (retag tg37 y37.heap.size 2)
      have RA:Hid (Res W.heap.size tg38 1 y38 3 (.slice aA (begun.length) cA) begun.length (intsV begun)):=by rw [<- htg];exact RA.out.but hbB (fun g hg=>by rw [(RB.out.2 g hg).1];decide) 2
      have RB:Hid (Res W.heap.size tg38 2 y38 3 (.slice aB (args.length) cB) (args.length) (intsV args)):=by rw [<- htg];exact RB.out.app hBy37.size hoB hgB
      clear hoB hbB hgB htg
      refine wpAnyS_take 10 (v:=?_) (by kernel_rfl) (by kernel_rfl) (by kernel_rfl) (by kernel_rfl) (fun _ _ _ _ h=>h) hBy38 ?_ ?_
      rotate_left
      ·(intro oi ho;simp at ho;subst ho;refine Or.inl ⟨by rfl,fun w' hw'=>?_⟩;go_simp;try with_reducible rfl)
      (intro d hd;simp at hd;subst hd;simp only [Act.put,List.setIfInBounds_toArray,List.set_cons_zero,List.set_cons_succ])
      refine wpAnyS_one 11 (by kernel_rfl) ?_
      (intro o11 ho K' hK;simp at ho;subst ho)
      go_simp
      refine hK.out _ _ (fun _=>?_) ?_
      ·exact hBy38.alloc hBy38.size _
      clear hK K'
      (try simp only [Act.put,List.setIfInBounds_toArray,List.set_cons_zero,List.set_cons_succ])
      obtain ⟨y39,hnew⟩:=zzN (y38.alloc (.cells #[str [],.int .i64 0,.slice none 0 0,.slice none 0 0,.slice none 0 0,.slice none 0 0,.int .i64 0] 177))
      obtain ⟨gP,hgP⟩:=zzN (y38.heap.size)
      rw [hnew,hgP]
      have hBy39:Below W.heap.size W y39:=by rw [<- hnew];exact hBy38.alloc hBy38.size _
      obtain ⟨tg39,htg⟩:=zzN (retag tg38 gP 3)
      have RB:Hid (Res W.heap.size tg39 2 y39 3 (.slice aB (args.length) cB) args.length (intsV args)):=by rw [<- hnew,<- htg,<- hgP];exact RB.out.alloc _ 3
      have RA:Hid (Res W.heap.size tg39 1 y39 3 (.slice aA (begun.length) cA) begun.length (intsV begun)):=by rw [<- hnew,<- htg,<- hgP];exact RA.out.alloc _ 3
      have EP:Hid (y39.heap[gP]? = some (.cells #[str [],.int .i64 0,.slice none 0 0,.slice none 0 0,.slice none 0 0,.slice none 0 0,.int .i64 0] 177 (0,0))/\tg39 gP=3/\W.heap.size<=gP):=by rw [<- hnew,<- htg,<- hgP];exact ⟨heap_new _ _,by unfold retag;rw [if_pos rfl],hBy38.size⟩
      clear hnew hgP htg
      refine wpAnyS_one 12 (by kernel_rfl) ?_
      (intro o12 ho K' hK;simp at ho;subst ho)
      obtain ⟨uP0,cP0⟩:∃ u,y39.cell? ⟨gP,0,none⟩=some u:=⟨_,by simp [World.cell?,EP.out.1];rfl⟩
      have fP0:y39.frozen? ⟨gP,0,none⟩=false:=by simp [World.frozen?,EP.out.1]
      obtain ⟨uP1,cP1⟩:∃ u,y39.cell? ⟨gP,1,none⟩=some u:=⟨_,by simp [World.cell?,EP.out.1];rfl⟩
      have fP1:y39.frozen? ⟨gP,1,none⟩=false:=by simp [World.frozen?,EP.out.1]
      obtain ⟨uP2,cP2⟩:∃ u,y39.cell? ⟨gP,2,none⟩=some u:=⟨_,by simp [World.cell?,EP.out.1];rfl⟩
      have fP2:y39.frozen? ⟨gP,2,none⟩=false:=by simp [World.frozen?,EP.out.1]
      obtain ⟨uP3,cP3⟩:∃ u,y39.cell? ⟨gP,3,none⟩=some u:=⟨_,by simp [World.cell?,EP.out.1];rfl⟩
      have fP3:y39.frozen? ⟨gP,3,none⟩=false:=by simp [World.frozen?,EP.out.1]
      obtain ⟨uP4,cP4⟩:∃ u,y39.cell? ⟨gP,4,none⟩=some u:=⟨_,by simp [World.cell?,EP.out.1];rfl⟩
      have fP4:y39.frozen? ⟨gP,4,none⟩=false:=by simp [World.frozen?,EP.out.1]
      obtain ⟨uP5,cP5⟩:∃ u,y39.cell? ⟨gP,5,none⟩=some u:=⟨_,by simp [World.cell?,EP.out.1];rfl⟩
      have fP5:y39.frozen? ⟨gP,5,none⟩=false:=by simp [World.frozen?,EP.out.1]
      obtain ⟨uP6,cP6⟩:∃ u,y39.cell? ⟨gP,6,none⟩=some u:=⟨_,by simp [World.cell?,EP.out.1];rfl⟩
      have fP6:y39.frozen? ⟨gP,6,none⟩=false:=by simp [World.frozen?,EP.out.1]
      go_simp
      refine hK.out _ _ (fun _=>?_) ?_
      ·exact (((((((hBy39.setCell (p:=⟨gP,0,none⟩) EP.out.2.2 _).setCell (p:=⟨gP,1,none⟩) EP.out.2.2 _).setCell (p:=⟨gP,2,none⟩) EP.out.2.2 _).setCell (p:=⟨gP,3,none⟩) EP.out.2.2 _).setCell (p:=⟨gP,4,none⟩) EP.out.2.2 _).setCell (p:=⟨gP,5,none⟩) EP.out.2.2 _).setCell (p:=⟨gP,6,none⟩) EP.out.2.2 _)
      clear hK K'
      (try simp only [Act.put,List.setIfInBounds_toArray,List.set_cons_zero,List.set_cons_succ])
      obtain ⟨y40,hnew⟩:=zzN ((((((((y39.setCell ⟨gP,0,none⟩ (str s)).setCell ⟨gP,1,none⟩ (.int .i64 v)).setCell ⟨gP,2,none⟩ (.slice a2 n2 c2)).setCell ⟨gP,3,none⟩ (.slice a3 n3 c3)).setCell ⟨gP,4,none⟩ (.slice aA begun.length cA)).setCell ⟨gP,5,none⟩ (.slice aB args.length cB)).setCell ⟨gP,6,none⟩ (.int .i64 (idx:Nat))))
      rw [hnew]
      have hBy40:Below W.heap.size W y40:=by rw [<- hnew];exact (((((((hBy39.setCell (p:=⟨gP,0,none⟩) EP.out.2.2 _).setCell (p:=⟨gP,1,none⟩) EP.out.2.2 _).setCell (p:=⟨gP,2,none⟩) EP.out.2.2 _).setCell (p:=⟨gP,3,none⟩) EP.out.2.2 _).setCell (p:=⟨gP,4,none⟩) EP.out.2.2 _).setCell (p:=⟨gP,5,none⟩) EP.out.2.2 _).setCell (p:=⟨gP,6,none⟩) EP.out.2.2 _)
      have hbt:But (fun i=>i=gP) y39 y40:=by rw [<- hnew];exact ((((((((But.refl (fun i=>i=gP) y39).setCell (p:=⟨gP,0,none⟩) (.inl rfl) _).setCell (p:=⟨gP,1,none⟩) (.inl rfl) _).setCell (p:=⟨gP,2,none⟩) (.inl rfl) _).setCell (p:=⟨gP,3,none⟩) (.inl rfl) _).setCell (p:=⟨gP,4,none⟩) (.inl rfl) _).setCell (p:=⟨gP,5,none⟩) (.inl rfl) _).setCell (p:=⟨gP,6,none⟩) (.inl rfl) _)
      have htg:∀ g,g=gP->tg39 g=3:=fun g e=>by rw [e];exact EP.out.2.1
      have RB:Hid (Res W.heap.size tg39 2 y40 3 (.slice aB (args.length) cB) args.length (intsV args)):=⟨RB.out.1.keep fun g o hg ho=>by rw [hbt.block g (lt_of_heap ho) (fun e=>by have:=(RB.out.2 g hg).1;rw [htg g e] at this;exact absurd this (by decide))];exact ho,RB.out.2⟩
      have RA:Hid (Res W.heap.size tg39 1 y40 3 (.slice aA (begun.length) cA) begun.length (intsV begun)):=⟨RA.out.1.keep fun g o hg ho=>by rw [hbt.block g (lt_of_heap ho) (fun e=>by have:=(RA.out.2 g hg).1;rw [htg g e] at this;exact absurd this (by decide))];exact ho,RA.out.2⟩
      have EP:Hid (y40.heap[gP]? = some (.cells #[str s,.int .i64 v,.slice a2 n2 c2,.slice a3 n3 c3,.slice aA begun.length cA,.slice aB args.length cB,.int .i64 (idx:Nat)] 177 (0,0))/\tg39 gP=3/\W.heap.size<=gP):=⟨by rw [<- hnew];exact (setCell_at' (setCell_at' (setCell_at' (setCell_at' (setCell_at' (setCell_at' (setCell_at' EP.out.1))))))),EP.out.2⟩
      clear hnew hbt htg cP0 fP0 cP1 fP1 cP2 fP2 cP3 fP3 cP4 fP4 cP5 fP5 cP6 fP6
      refine wpAnyS_done (by kernel_rfl) (NoPanic.normal ?_) _
      refine ⟨rfl,⟨gA,gB,gP,aA,cA,aB,cB⟩,by rfl,?_⟩
      exact { below:=hBy40,box:=EP.out.1,o5:=by rw [List.replicate_zero,List.append_nil];exact RA.out.1,o6:=by rw [show intsV args++intsV (List.range 0)=intsV args from by simp [intsV]];exact RB.out.1,gw:=EP.out.2.2,f5:=fun i hi=>⟨(RA.out.2 i hi).2,fun e=>by have h1:=(RA.out.2 i hi).1;rw [e,EP.out.2.1] at h1;exact absurd h1 (by decide)⟩,f6:=fun i hi=>⟨(RB.out.2 i hi).2,fun e=>by have h1:=(RB.out.2 i hi).1;rw [e,EP.out.2.1] at h1;exact absurd h1 (by decide)⟩,ap:=fun i hi e=>by have h1:=(RA.out.2 i hi).1;have h2:=(RB.out.2 i e).1;rw [h1] at h2;exact absurd h2 (by decide) }
     ·(intro o11 ho K' hK;simp at ho;subst ho)
      go_simp
      refine hK.out _ _ (fun _=>?_) ?_
      ·exact hBy37.alloc hBy37.size _
      clear hK K'
      (try simp only [Act.put,List.setIfInBounds_toArray,List.set_cons_zero,List.set_cons_succ])
      obtain ⟨y41,hnew⟩:=zzN (y37.alloc (.cells #[str [],.int .i64 0,.slice none 0 0,.slice none 0 0,.slice none 0 0,.slice none 0 0,.int .i64 0] 177))
      obtain ⟨gP,hgP⟩:=zzN (y37.heap.size)
      rw [hnew,hgP]
      have hBy41:Below W.heap.size W y41:=by rw [<- hnew];exact hBy37.alloc hBy37.size _
      obtain ⟨tg41,htg⟩:=zzN (retag tg37 gP 3)
      have RB:Hid (Res W.heap.size tg41 2 y41 3 (.slice (some ⟨gB,0,none⟩) 0 0) 0 []):=by rw [<- hnew,<- htg,<- hgP];exact RB.out.alloc _ 3
      have RA:Hid (Res W.heap.size tg41 1 y41 3 (.slice aA (begun.length) cA) begun.length (intsV begun)):=by rw [<- hnew,<- htg,<- hgP];exact RA.out.alloc _ 3
      have EP:Hid (y41.heap[gP]? = some (.cells #[str [],.int .i64 0,.slice none 0 0,.slice none 0 0,.slice none 0 0,.slice none 0 0,.int .i64 0] 177 (0,0))/\tg41 gP=3/\W.heap.size<=gP):=by rw [<- hnew,<- htg,<- hgP];exact ⟨heap_new _ _,by unfold retag;rw [if_pos rfl],hBy37.size⟩
      clear hnew hgP htg
      refine wpAnyS_one 8 (by kernel_rfl) ?_
      (intro o8 ho K' hK;simp at ho;subst ho)
      refine step_append_gen (by rfl) _ _ _ (by rfl) 3 (.int .i64 0) 1 8 Tryz.underlying31 Tryz.infoInt2 rfl (by decide) (.slice (some ⟨gB,0,none⟩) 0 0) 0 [] (by rfl) RB.out.1 _ args.length (intsV args) (by rfl) (SA.out y41 hBy41) (by unfold maxLen;omega) (by omega) ?_
      intro aB cB y42 hoB hbB hgB
      simp only [Nat.zero_add,List.nil_append] at hoB hgB ⊢
      have hBy42:Below W.heap.size W y42:=hBy41.trans (hbB.toBelow hBy41.size fun i hi e=>by have:=(RB.out.2 i e).2;omega)
      refine hK.out _ _ (fun _=>?_) ?_
      ·exact hBy42
      clear hK K'
      (try simp only [Act.put,List.setIfInBounds_toArray,List.set_cons_zero,List.set_cons_succ])
      obtain ⟨tg42,htg⟩:=zzN (retag tg41 y41.heap.size 2)
      have RA:Hid (Res W.heap.size tg42 1 y42 3 (.slice aA (begun.length) cA) begun.length (intsV begun)):=by rw [<- htg];exact RA.out.but hbB (fun g hg=>by rw [(RB.out.2 g hg).1];decide) 2
      have EP:Hid (y42.heap[gP]? = some (.cells #[str [],.int .i64 0,.slice none 0 0,.slice none 0 0,.slice none 0 0,.slice none 0 0,.int .i64 0] 177 (0,0))/\tg42 gP=3/\W.heap.size<=gP):=by rw [<- htg];exact ⟨(hbB.block _ (lt_of_heap EP.out.1) (fun e=>by have:=(RB.out.2 _ e).1;rw [EP.out.2.1] at this;exact absurd this (by decide))).trans EP.out.1,by unfold retag;rw [if_neg (by have:=lt_of_heap EP.out.1;omega)];exact EP.out.2.1,EP.out.2.2⟩
      have RB:Hid (Res W.heap.size tg42 2 y42 3 (.slice aB (args.length) cB) (args.length) (intsV args)):=by rw [<- htg];exact RB.out.app hBy41.size hoB hgB
      clear hoB hbB hgB htg
      refine wpAnyS_take 10 (v:=?_) (by kernel_rfl) (by kernel_rfl) (by kernel_rfl) (by kernel_rfl) (fun _ _ _ _ h=>h) hBy42 ?_ ?_
      rotate_left
      ·(intro oi ho;simp at ho;subst ho;refine Or.inl ⟨by rfl,fun w' hw'=>?_⟩;go_simp;try with_reducible rfl)
      (intro d hd;simp at hd;subst hd;simp only [Act.put,List.setIfInBounds_toArray,List.set_cons_zero,List.set_cons_succ])
      refine wpAnyS_one 12 (by kernel_rfl) ?_
      (intro o12 ho K' hK;simp at ho;subst ho)
      obtain ⟨uP0,cP0⟩:∃ u,y42.cell? ⟨gP,0,none⟩=some u:=⟨_,by simp [World.cell?,EP.out.1];rfl⟩
      have fP0:y42.frozen? ⟨gP,0,none⟩=false:=by simp [World.frozen?,EP.out.1]
      obtain ⟨uP1,cP1⟩:∃ u,y42.cell? ⟨gP,1,none⟩=some u:=⟨_,by simp [World.cell?,EP.out.1];rfl⟩
      have fP1:y42.frozen? ⟨gP,1,none⟩=false:=by simp [World.frozen?,EP.out.1]
      obtain ⟨uP2,cP2⟩:∃ u,y42.cell? ⟨gP,2,none⟩=some u:=⟨_,by simp [World.cell?,EP.out.1];rfl⟩
      have fP2:y42.frozen? ⟨gP,2,none⟩=false:=by simp [World.frozen?,EP.out.1]
      obtain ⟨uP3,cP3⟩:∃ u,y42.cell? ⟨gP,3,none⟩=some u:=⟨_,by simp [World.cell?,EP.out.1];rfl⟩
      have fP3:y42.frozen? ⟨gP,3,none⟩=false:=by simp [World.frozen?,EP.out.1]
      obtain ⟨uP4,cP4⟩:∃ u,y42.cell? ⟨gP,4,none⟩=some u:=⟨_,by simp [World.cell?,EP.out.1];rfl⟩
      have fP4:y42.frozen? ⟨gP,4,none⟩=false:=by simp [World.frozen?,EP.out.1]
      obtain ⟨uP5,cP5⟩:∃ u,y42.cell? ⟨gP,5,none⟩=some u:=⟨_,by simp [World.cell?,EP.out.1];rfl⟩
      have fP5:y42.frozen? ⟨gP,5,none⟩=false:=by simp [World.frozen?,EP.out.1]
      obtain ⟨uP6,cP6⟩:∃ u,y42.cell? ⟨gP,6,none⟩=some u:=⟨_,by simp [World.cell?,EP.out.1];rfl⟩
      have fP6:y42.frozen? ⟨gP,6,none⟩=false:=by simp [World.frozen?,EP.out.1]
      go_simp
      refine hK.out _ _ (fun _=>?_) ?_
      ·exact (((((((hBy42.setCell (p:=⟨gP,0,none⟩) EP.out.2.2 _).setCell (p:=⟨gP,1,none⟩) EP.out.2.2 _).setCell (p:=⟨gP,2,none⟩) EP.out.2.2 _).setCell (p:=⟨gP,3,none⟩) EP.out.2.2 _).setCell (p:=⟨gP,4,none⟩) EP.out.2.2 _).setCell (p:=⟨gP,5,none⟩) EP.out.2.2 _).setCell (p:=⟨gP,6,none⟩) EP.out.2.2 _)
      clear hK K'
      (try simp only [Act.put,List.setIfInBounds_toArray,List.set_cons_zero,List.set_cons_succ])
      obtain ⟨y43,hnew⟩:=zzN ((((((((y42.setCell ⟨gP,0,none⟩ (str s)).setCell ⟨gP,1,none⟩ (.int .i64 v)).setCell ⟨gP,2,none⟩ (.slice a2 n2 c2)).setCell ⟨gP,3,none⟩ (.slice a3 n3 c3)).setCell ⟨gP,4,none⟩ (.slice aA begun.length cA)).setCell ⟨gP,5,none⟩ (.slice aB args.length cB)).setCell ⟨gP,6,none⟩ (.int .i64 (idx:Nat))))
      rw [hnew]
      have hBy43:Below W.heap.size W y43:=by rw [<- hnew];exact (((((((hBy42.setCell (p:=⟨gP,0,none⟩) EP.out.2.2 _).setCell (p:=⟨gP,1,none⟩) EP.out.2.2 _).setCell (p:=⟨gP,2,none⟩) EP.out.2.2 _).setCell (p:=⟨gP,3,none⟩) EP.out.2.2 _).setCell (p:=⟨gP,4,none⟩) EP.out.2.2 _).setCell (p:=⟨gP,5,none⟩) EP.out.2.2 _).setCell (p:=⟨gP,6,none⟩) EP.out.2.2 _)
      have hbt:But (fun i=>i=gP) y42 y43:=by rw [<- hnew];exact ((((((((But.refl (fun i=>i=gP) y42).setCell (p:=⟨gP,0,none⟩) (.inl rfl) _).setCell (p:=⟨gP,1,none⟩) (.inl rfl) _).setCell (p:=⟨gP,2,none⟩) (.inl rfl) _).setCell (p:=⟨gP,3,none⟩) (.inl rfl) _).setCell (p:=⟨gP,4,none⟩) (.inl rfl) _).setCell (p:=⟨gP,5,none⟩) (.inl rfl) _).setCell (p:=⟨gP,6,none⟩) (.inl rfl) _)
      have htg:∀ g,g=gP->tg42 g=3:=fun g e=>by rw [e];exact EP.out.2.1
      have RB:Hid (Res W.heap.size tg42 2 y43 3 (.slice aB (args.length) cB) args.length (intsV args)):=⟨RB.out.1.keep fun g o hg ho=>by rw [hbt.block g (lt_of_heap ho) (fun e=>by have:=(RB.out.2 g hg).1;rw [htg g e] at this;exact absurd this (by decide))];exact ho,RB.out.2⟩
      have RA:Hid (Res W.heap.size tg42 1 y43 3 (.slice aA (begun.length) cA) begun.length (intsV begun)):=⟨RA.out.1.keep fun g o hg ho=>by rw [hbt.block g (lt_of_heap ho) (fun e=>by have:=(RA.out.2 g hg).1;rw [htg g e] at this;exact absurd this (by decide))];exact ho,RA.out.2⟩
      have EP:Hid (y43.heap[gP]? = some (.cells #[str s,.int .i64 v,.slice a2 n2 c2,.slice a3 n3 c3,.slice aA begun.length cA,.slice aB args.length cB,.int .i64 (idx:Nat)] 177 (0,0))/\tg42 gP=3/\W.heap.size<=gP):=⟨by rw [<- hnew];exact (setCell_at' (setCell_at' (setCell_at' (setCell_at' (setCell_at' (setCell_at' (setCell_at' EP.out.1))))))),EP.out.2⟩
      clear hnew hbt htg cP0 fP0 cP1 fP1 cP2 fP2 cP3 fP3 cP4 fP4 cP5 fP5 cP6 fP6
      refine wpAnyS_done (by kernel_rfl) (NoPanic.normal ?_) _
      refine ⟨rfl,⟨gA,gB,gP,aA,cA,aB,cB⟩,by rfl,?_⟩
      exact { below:=hBy43,box:=EP.out.1,o5:=by rw [List.replicate_zero,List.append_nil];exact RA.out.1,o6:=by rw [show intsV args++intsV (List.range 0)=intsV args from by simp [intsV]];exact RB.out.1,gw:=EP.out.2.2,f5:=fun i hi=>⟨(RA.out.2 i hi).2,fun e=>by have h1:=(RA.out.2 i hi).1;rw [e,EP.out.2.1] at h1;exact absurd h1 (by decide)⟩,f6:=fun i hi=>⟨(RB.out.2 i hi).2,fun e=>by have h1:=(RB.out.2 i hi).1;rw [e,EP.out.2.1] at h1;exact absurd h1 (by decide)⟩,ap:=fun i hi e=>by have h1:=(RA.out.2 i hi).1;have h2:=(RB.out.2 i e).1;rw [h1] at h2;exact absurd h2 (by decide) }
    ·(intro o11 ho K' hK;simp at ho;subst ho)
     go_simp
     refine hK.out _ _ (fun _=>?_) ?_
     ·exact hBy36.alloc hBy36.size _
     clear hK K'
     (try simp only [Act.put,List.setIfInBounds_toArray,List.set_cons_zero,List.set_cons_succ])
     obtain ⟨y44,hnew⟩:=zzN (y36.alloc (.cells #[str [],.int .i64 0,.slice none 0 0,.slice none 0 0,.slice none 0 0,.slice none 0 0,.int .i64 0] 177))
     obtain ⟨gP,hgP⟩:=zzN (y36.heap.size)
     rw [hnew,hgP]
     have hBy44:Below W.heap.size W y44:=by rw [<- hnew];exact hBy36.alloc hBy36.size _
     obtain ⟨tg44,htg⟩:=zzN (retag tg36 gP 3)
     have RB:Hid (Res W.heap.size tg44 2 y44 3 (.slice (some ⟨gB,0,none⟩) 0 0) 0 []):=by rw [<- hnew,<- htg,<- hgP];exact RB.out.alloc _ 3
     have RA:Hid (Res W.heap.size tg44 1 y44 3 (.slice (some ⟨gA,0,none⟩) 0 0) 0 []):=by rw [<- hnew,<- htg,<- hgP];exact RA.out.alloc _ 3
     have EP:Hid (y44.heap[gP]? = some (.cells #[str [],.int .i64 0,.slice none 0 0,.slice none 0 0,.slice none 0 0,.slice none 0 0,.int .i64 0] 177 (0,0))/\tg44 gP=3/\W.heap.size<=gP):=by rw [<- hnew,<- htg,<- hgP];exact ⟨heap_new _ _,by unfold retag;rw [if_pos rfl],hBy36.size⟩
     clear hnew hgP htg
     refine wpAnyS_one 4 (by kernel_rfl) ?_
     (intro o4 ho K' hK;simp at ho;subst ho)
     refine step_append_gen (by rfl) _ _ _ (by rfl) 3 (.int .i64 0) 1 8 Tryz.underlying31 Tryz.infoInt2 rfl (by decide) (.slice (some ⟨gA,0,none⟩) 0 0) 0 [] (by rfl) RA.out.1 _ begun.length (intsV begun) (by rfl) (SB.out y44 hBy44) (by unfold maxLen;omega) (by omega) ?_
     intro aA cA y45 hoA hbA hgA
     simp only [Nat.zero_add,List.nil_append] at hoA hgA ⊢
     have hBy45:Below W.heap.size W y45:=hBy44.trans (hbA.toBelow hBy44.size fun i hi e=>by have:=(RA.out.2 i e).2;omega)
     refine hK.out _ _ (fun _=>?_) ?_
     ·exact hBy45
     clear hK K'
     (try simp only [Act.put,List.setIfInBounds_toArray,List.set_cons_zero,List.set_cons_succ])
     obtain ⟨tg45,htg⟩:=zzN (retag tg44 y44.heap.size 1)
     have RB:Hid (Res W.heap.size tg45 2 y45 3 (.slice (some ⟨gB,0,none⟩) 0 0) 0 []):=by rw [<- htg];exact RB.out.but hbA (fun g hg=>by rw [(RA.out.2 g hg).1];decide) 1
     have EP:Hid (y45.heap[gP]? = some (.cells #[str [],.int .i64 0,.slice none 0 0,.slice none 0 0,.slice none 0 0,.slice none 0 0,.int .i64 0] 177 (0,0))/\tg45 gP=3/\W.heap.size<=gP):=by rw [<- htg];exact ⟨(hbA.block _ (lt_of_heap EP.out.1) (fun e=>by have:=(RA.out.2 _ e).1;rw [EP.out.2.1] at this;exact absurd this (by decide))).trans EP.out.1,by unfold retag;rw [if_neg (by have:=lt_of_heap EP.out.1;omega)];exact EP.out.2.1,EP.out.2.2⟩
     have RA:Hid (Res W.heap.size tg45 1 y45 3 (.slice aA (begun.length) cA) (begun.length) (intsV begun)):=by rw [<- htg];exact RA.out.app hBy44.size hoA hgA
     clear hoA hbA hgA htg
     refine wpAnyS_one 8 (by kernel_rfl) ?_
     (intro o8 ho K' hK;simp at ho;subst ho)
     refine step_append_gen (by rfl) _ _ _ (by rfl) 3 (.int .i64 0) 1 8 Tryz.underlying31 Tryz.infoInt2 rfl (by decide) (.slice (some ⟨gB,0,none⟩) 0 0) 0 [] (by rfl) RB.out.1 _ args.length (intsV args) (by rfl) (SA.out y45 hBy45) (by unfold maxLen;omega) (by omega) ?_
     intro aB cB y46 hoB hbB hgB
     simp only [Nat.zero_add,List.nil_append] at hoB hgB ⊢
     have hBy46:Below W.heap.size W y46:=hBy45.trans (hbB.toBelow hBy45.size fun i hi e=>by have:=(RB.out.2 i e).2;omega)
     refine hK.out _ _ (fun _=>?_) ?_
     ·exact hBy46
     clear hK K'
     (try simp only [Act.put,List.setIfInBounds_toArray,List.set_cons_zero,List.set_cons_succ])
     obtain ⟨tg46,htg⟩:=zzN (retag tg45 y45.heap.size 2)
     have RA:Hid (Res W.heap.size tg46 1 y46 3 (.slice aA (begun.length) cA) begun.length (intsV begun)):=by rw [<- htg];exact RA.out.but hbB (fun g hg=>by rw [(RB.out.2 g hg).1];decide) 2
     have EP:Hid (y46.heap[gP]? = some (.cells #[str [],.int .i64 0,.slice none 0 0,.slice none 0 0,.slice none 0 0,.slice none 0 0,.int .i64 0] 177 (0,0))/\tg46 gP=3/\W.heap.size<=gP):=by rw [<- htg];exact ⟨(hbB.block _ (lt_of_heap EP.out.1) (fun e=>by have:=(RB.out.2 _ e).1;rw [EP.out.2.1] at this;exact absurd this (by decide))).trans EP.out.1,by unfold retag;rw [if_neg (by have:=lt_of_heap EP.out.1;omega)];exact EP.out.2.1,EP.out.2.2⟩
     have RB:Hid (Res W.heap.size tg46 2 y46 3 (.slice aB (args.length) cB) (args.length) (intsV args)):=by rw [<- htg];exact RB.out.app hBy45.size hoB hgB
     clear hoB hbB hgB htg
     refine wpAnyS_take 10 (v:=?_) (by kernel_rfl) (by kernel_rfl) (by kernel_rfl) (by kernel_rfl) (fun _ _ _ _ h=>h) hBy46 ?_ ?_
     rotate_left
     ·(intro oi ho;simp at ho;subst ho;refine Or.inl ⟨by rfl,fun w' hw'=>?_⟩;go_simp;try with_reducible rfl)
     (intro d hd;simp at hd;subst hd;simp only [Act.put,List.setIfInBounds_toArray,List.set_cons_zero,List.set_cons_succ])
     refine wpAnyS_one 12 (by kernel_rfl) ?_
     (intro o12 ho K' hK;simp at ho;subst ho)
     obtain ⟨uP0,cP0⟩:∃ u,y46.cell? ⟨gP,0,none⟩=some u:=⟨_,by simp [World.cell?,EP.out.1];rfl⟩
     have fP0:y46.frozen? ⟨gP,0,none⟩=false:=by simp [World.frozen?,EP.out.1]
     obtain ⟨uP1,cP1⟩:∃ u,y46.cell? ⟨gP,1,none⟩=some u:=⟨_,by simp [World.cell?,EP.out.1];rfl⟩
     have fP1:y46.frozen? ⟨gP,1,none⟩=false:=by simp [World.frozen?,EP.out.1]
     obtain ⟨uP2,cP2⟩:∃ u,y46.cell? ⟨gP,2,none⟩=some u:=⟨_,by simp [World.cell?,EP.out.1];rfl⟩
     have fP2:y46.frozen? ⟨gP,2,none⟩=false:=by simp [World.frozen?,EP.out.1]
     obtain ⟨uP3,cP3⟩:∃ u,y46.cell? ⟨gP,3,none⟩=some u:=⟨_,by simp [World.cell?,EP.out.1];rfl⟩
     have fP3:y46.frozen? ⟨gP,3,none⟩=false:=by simp [World.frozen?,EP.out.1]
     obtain ⟨uP4,cP4⟩:∃ u,y46.cell? ⟨gP,4,none⟩=some u:=⟨_,by simp [World.cell?,EP.out.1];rfl⟩
     have fP4:y46.frozen? ⟨gP,4,none⟩=false:=by simp [World.frozen?,EP.out.1]
     obtain ⟨uP5,cP5⟩:∃ u,y46.cell? ⟨gP,5,none⟩=some u:=⟨_,by simp [World.cell?,EP.out.1];rfl⟩
     have fP5:y46.frozen? ⟨gP,5,none⟩=false:=by simp [World.frozen?,EP.out.1]
     obtain ⟨uP6,cP6⟩:∃ u,y46.cell? ⟨gP,6,none⟩=some u:=⟨_,by simp [World.cell?,EP.out.1];rfl⟩
     have fP6:y46.frozen? ⟨gP,6,none⟩=false:=by simp [World.frozen?,EP.out.1]
     go_simp
     refine hK.out _ _ (fun _=>?_) ?_
     ·exact (((((((hBy46.setCell (p:=⟨gP,0,none⟩) EP.out.2.2 _).setCell (p:=⟨gP,1,none⟩) EP.out.2.2 _).setCell (p:=⟨gP,2,none⟩) EP.out.2.2 _).setCell (p:=⟨gP,3,none⟩) EP.out.2.2 _).setCell (p:=⟨gP,4,none⟩) EP.out.2.2 _).setCell (p:=⟨gP,5,none⟩) EP.out.2.2 _).setCell (p:=⟨gP,6,none⟩) EP.out.2.2 _)
     clear hK K'
     (try simp only [Act.put,List.setIfInBounds_toArray,List.set_cons_zero,List.set_cons_succ])
     obtain ⟨y47,hnew⟩:=zzN ((((((((y46.setCell ⟨gP,0,none⟩ (str s)).setCell ⟨gP,1,none⟩ (.int .i64 v)).setCell ⟨gP,2,none⟩ (.slice a2 n2 c2)).setCell ⟨gP,3,none⟩ (.slice a3 n3 c3)).setCell ⟨gP,4,none⟩ (.slice aA begun.length cA)).setCell ⟨gP,5,none⟩ (.slice aB args.length cB)).setCell ⟨gP,6,none⟩ (.int .i64 (idx:Nat))))
     rw [hnew]
     have hBy47:Below W.heap.size W y47:=by rw [<- hnew];exact (((((((hBy46.setCell (p:=⟨gP,0,none⟩) EP.out.2.2 _).setCell (p:=⟨gP,1,none⟩) EP.out.2.2 _).setCell (p:=⟨gP,2,none⟩) EP.out.2.2 _).setCell (p:=⟨gP,3,none⟩) EP.out.2.2 _).setCell (p:=⟨gP,4,none⟩) EP.out.2.2 _).setCell (p:=⟨gP,5,none⟩) EP.out.2.2 _).setCell (p:=⟨gP,6,none⟩) EP.out.2.2 _)
     have hbt:But (fun i=>i=gP) y46 y47:=by rw [<- hnew];exact ((((((((But.refl (fun i=>i=gP) y46).setCell (p:=⟨gP,0,none⟩) (.inl rfl) _).setCell (p:=⟨gP,1,none⟩) (.inl rfl) _).setCell (p:=⟨gP,2,none⟩) (.inl rfl) _).setCell (p:=⟨gP,3,none⟩) (.inl rfl) _).setCell (p:=⟨gP,4,none⟩) (.inl rfl) _).setCell (p:=⟨gP,5,none⟩) (.inl rfl) _).setCell (p:=⟨gP,6,none⟩) (.inl rfl) _)
     have htg:∀ g,g=gP->tg46 g=3:=fun g e=>by rw [e];exact EP.out.2.1
     have RB:Hid (Res W.heap.size tg46 2 y47 3 (.slice aB (args.length) cB) args.length (intsV args)):=⟨RB.out.1.keep fun g o hg ho=>by rw [hbt.block g (lt_of_heap ho) (fun e=>by have:=(RB.out.2 g hg).1;rw [htg g e] at this;exact absurd this (by decide))];exact ho,RB.out.2⟩
     have RA:Hid (Res W.heap.size tg46 1 y47 3 (.slice aA (begun.length) cA) begun.length (intsV begun)):=⟨RA.out.1.keep fun g o hg ho=>by rw [hbt.block g (lt_of_heap ho) (fun e=>by have:=(RA.out.2 g hg).1;rw [htg g e] at this;exact absurd this (by decide))];exact ho,RA.out.2⟩
     have EP:Hid (y47.heap[gP]? = some (.cells #[str s,.int .i64 v,.slice a2 n2 c2,.slice a3 n3 c3,.slice aA begun.length cA,.slice aB args.length cB,.int .i64 (idx:Nat)] 177 (0,0))/\tg46 gP=3/\W.heap.size<=gP):=⟨by rw [<- hnew];exact (setCell_at' (setCell_at' (setCell_at' (setCell_at' (setCell_at' (setCell_at' (setCell_at' EP.out.1))))))),EP.out.2⟩
     clear hnew hbt htg cP0 fP0 cP1 fP1 cP2 fP2 cP3 fP3 cP4 fP4 cP5 fP5 cP6 fP6
     refine wpAnyS_done (by kernel_rfl) (NoPanic.normal ?_) _
     refine ⟨rfl,⟨gA,gB,gP,aA,cA,aB,cB⟩,by rfl,?_⟩
     exact { below:=hBy47,box:=EP.out.1,o5:=by rw [List.replicate_zero,List.append_nil];exact RA.out.1,o6:=by rw [show intsV args++intsV (List.range 0)=intsV args from by simp [intsV]];exact RB.out.1,gw:=EP.out.2.2,f5:=fun i hi=>⟨(RA.out.2 i hi).2,fun e=>by have h1:=(RA.out.2 i hi).1;rw [e,EP.out.2.1] at h1;exact absurd h1 (by decide)⟩,f6:=fun i hi=>⟨(RB.out.2 i hi).2,fun e=>by have h1:=(RB.out.2 i hi).1;rw [e,EP.out.2.1] at h1;exact absurd h1 (by decide)⟩,ap:=fun i hi e=>by have h1:=(RA.out.2 i hi).1;have h2:=(RB.out.2 i e).1;rw [h1] at h2;exact absurd h2 (by decide) }
   ·(intro o11 ho K' hK;simp at ho;subst ho)
    go_simp
    refine hK.out _ _ (fun _=>?_) ?_
    ·exact hBy35.alloc hBy35.size _
    clear hK K'
    (try simp only [Act.put,List.setIfInBounds_toArray,List.set_cons_zero,List.set_cons_succ])
    obtain ⟨y48,hnew⟩:=zzN (y35.alloc (.cells #[str [],.int .i64 0,.slice none 0 0,.slice none 0 0,.slice none 0 0,.slice none 0 0,.int .i64 0] 177))
    obtain ⟨gP,hgP⟩:=zzN (y35.heap.size)
    rw [hnew,hgP]
    have hBy48:Below W.heap.size W y48:=by rw [<- hnew];exact hBy35.alloc hBy35.size _
    obtain ⟨tg48,htg⟩:=zzN (retag tg35 gP 3)
    have RB:Hid (Res W.heap.size tg48 2 y48 3 (.slice (some ⟨gB,0,none⟩) 0 0) 0 []):=by rw [<- hnew,<- htg,<- hgP];exact RB.out.alloc _ 3
    have EP:Hid (y48.heap[gP]? = some (.cells #[str [],.int .i64 0,.slice none 0 0,.slice none 0 0,.slice none 0 0,.slice none 0 0,.int .i64 0] 177 (0,0))/\tg48 gP=3/\W.heap.size<=gP):=by rw [<- hnew,<- htg,<- hgP];exact ⟨heap_new _ _,by unfold retag;rw [if_pos rfl],hBy35.size⟩
    clear hnew hgP htg
    refine wpAnyS_one 1 (by kernel_rfl) ?_
    (intro o1 ho K' hK;simp at ho;subst ho)
    go_simp
    refine hK.out _ _ (fun _=>?_) ?_
    ·exact hBy48.alloc hBy48.size _
    clear hK K'
    (try simp only [Act.put,List.setIfInBounds_toArray,List.set_cons_zero,List.set_cons_succ])
    obtain ⟨y49,hnew⟩:=zzN (y48.alloc (.cells #[] 3))
    obtain ⟨gA,hgA⟩:=zzN (y48.heap.size)
    rw [hnew,hgA]
    have hBy49:Below W.heap.size W y49:=by rw [<- hnew];exact hBy48.alloc hBy48.size _
    obtain ⟨tg49,htg⟩:=zzN (retag tg48 gA 1)
    have RB:Hid (Res W.heap.size tg49 2 y49 3 (.slice (some ⟨gB,0,none⟩) 0 0) 0 []):=by rw [<- hnew,<- htg,<- hgA];exact RB.out.alloc _ 1
    have EP:Hid (y49.heap[gP]? = some (.cells #[str [],.int .i64 0,.slice none 0 0,.slice none 0 0,.slice none 0 0,.slice none 0 0,.int .i64 0] 177 (0,0))/\tg49 gP=3/\W.heap.size<=gP):=by rw [<- hnew,<- htg];exact ⟨heap_past EP.out.1,by unfold retag;rw [if_neg (by have:=lt_of_heap EP.out.1;omega)];exact EP.out.2.1,EP.out.2.2⟩
    have RA:Hid (Res W.heap.size tg49 1 y49 3 (.slice (some ⟨gA,0,none⟩) 0 0) 0 []):=by rw [<- hnew,<- htg,<- hgA];exact Res.lit tg48 1 hBy48.size 3 #[] 0 (by unfold maxLen;omega) rfl
    clear hnew hgA htg
    refine wpAnyS_one 4 (by kernel_rfl) ?_
    (intro o4 ho K' hK;simp at ho;subst ho)
    refine step_append_gen (by rfl) _ _ _ (by rfl) 3 (.int .i64 0) 1 8 Tryz.underlying31 Tryz.infoInt2 rfl (by decide) (.slice (some ⟨gA,0,none⟩) 0 0) 0 [] (by rfl) RA.out.1 _ begun.length (intsV begun) (by rfl) (SB.out y49 hBy49) (by unfold maxLen;omega) (by omega) ?_
    intro aA cA y50 hoA hbA hgA
    simp only [Nat.zero_add,List.nil_append] at hoA hgA ⊢
    have hBy50:Below W.heap.size W y50:=hBy49.trans (hbA.toBelow hBy49.size fun i hi e=>by have:=(RA.out.2 i e).2;omega)
    refine hK.out _ _ (fun _=>?_) ?_
    ·exact hBy50
    clear hK K'
    (try simp only [Act.put,List.setIfInBounds_toArray,List.set_cons_zero,List.set_cons_succ])
    obtain ⟨tg50,htg⟩:=zzN (retag tg49 y49.heap.size 1)
    have RB:Hid (Res W.heap.size tg50 2 y50 3 (.slice (some ⟨gB,0,none⟩) 0 0) 0 []):=by rw [<- htg];exact RB.out.but hbA (fun g hg=>by rw [(RA.out.2 g hg).1];decide) 1
    have EP:Hid (y50.heap[gP]? = some (.cells #[str [],.int .i64 0,.slice none 0 0,.slice none 0 0,.slice none 0 0,.slice none 0 0,.int .i64 0] 177 (0,0))/\tg50 gP=3/\W.heap.size<=gP):=by rw [<- htg];exact ⟨(hbA.block _ (lt_of_heap EP.out.1) (fun e=>by have:=(RA.out.2 _ e).1;rw [EP.out.2.1] at this;exact absurd this (by decide))).trans EP.out.1,by unfold retag;rw [if_neg (by have:=lt_of_heap EP.out.1;omega)];exact EP.out.2.1,EP.out.2.2⟩
    have RA:Hid (Res W.heap.size tg50 1 y50 3 (.slice aA (begun.length) cA) (begun.length) (intsV begun)):=by rw [<- htg];exact RA.out.app hBy49.size hoA hgA
    clear hoA hbA hgA htg
    refine wpAnyS_one 8 (by kernel_rfl) ?_
    (intro o8 ho K' hK;simp at ho;subst ho)
    refine step_append_gen (by rfl) _ _ _ (by rfl) 3 (.int .i64 0) 1 8 Tryz.underlying31 Tryz.infoInt2 rfl (by decide) (.slice (some ⟨gB,0,none⟩) 0 0) 0 [] (by rfl) RB.out.1 _ args.length (intsV args) (by rfl) (SA.out y50 hBy50) (by unfold maxLen;omega) (by omega) ?_
    intro aB cB y51 hoB hbB hgB
    simp only [Nat.zero_add,List.nil_append] at hoB hgB ⊢
    have hBy51:Below W.heap.size W y51:=hBy50.trans (hbB.toBelow hBy50.size fun i hi e=>by have:=(RB.out.2 i e).2;omega)
    refine hK.out _ _ (fun _=>?_) ?_
    ·exact hBy51
    clear hK K'
    (try simp only [Act.put,List.setIfInBounds_toArray,List.set_cons_zero,List.set_cons_succ])
    obtain ⟨tg51,htg⟩:=zzN (retag tg50 y50.heap.size 2)
    have RA:Hid (Res W.heap.size tg51 1 y51 3 (.slice aA (begun.length) cA) begun.length (intsV begun)):=by rw [<- htg];exact RA.out.but hbB (fun g hg=>by rw [(RB.out.2 g hg).1];decide) 2
    have EP:Hid (y51.heap[gP]? = some (.cells #[str [],.int .i64 0,.slice none 0 0,.slice none 0 0,.slice none 0 0,.slice none 0 0,.int .i64 0] 177 (0,0))/\tg51 gP=3/\W.heap.size<=gP):=by rw [<- htg];exact ⟨(hbB.block _ (lt_of_heap EP.out.1) (fun e=>by have:=(RB.out.2 _ e).1;rw [EP.out.2.1] at this;exact absurd this (by decide))).trans EP.out.1,by unfold retag;rw [if_neg (by have:=lt_of_heap EP.out.1;omega)];exact EP.out.2.1,EP.out.2.2⟩
    have RB:Hid (Res W.heap.size tg51 2 y51 3 (.slice aB (args.length) cB) (args.length) (intsV args)):=by rw [<- htg];exact RB.out.app hBy50.size hoB hgB
    clear hoB hbB hgB htg
    refine wpAnyS_take 10 (v:=?_) (by kernel_rfl) (by kernel_rfl) (by kernel_rfl) (by kernel_rfl) (fun _ _ _ _ h=>h) hBy51 ?_ ?_
    rotate_left
    ·(intro oi ho;simp at ho;subst ho;refine Or.inl ⟨by rfl,fun w' hw'=>?_⟩;go_simp;try with_reducible rfl)
    (intro d hd;simp at hd;subst hd;simp only [Act.put,List.setIfInBounds_toArray,List.set_cons_zero,List.set_cons_succ])
    refine wpAnyS_one 12 (by kernel_rfl) ?_
    (intro o12 ho K' hK;simp at ho;subst ho)
    obtain ⟨uP0,cP0⟩:∃ u,y51.cell? ⟨gP,0,none⟩=some u:=⟨_,by simp [World.cell?,EP.out.1];rfl⟩
    have fP0:y51.frozen? ⟨gP,0,none⟩=false:=by simp [World.frozen?,EP.out.1]
    obtain ⟨uP1,cP1⟩:∃ u,y51.cell? ⟨gP,1,none⟩=some u:=⟨_,by simp [World.cell?,EP.out.1];rfl⟩
    have fP1:y51.frozen? ⟨gP,1,none⟩=false:=by simp [World.frozen?,EP.out.1]
    obtain ⟨uP2,cP2⟩:∃ u,y51.cell? ⟨gP,2,none⟩=some u:=⟨_,by simp [World.cell?,EP.out.1];rfl⟩
    have fP2:y51.frozen? ⟨gP,2,none⟩=false:=by simp [World.frozen?,EP.out.1]
    obtain ⟨uP3,cP3⟩:∃ u,y51.cell? ⟨gP,3,none⟩=some u:=⟨_,by simp [World.cell?,EP.out.1];rfl⟩
    have fP3:y51.frozen? ⟨gP,3,none⟩=false:=by simp [World.frozen?,EP.out.1]
    obtain ⟨uP4,cP4⟩:∃ u,y51.cell? ⟨gP,4,none⟩=some u:=⟨_,by simp [World.cell?,EP.out.1];rfl⟩
    have fP4:y51.frozen? ⟨gP,4,none⟩=false:=by simp [World.frozen?,EP.out.1]
    obtain ⟨uP5,cP5⟩:∃ u,y51.cell? ⟨gP,5,none⟩=some u:=⟨_,by simp [World.cell?,EP.out.1];rfl⟩
    have fP5:y51.frozen? ⟨gP,5,none⟩=false:=by simp [World.frozen?,EP.out.1]
    obtain ⟨uP6,cP6⟩:∃ u,y51.cell? ⟨gP,6,none⟩=some u:=⟨_,by simp [World.cell?,EP.out.1];rfl⟩
    have fP6:y51.frozen? ⟨gP,6,none⟩=false:=by simp [World.frozen?,EP.out.1]
    go_simp
    refine hK.out _ _ (fun _=>?_) ?_
    ·exact (((((((hBy51.setCell (p:=⟨gP,0,none⟩) EP.out.2.2 _).setCell (p:=⟨gP,1,none⟩) EP.out.2.2 _).setCell (p:=⟨gP,2,none⟩) EP.out.2.2 _).setCell (p:=⟨gP,3,none⟩) EP.out.2.2 _).setCell (p:=⟨gP,4,none⟩) EP.out.2.2 _).setCell (p:=⟨gP,5,none⟩) EP.out.2.2 _).setCell (p:=⟨gP,6,none⟩) EP.out.2.2 _)
    clear hK K'
    (try simp only [Act.put,List.setIfInBounds_toArray,List.set_cons_zero,List.set_cons_succ])
    obtain ⟨y52,hnew⟩:=zzN ((((((((y51.setCell ⟨gP,0,none⟩ (str s)).setCell ⟨gP,1,none⟩ (.int .i64 v)).setCell ⟨gP,2,none⟩ (.slice a2 n2 c2)).setCell ⟨gP,3,none⟩ (.slice a3 n3 c3)).setCell ⟨gP,4,none⟩ (.slice aA begun.length cA)).setCell ⟨gP,5,none⟩ (.slice aB args.length cB)).setCell ⟨gP,6,none⟩ (.int .i64 (idx:Nat))))
    rw [hnew]
    have hBy52:Below W.heap.size W y52:=by rw [<- hnew];exact (((((((hBy51.setCell (p:=⟨gP,0,none⟩) EP.out.2.2 _).setCell (p:=⟨gP,1,none⟩) EP.out.2.2 _).setCell (p:=⟨gP,2,none⟩) EP.out.2.2 _).setCell (p:=⟨gP,3,none⟩) EP.out.2.2 _).setCell (p:=⟨gP,4,none⟩) EP.out.2.2 _).setCell (p:=⟨gP,5,none⟩) EP.out.2.2 _).setCell (p:=⟨gP,6,none⟩) EP.out.2.2 _)
    have hbt:But (fun i=>i=gP) y51 y52:=by rw [<- hnew];exact ((((((((But.refl (fun i=>i=gP) y51).setCell (p:=⟨gP,0,none⟩) (.inl rfl) _).setCell (p:=⟨gP,1,none⟩) (.inl rfl) _).setCell (p:=⟨gP,2,none⟩) (.inl rfl) _).setCell (p:=⟨gP,3,none⟩) (.inl rfl) _).setCell (p:=⟨gP,4,none⟩) (.inl rfl) _).setCell (p:=⟨gP,5,none⟩) (.inl rfl) _).setCell (p:=⟨gP,6,none⟩) (.inl rfl) _)
    have htg:∀ g,g=gP->tg51 g=3:=fun g e=>by rw [e];exact EP.out.2.1
    have RB:Hid (Res W.heap.size tg51 2 y52 3 (.slice aB (args.length) cB) args.length (intsV args)):=⟨RB.out.1.keep fun g o hg ho=>by rw [hbt.block g (lt_of_heap ho) (fun e=>by have:=(RB.out.2 g hg).1;rw [htg g e] at this;exact absurd this (by decide))];exact ho,RB.out.2⟩
    have RA:Hid (Res W.heap.size tg51 1 y52 3 (.slice aA (begun.length) cA) begun.length (intsV begun)):=⟨RA.out.1.keep fun g o hg ho=>by rw [hbt.block g (lt_of_heap ho) (fun e=>by have:=(RA.out.2 g hg).1;rw [htg g e] at this;exact absurd this (by decide))];exact ho,RA.out.2⟩
    have EP:Hid (y52.heap[gP]? = some (.cells #[str s,.int .i64 v,.slice a2 n2 c2,.slice a3 n3 c3,.slice aA begun.length cA,.slice aB args.length cB,.int .i64 (idx:Nat)] 177 (0,0))/\tg51 gP=3/\W.heap.size<=gP):=⟨by rw [<- hnew];exact (setCell_at' (setCell_at' (setCell_at' (setCell_at' (setCell_at' (setCell_at' (setCell_at' EP.out.1))))))),EP.out.2⟩
    clear hnew hbt htg cP0 fP0 cP1 fP1 cP2 fP2 cP3 fP3 cP4 fP4 cP5 fP5 cP6 fP6
    refine wpAnyS_done (by kernel_rfl) (NoPanic.normal ?_) _
    refine ⟨rfl,⟨gA,gB,gP,aA,cA,aB,cB⟩,by rfl,?_⟩
    exact { below:=hBy52,box:=EP.out.1,o5:=by rw [List.replicate_zero,List.append_nil];exact RA.out.1,o6:=by rw [show intsV args++intsV (List.range 0)=intsV args from by simp [intsV]];exact RB.out.1,gw:=EP.out.2.2,f5:=fun i hi=>⟨(RA.out.2 i hi).2,fun e=>by have h1:=(RA.out.2 i hi).1;rw [e,EP.out.2.1] at h1;exact absurd h1 (by decide)⟩,f6:=fun i hi=>⟨(RB.out.2 i hi).2,fun e=>by have h1:=(RB.out.2 i hi).1;rw [e,EP.out.2.1] at h1;exact absurd h1 (by decide)⟩,ap:=fun i hi e=>by have h1:=(RA.out.2 i hi).1;have h2:=(RB.out.2 i e).1;rw [h1] at h2;exact absurd h2 (by decide) }
  ·(intro o11 ho K' hK;simp at ho;subst ho)
   go_simp
   refine hK.out _ _ (fun _=>?_) ?_
   ·exact hBy0.alloc hBy0.size _
   clear hK K'
   (try simp only [Act.put,List.setIfInBounds_toArray,List.set_cons_zero,List.set_cons_succ])
   obtain ⟨y53,hnew⟩:=zzN (y0.alloc (.cells #[str [],.int .i64 0,.slice none 0 0,.slice none 0 0,.slice none 0 0,.slice none 0 0,.int .i64 0] 177))
   obtain ⟨gP,hgP⟩:=zzN (y0.heap.size)
   rw [hnew,hgP]
   have hBy53:Below W.heap.size W y53:=by rw [<- hnew];exact hBy0.alloc hBy0.size _
   obtain ⟨tg53,htg⟩:=zzN (retag tg0 gP 3)
   have EP:Hid (y53.heap[gP]? = some (.cells #[str [],.int .i64 0,.slice none 0 0,.slice none 0 0,.slice none 0 0,.slice none 0 0,.int .i64 0] 177 (0,0))/\tg53 gP=3/\W.heap.size<=gP):=by rw [<- hnew,<- htg,<- hgP];exact ⟨heap_new _ _,by unfold retag;rw [if_pos rfl],hBy0.size⟩
   clear hnew hgP htg
   refine wpAnyS_two 1 5 (by kernel_rfl) ?_ ?_
   ·(intro o1 ho K' hK;simp at ho;subst ho)
    go_simp
    refine hK.out _ _ (fun _=>?_) ?_
    ·exact hBy53.alloc hBy53.size _
    clear hK K'
    (try simp only [Act.put,List.setIfInBounds_toArray,List.set_cons_zero,List.set_cons_succ])
    obtain ⟨y54,hnew⟩:=zzN (y53.alloc (.cells #[] 3))
    obtain ⟨gA,hgA⟩:=zzN (y53.heap.size)
    rw [hnew,hgA]
    have hBy54:Below W.heap.size W y54:=by rw [<- hnew];exact hBy53.alloc hBy53.size _
    obtain ⟨tg54,htg⟩:=zzN (retag tg53 gA 1)
    have EP:Hid (y54.heap[gP]? = some (.cells #[str [],.int .i64 0,.slice none 0 0,.slice none 0 0,.slice none 0 0,.slice none 0 0,.int .i64 0] 177 (0,0))/\tg54 gP=3/\W.heap.size<=gP):=by rw [<- hnew,<- htg];exact ⟨heap_past EP.out.1,by unfold retag;rw [if_neg (by have:=lt_of_heap EP.out.1;omega)];exact EP.out.2.1,EP.out.2.2⟩
    have RA:Hid (Res W.heap.size tg54 1 y54 3 (.slice (some ⟨gA,0,none⟩) 0 0) 0 []):=by rw [<- hnew,<- htg,<- hgA];exact Res.lit tg53 1 hBy53.size 3 #[] 0 (by unfold maxLen;omega) rfl
    clear hnew hgA htg
    refine wpAnyS_two 4 5 (by kernel_rfl) ?_ ?_
    ·(intro o4 ho K' hK;simp at ho;subst ho)
     refine step_append_gen (by rfl) _ _ _ (by rfl) 3 (.int .i64 0) 1 8 Tryz.underlying31 Tryz.infoInt2 rfl (by decide) (.slice (some ⟨gA,0,none⟩) 0 0) 0 [] (by rfl) RA.out.1 _ begun.length (intsV begun) (by rfl) (SB.out y54 hBy54) (by unfold maxLen;omega) (by omega) ?_
     intro aA cA y55 hoA hbA hgA
     simp only [Nat.zero_add,List.nil_append] at hoA hgA ⊢
     have hBy55:Below W.heap.size W y55:=hBy54.trans (hbA.toBelow hBy54.size fun i hi e=>by have:=(RA.out.2 i e).2;omega)
     refine hK.out _ _ (fun _=>?_) ?_
     ·exact hBy55
     clear hK K'
     (try simp only [Act.put,List.setIfInBounds_toArray,List.set_cons_zero,List.set_cons_succ])
     obtain ⟨tg55,htg⟩:=zzN (retag tg54 y54.heap.size 1)
     have EP:Hid (y55.heap[gP]? = some (.cells #[str [],.int .i64 0,.slice none 0 0,.slice none 0 0,.slice none 0 0,.slice none 0 0,.int .i64 0] 177 (0,0))/\tg55 gP=3/\W.heap.size<=gP):=by rw [<- htg];exact ⟨(hbA.block _ (lt_of_heap EP.out.1) (fun e=>by have:=(RA.out.2 _ e).1;rw [EP.out.2.1] at this;exact absurd this (by decide))).trans EP.out.1,by unfold retag;rw [if_neg (by have:=lt_of_heap EP.out.1;omega)];exact EP.out.2.1,EP.out.2.2⟩
     have RA:Hid (Res W.heap.size tg55 1 y55 3 (.slice aA (begun.length) cA) (begun.length) (intsV begun)):=by rw [<- htg];exact RA.out.app hBy54.size hoA hgA
     clear hoA hbA hgA htg
     refine wpAnyS_one 5 (by kernel_rfl) ?_
     (intro o5 ho K' hK;simp at ho;subst ho)
     go_simp
     refine hK.out _ _ (fun _=>?_) ?_
     ·exact hBy55.alloc hBy55.size _
     clear hK K'
     (try simp only [Act.put,List.setIfInBounds_toArray,List.set_cons_zero,List.set_cons_succ])
     obtain ⟨y56,hnew⟩:=zzN (y55.alloc (.cells #[] 3))
     obtain ⟨gB,hgB⟩:=zzN (y55.heap.size)
     rw [hnew,hgB]
     have hBy56:Below W.heap.size W y56:=by rw [<- hnew];exact hBy55.alloc hBy55.size _
     obtain ⟨tg56,htg⟩:=zzN (retag tg55 gB 2)
     have RA:Hid (Res W.heap.size tg56 1 y56 3 (.slice aA (begun.length) cA) begun.length (intsV begun)):=by rw [<- hnew,<- htg,<- hgB];exact RA.out.alloc _ 2
     have EP:Hid (y56.heap[gP]? = some (.cells #[str [],.int .i64 0,.slice none 0 0,.slice none 0 0,.slice none 0 0,.slice none 0 0,.int .i64 0] 177 (0,0))/\tg56 gP=3/\W.heap.size<=gP):=by rw [<- hnew,<- htg];exact ⟨heap_past EP.out.1,by unfold retag;rw [if_neg (by have:=lt_of_heap EP.out.1;omega)];exact EP.out.2.1,EP.out.2.2⟩
     have RB:Hid (Res W.heap.size tg56 2 y56 3 (.slice (some ⟨gB,0,none⟩) 0 0) 0 []):=by rw [<- hnew,<- htg,<- hgB];exact Res.lit tg55 2 hBy55.size 3 #[] 0 (by unfold maxLen;omega) rfl
     clear hnew hgB htg
     refine wpAnyS_one 8 (by kernel_rfl) ?_
     (intro o8 ho K' hK;simp at ho;subst ho)
     refine step_append_gen (by rfl) _ _ _ (by rfl) 3 (.int .i64 0) 1 8 Tryz.underlying31 Tryz.infoInt2 rfl (by decide) (.slice (some ⟨gB,0,none⟩) 0 0) 0 [] (by rfl) RB.out.1 _ args.length (intsV args) (by rfl) (SA.out y56 hBy56) (by unfold maxLen;omega) (by omega) ?_
     intro aB cB y57 hoB hbB hgB
     simp only [Nat.zero_add,List.nil_append] at hoB hgB ⊢
     have hBy57:Below W.heap.size W y57:=hBy56.trans (hbB.toBelow hBy56.size fun i hi e=>by have:=(RB.out.2 i e).2;omega)
     refine hK.out _ _ (fun _=>?_) ?_
     ·exact hBy57
     clear hK K'
     (try simp only [Act.put,List.setIfInBounds_toArray,List.set_cons_zero,List.set_cons_succ])
     obtain ⟨tg57,htg⟩:=zzN (retag tg56 y56.heap.size 2)
     have RA:Hid (Res W.heap.size tg57 1 y57 3 (.slice aA (begun.length) cA) begun.length (intsV begun)):=by rw [<- htg];exact RA.out.but hbB (fun g hg=>by rw [(RB.out.2 g hg).1];decide) 2
     have EP:Hid (y57.heap[gP]? = some (.cells #[str [],.int .i64 0,.slice none 0 0,.slice none 0 0,.slice none 0 0,.slice none 0 0,.int .i64 0] 177 (0,0))/\tg57 gP=3/\W.heap.size<=gP):=by rw [<- htg];exact ⟨(hbB.block _ (lt_of_heap EP.out.1) (fun e=>by have:=(RB.out.2 _ e).1;rw [EP.out.2.1] at this;exact absurd this (by decide))).trans EP.out.1,by unfold retag;rw [if_neg (by have:=lt_of_heap EP.out.1;omega)];exact EP.out.2.1,EP.out.2.2⟩
     have RB:Hid (Res W.heap.size tg57 2 y57 3 (.slice aB (args.length) cB) (args.length) (intsV args)):=by rw [<- htg];exact RB.out.app hBy56.size hoB hgB
     clear hoB hbB hgB htg
     refine wpAnyS_take 10 (v:=?_) (by kernel_rfl) (by kernel_rfl) (by kernel_rfl) (by kernel_rfl) (fun _ _ _ _ h=>h) hBy57 ?_ ?_
     rotate_left
     ·(intro oi ho;simp at ho;subst ho;refine Or.inl ⟨by rfl,fun w' hw'=>?_⟩;go_simp;try with_reducible rfl)
     (intro d hd;simp at hd;subst hd;simp only [Act.put,List.setIfInBounds_toArray,List.set_cons_zero,List.set_cons_succ])
     refine wpAnyS_one 12 (by kernel_rfl) ?_
     (intro o12 ho K' hK;simp at ho;subst ho)
     obtain ⟨uP0,cP0⟩:∃ u,y57.cell? ⟨gP,0,none⟩=some u:=⟨_,by simp [World.cell?,EP.out.1];rfl⟩
     have fP0:y57.frozen? ⟨gP,0,none⟩=false:=by simp [World.frozen?,EP.out.1]
     obtain ⟨uP1,cP1⟩:∃ u,y57.cell? ⟨gP,1,none⟩=some u:=⟨_,by simp [World.cell?,EP.out.1];rfl⟩
     have fP1:y57.frozen? ⟨gP,1,none⟩=false:=by simp [World.frozen?,EP.out.1]
     obtain ⟨uP2,cP2⟩:∃ u,y57.cell? ⟨gP,2,none⟩=some u:=⟨_,by simp [World.cell?,EP.out.1];rfl⟩
     have fP2:y57.frozen? ⟨gP,2,none⟩=false:=by simp [World.frozen?,EP.out.1]
     obtain ⟨uP3,cP3⟩:∃ u,y57.cell? ⟨gP,3,none⟩=some u:=⟨_,by simp [World.cell?,EP.out.1];rfl⟩
     have fP3:y57.frozen? ⟨gP,3,none⟩=false:=by simp [World.frozen?,EP.out.1]
     obtain ⟨uP4,cP4⟩:∃ u,y57.cell? ⟨gP,4,none⟩=some u:=⟨_,by simp [World.cell?,EP.out.1];rfl⟩
     have fP4:y57.frozen? ⟨gP,4,none⟩=false:=by simp [World.frozen?,EP.out.1]
     obtain ⟨uP5,cP5⟩:∃ u,y57.cell? ⟨gP,5,none⟩=some u:=⟨_,by simp [World.cell?,EP.out.1];rfl⟩
     have fP5:y57.frozen? ⟨gP,5,none⟩=false:=by simp [World.frozen?,EP.out.1]
     obtain ⟨uP6,cP6⟩:∃ u,y57.cell? ⟨gP,6,none⟩=some u:=⟨_,by simp [World.cell?,EP.out.1];rfl⟩
     have fP6:y57.frozen? ⟨gP,6,none⟩=false:=by simp [World.frozen?,EP.out.1]
     go_simp
     refine hK.out _ _ (fun _=>?_) ?_
     ·exact (((((((hBy57.setCell (p:=⟨gP,0,none⟩) EP.out.2.2 _).setCell (p:=⟨gP,1,none⟩) EP.out.2.2 _).setCell (p:=⟨gP,2,none⟩) EP.out.2.2 _).setCell (p:=⟨gP,3,none⟩) EP.out.2.2 _).setCell (p:=⟨gP,4,none⟩) EP.out.2.2 _).setCell (p:=⟨gP,5,none⟩) EP.out.2.2 _).setCell (p:=⟨gP,6,none⟩) EP.out.2.2 _)
     clear hK K'
     (try simp only [Act.put,List.setIfInBounds_toArray,List.set_cons_zero,List.set_cons_succ])
     obtain ⟨y58,hnew⟩:=zzN ((((((((y57.setCell ⟨gP,0,none⟩ (str s)).setCell ⟨gP,1,none⟩ (.int .i64 v)).setCell ⟨gP,2,none⟩ (.slice a2 n2 c2)).setCell ⟨gP,3,none⟩ (.slice a3 n3 c3)).setCell ⟨gP,4,none⟩ (.slice aA begun.length cA)).setCell ⟨gP,5,none⟩ (.slice aB args.length cB)).setCell ⟨gP,6,none⟩ (.int .i64 (idx:Nat))))
     rw [hnew]
     have hBy58:Below W.heap.size W y58:=by rw [<- hnew];exact (((((((hBy57.setCell (p:=⟨gP,0,none⟩) EP.out.2.2 _).setCell (p:=⟨gP,1,none⟩) EP.out.2.2 _).setCell (p:=⟨gP,2,none⟩) EP.out.2.2 _).setCell (p:=⟨gP,3,none⟩) EP.out.2.2 _).setCell (p:=⟨gP,4,none⟩) EP.out.2.2 _).setCell (p:=⟨gP,5,none⟩) EP.out.2.2 _).setCell (p:=⟨gP,6,none⟩) EP.out.2.2 _)
     have hbt:But (fun i=>i=gP) y57 y58:=by rw [<- hnew];exact ((((((((But.refl (fun i=>i=gP) y57).setCell (p:=⟨gP,0,none⟩) (.inl rfl) _).setCell (p:=⟨gP,1,none⟩) (.inl rfl) _).setCell (p:=⟨gP,2,none⟩) (.inl rfl) _).setCell (p:=⟨gP,3,none⟩) (.inl rfl) _).setCell (p:=⟨gP,4,none⟩) (.inl rfl) _).setCell (p:=⟨gP,5,none⟩) (.inl rfl) _).setCell (p:=⟨gP,6,none⟩) (.inl rfl) _)
     have htg:∀ g,g=gP->tg57 g=3:=fun g e=>by rw [e];exact EP.out.2.1
     have RA:Hid (Res W.heap.size tg57 1 y58 3 (.slice aA (begun.length) cA) begun.length (intsV begun)):=⟨RA.out.1.keep fun g o hg ho=>by rw [hbt.block g (lt_of_heap ho) (fun e=>by have:=(RA.out.2 g hg).1;rw [htg g e] at this;exact absurd this (by decide))];exact ho,RA.out.2⟩
     have RB:Hid (Res W.heap.size tg57 2 y58 3 (.slice aB (args.length) cB) args.length (intsV args)):=⟨RB.out.1.keep fun g o hg ho=>by rw [hbt.block g (lt_of_heap ho) (fun e=>by have:=(RB.out.2 g hg).1;rw [htg g e] at this;exact absurd this (by decide))];exact ho,RB.out.2⟩
     have EP:Hid (y58.heap[gP]? = some (.cells #[str s,.int .i64 v,.slice a2 n2 c2,.slice a3 n3 c3,.slice aA begun.length cA,.slice aB args.length cB,.int .i64 (idx:Nat)] 177 (0,0))/\tg57 gP=3/\W.heap.size<=gP):=⟨by rw [<- hnew];exact (setCell_at' (setCell_at' (setCell_at' (setCell_at' (setCell_at' (setCell_at' (setCell_at' EP.out.1))))))),EP.out.2⟩
     clear hnew hbt htg cP0 fP0 cP1 fP1 cP2 fP2 cP3 fP3 cP4 fP4 cP5 fP5 cP6 fP6
     refine wpAnyS_done (by kernel_rfl) (NoPanic.normal ?_) _
     refine ⟨rfl,⟨gA,gB,gP,aA,cA,aB,cB⟩,by rfl,?_⟩
     exact { below:=hBy58,box:=EP.out.1,o5:=by rw [List.replicate_zero,List.append_nil];exact RA.out.1,o6:=by rw [show intsV args++intsV (List.range 0)=intsV args from by simp [intsV]];exact RB.out.1,gw:=EP.out.2.2,f5:=fun i hi=>⟨(RA.out.2 i hi).2,fun e=>by have h1:=(RA.out.2 i hi).1;rw [e,EP.out.2.1] at h1;exact absurd h1 (by decide)⟩,f6:=fun i hi=>⟨(RB.out.2 i hi).2,fun e=>by have h1:=(RB.out.2 i hi).1;rw [e,EP.out.2.1] at h1;exact absurd h1 (by decide)⟩,ap:=fun i hi e=>by have h1:=(RA.out.2 i hi).1;have h2:=(RB.out.2 i e).1;rw [h1] at h2;exact absurd h2 (by decide) }
    ·(intro o5 ho K' hK;simp at ho;subst ho)
     go_simp
     refine hK.out _ _ (fun _=>?_) ?_
     ·exact hBy54.alloc hBy54.size _
     clear hK K'
     (try simp only [Act.put,List.setIfInBounds_toArray,List.set_cons_zero,List.set_cons_succ])
     obtain ⟨y59,hnew⟩:=zzN (y54.alloc (.cells #[] 3))
     obtain ⟨gB,hgB⟩:=zzN (y54.heap.size)
     rw [hnew,hgB]
     have hBy59:Below W.heap.size W y59:=by rw [<- hnew];exact hBy54.alloc hBy54.size _
     obtain ⟨tg59,htg⟩:=zzN (retag tg54 gB 2)
     have RA:Hid (Res W.heap.size tg59 1 y59 3 (.slice (some ⟨gA,0,none⟩) 0 0) 0 []):=by rw [<- hnew,<- htg,<- hgB];exact RA.out.alloc _ 2
     have EP:Hid (y59.heap[gP]? = some (.cells #[str [],.int .i64 0,.slice none 0 0,.slice none 0 0,.slice none 0 0,.slice none 0 0,.int .i64 0] 177 (0,0))/\tg59 gP=3/\W.heap.size<=gP):=by rw [<- hnew,<- htg];exact ⟨heap_past EP.out.1,by unfold retag;rw [if_neg (by have:=lt_of_heap EP.out.1;omega)];exact EP.out.2.1,EP.out.2.2⟩
     have RB:Hid (Res W.heap.size tg59 2 y59 3 (.slice (some ⟨gB,0,none⟩) 0 0) 0 []):=by rw [<- hnew,<- htg,<- hgB];exact Res.lit tg54 2 hBy54.size 3 #[] 0 (by unfold maxLen;omega) rfl
     clear hnew hgB htg
     refine wpAnyS_one 4 (by kernel_rfl) ?_
     (intro o4 ho K' hK;simp at ho;subst ho)
     refine step_append_gen (by rfl) _ _ _ (by rfl) 3 (.int .i64 0) 1 8 Tryz.underlying31 Tryz.infoInt2 rfl (by decide) (.slice (some ⟨gA,0,none⟩) 0 0) 0 [] (by rfl) RA.out.1 _ begun.length (intsV begun) (by rfl) (SB.out y59 hBy59) (by unfold maxLen;omega) (by omega) ?_
     intro aA cA y60 hoA hbA hgA
     simp only [Nat.zero_add,List.nil_append] at hoA hgA ⊢
     have hBy60:Below W.heap.size W y60:=hBy59.trans (hbA.toBelow hBy59.size fun i hi e=>by have:=(RA.out.2 i e).2;omega)
     refine hK.out _ _ (fun _=>?_) ?_
     ·exact hBy60
     clear hK K'
     (try simp only [Act.put,List.setIfInBounds_toArray,List.set_cons_zero,List.set_cons_succ])
     obtain ⟨tg60,htg⟩:=zzN (retag tg59 y59.heap.size 1)
     have RB:Hid (Res W.heap.size tg60 2 y60 3 (.slice (some ⟨gB,0,none⟩) 0 0) 0 []):=by rw [<- htg];exact RB.out.but hbA (fun g hg=>by rw [(RA.out.2 g hg).1];decide) 1
     have EP:Hid (y60.heap[gP]? = some (.cells #[str [],.int .i64 0,.slice none 0 0,.slice none 0 0,.slice none 0 0,.slice none 0 0,.int .i64 0] 177 (0,0))/\tg60 gP=3/\W.heap.size<=gP):=by rw [<- htg];exact ⟨(hbA.block _ (lt_of_heap EP.out.1) (fun e=>by have:=(RA.out.2 _ e).1;rw [EP.out.2.1] at this;exact absurd this (by decide))).trans EP.out.1,by unfold retag;rw [if_neg (by have:=lt_of_heap EP.out.1;omega)];exact EP.out.2.1,EP.out.2.2⟩
     have RA:Hid (Res W.heap.size tg60 1 y60 3 (.slice aA (begun.length) cA) (begun.length) (intsV begun)):=by rw [<- htg];exact RA.out.app hBy59.size hoA hgA
     clear hoA hbA hgA htg
     refine wpAnyS_one 8 (by kernel_rfl) ?_
     (intro o8 ho K' hK;simp at ho;subst ho)
     refine step_append_gen (by rfl) _ _ _ (by rfl) 3 (.int .i64 0) 1 8 Tryz.underlying31 Tryz.infoInt2 rfl (by decide) (.slice (some ⟨gB,0,none⟩) 0 0) 0 [] (by rfl) RB.out.1 _ args.length (intsV args) (by rfl) (SA.out y60 hBy60) (by unfold maxLen;omega) (by omega) ?_
     intro aB cB y61 hoB hbB hgB
     simp only [Nat.zero_add,List.nil_append] at hoB hgB ⊢
     have hBy61:Below W.heap.size W y61:=hBy60.trans (hbB.toBelow hBy60.size fun i hi e=>by have:=(RB.out.2 i e).2;omega)
     refine hK.out _ _ (fun _=>?_) ?_
     ·exact hBy61
     clear hK K'
     (try simp only [Act.put,List.setIfInBounds_toArray,List.set_cons_zero,List.set_cons_succ])
     obtain ⟨tg61,htg⟩:=zzN (retag tg60 y60.heap.size 2)
     have RA:Hid (Res W.heap.size tg61 1 y61 3 (.slice aA (begun.length) cA) begun.length (intsV begun)):=by rw [<- htg];exact RA.out.but hbB (fun g hg=>by rw [(RB.out.2 g hg).1];decide) 2
     have EP:Hid (y61.heap[gP]? = some (.cells #[str [],.int .i64 0,.slice none 0 0,.slice none 0 0,.slice none 0 0,.slice none 0 0,.int .i64 0] 177 (0,0))/\tg61 gP=3/\W.heap.size<=gP):=by rw [<- htg];exact ⟨(hbB.block _ (lt_of_heap EP.out.1) (fun e=>by have:=(RB.out.2 _ e).1;rw [EP.out.2.1] at this;exact absurd this (by decide))).trans EP.out.1,by unfold retag;rw [if_neg (by have:=lt_of_heap EP.out.1;omega)];exact EP.out.2.1,EP.out.2.2⟩
     have RB:Hid (Res W.heap.size tg61 2 y61 3 (.slice aB (args.length) cB) (args.length) (intsV args)):=by rw [<- htg];exact RB.out.app hBy60.size hoB hgB
     clear hoB hbB hgB htg
     refine wpAnyS_take 10 (v:=?_) (by kernel_rfl) (by kernel_rfl) (by kernel_rfl) (by kernel_rfl) (fun _ _ _ _ h=>h) hBy61 ?_ ?_
     rotate_left
     ·(intro oi ho;simp at ho;subst ho;refine Or.inl ⟨by rfl,fun w' hw'=>?_⟩;go_simp;try with_reducible rfl)
     (intro d hd;simp at hd;subst hd;simp only [Act.put,List.setIfInBounds_toArray,List.set_cons_zero,List.set_cons_succ])
     refine wpAnyS_one 12 (by kernel_rfl) ?_
     (intro o12 ho K' hK;simp at ho;subst ho)
     obtain ⟨uP0,cP0⟩:∃ u,y61.cell? ⟨gP,0,none⟩=some u:=⟨_,by simp [World.cell?,EP.out.1];rfl⟩
     have fP0:y61.frozen? ⟨gP,0,none⟩=false:=by simp [World.frozen?,EP.out.1]
     obtain ⟨uP1,cP1⟩:∃ u,y61.cell? ⟨gP,1,none⟩=some u:=⟨_,by simp [World.cell?,EP.out.1];rfl⟩
     have fP1:y61.frozen? ⟨gP,1,none⟩=false:=by simp [World.frozen?,EP.out.1]
     obtain ⟨uP2,cP2⟩:∃ u,y61.cell? ⟨gP,2,none⟩=some u:=⟨_,by simp [World.cell?,EP.out.1];rfl⟩
     have fP2:y61.frozen? ⟨gP,2,none⟩=false:=by simp [World.frozen?,EP.out.1]
     obtain ⟨uP3,cP3⟩:∃ u,y61.cell? ⟨gP,3,none⟩=some u:=⟨_,by simp [World.cell?,EP.out.1];rfl⟩
     have fP3:y61.frozen? ⟨gP,3,none⟩=false:=by simp [World.frozen?,EP.out.1]
     obtain ⟨uP4,cP4⟩:∃ u,y61.cell? ⟨gP,4,none⟩=some u:=⟨_,by simp [World.cell?,EP.out.1];rfl⟩
     have fP4:y61.frozen? ⟨gP,4,none⟩=false:=by simp [World.frozen?,EP.out.1]
     obtain ⟨uP5,cP5⟩:∃ u,y61.cell? ⟨gP,5,none⟩=some u:=⟨_,by simp [World.cell?,EP.out.1];rfl⟩
     have fP5:y61.frozen? ⟨gP,5,none⟩=false:=by simp [World.frozen?,EP.out.1]
     obtain ⟨uP6,cP6⟩:∃ u,y61.cell? ⟨gP,6,none⟩=some u:=⟨_,by simp [World.cell?,EP.out.1];rfl⟩
     have fP6:y61.frozen? ⟨gP,6,none⟩=false:=by simp [World.frozen?,EP.out.1]
     go_simp
     refine hK.out _ _ (fun _=>?_) ?_
     ·exact (((((((hBy61.setCell (p:=⟨gP,0,none⟩) EP.out.2.2 _).setCell (p:=⟨gP,1,none⟩) EP.out.2.2 _).setCell (p:=⟨gP,2,none⟩) EP.out.2.2 _).setCell (p:=⟨gP,3,none⟩) EP.out.2.2 _).setCell (p:=⟨gP,4,none⟩) EP.out.2.2 _).setCell (p:=⟨gP,5,none⟩) EP.out.2.2 _).setCell (p:=⟨gP,6,none⟩) EP.out.2.2 _)
     clear hK K'
     (try simp only [Act.put,List.setIfInBounds_toArray,List.set_cons_zero,List.set_cons_succ])
     obtain ⟨y62,hnew⟩:=zzN ((((((((y61.setCell ⟨gP,0,none⟩ (str s)).setCell ⟨gP,1,none⟩ (.int .i64 v)).setCell ⟨gP,2,none⟩ (.slice a2 n2 c2)).setCell ⟨gP,3,none⟩ (.slice a3 n3 c3)).setCell ⟨gP,4,none⟩ (.slice aA begun.length cA)).setCell ⟨gP,5,none⟩ (.slice aB args.length cB)).setCell ⟨gP,6,none⟩ (.int .i64 (idx:Nat))))
     rw [hnew]
     have hBy62:Below W.heap.size W y62:=by rw [<- hnew];exact (((((((hBy61.setCell (p:=⟨gP,0,none⟩) EP.out.2.2 _).setCell (p:=⟨gP,1,none⟩) EP.out.2.2 _).setCell (p:=⟨gP,2,none⟩) EP.out.2.2 _).setCell (p:=⟨gP,3,none⟩) EP.out.2.2 _).setCell (p:=⟨gP,4,none⟩) EP.out.2.2 _).setCell (p:=⟨gP,5,none⟩) EP.out.2.2 _).setCell (p:=⟨gP,6,none⟩) EP.out.2.2 _)
     have hbt:But (fun i=>i=gP) y61 y62:=by rw [<- hnew];exact ((((((((But.refl (fun i=>i=gP) y61).setCell (p:=⟨gP,0,none⟩) (.inl rfl) _).setCell (p:=⟨gP,1,none⟩) (.inl rfl) _).setCell (p:=⟨gP,2,none⟩) (.inl rfl) _).setCell (p:=⟨gP,3,none⟩) (.inl rfl) _).setCell (p:=⟨gP,4,none⟩) (.inl rfl) _).setCell (p:=⟨gP,5,none⟩) (.inl rfl) _).setCell (p:=⟨gP,6,none⟩) (.inl rfl) _)
     have htg:∀ g,g=gP->tg61 g=3:=fun g e=>by rw [e];exact EP.out.2.1
     have RA:Hid (Res W.heap.size tg61 1 y62 3 (.slice aA (begun.length) cA) begun.length (intsV begun)):=⟨RA.out.1.keep fun g o hg ho=>by rw [hbt.block g (lt_of_heap ho) (fun e=>by have:=(RA.out.2 g hg).1;rw [htg g e] at this;exact absurd this (by decide))];exact ho,RA.out.2⟩
     have RB:Hid (Res W.heap.size tg61 2 y62 3 (.slice aB (args.length) cB) args.length (intsV args)):=⟨RB.out.1.keep fun g o hg ho=>by rw [hbt.block g (lt_of_heap ho) (fun e=>by have:=(RB.out.2 g hg).1;rw [htg g e] at this;exact absurd this (by decide))];exact ho,RB.out.2⟩
     have EP:Hid (y62.heap[gP]? = some (.cells #[str s,.int .i64 v,.slice a2 n2 c2,.slice a3 n3 c3,.slice aA begun.length cA,.slice aB args.length cB,.int .i64 (idx:Nat)] 177 (0,0))/\tg61 gP=3/\W.heap.size<=gP):=⟨by rw [<- hnew];exact (setCell_at' (setCell_at' (setCell_at' (setCell_at' (setCell_at' (setCell_at' (setCell_at' EP.out.1))))))),EP.out.2⟩
     clear hnew hbt htg cP0 fP0 cP1 fP1 cP2 fP2 cP3 fP3 cP4 fP4 cP5 fP5 cP6 fP6
     refine wpAnyS_done (by kernel_rfl) (NoPanic.normal ?_) _
     refine ⟨rfl,⟨gA,gB,gP,aA,cA,aB,cB⟩,by rfl,?_⟩
     exact { below:=hBy62,box:=EP.out.1,o5:=by rw [List.replicate_zero,List.append_nil];exact RA.out.1,o6:=by rw [show intsV args++intsV (List.range 0)=intsV args from by simp [intsV]];exact RB.out.1,gw:=EP.out.2.2,f5:=fun i hi=>⟨(RA.out.2 i hi).2,fun e=>by have h1:=(RA.out.2 i hi).1;rw [e,EP.out.2.1] at h1;exact absurd h1 (by decide)⟩,f6:=fun i hi=>⟨(RB.out.2 i hi).2,fun e=>by have h1:=(RB.out.2 i hi).1;rw [e,EP.out.2.1] at h1;exact absurd h1 (by decide)⟩,ap:=fun i hi e=>by have h1:=(RA.out.2 i hi).1;have h2:=(RB.out.2 i e).1;rw [h1] at h2;exact absurd h2 (by decide) }
   ·(intro o5 ho K' hK;simp at ho;subst ho)
    go_simp
    refine hK.out _ _ (fun _=>?_) ?_
    ·exact hBy53.alloc hBy53.size _
    clear hK K'
    (try simp only [Act.put,List.setIfInBounds_toArray,List.set_cons_zero,List.set_cons_succ])
    obtain ⟨y63,hnew⟩:=zzN (y53.alloc (.cells #[] 3))
    obtain ⟨gB,hgB⟩:=zzN (y53.heap.size)
    rw [hnew,hgB]
    have hBy63:Below W.heap.size W y63:=by rw [<- hnew];exact hBy53.alloc hBy53.size _
    obtain ⟨tg63,htg⟩:=zzN (retag tg53 gB 2)
    have EP:Hid (y63.heap[gP]? = some (.cells #[str [],.int .i64 0,.slice none 0 0,.slice none 0 0,.slice none 0 0,.slice none 0 0,.int .i64 0] 177 (0,0))/\tg63 gP=3/\W.heap.size<=gP):=by rw [<- hnew,<- htg];exact ⟨heap_past EP.out.1,by unfold retag;rw [if_neg (by have:=lt_of_heap EP.out.1;omega)];exact EP.out.2.1,EP.out.2.2⟩
    have RB:Hid (Res W.heap.size tg63 2 y63 3 (.slice (some ⟨gB,0,none⟩) 0 0) 0 []):=by rw [<- hnew,<- htg,<- hgB];exact Res.lit tg53 2 hBy53.size 3 #[] 0 (by unfold maxLen;omega) rfl
    clear hnew hgB htg
    refine wpAnyS_one 1 (by kernel_rfl) ?_
    (intro o1 ho K' hK;simp at ho;subst ho)
    go_simp
    refine hK.out _ _ (fun _=>?_) ?_
    ·exact hBy63.alloc hBy63.size _
    clear hK K'
    (try simp only [Act.put,List.setIfInBounds_toArray,List.set_cons_zero,List.set_cons_succ])
    obtain ⟨y64,hnew⟩:=zzN (y63.alloc (.cells #[] 3))
    obtain ⟨gA,hgA⟩:=zzN (y63.heap.size)
    rw [hnew,hgA]
    have hBy64:Below W.heap.size W y64:=by rw [<- hnew];exact hBy63.alloc hBy63.size _
    obtain ⟨tg64,htg⟩:=zzN (retag tg63 gA 1)
    have RB:Hid (Res W.heap.size tg64 2 y64 3 (.slice (some ⟨gB,0,none⟩) 0 0) 0 []):=by rw [<- hnew,<- htg,<- hgA];exact RB.out.alloc _ 1
    have EP:Hid (y64.heap[gP]? = some (.cells #[str [],.int .i64 0,.slice none 0 0,.slice none 0 0,.slice none 0 0,.slice none 0 0,.int .i64 0] 177 (0,0))/\tg64 gP=3/\W.heap.size<=gP):=by rw [<- hnew,<- htg];exact ⟨heap_past EP.out.1,by unfold retag;rw [if_neg (by have:=lt_of_heap EP.out.1;omega)];exact EP.out.2.1,EP.out.2.2⟩
    have RA:Hid (Res W.heap.size tg64 1 y64 3 (.slice (some ⟨gA,0,none⟩) 0 0) 0 []):=by rw [<- hnew,<- htg,<- hgA];exact Res.lit tg63 1 hBy63.size 3 #[] 0 (by unfold maxLen;omega) rfl
    clear hnew hgA htg
    refine wpAnyS_one 4 (by kernel_rfl) ?_
    (intro o4 ho K' hK;simp at ho;subst ho)
    refine step_append_gen (by rfl) _ _ _ (by rfl) 3 (.int .i64 0) 1 8 Tryz.underlying31 Tryz.infoInt2 rfl (by decide) (.slice (some ⟨gA,0,none⟩) 0 0) 0 [] (by rfl) RA.out.1 _ begun.length (intsV begun) (by rfl) (SB.out y64 hBy64) (by unfold maxLen;omega) (by omega) ?_
    intro aA cA y65 hoA hbA hgA
    simp only [Nat.zero_add,List.nil_append] at hoA hgA ⊢
    have hBy65:Below W.heap.size W y65:=hBy64.trans (hbA.toBelow hBy64.size fun i hi e=>by have:=(RA.out.2 i e).2;omega)
    refine hK.out _ _ (fun _=>?_) ?_
    ·exact hBy65
    clear hK K'
    (try simp only [Act.put,List.setIfInBounds_toArray,List.set_cons_zero,List.set_cons_succ])
    obtain ⟨tg65,htg⟩:=zzN (retag tg64 y64.heap.size 1)
    have RB:Hid (Res W.heap.size tg65 2 y65 3 (.slice (some ⟨gB,0,none⟩) 0 0) 0 []):=by rw [<- htg];exact RB.out.but hbA (fun g hg=>by rw [(RA.out.2 g hg).1];decide) 1
    have EP:Hid (y65.heap[gP]? = some (.cells #[str [],.int .i64 0,.slice none 0 0,.slice none 0 0,.slice none 0 0,.slice none 0 0,.int .i64 0] 177 (0,0))/\tg65 gP=3/\W.heap.size<=gP):=by rw [<- htg];exact ⟨(hbA.block _ (lt_of_heap EP.out.1) (fun e=>by have:=(RA.out.2 _ e).1;rw [EP.out.2.1] at this;exact absurd this (by decide))).trans EP.out.1,by unfold retag;rw [if_neg (by have:=lt_of_heap EP.out.1;omega)];exact EP.out.2.1,EP.out.2.2⟩
    have RA:Hid (Res W.heap.size tg65 1 y65 3 (.slice aA (begun.length) cA) (begun.length) (intsV begun)):=by rw [<- htg];exact RA.out.app hBy64.size hoA hgA
    clear hoA hbA hgA htg
    refine wpAnyS_one 8 (by kernel_rfl) ?_
    (intro o8 ho K' hK;simp at ho;subst ho)
    refine step_append_gen (by rfl) _ _ _ (by rfl) 3 (.int .i64 0) 1 8 Tryz.underlying31 Tryz.infoInt2 rfl (by decide) (.slice (some ⟨gB,0,none⟩) 0 0) 0 [] (by rfl) RB.out.1 _ args.length (intsV args) (by rfl) (SA.out y65 hBy65) (by unfold maxLen;omega) (by omega) ?_
    intro aB cB y66 hoB hbB hgB
    simp only [Nat.zero_add,List.nil_append] at hoB hgB ⊢
    have hBy66:Below W.heap.size W y66:=hBy65.trans (hbB.toBelow hBy65.size fun i hi e=>by have:=(RB.out.2 i e).2;omega)
    refine hK.out _ _ (fun _=>?_) ?_
    ·exact hBy66
    clear hK K'
    (try simp only [Act.put,List.setIfInBounds_toArray,List.set_cons_zero,List.set_cons_succ])
    obtain ⟨tg66,htg⟩:=zzN (retag tg65 y65.heap.size 2)
    have RA:Hid (Res W.heap.size tg66 1 y66 3 (.slice aA (begun.length) cA) begun.length (intsV begun)):=by rw [<- htg];exact RA.out.but hbB (fun g hg=>by rw [(RB.out.2 g hg).1];decide) 2
    have EP:Hid (y66.heap[gP]? = some (.cells #[str [],.int .i64 0,.slice none 0 0,.slice none 0 0,.slice none 0 0,.slice none 0 0,.int .i64 0] 177 (0,0))/\tg66 gP=3/\W.heap.size<=gP):=by rw [<- htg];exact ⟨(hbB.block _ (lt_of_heap EP.out.1) (fun e=>by have:=(RB.out.2 _ e).1;rw [EP.out.2.1] at this;exact absurd this (by decide))).trans EP.out.1,by unfold retag;rw [if_neg (by have:=lt_of_heap EP.out.1;omega)];exact EP.out.2.1,EP.out.2.2⟩
    have RB:Hid (Res W.heap.size tg66 2 y66 3 (.slice aB (args.length) cB) (args.length) (intsV args)):=by rw [<- htg];exact RB.out.app hBy65.size hoB hgB
    clear hoB hbB hgB htg
    refine wpAnyS_take 10 (v:=?_) (by kernel_rfl) (by kernel_rfl) (by kernel_rfl) (by kernel_rfl) (fun _ _ _ _ h=>h) hBy66 ?_ ?_
    rotate_left
    ·(intro oi ho;simp at ho;subst ho;refine Or.inl ⟨by rfl,fun w' hw'=>?_⟩;go_simp;try with_reducible rfl)
    (intro d hd;simp at hd;subst hd;simp only [Act.put,List.setIfInBounds_toArray,List.set_cons_zero,List.set_cons_succ])
    refine wpAnyS_one 12 (by kernel_rfl) ?_
    (intro o12 ho K' hK;simp at ho;subst ho)
    obtain ⟨uP0,cP0⟩:∃ u,y66.cell? ⟨gP,0,none⟩=some u:=⟨_,by simp [World.cell?,EP.out.1];rfl⟩
    have fP0:y66.frozen? ⟨gP,0,none⟩=false:=by simp [World.frozen?,EP.out.1]
    obtain ⟨uP1,cP1⟩:∃ u,y66.cell? ⟨gP,1,none⟩=some u:=⟨_,by simp [World.cell?,EP.out.1];rfl⟩
    have fP1:y66.frozen? ⟨gP,1,none⟩=false:=by simp [World.frozen?,EP.out.1]
    obtain ⟨uP2,cP2⟩:∃ u,y66.cell? ⟨gP,2,none⟩=some u:=⟨_,by simp [World.cell?,EP.out.1];rfl⟩
    have fP2:y66.frozen? ⟨gP,2,none⟩=false:=by simp [World.frozen?,EP.out.1]
    obtain ⟨uP3,cP3⟩:∃ u,y66.cell? ⟨gP,3,none⟩=some u:=⟨_,by simp [World.cell?,EP.out.1];rfl⟩
    have fP3:y66.frozen? ⟨gP,3,none⟩=false:=by simp [World.frozen?,EP.out.1]
    obtain ⟨uP4,cP4⟩:∃ u,y66.cell? ⟨gP,4,none⟩=some u:=⟨_,by simp [World.cell?,EP.out.1];rfl⟩
    have fP4:y66.frozen? ⟨gP,4,none⟩=false:=by simp [World.frozen?,EP.out.1]
    obtain ⟨uP5,cP5⟩:∃ u,y66.cell? ⟨gP,5,none⟩=some u:=⟨_,by simp [World.cell?,EP.out.1];rfl⟩
    have fP5:y66.frozen? ⟨gP,5,none⟩=false:=by simp [World.frozen?,EP.out.1]
    obtain ⟨uP6,cP6⟩:∃ u,y66.cell? ⟨gP,6,none⟩=some u:=⟨_,by simp [World.cell?,EP.out.1];rfl⟩
    have fP6:y66.frozen? ⟨gP,6,none⟩=false:=by simp [World.frozen?,EP.out.1]
    go_simp
    refine hK.out _ _ (fun _=>?_) ?_
    ·exact (((((((hBy66.setCell (p:=⟨gP,0,none⟩) EP.out.2.2 _).setCell (p:=⟨gP,1,none⟩) EP.out.2.2 _).setCell (p:=⟨gP,2,none⟩) EP.out.2.2 _).setCell (p:=⟨gP,3,none⟩) EP.out.2.2 _).setCell (p:=⟨gP,4,none⟩) EP.out.2.2 _).setCell (p:=⟨gP,5,none⟩) EP.out.2.2 _).setCell (p:=⟨gP,6,none⟩) EP.out.2.2 _)
    clear hK K'
    (try simp only [Act.put,List.setIfInBounds_toArray,List.set_cons_zero,List.set_cons_succ])
    obtain ⟨y67,hnew⟩:=zzN ((((((((y66.setCell ⟨gP,0,none⟩ (str s)).setCell ⟨gP,1,none⟩ (.int .i64 v)).setCell ⟨gP,2,none⟩ (.slice a2 n2 c2)).setCell ⟨gP,3,none⟩ (.slice a3 n3 c3)).setCell ⟨gP,4,none⟩ (.slice aA begun.length cA)).setCell ⟨gP,5,none⟩ (.slice aB args.length cB)).setCell ⟨gP,6,none⟩ (.int .i64 (idx:Nat))))
    rw [hnew]
    have hBy67:Below W.heap.size W y67:=by rw [<- hnew];exact (((((((hBy66.setCell (p:=⟨gP,0,none⟩) EP.out.2.2 _).setCell (p:=⟨gP,1,none⟩) EP.out.2.2 _).setCell (p:=⟨gP,2,none⟩) EP.out.2.2 _).setCell (p:=⟨gP,3,none⟩) EP.out.2.2 _).setCell (p:=⟨gP,4,none⟩) EP.out.2.2 _).setCell (p:=⟨gP,5,none⟩) EP.out.2.2 _).setCell (p:=⟨gP,6,none⟩) EP.out.2.2 _)
    have hbt:But (fun i=>i=gP) y66 y67:=by rw [<- hnew];exact ((((((((But.refl (fun i=>i=gP) y66).setCell (p:=⟨gP,0,none⟩) (.inl rfl) _).setCell (p:=⟨gP,1,none⟩) (.inl rfl) _).setCell (p:=⟨gP,2,none⟩) (.inl rfl) _).setCell (p:=⟨gP,3,none⟩) (.inl rfl) _).setCell (p:=⟨gP,4,none⟩) (.inl rfl) _).setCell (p:=⟨gP,5,none⟩) (.inl rfl) _).setCell (p:=⟨gP,6,none⟩) (.inl rfl) _)
    have htg:∀ g,g=gP->tg66 g=3:=fun g e=>by rw [e];exact EP.out.2.1
    have RB:Hid (Res W.heap.size tg66 2 y67 3 (.slice aB (args.length) cB) args.length (intsV args)):=⟨RB.out.1.keep fun g o hg ho=>by rw [hbt.block g (lt_of_heap ho) (fun e=>by have:=(RB.out.2 g hg).1;rw [htg g e] at this;exact absurd this (by decide))];exact ho,RB.out.2⟩
    have RA:Hid (Res W.heap.size tg66 1 y67 3 (.slice aA (begun.length) cA) begun.length (intsV begun)):=⟨RA.out.1.keep fun g o hg ho=>by rw [hbt.block g (lt_of_heap ho) (fun e=>by have:=(RA.out.2 g hg).1;rw [htg g e] at this;exact absurd this (by decide))];exact ho,RA.out.2⟩
    have EP:Hid (y67.heap[gP]? = some (.cells #[str s,.int .i64 v,.slice a2 n2 c2,.slice a3 n3 c3,.slice aA begun.length cA,.slice aB args.length cB,.int .i64 (idx:Nat)] 177 (0,0))/\tg66 gP=3/\W.heap.size<=gP):=⟨by rw [<- hnew];exact (setCell_at' (setCell_at' (setCell_at' (setCell_at' (setCell_at' (setCell_at' (setCell_at' EP.out.1))))))),EP.out.2⟩
    clear hnew hbt htg cP0 fP0 cP1 fP1 cP2 fP2 cP3 fP3 cP4 fP4 cP5 fP5 cP6 fP6
    refine wpAnyS_done (by kernel_rfl) (NoPanic.normal ?_) _
    refine ⟨rfl,⟨gA,gB,gP,aA,cA,aB,cB⟩,by rfl,?_⟩
    exact { below:=hBy67,box:=EP.out.1,o5:=by rw [List.replicate_zero,List.append_nil];exact RA.out.1,o6:=by rw [show intsV args++intsV (List.range 0)=intsV args from by simp [intsV]];exact RB.out.1,gw:=EP.out.2.2,f5:=fun i hi=>⟨(RA.out.2 i hi).2,fun e=>by have h1:=(RA.out.2 i hi).1;rw [e,EP.out.2.1] at h1;exact absurd h1 (by decide)⟩,f6:=fun i hi=>⟨(RB.out.2 i hi).2,fun e=>by have h1:=(RB.out.2 i hi).1;rw [e,EP.out.2.1] at h1;exact absurd h1 (by decide)⟩,ap:=fun i hi e=>by have h1:=(RA.out.2 i hi).1;have h2:=(RB.out.2 i e).1;rw [h1] at h2;exact absurd h2 (by decide) }
 rintro ⟨gA,gB,g,a5,c5,a6,c6⟩ w7 hI
 simp only [pQ,pN,pZ,pS]
 go_wp2_with fail
 go_loopw [10] (fun i wr=>∃ (k:Nat) (a5:Option Addr) (c5:Nat) (a6:Option Addr) (c6:Nat),k<=t.args.length/\i=.int .i64 k/\BegI g s v a2 n2 c2 a3 n3 c3 begun.length args.length begun args idx k a5 c5 a6 c6 W wr) (fun i _=>t.args.length-(intOf i).toNat)
 case atStart=>exact ⟨0,a5,c5,a6,c6,Nat.zero_le _,rfl,hI⟩
 case round =>
  rename_i wr
  obtain ⟨k,a5,c5,a6,c6,hk,rfl,hI⟩:=hrel
  obtain ⟨_,_,_,_,_,_,t0⟩:=KEY.out wr hI.below
  obtain ⟨q0,q1,q2,q3,q4,q5,q6⟩:=cells_7 hI.box
  have fz:=frozen_4 hI.box 4
  have HI:=Lib.hid hI
  clear hI
  by_cases hlt:k<t.args.length
  ·have hlt':(k:Int)<(t.args.length:Int):=by omega
   clear q0 q1 q2 q3 q5 q6
   have q4a:=fun o=>cell_alloc (o:=o) q4
   go_wp2_with (at_builtin;refine wpList_append_gen rfl _ _ 31 rfl 3 (.int .i64 0) 1 8 Tryz.underlying31 Tryz.infoInt2 rfl (by decide) (.slice a5 (begun.length+k) c5) (begun.length+k) (intsV begun++List.replicate k (.int .i64 (idx:Nat))) rfl ?c1 _ 1 [.int .i64 (idx:Nat)] rfl ?c2 ?c3 ?c4 ?_)
   case c1=>exact HI.out.o5.alloc _
   case c2=>exact SrcSl.litk #[.int .i64 (idx:Nat)] rfl (by simp [Value.oneCell']) _ (by rfl)
   case c3=>unfold maxLen;omega
   case c4=>omega
   intro a7 c7 w8 ho8 hb8 hg8
   obtain ⟨W8,hW8,hbl8,hbox8,o58,o68,f58,ap8⟩:=HI.out.half (by rw [List.append_assoc];exact ho8) hb8 hg8
   have q48:w8.cell? ⟨g,4,none⟩=some (.slice a5 (begun.length+k) c5):=(hb8.cell (p:=⟨g,4,none⟩) (by rw [size_alloc];have:=lt_of_heap HI.out.box;show g<_;omega) (fun e=>(HI.out.f5 g e).2 rfl)).trans (cell_alloc q4)
   have fz8:w8.frozen? ⟨g,4,none⟩=false:=by
    have:=(hb8.block g (by rw [size_alloc];have:=lt_of_heap HI.out.box;omega) (fun e=>(HI.out.f5 g e).2 rfl)).trans (heap_past HI.out.box)
    simp [World.frozen?,this]
   obtain ⟨_,_,_,_,_,q5,_⟩:=cells_7 hbox8
   have H8:=Lib.hid (And.intro hW8 (And.intro hbl8 (And.intro hbox8 (And.intro o58 (And.intro o68 (And.intro f58 ap8))))))
   clear ho8 hb8 hg8 hW8 hbl8 hbox8 o58 o68 f58 ap8 q4a
   go_upto_region 6 with (fail)
   rw [H8.out.1]
   clear q4 q48 fz fz8 t0
   go_wp2_with (at_builtin;refine wpList_append_gen rfl _ _ 31 rfl 3 (.int .i64 0) 1 8 Tryz.underlying31 Tryz.infoInt2 rfl (by decide) (.slice a6 (args.length+k) c6) (args.length+k) (intsV args++intsV (List.range k)) rfl ?c1 _ 1 [.int .i64 (k:Nat)] rfl ?c2 ?c3 ?c4 ?_)
   case c1=>exact H8.out.2.2.2.2.1.alloc _
   case c2=>exact SrcSl.litk #[.int .i64 (k:Nat)] rfl (by simp [Value.oneCell']) _ (by rfl)
   case c3=>unfold maxLen;omega
   case c4=>omega
   intro a9 c9 w9 ho9 hb9 hg9
   have hI9:=BegI.next H8.out.2.1 HI.out.gw H8.out.2.2.1 H8.out.2.2.2.1 H8.out.2.2.2.2.1 H8.out.2.2.2.2.2.1 HI.out.f6 H8.out.2.2.2.2.2.2 (by rw [List.append_assoc];exact ho9) hb9 hg9
   have hbx:=(hb9.block g (by rw [size_alloc];have:=lt_of_heap H8.out.2.2.1;omega) (fun e=>(HI.out.f6 g e).2 rfl)).trans (heap_past H8.out.2.2.1)
   obtain ⟨_,_,_,_,_,q59,_⟩:=cells_7 hbx
   have fz9:=frozen_4 hbx 5
   obtain ⟨W9,hW9⟩:=zzN (w9.setCell ⟨g,5,none⟩ (.slice a9 (args.length+k+1) c9))
   rw [hW9] at hI9
   have H9:=Lib.hid (And.intro hW9 hI9)
   clear hI9 hW9 ho9 hb9 hg9 hbx
   go_upto_region 4 with (fail)
   rw [H9.out.1]
   clear q5 q59 fz9
   go_wp2_with fail
   go_roundw
   case rel=>exact ⟨k+1,a7,c7,a9,c9,by omega,by go_num,H9.out.2⟩
   case measure=>simp [intOf];omega
  ·obtain rfl:k=t.args.length:=by omega
   have z3:=(HI.out.below.block _ (lt_of_heap HW.out.2.2.2)).trans HW.out.2.2.2
   have hne:g≠w.heap.size+3:=by have h1:=HI.out.gw;have h2:=HW.out.2.2.1;omega
   have HZ:=Lib.hid (And.intro z3 hne)
   have g0:=frozen_4 z3 0;have g1:=frozen_4 z3 1;have g2:=frozen_4 z3 2;have g3:=frozen_4 z3 3;have g4:=frozen_4 z3 4;have g5:=frozen_4 z3 5;have g6:=frozen_4 z3 6
   obtain ⟨z0,z1,z2,z3',z4,z5,z6⟩:=cells_7 z3
   clear z3 hne
   go_wp2_with fail
   have hV:=set_seven HZ.out.1 (str s) (.int .i64 v) (.slice a2 n2 c2) (.slice a3 n3 c3) (.slice a5 (begun.length+t.args.length) c5) (.slice a6 (args.length+t.args.length) c6) (.int .i64 (idx:Nat))
   obtain ⟨s0',s1',s2',s3',s4',s5',s6'⟩:=cells_7 hV
   refine bodyPost_ret (v:=.agg #[str s,.int .i64 v,.slice a2 n2 c2,.slice a3 n3 c3,.slice a5 (begun.length+t.args.length) c5,.slice a6 (args.length+t.args.length) c6,.int .i64 (idx:Nat)]) (by simp [results,Tryz.results173,go_sem,s0',s1',s2',s3',s4',s5',s6']) rfl ?_
   have hz4:=HW.out.2.2.1
   have hbw:Below w.heap.size w wr:=HW.out.2.1.trans (HI.out.below.mono (by omega))
   have far:∀ (x:World) (p:Addr) (u:Value) (i:Nat),p.block=w.heap.size+3->W.heap.size<=i->(x.setCell p u).heap[i]? = x.heap[i]?:=fun x p u i hp hi=>Below.heap_setCell _ _ _ _ (by rw [hp];omega)
   have keep:∀ {e:TypeId} {n:Nat} {r:Value} {ys:List Value},Own wr e 1 r n ys->(∀ i,r.ownBlock=some i->W.heap.size<=i)->Own (((((((wr.setCell ⟨w.heap.size+3,0,none⟩ (str s)).setCell ⟨w.heap.size+3,1,none⟩ (.int .i64 v)).setCell ⟨w.heap.size+3,2,none⟩ (.slice a2 n2 c2)).setCell ⟨w.heap.size+3,3,none⟩ (.slice a3 n3 c3)).setCell ⟨w.heap.size+3,4,none⟩ (.slice a5 (begun.length+t.args.length) c5)).setCell ⟨w.heap.size+3,5,none⟩ (.slice a6 (args.length+t.args.length) c6)).setCell ⟨w.heap.size+3,6,none⟩ (.int .i64 (idx:Nat))) e 1 r n ys :=
    fun ho hf=>ho.keep fun i x hi hx=>by
     have h:=hf i hi
     rw [far _ _ _ _ rfl h,far _ _ _ _ rfl h,far _ _ _ _ rfl h,far _ _ _ _ rfl h,far _ _ _ _ rfl h,far _ _ _ _ rfl h,far _ _ _ _ rfl h];exact hx
   refine ⟨_,_,_,_,rfl,((((((hbw.setCell (p:=⟨w.heap.size+3,0,none⟩) (Nat.le_add_right _ _) _).setCell (p:=⟨w.heap.size+3,1,none⟩) (Nat.le_add_right _ _) _).setCell (p:=⟨w.heap.size+3,2,none⟩) (Nat.le_add_right _ _) _).setCell (p:=⟨w.heap.size+3,3,none⟩) (Nat.le_add_right _ _) _).setCell (p:=⟨w.heap.size+3,4,none⟩) (Nat.le_add_right _ _) _).setCell (p:=⟨w.heap.size+3,5,none⟩) (Nat.le_add_right _ _) _).setCell (p:=⟨w.heap.size+3,6,none⟩) (Nat.le_add_right _ _) _,?_,?_⟩
   ·refine Own.numD ?_ (by simp) (fun i hi=>by have:=(HI.out.f5 i hi).1;omega)
    rw [show intsV (begun++List.replicate t.args.length idx)=intsV begun++List.replicate t.args.length (.int .i64 (idx:Nat)) from by simp [intsV]]
    exact keep HI.out.o5 (fun i hi=>(HI.out.f5 i hi).1)
   ·refine Own.numD ?_ (by simp) (fun i hi=>by have:=(HI.out.f6 i hi).1;omega)
    rw [show intsV (args++List.range t.args.length)=intsV args++intsV (List.range t.args.length) from by simp [intsV]]
    exact keep HI.out.o6 (fun i hi=>(HI.out.f6 i hi).1)
end Go.Proofs.YtdfkiicodfbibaaGreatDoor

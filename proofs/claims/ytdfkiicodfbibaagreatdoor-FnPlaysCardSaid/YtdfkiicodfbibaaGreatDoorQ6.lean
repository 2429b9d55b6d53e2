/- Walks of functions that the statement reaches, and plain words. No conditions. -/
import Derived.Laws.Entries
import Derived.Test.YtdfkiicodfbibaaGreatDoorQ5
set_option linter.unusedVariables false
set_option linter.unusedSimpArgs false
set_option maxHeartbeats 4000000
namespace Go.Proofs.YtdfkiicodfbibaaGreatDoor
open Go.RowKit
def CopyP (l:Pl) (w:World) (en:Ending) (w':World):Prop :=
 ∃ mv pt,en=.returned (.agg #[mv,pt])/\PlayAt w' l mv pt/\Below w.heap.size w w'/\∀ g,mv.ownBlock=some g\/pt.ownBlock=some g->w.heap.size<=g
theorem cells_2 {w:World} {b:Nat} {x y:Value} {T:TypeId} (h:w.heap[b]? = some (.cells #[x,y] T (0,0))):w.cell? ⟨b,0,none⟩=some x/\w.cell? ⟨b,1,none⟩=some y/\w.frozen? ⟨b,0,none⟩=false/\w.frozen? ⟨b,1,none⟩=false :=
 ⟨by simp [World.cell?,h],by simp [World.cell?,h],by simp [World.frozen?,h],by simp [World.frozen?,h]⟩
theorem set_two {w:World} {b:Nat} {x y:Value} {T:TypeId} (h:w.heap[b]? = some (.cells #[x,y] T (0,0))) (u v:Value):((w.setCell ⟨b,0,none⟩ u).setCell ⟨b,1,none⟩ v).heap[b]? = some (.cells #[u,v] T (0,0)):=by
 rw [setCell_at' (setCell_at' h)];rfl
set_option maxRecDepth 100000 in
theorem clone_any (l:Pl) (mv pt:Value) (w:World) (h1:SrcSl 1 mv l.length (logM l) w) (h2:SrcSl 1 pt l.length (logP l) w) (hl:l.length<=100000) :
 Calls Tryz.prog 57 #[.agg #[mv,pt]] w (CopyP l w):=by
 obtain ⟨a1,c1,rfl⟩:=h1.slice
 obtain ⟨a2,c2,rfl⟩:=h2.slice
 obtain ⟨W,hW⟩:=zzN ((w.alloc (.cells #[.slice a1 l.length c1,.slice a2 l.length c2] 33)).alloc (.cells #[.slice none 0 0,.slice none 0 0] 33))
 have hbW:Below w.heap.size w W:=by rw [<- hW];exact ((Below.refl _ _).alloc (Nat.le_refl _) _).alloc (by simp) _
 have hz:W.heap.size=w.heap.size+2:=by rw [<- hW];simp
 have b0:W.heap[w.heap.size]? = some (.cells #[.slice a1 l.length c1,.slice a2 l.length c2] 33 (0,0)):=by rw [<- hW];exact heap_past (heap_new _ _)
 have b1:W.heap[w.heap.size+1]? = some (.cells #[.slice none 0 0,.slice none 0 0] 33 (0,0)):=by
  rw [<- hW]
  have:=heap_new (w.alloc (.cells #[.slice a1 l.length c1,.slice a2 l.length c2] 33)) (.cells #[.slice none 0 0,.slice none 0 0] 33)
  rwa [size_alloc] at this
 have g1:SrcSl 1 (.slice a1 l.length c1) l.length (logM l) W:=h1.below hbW
 have g2:SrcSl 1 (.slice a2 l.length c2) l.length (logP l) W:=h2.below hbW
 have HW:=Lib.hid hW
 have HB:=Lib.hid (And.intro hbW (And.intro hz (And.intro b0 b1)))
 have KEY:Hid (∀ x,Below W.heap.size W x->x.cell? ⟨w.heap.size,0,none⟩=some (.slice a1 l.length c1)/\x.cell? ⟨w.heap.size,1,none⟩=some (.slice a2 l.length c2)):=Lib.hid (fun x hx=>by
  have h:=(hx.block _ (lt_of_heap HB.out.2.2.1)).trans HB.out.2.2.1
  exact ⟨(cells_2 h).1,(cells_2 h).2.1⟩)
 clear hW h1 h2 hbW hz b0 b1
 go_enter Tryz.func57,Tryz.ntmps57
 go_wp2_with fail
 rw [HW.out]
 refine wp_region_noPanic ?_
 refine wp_region_S (fun w'=>Below W.heap.size W w') (fun i=>i == 7) (by kernel_rfl) ?_
 have hSd:(fun w'=>Below W.heap.size W w') W.drew:=Below.drew (Below.refl _ _)
 refine wpAnyS_take 0 (v:=?_) (by kernel_rfl) (by kernel_rfl) (by kernel_rfl) (by kernel_rfl) (fun _ _ _ _ h=>h) hSd ?_ ?_
 rotate_left
 ·(intro oi ho;simp at ho;subst ho;refine Or.inl ⟨by rfl,fun w' hw'=>?_⟩;go_simp;try with_reducible rfl)
 (intro d hd;simp at hd;subst hd;simp only [Act.put,List.setIfInBounds_toArray,List.set_cons_zero,List.set_cons_succ])
 refine wpAnyS_take 1 (v:=?_) (by kernel_rfl) (by kernel_rfl) (by kernel_rfl) (by kernel_rfl) (fun _ _ _ _ h=>h) hSd ?_ ?_
 rotate_left
 ·(intro oi ho;simp at ho;subst ho;refine Or.inl ⟨by rfl,fun w' hw'=>?_⟩;obtain ⟨e0,e1⟩:=KEY.out w' hw';go_simp;try with_reducible rfl)
 (intro d hd;simp at hd;subst hd;simp only [Act.put,List.setIfInBounds_toArray,List.set_cons_zero,List.set_cons_succ])
 refine wpAnyS_take 3 (v:=?_) (by kernel_rfl) (by kernel_rfl) (by kernel_rfl) (by kernel_rfl) (fun _ _ _ _ h=>h) hSd ?_ ?_
 rotate_left
 ·(intro oi ho;simp at ho;subst ho;refine Or.inl ⟨by rfl,fun w' hw'=>?_⟩;go_simp;try with_reducible rfl)
 (intro d hd;simp at hd;subst hd;simp only [Act.put,List.setIfInBounds_toArray,List.set_cons_zero,List.set_cons_succ])
 refine wpAnyS_take 4 (v:=?_) (by kernel_rfl) (by kernel_rfl) (by kernel_rfl) (by kernel_rfl) (fun _ _ _ _ h=>h) hSd ?_ ?_
 rotate_left
 ·(intro oi ho;simp at ho;subst ho;refine Or.inl ⟨by rfl,fun w' hw'=>?_⟩;obtain ⟨e0,e1⟩:=KEY.out w' hw';go_simp;try with_reducible rfl)
 (intro d hd;simp at hd;subst hd;simp only [Act.put,List.setIfInBounds_toArray,List.set_cons_zero,List.set_cons_succ])
 refine wpAnyS_one 2 (by kernel_rfl) ?_
 (intro o2 ho K' hK;simp at ho;subst ho)
 refine step_append_gen (by rfl) _ _ _ (by rfl) 9 (str []) 1 16 Tryz.underlying30 Tryz.infoStr rfl (by decide) (.slice none 0 0) 0 [] (by rfl) (World.ownsRow_nil _ _ _ _) _ l.length (logM l) (by rfl) (g1.drew) (by unfold maxLen;omega) (by omega) ?_
 intro ax cx wx hox hbx hgx
 simp only [Nat.zero_add,List.nil_append] at hox hgx ⊢
 have hBx:Below W.heap.size W wx:=Below.trans hSd (hbx.toBelow (Below.size hSd) fun i hi e=>by simp [Value.ownBlock] at e)
 have hfx:∀ g,(Value.slice ax l.length cx).ownBlock=some g->W.heap.size<=g:=fun g hg=>by rcases hgx g hg with h | h;simp [Value.ownBlock] at h;exact Nat.le_of_eq h.symm
 refine hK.out _ _ ?_ ?_
 ·exact fun _=>hBx
 clear hK K'
 (try simp only [Act.put,List.setIfInBounds_toArray,List.set_cons_zero,List.set_cons_succ])
 refine wpAnyS_one 5 (by kernel_rfl) ?_
 (intro o5 ho K' hK;simp at ho;subst ho)
 refine step_append_gen (by rfl) _ _ _ (by rfl) 3 (.int .i64 0) 1 8 Tryz.underlying31 Tryz.infoInt rfl (by decide) (.slice none 0 0) 0 [] (by rfl) (World.ownsRow_nil _ _ _ _) _ l.length (logP l) (by rfl) (g2.below hBx) (by unfold maxLen;omega) (by omega) ?_
 intro ay cy wy hoy hby hgy
 simp only [Nat.zero_add,List.nil_append] at hoy hgy ⊢
 have hBxy:Below wx.heap.size wx wy:=hby.toBelow (Nat.le_refl _) fun i hi e=>by simp [Value.ownBlock] at e
 have hBy:Below W.heap.size W wy:=zzT hBx hBxy
 have hfy:∀ g,(Value.slice ay l.length cy).ownBlock=some g->W.heap.size<=g:=fun g hg=>by rcases hgy g hg with h | h;simp [Value.ownBlock] at h;exact Nat.le_trans hBx.size (Nat.le_of_eq h.symm)
 refine hK.out _ _ ?_ ?_
 ·exact fun _=>hBy
 clear hK K'
 (try simp only [Act.put,List.setIfInBounds_toArray,List.set_cons_zero,List.set_cons_succ])
 refine wpAnyS_one 6 (by kernel_rfl) ?_
 (intro o6 ho K' hK;simp at ho;subst ho)
 go_simp
 refine hK.out _ _ ?_ ?_
 ·exact fun _=>hBy
 clear hK K'
 (try simp only [Act.put,List.setIfInBounds_toArray,List.set_cons_zero,List.set_cons_succ])
 refine wpAnyS_one 7 (by kernel_rfl) ?_
 (intro o7 ho K' hK;simp at ho;subst ho)
 have b1:=(hBy.block _ (lt_of_heap HB.out.2.2.2)).trans HB.out.2.2.2
 obtain ⟨z0,z1,z2,z3⟩:=cells_2 b1
 go_simp
 refine hK.out _ _ ?_ ?_
 ·intro h;simp at h
 clear hK K'
 (try simp only [Act.put,List.setIfInBounds_toArray,List.set_cons_zero,List.set_cons_succ])
 refine wpAnyS_done (by kernel_rfl) (NoPanic.normal ?_) _
 go_wp2_with fail
 have hV:=set_two b1 (.slice ax l.length cx) (.slice ay l.length cy)
 obtain ⟨s0,s1,_,_⟩:=cells_2 hV
 have hz:=HB.out.2.1
 have hbF:=((zzT HB.out.1 hBy).setCell (p:=⟨w.heap.size+1,0,none⟩) (Nat.le_succ _) (.slice ax l.length cx)).setCell (p:=⟨w.heap.size+1,1,none⟩) (Nat.le_succ _) (.slice ay l.length cy)
 refine bodyPost_ret (v:=.agg #[.slice ax l.length cx,.slice ay l.length cy]) (by simp [results,Tryz.results57,go_sem,s0,s1]) rfl ?_
 refine ⟨_,_,rfl,⟨?_,?_⟩,hbF,fun g hg=>?_⟩
 ·exact (hox.keep fun g o _ ho=>by rw [hBxy.block g (lt_of_heap ho)];exact ho).keep fun g o hg ho=>by
   have:=hfx g hg
   rw [Below.heap_setCell _ _ _ _ (by show g≠w.heap.size+1;omega),Below.heap_setCell _ _ _ _ (by show g≠w.heap.size+1;omega)];exact ho
 ·exact hoy.keep fun g o hg ho=>by
   have:=hfy g hg
   rw [Below.heap_setCell _ _ _ _ (by show g≠w.heap.size+1;omega),Below.heap_setCell _ _ _ _ (by show g≠w.heap.size+1;omega)];exact ho
 ·rcases hg with hg | hg
  ·have:=hfx g hg;omega
  ·have:=hfy g hg;omega
theorem boxes_2 (w:World) (A B:Obj):∃ W,(w.alloc A).alloc B=W/\Below w.heap.size w W/\W.heap.size=w.heap.size+2/\W.heap[w.heap.size]? = some A/\W.heap[w.heap.size+1]? = some B:=by
 refine ⟨_,rfl,((Below.refl _ _).alloc (Nat.le_refl _) _).alloc (by rw [size_alloc];omega) _,by rw [size_alloc,size_alloc],heap_past (heap_new _ _),?_⟩
 have h:=heap_new (w.alloc A) B
 rwa [size_alloc] at h
theorem box_1 (w:World) (A:Obj):∃ W,w.alloc A=W/\Below w.heap.size w W/\W.heap.size=w.heap.size+1/\W.heap[w.heap.size]? = some A :=
 ⟨_,rfl,(Below.refl _ _).alloc (Nat.le_refl _) _,by rw [size_alloc],heap_new _ _⟩
set_option maxRecDepth 100000 in
theorem with_any (l:Pl) (mv pt:Value) (s:Bs) (p:Int) (w:World) (h1:SrcSl 1 mv l.length (logM l) w) (h2:SrcSl 1 pt l.length (logP l) w) (hl:l.length<=1000) :
 Calls Tryz.prog 110 #[.agg #[mv,pt],str s,.int .i64 p] w (CopyP (l++[(s,p)]) w):=by
 obtain ⟨a1,c1,rfl⟩:=h1.slice
 obtain ⟨a2,c2,rfl⟩:=h2.slice
 obtain ⟨W,hW,hbW,hz,b0,b1⟩:=boxes_2 w (.cells #[.slice a1 l.length c1,.slice a2 l.length c2] 33) (.cells #[.slice none 0 0,.slice none 0 0] 33)
 obtain ⟨e0,e1,_,_⟩:=cells_2 b0
 have C:=Lib.hid (clone_any l _ _ W (h1.below hbW) (h2.below hbW) (by omega))
 have HB:=Lib.hid (And.intro hbW (And.intro hz b1))
 have HW:=Lib.hid hW
 clear hW h1 h2 hbW hz b0 b1
 go_enter Tryz.func110,Tryz.ntmps110
 go_upto_region 1 with (fail)
 rw [HW.out]
 go_wp2_with fail
 (with_reducible refine C.out.mono ?_)
 rintro en w1 ⟨mv1,pt1,rfl,hp1,hb1,hf1⟩
 obtain ⟨a3,c3,e3⟩:=hp1.1.slice
 obtain ⟨a4,c4,e4⟩:=hp1.2.slice
 subst e3;subst e4
 obtain ⟨W1,hW1,hbW1,hz1,bx⟩:=box_1 w1 (.cells #[.slice a3 l.length c3,.slice a4 l.length c4] 33)
 obtain ⟨x0,x1,xf0,xf1⟩:=cells_2 bx
 have hm1:=hp1.1.keep (w':=W1) fun g o _ ho=>by rw [<- hW1];exact heap_past ho
 have hp2:=hp1.2.keep (w':=W1) fun g o _ ho=>by rw [<- hW1];exact heap_past ho
 have hl3:∀ g,(Value.slice a3 l.length c3).ownBlock=some g->g<w1.heap.size:=fun g hg=>hp1.1.lt hg
 have hl4:∀ g,(Value.slice a4 l.length c4).ownBlock=some g->g<w1.heap.size:=fun g hg=>hp1.2.lt hg
 have hun:∀ g,(Value.slice a3 l.length c3).ownBlock=some g->(Value.slice a4 l.length c4).ownBlock≠some g:=fun g hg=>hp1.1.unlike hp1.2 str_int hg
 have H1:=Lib.hid (And.intro hb1 (And.intro hf1 (And.intro hbW1 (And.intro hz1 (And.intro bx (And.intro hm1 hp2))))))
 have HL:=Lib.hid (And.intro hl3 (And.intro hl4 hun))
 have HW1:=Lib.hid hW1
 clear hW1 hbW1 hz1 bx hm1 hp2 hl3 hl4 hun hp1 hb1 hf1 C e0 e1
 go_upto_region 2 with (fail)
 rw [HW1.out]
 go_wp2_with (at_builtin;refine wpList_append_gen rfl _ _ 30 rfl 9 (str []) 1 16 Tryz.underlying30 Tryz.infoStr rfl (by decide) (.slice a3 l.length c3) l.length (logM l) rfl ?c1 _ 1 [str s] rfl ?c2 ?c3 ?c4 ?_)
 case c1=>exact H1.out.2.2.2.2.2.1.alloc _
 case c2=>exact SrcSl.lit rfl
 case c3=>unfold maxLen;omega
 case c4=>omega
 intro a5 c5 w2 ho2 hb2 hg2
 have HO2:=Lib.hid (And.intro ho2 (And.intro hb2 hg2))
 have hzW1:=H1.out.2.2.2.1
 have hzW:=HB.out.2.1
 have hsz1:=H1.out.1.size
 have low2:∀ g,g<W1.heap.size->(Value.slice a3 l.length c3).ownBlock≠some g->w2.heap[g]? = W1.heap[g]?:=fun g hg hn=>by
  rw [hb2.block g (by rw [size_alloc];omega) hn,Below.heap_alloc _ _ _ hg]
 have hsz2:W1.heap.size+1<=w2.heap.size:=by have:=hb2.size;rwa [size_alloc] at this
 have bx2:w2.heap[w1.heap.size]? = some (.cells #[.slice a3 l.length c3,.slice a4 l.length c4] 33 (0,0)):=by
  rw [low2 _ (by omega) (fun e=>by have:=HL.out.1 _ e;omega)];exact H1.out.2.2.2.2.1
 have br2:w2.heap[w.heap.size+1]? = some (.cells #[.slice none 0 0,.slice none 0 0] 33 (0,0)):=by
  rw [low2 _ (by omega) (fun e=>by have:=H1.out.2.1 _ (.inl e);omega),H1.out.2.2.1.block _ (by omega),H1.out.1.block _ (by omega)];exact HB.out.2.2
 have hp2:Own w2 3 1 (.slice a4 l.length c4) l.length (logP l):=H1.out.2.2.2.2.2.2.keep fun g o hg ho=>by
  rw [low2 g (lt_of_heap ho) (fun e=>HL.out.2.2 g e hg)];exact ho
 have hbw2:Below w.heap.size w w2:=by
  have h1:Below w.heap.size w W1:=(zzT HB.out.1 H1.out.1).trans (H1.out.2.2.1.mono (by omega))
  exact (h1.alloc (by omega) _).trans (hb2.toBelow (by rw [size_alloc];omega) fun i hi e=>by have:=H1.out.2.1 _ (.inl e);omega)
 have hfr5:∀ g,(Value.slice a5 (l.length+1) c5).ownBlock=some g->w.heap.size+2<=g/\g≠w1.heap.size:=fun g hg=>by
  rcases hg2 g hg with h | h
  ·have h1:=H1.out.2.1 _ (.inl h);have h2:=HL.out.1 _ h;omega
  ·omega
 obtain ⟨y0,y1,yf0,yf1⟩:=cells_2 bx2
 obtain ⟨W3,hW3⟩:=zzN (w2.setCell ⟨w1.heap.size,0,none⟩ (.slice a5 (l.length+1) c5))
 have bx3:W3.heap[w1.heap.size]? = some (.cells #[.slice a5 (l.length+1) c5,.slice a4 l.length c4] 33 (0,0)):=by rw [<- hW3,setCell_at' bx2];rfl
 have oth3:∀ g,g≠w1.heap.size->W3.heap[g]? = w2.heap[g]?:=fun g hg=>by rw [<- hW3];exact Below.heap_setCell _ _ _ _ (by show g≠w1.heap.size;exact hg)
 have hz3:W3.heap.size=w2.heap.size:=by rw [<- hW3];simp [World.setCell]
 have br3:W3.heap[w.heap.size+1]? = some (.cells #[.slice none 0 0,.slice none 0 0] 33 (0,0)):=by rw [oth3 _ (by omega)];exact br2
 have hp3:Own W3 3 1 (.slice a4 l.length c4) l.length (logP l):=hp2.keep fun g o hg ho=>by rw [oth3 g (by have:=HL.out.2.1 g hg;omega)];exact ho
 have hm3:Own W3 9 1 (.slice a5 (l.length+1) c5) (l.length+1) (logM l++[str s]):=HO2.out.1.keep fun g o hg ho=>by rw [oth3 g (hfr5 g hg).2];exact ho
 have hbw3:Below w.heap.size w W3:=by rw [<- hW3];exact hbw2.setCell (p:=⟨w1.heap.size,0,none⟩) (by show w.heap.size<=w1.heap.size;omega) _
 have hfr4:∀ g,(Value.slice a4 l.length c4).ownBlock=some g->w.heap.size+2<=g/\g<w1.heap.size:=fun g hg=>by
  have h1:=H1.out.2.1 _ (.inr hg);have h2:=HL.out.2.1 _ hg;omega
 have hun3:∀ g,(Value.slice a5 (l.length+1) c5).ownBlock=some g->(Value.slice a4 l.length c4).ownBlock≠some g:=fun g hg=>hm3.unlike hp3 str_int hg
 obtain ⟨x0,x1,xf0,xf1⟩:=cells_2 bx3
 have H3:=Lib.hid (And.intro hW3 (And.intro bx3 (And.intro br3 (And.intro hp3 (And.intro hm3 (And.intro hbw3 (And.intro hfr4 (And.intro hfr5 (And.intro hun3 (And.intro hz3 hsz2))))))))))
 have HZ:=Lib.hid (And.intro hzW1 (And.intro hzW hsz1))
 clear hW3 bx3 br3 hp3 hm3 hbw3 hfr4 hfr5 hun3 hz3 hsz2 hzW1 hzW hsz1 low2 bx2 br2 hp2 hbw2 oth3 HO2 hb2 hg2 ho2 y1 yf1
 go_upto_region 3 with (fail)
 rw [H3.out.1]
 clear y0 yf0
 go_wp2_with (at_builtin;refine wpList_append_gen rfl _ _ 31 rfl 3 (.int .i64 0) 1 8 Tryz.underlying31 Tryz.infoInt rfl (by decide) (.slice a4 l.length c4) l.length (logP l) rfl ?c1 _ 1 [.int .i64 p] rfl ?c2 ?c3 ?c4 ?_)
 case c1=>exact H3.out.2.2.2.1.alloc _
 case c2=>exact SrcSl.lit rfl
 case c3=>unfold maxLen;omega
 case c4=>omega
 intro a6 c6 w4 ho4 hb4 hg4
 have hzW1:=HZ.out.1
 have hzW:=HZ.out.2.1
 have hsz1:=HZ.out.2.2
 have hz3:=H3.out.2.2.2.2.2.2.2.2.2.1
 have hsz2:=H3.out.2.2.2.2.2.2.2.2.2.2
 have low4:∀ g,g<W3.heap.size->(Value.slice a4 l.length c4).ownBlock≠some g->w4.heap[g]? = W3.heap[g]?:=fun g hg hn=>by
  rw [hb4.block g (by rw [size_alloc];omega) hn,Below.heap_alloc _ _ _ hg]
 have bx4:w4.heap[w1.heap.size]? = some (.cells #[.slice a5 (l.length+1) c5,.slice a4 l.length c4] 33 (0,0)):=by
  rw [low4 _ (by omega) (fun e=>by have:=H3.out.2.2.2.2.2.2.1 _ e;omega)];exact H3.out.2.1
 have br4:w4.heap[w.heap.size+1]? = some (.cells #[.slice none 0 0,.slice none 0 0] 33 (0,0)):=by
  rw [low4 _ (by omega) (fun e=>by have:=H3.out.2.2.2.2.2.2.1 _ e;omega)];exact H3.out.2.2.1
 have hm4:Own w4 9 1 (.slice a5 (l.length+1) c5) (l.length+1) (logM l++[str s]):=H3.out.2.2.2.2.1.keep fun g o hg ho=>by
  rw [low4 g (lt_of_heap ho) (fun e=>H3.out.2.2.2.2.2.2.2.2.1 g hg e)];exact ho
 have hbw4:Below w.heap.size w w4:=(H3.out.2.2.2.2.2.1.alloc H3.out.2.2.2.2.2.1.size _).trans (hb4.toBelow (by rw [size_alloc];have:=H3.out.2.2.2.2.2.1.size;omega) fun i hi e=>by have:=H3.out.2.2.2.2.2.2.1 _ e;omega)
 have hfr6:∀ g,(Value.slice a6 (l.length+1) c6).ownBlock=some g->w.heap.size+2<=g/\g≠w1.heap.size:=fun g hg=>by
  rcases hg4 g hg with h | h
  ·have h1:=H3.out.2.2.2.2.2.2.1 _ h;omega
  ·omega
 have hfr5:=H3.out.2.2.2.2.2.2.2.1
 obtain ⟨y0,y1,yf0,yf1⟩:=cells_2 bx4
 obtain ⟨W5,hW5⟩:=zzN (w4.setCell ⟨w1.heap.size,1,none⟩ (.slice a6 (l.length+1) c6))
 have bx5:W5.heap[w1.heap.size]? = some (.cells #[.slice a5 (l.length+1) c5,.slice a6 (l.length+1) c6] 33 (0,0)):=by rw [<- hW5,setCell_at' bx4];rfl
 have oth5:∀ g,g≠w1.heap.size->W5.heap[g]? = w4.heap[g]?:=fun g hg=>by rw [<- hW5];exact Below.heap_setCell _ _ _ _ (by show g≠w1.heap.size;exact hg)
 have br5:W5.heap[w.heap.size+1]? = some (.cells #[.slice none 0 0,.slice none 0 0] 33 (0,0)):=by rw [oth5 _ (by omega)];exact br4
 have hm5:Own W5 9 1 (.slice a5 (l.length+1) c5) (l.length+1) (logM l++[str s]):=hm4.keep fun g o hg ho=>by rw [oth5 g (hfr5 g hg).2];exact ho
 have hp5:Own W5 3 1 (.slice a6 (l.length+1) c6) (l.length+1) (logP l++[.int .i64 p]):=ho4.keep fun g o hg ho=>by rw [oth5 g (hfr6 g hg).2];exact ho
 have hbw5:Below w.heap.size w W5:=by rw [<- hW5];exact hbw4.setCell (p:=⟨w1.heap.size,1,none⟩) (by show w.heap.size<=w1.heap.size;omega) _
 have H5:=Lib.hid (And.intro hW5 (And.intro hm5 (And.intro hp5 (And.intro hbw5 (And.intro hfr5 (And.intro hfr6 br5))))))
 obtain ⟨z0,z1,zf0,zf1⟩:=cells_2 bx5
 obtain ⟨q0,q1,qf0,qf1⟩:=cells_2 br5
 clear hW5 bx5 br5 hm5 hp5 hbw5 hfr5 hfr6 oth5 hbw4 hm4 br4 bx4 low4 hsz2 hz3 hsz1 hzW hzW1 hg4 hb4 ho4 x0 x1 xf0 xf1 y0 yf0
 have hne:w.heap.size+1≠w1.heap.size:=by have:=HZ.out.2;omega
 go_upto_region 4 with (fail)
 rw [H5.out.1]
 clear y1 yf1
 go_wp2_with fail
 have hV:=set_two H5.out.2.2.2.2.2.2 (.slice a5 (l.length+1) c5) (.slice a6 (l.length+1) c6)
 obtain ⟨s0,s1,_,_⟩:=cells_2 hV
 have hbF:=(H5.out.2.2.2.1.setCell (p:=⟨w.heap.size+1,0,none⟩) (Nat.le_succ _) (.slice a5 (l.length+1) c5)).setCell (p:=⟨w.heap.size+1,1,none⟩) (Nat.le_succ _) (.slice a6 (l.length+1) c6)
 refine bodyPost_ret (v:=.agg #[.slice a5 (l.length+1) c5,.slice a6 (l.length+1) c6]) (by simp [results,Tryz.results110,go_sem,s0,s1]) rfl ?_
 have hlen:(l++[(s,p)]).length=l.length+1:=by simp
 refine ⟨_,_,rfl,⟨?_,?_⟩,hbF,fun g hg=>?_⟩
 ·rw [hlen,logM_snoc]
  exact H5.out.2.1.keep fun g o hg ho=>by
   have:=(H5.out.2.2.2.2.1 g hg).1
   rw [Below.heap_setCell _ _ _ _ (by show g≠w.heap.size+1;omega),Below.heap_setCell _ _ _ _ (by show g≠w.heap.size+1;omega)];exact ho
 ·rw [hlen,logP_snoc]
  exact H5.out.2.2.1.keep fun g o hg ho=>by
   have:=(H5.out.2.2.2.2.2.1 g hg).1
   rw [Below.heap_setCell _ _ _ _ (by show g≠w.heap.size+1;omega),Below.heap_setCell _ _ _ _ (by show g≠w.heap.size+1;omega)];exact ho
 ·rcases hg with hg | hg
  ·have:=H5.out.2.2.2.2.1 g hg;omega
  ·have:=H5.out.2.2.2.2.2.1 g hg;omega
def lvD (lv:List Place):List DV:=lv.flatMap fun p=>[DV.val (.int .i64 (p.1:Nat)),DV.val (str p.2)]
def lvC (lv:List Place):List Value:=lv.flatMap fun p=>[.int .i64 (p.1:Nat),str p.2]
theorem lvC_append (a b:List Place):lvC (a++b)=lvC a++lvC b:=by simp [lvC]
theorem lvD_at:∀ (lv:List Place) (i:Nat) (p:Place),lv[i]? = some p->(lvD lv)[i*2]? = some (.val (.int .i64 (p.1:Nat)))/\(lvD lv)[i*2+1]? = some (.val (str p.2))
 | [],i,p,h=>by simp at h
 | q::lv,0,p,h=>by obtain rfl:q=p:=by simpa using h
                   exact ⟨rfl,rfl⟩
 | q::lv,i+1,p,h=>by
   rw [List.getElem?_cons_succ] at h
   have:=lvD_at lv i p h
   rw [show lvD (q::lv)=[DV.val (.int .i64 (q.1:Nat)),DV.val (str q.2)]++lvD lv from rfl,show (i+1)*2=2+i*2 from by omega]
   rw [List.getElem?_append_right (by simp),List.getElem?_append_right (by simp;omega)]
   simpa [Nat.add_sub_cancel_left,show 2+i*2+1-2=i*2+1 from by omega] using this
def LvRep (F:Nat->Prop) (w:World) (lv:List Place) (v:Value):Prop:=Rep F w (.sl 148 2 lv.length (lvD lv)) v
theorem LvRep.open {F:Nat->Prop} {w:World} {lv:List Place} {v:Value} (h:LvRep F w lv v):∃ a c,v=.slice a lv.length c /\
 ∀ (i:Nat) (p:Place),lv[i]? = some p->∃ b o,a=some ⟨b,o,none⟩/\F b/\b<w.heap.size/\w.cell? ⟨b,o+i*2,none⟩=some (.int .i64 (p.1:Nat))/\w.cell? ⟨b,o+i*2+1,none⟩=some (str p.2):=by
 unfold LvRep at h
 rw [Rep_sl] at h
 obtain ⟨hl,a,cap,hv,hn,hz,h⟩:=h
 refine ⟨a,cap,hv,fun i p hp=>?_⟩
 have hi:=(List.getElem?_eq_some_iff.1 hp).1
 obtain ⟨d1,d2⟩:=lvD_at lv i p hp
 rcases h with h | ⟨b,o,c,fr,ha,hb,hc,hr⟩
 ·omega
 ·obtain ⟨u1,k1,r1⟩:=hr.at d1
  obtain ⟨u2,k2,r2⟩:=hr.at d2
  rw [Rep_val] at r1 r2
  subst r1;subst r2
  rw [List.getElem?_take,if_pos (by omega),List.getElem?_drop] at k1 k2
  exact ⟨b,o,ha,hb,lt_of_heap hc,by simp [World.cell?,hc];simpa using k1,by simp [World.cell?,hc,Nat.add_assoc];simpa using k2⟩
theorem cells_4 {w:World} {b:Nat} {x y z u:Value} {T:TypeId} (h:w.heap[b]? = some (.cells #[x,y,z,u] T (0,0))):w.cell? ⟨b,0,none⟩=some x/\w.cell? ⟨b,1,none⟩=some y/\w.cell? ⟨b,2,none⟩=some z/\w.cell? ⟨b,3,none⟩=some u :=
 ⟨by simp [World.cell?,h],by simp [World.cell?,h],by simp [World.cell?,h],by simp [World.cell?,h]⟩
def TellP (m:Bs) (i:Nat) (w:World) (en:Ending) (w':World):Prop:=en=.returned (.tuple #[str m,.int .i64 (i:Nat)])/\Below w.heap.size w w'
set_option maxRecDepth 100000 in
theorem tells_leaf (F:Nat->Prop) (c:UInt8) (bv lsl:Value) (bg:Place) (w:World) (hb:Rep F w (encB (.leaf c)) bv) (h117:¬ c=117) (hl:bg.2.length<=1000) :
 Calls Tryz.prog 109 #[.agg #[bv,lsl,.int .i64 (bg.1:Nat),str bg.2]] w (TellP (c::bg.2) bg.1 w):=by
 have C:=Lib.hid (fun wz (h:Below w.heap.size w wz)=>isList_leaf F wz c bv (hb.below h (fun _ h=>h)))
 obtain ⟨b,sl,rfl,_,hc,_⟩:=leaf_open hb
 obtain ⟨W,hW,hbW,hz,bx⟩:=box_1 w (.cells #[.pointer (some ⟨b,0,none⟩),lsl,.int .i64 (bg.1:Nat),str bg.2] 150)
 have CW:=Lib.hid (C.out W hbW)
 obtain ⟨e0,e1,e2,e3⟩:=cells_4 bx
 have c1:W.cell? ⟨b,0,none⟩=some (.string ⟨#[c]⟩):=(hbW.cell (by exact lt_of_heap hc)).trans (by simp [World.cell?,hc])
 have q1:(([c]:Bs) == [117])=false:=by rw [beq_eq_false_iff_ne];simpa using h117
 have a1:=fun w0=>add_str (P:=Tryz.prog) [c] bg.2 (by simp;omega) w0
 rw [List.singleton_append] at a1
 generalize hM:c::bg.2=M at *
 have HW:=Lib.hid (And.intro hW hbW)
 clear hW hbW hz bx hc hb C h117 hM e1
 go_enter Tryz.func109,Tryz.ntmps109
 go_upto_region 1 with (fail)
 rw [HW.out.1]
 go_wp2_with fail
 (with_reducible refine CW.out.mono ?_)
 rintro en w1 ⟨rfl,ew⟩
 subst ew
 go_wp2_with fail
 go_quiet (fail)
 go_wp2_with fail
 go_ret2
 exact ⟨rfl,below_dN HW.out.2 _⟩
set_option maxRecDepth 100000 in
theorem tells_ask (F:Nat->Prop) (l:Nat) (ss:List Bd) (y n:Bd) (bv lsl:Value) (lv:List Place) (bg pl:Place) (w:World) (hb:Rep F w (encB (.ask l ss y n)) bv) (hlv:LvRep F w lv lsl) (hpl:lv[l]? = some pl) (hl:pl.2.length<=1000) (hll:lv.length<=100000) :
 Calls Tryz.prog 109 #[.agg #[bv,lsl,.int .i64 (bg.1:Nat),str bg.2]] w (TellP (113::pl.2) pl.1 w):=by
 have C:=Lib.hid (fun wz (h:Below w.heap.size w wz)=>isList_ask F wz l ss y n bv (hb.below h (fun _ h=>h)))
 obtain ⟨b,sl,yv,nv,rfl,_,hc,_⟩:=ask_open hb
 obtain ⟨la,lc,rfl,hat⟩:=hlv.open
 obtain ⟨lb,lo,rfl,_,hlb,t0,t1⟩:=hat l pl hpl
 have hlt:=(List.getElem?_eq_some_iff.1 hpl).1
 have hltI:(l:Int)<(lv.length:Int):=by omega
 obtain ⟨W,hW,hbW,hz,bx⟩:=box_1 w (.cells #[.pointer (some ⟨b,0,none⟩),.slice (some ⟨lb,lo,none⟩) lv.length lc,.int .i64 (bg.1:Nat),str bg.2] 150)
 have CW:=Lib.hid (C.out W hbW)
 have c1:W.cell? ⟨b,1,none⟩=some (.int .i64 (l:Nat)):=(hbW.cell (by exact lt_of_heap hc)).trans (by simp [World.cell?,hc])
 have t0W:=(hbW.cell (p:=⟨lb,lo+l*2,none⟩) hlb).trans t0
 have t1W:=(hbW.cell (p:=⟨lb,lo+l*2+1,none⟩) hlb).trans t1
 have hlbW:lb<W.heap.size:=by omega
 have hbb:b<W.heap.size:=by have:=lt_of_heap hc;omega
 have KEY:Hid (∀ x,Below W.heap.size W x->x.cell? ⟨w.heap.size,0,none⟩=some (.pointer (some ⟨b,0,none⟩))/\x.cell? ⟨w.heap.size,1,none⟩=some (.slice (some ⟨lb,lo,none⟩) lv.length lc)/\x.cell? ⟨b,1,none⟩=some (.int .i64 (l:Nat))/\x.cell? ⟨lb,lo+l*2,none⟩=some (.int .i64 (pl.1:Nat))/\x.cell? ⟨lb,lo+l*2+1,none⟩=some (str pl.2)):=Lib.hid (fun x hx=>by
  obtain ⟨k0,k1,_,_⟩:=cells_4 bx
  exact ⟨(hx.cell (World.block_lt_of_cell? _ _ k0)).trans k0,(hx.cell (World.block_lt_of_cell? _ _ k1)).trans k1,(hx.cell hbb).trans c1,(hx.cell hlbW).trans t0W,(hx.cell hlbW).trans t1W⟩)
 obtain ⟨e0,_,_,_⟩:=cells_4 bx
 have a1:=fun w0=>add_str (P:=Tryz.prog) [113] pl.2 (by simp;omega) w0
 rw [List.singleton_append] at a1
 generalize hM:113::pl.2=M at *
 have HW:=Lib.hid (And.intro hW hbW)
 clear hW hbW hz bx hc hb C hM hat hpl hlv t0 t1 t0W t1W c1 hlb
 go_enter Tryz.func109,Tryz.ntmps109
 go_upto_region 1 with (fail)
 rw [HW.out.1]
 go_wp2_with fail
 (with_reducible refine CW.out.mono ?_)
 rintro en w1 ⟨rfl,ew⟩
 subst ew
 go_wp2_with fail
 refine wp_region_noPanic ?_
 refine wp_region_S (fun w'=>Below w1.heap.size w1 w') (fun i=>i == 10) (by kernel_rfl) ?_
 have hSd:(fun w'=>Below w1.heap.size w1 w') w1.drew:=Below.drew (Below.refl _ _)
 refine wpAnyS_take 0 (v:=?_) (by kernel_rfl) (by kernel_rfl) (by kernel_rfl) (by kernel_rfl) (fun _ _ _ _ h=>h) hSd ?_ ?_
 rotate_left
 ·(intro oi ho;simp at ho;subst ho;refine Or.inl ⟨by rfl,fun w' hw'=>?_⟩;go_simp;try with_reducible rfl)
 (intro d hd;simp at hd;subst hd;simp only [Act.put,List.setIfInBounds_toArray,List.set_cons_zero,List.set_cons_succ])
 refine wpAnyS_take 1 (v:=?_) (by kernel_rfl) (by kernel_rfl) (by kernel_rfl) (by kernel_rfl) (fun _ _ _ _ h=>h) hSd ?_ ?_
 rotate_left
 ·(intro oi ho;simp at ho;subst ho;refine Or.inl ⟨by rfl,fun w' hw'=>?_⟩;obtain ⟨e0,e1,e2,e3,e4⟩:=KEY.out w' hw';go_simp;try with_reducible rfl)
 (intro d hd;simp at hd;subst hd;simp only [Act.put,List.setIfInBounds_toArray,List.set_cons_zero,List.set_cons_succ])
 refine wpAnyS_take 2 (v:=?_) (by kernel_rfl) (by kernel_rfl) (by kernel_rfl) (by kernel_rfl) (fun _ _ _ _ h=>h) hSd ?_ ?_
 rotate_left
 ·(intro oi ho;simp at ho;subst ho;refine Or.inl ⟨by rfl,fun w' hw'=>?_⟩;go_simp;try with_reducible rfl)
 (intro d hd;simp at hd;subst hd;simp only [Act.put,List.setIfInBounds_toArray,List.set_cons_zero,List.set_cons_succ])
 refine wpAnyS_take 3 (v:=?_) (by kernel_rfl) (by kernel_rfl) (by kernel_rfl) (by kernel_rfl) (fun _ _ _ _ h=>h) hSd ?_ ?_
 rotate_left
 ·(intro oi ho;simp at ho;subst ho;refine Or.inl ⟨by rfl,fun w' hw'=>?_⟩;obtain ⟨e0,e1,e2,e3,e4⟩:=KEY.out w' hw';go_simp;try with_reducible rfl)
 (intro d hd;simp at hd;subst hd;simp only [Act.put,List.setIfInBounds_toArray,List.set_cons_zero,List.set_cons_succ])
 refine wpAnyS_take 4 (v:=?_) (by kernel_rfl) (by kernel_rfl) (by kernel_rfl) (by kernel_rfl) (fun _ _ _ _ h=>h) hSd ?_ ?_
 rotate_left
 ·(intro oi ho;simp at ho;subst ho;refine Or.inl ⟨by rfl,fun w' hw'=>?_⟩;go_simp;try with_reducible rfl)
 (intro d hd;simp at hd;subst hd;simp only [Act.put,List.setIfInBounds_toArray,List.set_cons_zero,List.set_cons_succ])
 refine wpAnyS_take 5 (v:=?_) (by kernel_rfl) (by kernel_rfl) (by kernel_rfl) (by kernel_rfl) (fun _ _ _ _ h=>h) hSd ?_ ?_
 rotate_left
 ·(intro oi ho;simp at ho;subst ho;refine Or.inl ⟨by rfl,fun w' hw'=>?_⟩;go_simp;try with_reducible rfl)
 (intro d hd;simp at hd;subst hd;simp only [Act.put,List.setIfInBounds_toArray,List.set_cons_zero,List.set_cons_succ])
 refine wpAnyS_take 6 (v:=?_) (by kernel_rfl) (by kernel_rfl) (by kernel_rfl) (by kernel_rfl) (fun _ _ _ _ h=>h) hSd ?_ ?_
 rotate_left
 ·(intro oi ho;simp at ho;subst ho;refine Or.inl ⟨by rfl,fun w' hw'=>?_⟩;obtain ⟨e0,e1,e2,e3,e4⟩:=KEY.out w' hw';go_simp;try with_reducible rfl)
 (intro d hd;simp at hd;subst hd;simp only [Act.put,List.setIfInBounds_toArray,List.set_cons_zero,List.set_cons_succ])
 refine wpAnyS_take 7 (v:=?_) (by kernel_rfl) (by kernel_rfl) (by kernel_rfl) (by kernel_rfl) (fun _ _ _ _ h=>h) hSd ?_ ?_
 rotate_left
 ·(intro oi ho;simp at ho;subst ho;refine Or.inl ⟨by rfl,fun w' hw'=>?_⟩;go_simp;try with_reducible rfl)
 (intro d hd;simp at hd;subst hd;simp only [Act.put,List.setIfInBounds_toArray,List.set_cons_zero,List.set_cons_succ])
 refine wpAnyS_take 8 (v:=?_) (by kernel_rfl) (by kernel_rfl) (by kernel_rfl) (by kernel_rfl) (fun _ _ _ _ h=>h) hSd ?_ ?_
 rotate_left
 ·(intro oi ho;simp at ho;subst ho;refine Or.inl ⟨by rfl,fun w' hw'=>?_⟩;obtain ⟨e0,e1,e2,e3,e4⟩:=KEY.out w' hw';go_simp;try with_reducible rfl)
 (intro d hd;simp at hd;subst hd;simp only [Act.put,List.setIfInBounds_toArray,List.set_cons_zero,List.set_cons_succ])
 refine wpAnyS_one 9 (by kernel_rfl) ?_
 (intro o9 ho K' hK;simp at ho;subst ho)
 go_simp
 refine hK.out _ _ ?_ ?_
 ·exact fun _=>hSd.alloc (Nat.le_refl _) _
 clear hK K'
 (try simp only [Act.put,List.setIfInBounds_toArray,List.set_cons_zero,List.set_cons_succ])
 refine wpAnyS_one 10 (by kernel_rfl) ?_
 (intro o10 ho K' hK;simp at ho;subst ho)
 go_simp
 refine hK.out _ _ ?_ ?_
 ·intro h;simp at h
 clear hK K'
 (try simp only [Act.put,List.setIfInBounds_toArray,List.set_cons_zero,List.set_cons_succ])
 refine wpAnyS_done (by kernel_rfl) (NoPanic.normal ?_) _
 obtain ⟨V,hV,hbV,_,bV⟩:=box_1 w1 (.cells #[.int .i64 (pl.1:Nat),str pl.2] 148)
 obtain ⟨v0,v1,_,_⟩:=cells_2 bV
 have v0':V.drew.cell? ⟨w1.heap.size,0,none⟩=some (.int .i64 (pl.1:Nat)):=v0
 have v1':V.drew.cell? ⟨w1.heap.size,1,none⟩=some (str pl.2):=v1
 rw [hV]
 have HV:=Lib.hid (zzT HW.out.2 hbV)
 clear hV hbV bV hSd v0' v1'
 go_wp2_with fail
 go_quiet (fail)
 go_wp2_with fail
 go_ret2
 exact ⟨rfl,below_dN HV.out.drew _⟩
theorem growP_any (n:Nat) (w:World) (hn:Lim n) :
 Calls Tryz.prog 212 #[.slice none 0 0,.int .i64 n] w fun en w' =>
  ∃ a c,en=.returned (.slice a 0 c)/\Own w' 148 2 (.slice a 0 c) 0 []/\Below w.heap.size w w'/\(∀ g,(Value.slice a 0 c).ownBlock=some g->w.heap.size<=g):=by
 have hl:=hn.le
 by_cases h0:n=0
 ·subst h0
  go_enter Tryz.func212,Tryz.ntmps212
  go_wp2_with fail
  go_ret
  exact ⟨none,0,rfl,World.ownsRow_nil _ _ _ _,Below.refl _ _,fun g h=>by simp [Value.ownBlock] at h⟩
 ·have h1:0<n:=by omega
  clear h0
  go_enter Tryz.func212,Tryz.ntmps212
  go_wp2_with (at_builtin;refine wpList_append_zeros rfl _ _ 146 3 rfl 148 (.agg #[.int .i64 0,str []]) 2 24 Tryz.underlying146 Tryz.underlying3 Tryz.infoPl rfl (by decide) (by decide) rfl n rfl h1 hl ?_)
  intro cap c hc1 hc2 hc3
  go_wp2_with fail
  go_ret
  exact ⟨_,cap,rfl,⟨by simp,.inr ⟨w.heap.size,cap,c,rfl,Nat.zero_le _,heap_new w _,Nat.zero_le _,hc2,by simpa using hc3,by simp⟩⟩,((Below.refl _ _).alloc (Nat.le_refl _) _).drew,fun g h=>by simp [Value.ownBlock] at h;omega⟩
def CatRelP (e:TypeId) (w:World) (n1 n2:Nat) (xs1 xs2:List Value) (v i:Value) (wr:World):Prop :=
 ∃ k m xs a c,i=.int .i64 (k:Nat)/\v=.slice a m c/\Own wr e 2 (.slice a m c) m xs/\Below w.heap.size w wr/\(∀ g,(Value.slice a m c).ownBlock=some g->w.heap.size<=g) /\
   ((k=0/\m=0/\xs=[])\/(k=1/\m=n1/\xs=xs1)\/(k=2/\m=n1+n2/\xs=xs1++xs2))
theorem CatRelP.next {e:TypeId} {w:World} {n1 n2:Nat} {xs1 xs2:List Value} {k m m':Nat} {xs:List Value} {a a':Option Addr} {c c':Nat} {wr w':World}
 (ho:Own w' e 2 (.slice a' m' c') m' xs) (hb:Below w.heap.size w wr) (hbut:But (fun b=>(Value.slice a m c).ownBlock=some b) wr w')
 (hf:∀ g,(Value.slice a m c).ownBlock=some g->w.heap.size<=g) (hg:∀ g,(Value.slice a' m' c').ownBlock=some g->(Value.slice a m c).ownBlock=some g\/g=wr.heap.size)
 (hk:(k=0/\m'=0/\xs=[])\/(k=1/\m'=n1/\xs=xs1)\/(k=2/\m'=n1+n2/\xs=xs1++xs2)):CatRelP e w n1 n2 xs1 xs2 (.slice a' m' c') (.int .i64 (k:Nat)) w' :=
 ⟨k,m',xs,a',c',rfl,rfl,ho,hb.trans (hbut.toBelow hb.size fun i hi h=>by have:=hf i h;omega),fun g h=>by
  rcases hg g h with h | h
  ·exact hf g h
  ·have:=hb.size;omega,hk⟩
theorem concatP_any (b n1 n2:Nat) (s1 s2:Value) (xs1 xs2:List Value) (w:World) (c1:w.cell? ⟨b,0,none⟩=some s1) (c2:w.cell? ⟨b,1,none⟩=some s2)
 (h1:SrcSl 2 s1 n1 xs1 w) (h2:SrcSl 2 s2 n2 xs2 w) (hn1:Lim n1) (hn2:Lim n2) (hn:Lim (n1+n2)) :
 Calls Tryz.prog 188 #[.slice (some ⟨b,0,none⟩) 2 2] w fun en w' =>
  ∃ a c,en=.returned (.slice a (n1+n2) c)/\Own w' 148 2 (.slice a (n1+n2) c) (n1+n2) (xs1++xs2)/\Below w.heap.size w w'/\(∀ g,(Value.slice a (n1+n2) c).ownBlock=some g->w.heap.size<=g):=by
 obtain ⟨a1,k1,rfl⟩:=h1.slice
 obtain ⟨a2,k2,rfl⟩:=h2.slice
 have hl:=hn.le;have hl1:=hn1.le;have hl2:=hn2.le
 have lb:b<w.heap.size:=World.block_lt_of_cell? w _ c1
 go_enter Tryz.func188,Tryz.ntmps188
 go_wp2_with fail
 go_loop [3,11] (fun n i=>(i=.int .i64 0/\n=.int .i64 0)\/(i=.int .i64 1/\n=.int .i64 n1)\/(i=.int .i64 2/\n=.int .i64 ((n1:Int)+(n2:Int)))) (fun _ i=>2-(intOf i).toNat)
 case atStart=>exact .inl ⟨rfl,rfl⟩
 case round =>
  rcases hrel with ⟨rfl,rfl⟩ | ⟨rfl,rfl⟩ | ⟨rfl,rfl⟩
  ·go_wp2_with fail
   go_round
   case rel=>exact .inr (.inl ⟨rfl,rfl⟩)
   case measure=>simp [intOf]
  ·go_wp2_with fail
   go_round
   case rel=>exact .inr (.inr ⟨rfl,rfl⟩)
   case measure=>simp [intOf]
  ·go_wp2_with fail
   rw [show (n1:Int)+(n2:Int)=((n1+n2:Nat):Int) from by omega]
   refine (growP_any (n1+n2) w hn).mono ?_
   rintro en wg ⟨ag,cg,rfl,hog,hbg,hfg⟩
   have hcat:CatRelP 148 w n1 n2 xs1 xs2 (.slice ag 0 cg) (.int .i64 (0:Nat)) wg:=⟨0,0,[],ag,cg,rfl,rfl,hog,hbg,hfg,.inl ⟨rfl,rfl,rfl⟩⟩
   clear hog hbg hfg
   go_wp2_with fail
   go_loopw [6,27] (fun v i wr=>CatRelP 148 w n1 n2 xs1 xs2 v i wr) (fun _ i _=>2-(intOf i).toNat)
   case atStart=>exact hcat
   case round =>
    rename_i wr
    obtain ⟨k,m,xs,a,c,rfl,rfl,ho,hb,hf,hk⟩:=hrel
    have d1:wr.cell? ⟨b,0,none⟩=some (.slice a1 n1 k1):=by rw [hb.cell lb];exact c1
    have d2:wr.cell? ⟨b,1,none⟩=some (.slice a2 n2 k2):=by rw [hb.cell lb];exact c2
    have g1:=h1.below hb;have g2:=h2.below hb
    have HF:=Lib.hid hf;clear hf
    rcases hk with ⟨rfl,rfl,rfl⟩ | ⟨rfl,rfl,rfl⟩ | ⟨rfl,rfl,rfl⟩
    ·go_wp2_with (at_builtin;refine wpList_append_gen rfl _ _ 146 rfl 148 (.agg #[.int .i64 0,str []]) 2 24 Tryz.underlying146 Tryz.infoPl rfl (by decide) _ 0 [] rfl ho _ n1 xs1 rfl g1 ?c3 ?c4 ?_)
     case c3=>unfold maxLen;omega
     case c4=>omega
     intro a' c' w' ho' hb' hg'
     have hcat:=CatRelP.next (n1:=n1) (n2:=n2) (xs1:=xs1) (xs2:=xs2) (k:=1) ho' hb hb' HF.out hg' (.inr (.inl ⟨rfl,rfl,rfl⟩))
     clear hb' hg' ho' HF
     go_wp2_with fail
     go_roundw
     case rel=>exact hcat
     case measure=>simp [intOf]
    ·go_wp2_with (at_builtin;refine wpList_append_gen rfl _ _ 146 rfl 148 (.agg #[.int .i64 0,str []]) 2 24 Tryz.underlying146 Tryz.infoPl rfl (by decide) _ m xs rfl ho _ n2 xs2 rfl g2 ?c3 ?c4 ?_)
     case c3=>unfold maxLen;omega
     case c4=>omega
     intro a' c' w' ho' hb' hg'
     have hcat:=CatRelP.next (n1:=m) (n2:=n2) (xs1:=xs) (xs2:=xs2) (k:=2) ho' hb hb' HF.out hg' (.inr (.inr ⟨rfl,rfl,rfl⟩))
     clear hb' hg' ho' HF
     go_wp2_with fail
     go_roundw
     case rel=>exact hcat
     case measure=>simp [intOf]
    ·go_wp2_with fail
     go_ret
     exact ⟨a,c,rfl,ho,hb,HF.out⟩
theorem Reps_lv (F:Nat->Prop) (w:World):∀ lv:List Place,Reps F w (lvD lv) (lvC lv)
 | []=>Reps_nil.2 rfl
 | p::lv=>by
   rw [show lvD (p::lv)=DV.val (.int .i64 (p.1:Nat))::DV.val (str p.2)::lvD lv from rfl,show lvC (p::lv)=.int .i64 (p.1:Nat)::str p.2::lvC lv from rfl]
   exact Reps_cons.2 ⟨_,_,rfl,Rep_val.2 rfl,Reps_cons.2 ⟨_,_,rfl,Rep_val.2 rfl,Reps_lv F w lv⟩⟩
theorem Reps_lv_eq {F:Nat->Prop} {w:World}:∀ (lv:List Place) (us:List Value),Reps F w (lvD lv) us->us=lvC lv
 | [],us,h=>Reps_nil.1 h
 | p::lv,us,h=>by
   rw [show lvD (p::lv)=DV.val (.int .i64 (p.1:Nat))::DV.val (str p.2)::lvD lv from rfl] at h
   obtain ⟨u,us1,rfl,h1,h2⟩:=Reps_cons.1 h
   obtain ⟨u2,us2,rfl,h3,h4⟩:=Reps_cons.1 h2
   rw [Rep_val] at h1 h3
   subst h1;subst h3
   rw [Reps_lv_eq lv us2 h4];rfl
theorem lvC_one:∀ (lv:List Place),∀ u∈lvC lv,u.oneCell'=true
 | [],u,h=>by simp [lvC] at h
 | p::lv,u,h=>by
   rw [show lvC (p::lv)=.int .i64 (p.1:Nat)::str p.2::lvC lv from rfl] at h
   rcases List.mem_cons.1 h with rfl | h
   ·simp [Value.oneCell']
   ·rcases List.mem_cons.1 h with rfl | h
    ·simp [str,Value.oneCell']
    ·exact lvC_one lv u h
theorem LvRep.src {F:Nat->Prop} {w:World} {lv:List Place} {v:Value} (h:LvRep F w lv v):SrcSl 2 v lv.length (lvC lv) w:=by
 obtain ⟨xs,hx,hs⟩:=SrcSl.ofRep h (fun us hu u hm=>by rw [Reps_lv_eq lv us hu] at hm;exact lvC_one lv u hm)
 rw [Reps_lv_eq lv xs hx] at hs;exact hs
theorem plcs_eq (b:Nat) (p:Bs):∀ n:Nat,plcs b p n=lvC (placesOf n b p)
 | 0=>rfl
 | n+1=>by rw [plcs,plcs_eq b p n,placesOf_succ,lvC_append];rfl
theorem Own.lv {F:Nat->Prop} {w:World} {lv:List Place} {a:Option Addr} {n c:Nat} (h:Own w 148 2 (.slice a n c) n (lvC lv)) (hn:n=lv.length) (hF:∀ g,(Value.slice a n c).ownBlock=some g->F g):LvRep F w lv (.slice a n c):=by
 subst hn
 exact h.rep hF (Reps_lv F w lv)
theorem LvRep.but {F F':Nat->Prop} {m:Nat->Prop} {w w':World} {lv:List Place} {v:Value} (h:LvRep F w lv v) (hb:But m w w') (hF:∀ b,F b->¬ m b/\F' b):LvRep F' w' lv v:=Rep.but hb hF h
theorem LvRep.below {F F':Nat->Prop} {w w':World} {lv:List Place} {v:Value} (h:LvRep F w lv v) (hb:Below w.heap.size w w') (hF:∀ b,F b->F' b):LvRep F' w' lv v:=Rep.below hb hF h
def StandP (bv:Value) (lv:List Place) (bg:Place) (w:World) (en:Ending) (w':World):Prop :=
 ∃ la lc,en=.returned (.agg #[bv,.slice la lv.length lc,.int .i64 (bg.1:Nat),str bg.2])/\Below w.heap.size w w'/\LvRep (w.heap.size<=·) w' lv (.slice la lv.length lc)
theorem set_four {w:World} {b:Nat} {x y z u:Value} {T:TypeId} (h:w.heap[b]? = some (.cells #[x,y,z,u] T (0,0))) (x' y' z' u':Value):((((w.setCell ⟨b,0,none⟩ x').setCell ⟨b,1,none⟩ y').setCell ⟨b,2,none⟩ z').setCell ⟨b,3,none⟩ u').heap[b]? = some (.cells #[x',y',z',u'] T (0,0)):=by
 rw [setCell_at' (setCell_at' (setCell_at' (setCell_at' h)))];rfl
theorem frozen_4 {w:World} {b:Nat} {c:Array Value} {T:TypeId} (h:w.heap[b]? = some (.cells c T (0,0))) (o:Nat):w.frozen? ⟨b,o,none⟩=false:=by simp [World.frozen?,h]
set_option maxRecDepth 100000 in
theorem standOf_any (F:Nat->Prop) (t:Ty) (kv bv:Value) (idx:Nat) (w:World) (hg:Glob w) (hk:Rep F w (encK t) kv) (ht:atomsT t<=15) (hbv:∃ a,bv=.pointer a) :
 Calls Tryz.prog 159 #[kv,bv,.int .i64 (idx:Nat)] w (StandP bv (placesOf t.args.length idx []) (idx,[]) w):=by
 obtain ⟨ba,rfl⟩:=hbv
 obtain ⟨kb,ks,rfl,_,hb,hrs⟩:=encK_open hk
 obtain ⟨sa,sc,rfl,hcap,hlen,hats⟩:=Rep_sl1_open hrs
 have hargs:=args_len t
 obtain ⟨W,hW,hbW,hz,bx⟩:=box_1 w (.cells #[.pointer none,.slice none 0 0,.int .i64 0,str []] 150)
 have c0:W.cell? ⟨kb,0,none⟩=some (.slice sa t.args.length sc):=(hbW.cell (by exact lt_of_heap hb)).trans (by simp [World.cell?,hb])
 have C:=Lib.hid (places_any t.args.length idx [] W (hg.below hbW) (by omega) (by simp))
 have HW:=Lib.hid (And.intro hW (And.intro hbW (And.intro hz bx)))
 clear hW hbW hz bx hk hb hrs hats hlen hcap hg
 go_enter Tryz.func159,Tryz.ntmps159
 go_upto_region 1 with (fail)
 rw [HW.out.1]
 go_wp2_with fail
 (with_reducible refine C.out.mono ?_)
 rintro en w1 ⟨la,lc,rfl,ho,hb1,hf⟩
 rw [plcs_eq] at ho
 have b1:=(hb1.block _ (lt_of_heap HW.out.2.2.2)).trans HW.out.2.2.2
 obtain ⟨z0,z1,z2,z3⟩:=cells_4 b1
 have f0:=frozen_4 b1 0;have f1:=frozen_4 b1 1;have f2:=frozen_4 b1 2;have f3:=frozen_4 b1 3
 have H1:=Lib.hid (And.intro ho (And.intro hb1 (And.intro hf b1)))
 clear ho hb1 hf b1 c0 C
 go_wp2_with fail
 have hV:=set_four H1.out.2.2.2 (.pointer ba) (.slice la t.args.length lc) (.int .i64 (idx:Nat)) (str [])
 obtain ⟨s0,s1,s2,s3⟩:=cells_4 hV
 have hzz:=HW.out.2.2.1
 have hbF:=((((zzT HW.out.2.1 H1.out.2.1).setCell (p:=⟨w.heap.size,0,none⟩) (Nat.le_refl _) (.pointer ba)).setCell (p:=⟨w.heap.size,1,none⟩) (Nat.le_refl _) (.slice la t.args.length lc)).setCell (p:=⟨w.heap.size,2,none⟩) (Nat.le_refl _) (.int .i64 (idx:Nat))).setCell (p:=⟨w.heap.size,3,none⟩) (Nat.le_refl _) (str [])
 refine bodyPost_ret (v:=.agg #[.pointer ba,.slice la t.args.length lc,.int .i64 (idx:Nat),str []]) (by simp [results,Tryz.results159,go_sem,s0,s1,s2,s3]) rfl ?_
 refine ⟨la,lc,by rw [placesOf_length],hbF,?_⟩
 rw [placesOf_length]
 refine Own.lv ?_ (by rw [placesOf_length]) (fun g hg=>by have:=H1.out.2.2.1 g hg;omega)
 exact H1.out.1.keep fun g o hg ho=>by
  have:=H1.out.2.2.1 g hg
  rw [Below.heap_setCell _ _ _ _ (by show g≠w.heap.size;omega),Below.heap_setCell _ _ _ _ (by show g≠w.heap.size;omega),Below.heap_setCell _ _ _ _ (by show g≠w.heap.size;omega),Below.heap_setCell _ _ _ _ (by show g≠w.heap.size;omega)];exact ho
def BehT (bv':Bd) (F:Nat->Prop) (lsl:Value) (bg:Place) (w:World) (en:Ending) (w':World):Prop :=
 ∃ a,en=.returned (.agg #[.pointer (some ⟨a,0,none⟩),lsl,.int .i64 (bg.1:Nat),str bg.2])/\Below w.heap.size w w'/\Rep F w (encB bv') (.pointer (some ⟨a,0,none⟩))
set_option maxRecDepth 100000 in
theorem behind_ans (c:UInt8) (hc:c=116\/c=102) (F:Nat->Prop) (l:Nat) (ss:List Bd) (y n:Bd) (bv kv:Value) (la:Option Addr) (ln lc:Nat) (bg:Place) (M:Bs) (idx:Nat) (w:World) (hb:Rep F w (encB (.ask l ss y n)) bv) (hM:0<M.length) (hM0:M[0]=c) (hkv:∃ a,kv=.pointer a) :
 Calls Tryz.prog 160 #[.agg #[bv,.slice la ln lc,.int .i64 (bg.1:Nat),str bg.2],kv,str M,.int .i64 (idx:Nat)] w (BehT (if c=116 then y else n) F (.slice la ln lc) bg w):=by
 obtain ⟨ka,rfl⟩:=hkv
 obtain ⟨b,sl,yv,nv,rfl,_,hbc,hs,hy,hn⟩:=ask_open hb
 obtain ⟨ya,rfl⟩:=encB_ptr hy
 obtain ⟨na,rfl⟩:=encB_ptr hn
 obtain ⟨W,hW,hbW,hz,b0,b1⟩:=boxes_2 w (.cells #[.pointer (some ⟨b,0,none⟩),.slice la ln lc,.int .i64 (bg.1:Nat),str bg.2] 150) (.cells #[.pointer none,.slice none 0 0,.int .i64 0,str []] 150)
 have hbW':W.heap[b]? = w.heap[b]?:=hbW.block _ (lt_of_heap hbc)
 have cY:W.cell? ⟨b,3,none⟩=some (.pointer (some ⟨ya,0,none⟩)):=by simp [World.cell?,hbW',hbc]
 have cN:W.cell? ⟨b,4,none⟩=some (.pointer (some ⟨na,0,none⟩)):=by simp [World.cell?,hbW',hbc]
 obtain ⟨e0,e1,e2,e3⟩:=cells_4 b0
 have f0:=frozen_4 b0 0
 have Q:=Lib.hid (And.intro hy hn)
 have HW:=Lib.hid (And.intro hW (And.intro hbW (And.intro hz (And.intro b0 b1))))
 clear hW hbW hz b0 b1 hbW' hbc hs hy hn hb e1 e2 e3
 rcases hc with rfl | rfl
 ·have q1:=byte_yes hM (c:=116) (n:=116) rfl hM0
  clear hM0
  go_enter Tryz.func160,Tryz.ntmps160
  go_upto_region 1 with (fail)
  rw [HW.out.1]
  go_upto_region 10 with (fail)
  obtain ⟨W2,hW2⟩:=zzN (W.setCell ⟨w.heap.size,0,none⟩ (.pointer (some ⟨ya,0,none⟩)))
  have x0:W2.heap[w.heap.size]? = some (.cells #[.pointer (some ⟨ya,0,none⟩),.slice la ln lc,.int .i64 (bg.1:Nat),str bg.2] 150 (0,0)):=by rw [<- hW2,setCell_at' HW.out.2.2.2.1];rfl
  have x1:W2.heap[w.heap.size+1]? = some (.cells #[.pointer none,.slice none 0 0,.int .i64 0,str []] 150 (0,0)):=by rw [<- hW2,Below.heap_setCell _ _ _ _ (by show w.heap.size+1≠w.heap.size;omega)];exact HW.out.2.2.2.2
  have hb2:Below w.heap.size w W2:=by rw [<- hW2];exact HW.out.2.1.setCell (p:=⟨w.heap.size,0,none⟩) (Nat.le_refl _) _
  rw [hW2]
  obtain ⟨y0,y1,y2,y3⟩:=cells_4 x0
  obtain ⟨z0,z1,z2,z3⟩:=cells_4 x1
  have g0:=frozen_4 x1 0;have g1:=frozen_4 x1 1;have g2:=frozen_4 x1 2;have g3:=frozen_4 x1 3
  have H2:=Lib.hid (And.intro hb2 x1)
  clear hb2 x0 x1 hW2 e0 f0 cY cN
  go_wp2_with fail
  have hV:=set_four H2.out.2 (.pointer (some ⟨ya,0,none⟩)) (.slice la ln lc) (.int .i64 (bg.1:Nat)) (str bg.2)
  obtain ⟨s0,s1,s2,s3⟩:=cells_4 hV
  have hbF:=(((H2.out.1.setCell (p:=⟨w.heap.size+1,0,none⟩) (Nat.le_succ _) (.pointer (some ⟨ya,0,none⟩))).setCell (p:=⟨w.heap.size+1,1,none⟩) (Nat.le_succ _) (.slice la ln lc)).setCell (p:=⟨w.heap.size+1,2,none⟩) (Nat.le_succ _) (.int .i64 (bg.1:Nat))).setCell (p:=⟨w.heap.size+1,3,none⟩) (Nat.le_succ _) (str bg.2)
  refine bodyPost_ret (v:=.agg #[.pointer (some ⟨ya,0,none⟩),.slice la ln lc,.int .i64 (bg.1:Nat),str bg.2]) (by simp [results,Tryz.results160,go_sem,s0,s1,s2,s3]) rfl ?_
  exact ⟨_,rfl,hbF,Q.out.1⟩
 ·have q0:=byte_no hM (c:=116) (n:=116) rfl (by rw [hM0];decide)
  have q1:=byte_yes hM (c:=102) (n:=102) rfl hM0
  clear hM0
  go_enter Tryz.func160,Tryz.ntmps160
  go_upto_region 1 with (fail)
  rw [HW.out.1]
  go_upto_region 10 with (fail)
  obtain ⟨W2,hW2⟩:=zzN (W.setCell ⟨w.heap.size,0,none⟩ (.pointer (some ⟨na,0,none⟩)))
  have x0:W2.heap[w.heap.size]? = some (.cells #[.pointer (some ⟨na,0,none⟩),.slice la ln lc,.int .i64 (bg.1:Nat),str bg.2] 150 (0,0)):=by rw [<- hW2,setCell_at' HW.out.2.2.2.1];rfl
  have x1:W2.heap[w.heap.size+1]? = some (.cells #[.pointer none,.slice none 0 0,.int .i64 0,str []] 150 (0,0)):=by rw [<- hW2,Below.heap_setCell _ _ _ _ (by show w.heap.size+1≠w.heap.size;omega)];exact HW.out.2.2.2.2
  have hb2:Below w.heap.size w W2:=by rw [<- hW2];exact HW.out.2.1.setCell (p:=⟨w.heap.size,0,none⟩) (Nat.le_refl _) _
  rw [hW2]
  obtain ⟨y0,y1,y2,y3⟩:=cells_4 x0
  obtain ⟨z0,z1,z2,z3⟩:=cells_4 x1
  have g0:=frozen_4 x1 0;have g1:=frozen_4 x1 1;have g2:=frozen_4 x1 2;have g3:=frozen_4 x1 3
  have H2:=Lib.hid (And.intro hb2 x1)
  clear hb2 x0 x1 hW2 e0 f0 cY cN
  go_wp2_with fail
  have hV:=set_four H2.out.2 (.pointer (some ⟨na,0,none⟩)) (.slice la ln lc) (.int .i64 (bg.1:Nat)) (str bg.2)
  obtain ⟨s0,s1,s2,s3⟩:=cells_4 hV
  have hbF:=(((H2.out.1.setCell (p:=⟨w.heap.size+1,0,none⟩) (Nat.le_succ _) (.pointer (some ⟨na,0,none⟩))).setCell (p:=⟨w.heap.size+1,1,none⟩) (Nat.le_succ _) (.slice la ln lc)).setCell (p:=⟨w.heap.size+1,2,none⟩) (Nat.le_succ _) (.int .i64 (bg.1:Nat))).setCell (p:=⟨w.heap.size+1,3,none⟩) (Nat.le_succ _) (str bg.2)
  refine bodyPost_ret (v:=.agg #[.pointer (some ⟨na,0,none⟩),.slice la ln lc,.int .i64 (bg.1:Nat),str bg.2]) (by simp [results,Tryz.results160,go_sem,s0,s1,s2,s3]) rfl ?_
  exact ⟨_,rfl,hbF,Q.out.2⟩
inductive Tr where
 | am (a:Bs)
 | ls (ps:List Tr)
def trT:Ty->Tr
 | .mk ts=>trTs ts
where trTs:List Ty->Tr
 | []=>.am [98]
 | t::ts=>.ls [.am [62],trT t,trTs ts]




theorem l6In_any (n lo hi:Int) (w:World):Calls Tryz.prog 74 #[.int .i64 n,.int .i64 lo,.int .i64 hi] w fun en w'=>en=.returned (.bool (decide (lo<=n) && decide (n<=hi)))/\w'=w:=by
 by_cases h1:lo<=n
 ·by_cases h2:n<=hi
  ·go_enter Tryz.func74,Tryz.ntmps74
   go_wp2_with fail
   go_ret
   exact ⟨by simp [h1,h2],rfl⟩
  ·go_enter Tryz.func74,Tryz.ntmps74
   go_wp2_with fail
   go_ret
   exact ⟨by simp [h1,h2],rfl⟩
 ·go_enter Tryz.func74,Tryz.ntmps74
  go_wp2_with fail
  go_ret
  exact ⟨by simp [h1];omega,rfl⟩
def BoxT (g:Nat) (s:Bs) (k:Value) (w:World):Prop:=w.cell? ⟨g,0,none⟩=some (str s)/\w.cell? ⟨g,1,none⟩=some k
theorem BoxT.below {g:Nat} {s:Bs} {k:Value} {w w':World} (h:BoxT g s k w) (hb:Below w.heap.size w w'):BoxT g s k w':=by
 obtain ⟨h1,h2⟩:=h
 have:=World.block_lt_of_cell? w _ h1
 exact ⟨by rw [hb.cell (by exact this)];exact h1,by rw [hb.cell (by exact this)];exact h2⟩


def LAtPost (F:Nat->Prop) (t:Ty) (p:Bs) (w:World) (en:Ending) (w':World):Prop :=
 ∃ va vn vc,en=.returned (.tuple #[.agg #[.slice va vn vc],.bool (atT t p).isSome])/\Below w.heap.size w w'/\∀ a,atT t p=some a->Rep F w (encS a) (.slice va vn vc)
theorem one_cell {w:World} {b:Nat} {x:Value} {T:TypeId} (h:w.heap[b]? = some (.cells #[x] T (0,0))):w.cell? ⟨b,0,none⟩=some x:=by simp [World.cell?,h]
theorem set_one {w:World} {b:Nat} {x:Value} {T:TypeId} (h:w.heap[b]? = some (.cells #[x] T (0,0))) (u:Value):(w.setCell ⟨b,0,none⟩ u).heap[b]? = some (.cells #[u] T (0,0)):=by
 rw [setCell_at' h];rfl
set_option maxRecDepth 100000 in
theorem l1At_any (F:Nat->Prop) (t:Ty) (p:Bs) (tv:Value) (w:World) (h:Rep F w (encS t) tv) (ht:atomsT t<=15) (hp:Lim p.length) :
 Calls Tryz.prog 174 #[.agg #[tv],str p] w (LAtPost F t p w):=by
 have hl':=hp.le
 obtain ⟨ta,tc,rfl⟩:=encS_slice h
 obtain ⟨W,hW,hbW,hz,b0,b1⟩:=boxes_2 w (.cells #[.slice ta t.args.length tc] 78) (.cells #[.slice none 0 0] 78)
 have HW:=Lib.hid (And.intro hW (And.intro hbW (And.intro b0 b1)))
 have H:=Lib.hid h
 clear hW hbW hz b0 b1 h
 go_enter Tryz.func174,Tryz.ntmps174
 go_upto_region 1 with (fail)
 rw [HW.out.1]
 go_wp2_with fail
 go_loopw [6] (fun i wr=>∃ (j:Nat) (a:Ty) (v:Value),j<=p.length/\i=.int .i64 j/\atT t (p.take j)=some a/\Rep F w (encS a) v/\wr.heap[w.heap.size]? = some (.cells #[v] 78 (0,0))/\wr.heap[w.heap.size+1]? = some (.cells #[.slice none 0 0] 78 (0,0))/\Below w.heap.size w wr) (fun i _=>p.length-(intOf i).toNat)
 case atStart=>exact ⟨0,t,_,Nat.zero_le _,rfl,by rw [List.take_zero];exact atT_nil t,H.out,HW.out.2.2.1,HW.out.2.2.2,HW.out.2.1⟩
 case round =>
  rename_i wr
  obtain ⟨j,a,v,hj,rfl,hat,hr,hb0,hb1,hbl⟩:=hrel
  obtain ⟨va,vc,rfl⟩:=encS_slice hr
  have c0:=one_cell hb0
  have c1:=one_cell hb1
  have f0:=frozen_4 hb0 0
  have f1:=frozen_4 hb1 0
  have HB:=Lib.hid (And.intro hb0 (And.intro hb1 hbl))
  by_cases hlt:j<p.length
  ·have hlt':(j:Int)<(p.length:Int):=by omega
   have hr':=hr
   rw [encS_eq] at hr'
   obtain ⟨sa,sc,e,hcap,hlen,hats⟩:=Rep_sl1_open hr'
   simp only [Value.slice.injEq] at e
   obtain ⟨rfl,_,rfl⟩:=e
   have ha15:=atT_len _ _ _ hat
   have hargs:=args_len a
   have hal:a.args.length<=7:=by omega
   obtain ⟨x,hx⟩:∃ x:Nat,p[j].toNat=x:=⟨_,rfl⟩
   have hx256:x<256:=by rw [<- hx];exact UInt8.toNat_lt _
   have B:((((⟨p.toArray⟩:ByteArray)[j]'(lt_str hlt)).toNat:Int))=(x:Int):=by rw [byte_int hlt,hx]
   have hw1:IntKind.i64.wrap (x:Int)=(x:Int):=wrap_nat x (by omega)
   have hw3:IntKind.i64.wrap ((a.args.length:Int)-1)=(a.args.length:Int)-1:=by simp [IntKind.wrap,IntKind.bits,IntKind.signed];omega
   have hst:=atT_step hlt hat
   rw [hx] at hst
   have HS:=Lib.hid hst
   have HH:=Lib.hid (And.intro hats (And.intro hlen (And.intro hcap hr)))
   clear hst hats hlen hcap hr hr' hat ha15 hargs hx hb0 hb1 hbl
   by_cases hA:x<48
   ·have hw2:IntKind.i64.wrap ((x:Int)-48)=(x:Int)-48:=by simp [IntKind.wrap,IntKind.bits,IntKind.signed];omega
    have HN:=Lib.hid (show atT t p=none from atT_none (j:=j+1) (by rw [HS.out,if_neg (show ¬ 48<=x by omega)]))
    have hd:(decide ((0:Int)<=(x:Int)-48) && decide ((x:Int)-48<=(a.args.length:Int)-1))=false:=by
     rw [Bool.and_eq_false_iff];exact .inl (by simp;omega)
    have HD:=Lib.hid hd
    clear hA HS HH hd
    go_wp2_with fail
    refine (l6In_any _ _ _ _).mono ?_
    rintro en w1 ⟨rfl,e⟩
    subst w1
    rw [HD.out]
    go_wp2_with fail
    refine bodyPost_ret (v:=.tuple #[.agg #[.slice va a.args.length vc],.bool false]) (by simp [results,Tryz.results174,go_sem,one_cell (set_one HB.out.2.1 (.slice va a.args.length vc))]) rfl ?_
    exact ⟨_,_,_,by rw [HN.out];rfl,HB.out.2.2.setCell (p:=⟨w.heap.size+1,0,none⟩) (Nat.le_succ _) _,fun b hb=>by rw [HN.out] at hb;simp at hb⟩
   ·obtain ⟨n,hnx⟩:∃ n,x=n+48:=⟨x-48,by omega⟩
    have hw2:IntKind.i64.wrap ((x:Int)-48)=(n:Int):=by rw [show (x:Int)-48=(n:Int) from by omega];exact wrap_nat n (by omega)
    have hs2:=HS.out
    rw [if_pos (show 48<=x by omega),show x-48=n from by omega] at hs2
    have HS2:=Lib.hid hs2
    clear hs2 HS hA hx256 hnx
    by_cases hB:a.args.length<=n
    ·have HN:=Lib.hid (show atT t p=none from atT_none (j:=j+1) (by rw [HS2.out];exact List.getElem?_eq_none hB))
     have hd:(decide ((0:Int)<=(n:Int)) && decide ((n:Int)<=(a.args.length:Int)-1))=false:=by
      rw [Bool.and_eq_false_iff];exact .inr (by simp;omega)
     have HD:=Lib.hid hd
     clear hB HH hd
     go_wp2_with fail
     refine (l6In_any _ _ _ _).mono ?_
     rintro en w1 ⟨rfl,e⟩
     subst w1
     rw [HD.out]
     go_wp2_with fail
     refine bodyPost_ret (v:=.tuple #[.agg #[.slice va a.args.length vc],.bool false]) (by simp [results,Tryz.results174,go_sem,one_cell (set_one HB.out.2.1 (.slice va a.args.length vc))]) rfl ?_
     exact ⟨_,_,_,by rw [HN.out];rfl,HB.out.2.2.setCell (p:=⟨w.heap.size+1,0,none⟩) (Nat.le_succ _) _,fun b hb=>by rw [HN.out] at hb;simp at hb⟩
    ·have hd:(decide ((0:Int)<=(n:Int)) && decide ((n:Int)<=(a.args.length:Int)-1))=true:=by
      rw [Bool.and_eq_true];exact ⟨by simp,by simp;omega⟩
     have HD:=Lib.hid hd
     have hn0:(0:Int)<=(n:Int):=by omega
     have hnl:(n:Int)<(a.args.length:Int):=by omega
     obtain ⟨b,o,u,d,ea,hFb,hblt,hd2,hc,hru⟩:=HH.out.1 n (by omega)
     subst ea
     rw [encSs_at,Option.map_eq_some_iff] at hd2
     obtain ⟨c,hcn,rfl⟩:=hd2
     obtain ⟨ua,uc,rfl⟩:=encS_slice hru
     have hcw:=(HB.out.2.2.cell (p:=⟨b,o+n,none⟩) hblt).trans hc
     have HC:=Lib.hid (And.intro hcn hru)
     clear hd hcn hru hc hB hFb
     go_wp2_with fail
     refine (l6In_any _ _ _ _).mono ?_
     rintro en w1 ⟨rfl,e⟩
     subst w1
     rw [HD.out]
     go_wp2_with fail
     go_roundw
     case rel =>
      refine ⟨j+1,c,_,by omega,by go_num,by rw [HS2.out];exact HC.out.1,HC.out.2,set_one HB.out.1 _,?_,HB.out.2.2.setCell (p:=⟨w.heap.size,0,none⟩) (Nat.le_refl _) _⟩
      rw [Below.heap_setCell _ _ _ _ (by show w.heap.size+1≠w.heap.size;omega)];exact HB.out.2.1
     case measure=>simp [intOf];omega
  ·obtain rfl:j=p.length:=by omega
   rw [List.take_length] at hat
   have HA:=Lib.hid (And.intro hat hr)
   clear hat hr hb0 hb1 hbl hlt hj
   go_wp2_with fail
   refine bodyPost_ret (v:=.tuple #[.agg #[.slice va a.args.length vc],.bool true]) (by simp [results,Tryz.results174,go_sem,one_cell (set_one HB.out.2.1 (.slice va a.args.length vc))]) rfl ?_
   exact ⟨_,_,_,by rw [HA.out.1];rfl,HB.out.2.2.setCell (p:=⟨w.heap.size+1,0,none⟩) (Nat.le_succ _) _,fun b hb=>by rw [HA.out.1] at hb;obtain rfl:=Option.some.inj hb;exact HA.out.2⟩
theorem q_int (c:UInt8):((c.toNat:Int) == 113)=(c == 113):=by
 rw [Bool.eq_iff_iff,beq_iff_eq,beq_iff_eq]
 constructor
 ·intro h
  have:c.toNat=(113:UInt8).toNat:=by rw [show ((113:UInt8).toNat)=113 from rfl];omega
  exact UInt8.toNat_inj.1 this
 ·intro h;subst h;rfl
theorem odd_int (n:Nat):((n:Int) % 2 == 1)=decide (n % 2=1):=by
 rw [Bool.eq_iff_iff,beq_iff_eq,decide_eq_true_iff];omega
theorem ext_tail' (c:UInt8) (p:Bs):(⟨(c::p).toArray⟩:ByteArray).extract 1 (c::p).length=⟨p.toArray⟩:=by rw [ext_str,List.take_length];rfl
set_option maxRecDepth 20000 in
theorem isQuestion_any (c:UInt8) (p:Bs) (w:World):Calls Tryz.prog 171 #[str (c::p)] w fun en w'=>en=.returned (.bool (isQ (c::p)))/\w'=w:=by
 obtain ⟨M,hM⟩:=zzM (c::p)
 have hM0:0<M.length:=by rw [hM];simp
 have hM0I:(0:Int)<(M.length:Int):=by omega
 have B0:((((⟨M.toArray⟩:ByteArray)[0]'(lt_str hM0)).toNat:Int))=(c.toNat:Int):=by rw [byte_int hM0];subst hM;rfl
 have E:=Lib.hid (show isQ (c::p)=((c.toNat:Int) == 113) by rw [isQ_cons,q_int])
 rw [<- hM] at E ⊢
 clear hM
 go_enter Tryz.func171,Tryz.ntmps171
 go_wp2_with fail
 go_ret
 exact ⟨by rw [E.out];rfl,rfl⟩
set_option maxRecDepth 20000 in
theorem byOpponent_any (c:UInt8) (p:Bs) (hl:p.length<=16777216) (w:World):Calls Tryz.prog 141 #[str (c::p)] w fun en w'=>en=.returned (.bool (byOpp (c::p)))/\w'=w:=by
 have C:=Lib.hid (isQuestion_any c p w)
 obtain ⟨bq,hbq⟩:=zzN (isQ (c::p))
 have E:=Lib.hid (show byOpp (c::p)=(decide (((c::p).length:Nat) % 2=1) == bq) by rw [<- hbq];rfl)
 rw [hbq] at C
 obtain ⟨M,hM⟩:=zzM (c::p)
 have hMl:M.length<=16777217:=by rw [hM];simp;omega
 rw [<- hM] at E C ⊢
 clear hM hbq
 go_enter Tryz.func141,Tryz.ntmps141
 go_wp2_with fail
 (with_reducible refine C.out.mono ?_)
 rintro en w1 ⟨rfl,e⟩
 subst e
 go_wp2_with fail
 go_ret
 refine ⟨?_,rfl⟩
 rw [E.out,<- odd_int]
 rfl
set_option maxRecDepth 20000 in
theorem enabler_any (c:UInt8) (p:Bs) (hl:p.length<=16777216) (w:World):Calls Tryz.prog 163 #[str (c::p)] w fun en w'=>en=.returned (.string ⟨(enab (c::p)).toArray⟩)/\w'=w:=by
 by_cases h0:c::p=[113]
 ·rw [h0,show enab [113]=[] from rfl]
  go_enter Tryz.func163,Tryz.ntmps163
  go_wp2_with fail
  go_ret
  exact ⟨rfl,rfl⟩
 ·have q1:((c::p:Bs) == [113])=false:=by rw [beq_eq_false_iff_ne];exact h0
  have C:=Lib.hid (isQuestion_any c p w)
  by_cases hc:c=113
  ·subst hc
   rw [isQ_cons,show ((113:UInt8) == 113)=true from rfl] at C
   cases p with
   | nil=>exact absurd rfl h0
   | cons d q =>
     have e:enab (113::d::q)=(113::d::q).take (q.length+1):=by
      unfold enab
      rw [if_neg h0,isQ_cons,show ((113:UInt8) == 113)=true from rfl,if_pos rfl,List.dropLast_eq_take];simp
     rw [e]
     obtain ⟨M,hM⟩:=zzM (113::d::q)
     obtain ⟨m1,hm1⟩:=zzM (q.length+1)
     rw [<- hM] at q1 C ⊢
     rw [<- hm1]
     have hMl:M.length=m1+1:=by rw [hM,hm1];simp
     rw [List.length_cons] at hl
     have ex:(⟨M.toArray⟩:ByteArray).extract 0 m1=⟨(M.take m1).toArray⟩:=by rw [ext_str];rfl
     have hw:IntKind.i64.wrap ((M.length:Int)-1)=(m1:Int):=by
      rw [hMl,show ((m1+1:Nat):Int)-1=(m1:Int) from by omega]
      exact wrap_nat _ (by omega)
     have hle:(m1:Int)<=(M.length:Int):=by omega
     obtain ⟨R,hR⟩:=zzM (M.take m1)
     rw [<- hR] at ex ⊢
     clear hR e h0 hM hm1 hMl
     go_enter Tryz.func163,Tryz.ntmps163
     go_wp2_with fail
     (with_reducible refine C.out.mono ?_)
     rintro en w1 ⟨rfl,e⟩
     subst e
     go_wp2_with fail
     go_ret
     exact ⟨rfl,rfl⟩
  ·rw [isQ_cons,show (c == 113)=false from by simp [hc]] at C
   have e:enab (c::p)=113::p:=by
    unfold enab
    rw [if_neg h0,isQ_cons,show (c == 113)=false from by simp [hc],if_neg (by simp),List.tail_cons]
   rw [e]
   have ex:(⟨(c::p).toArray⟩:ByteArray).extract 1 (p.length+1)=⟨p.toArray⟩:=ext_tail' c p
   have a1:=fun w0=>add_str (P:=Tryz.prog) [113] p (by simp;omega) w0
   rw [List.singleton_append] at a1
   have h1p:(1:Int)<=(p.length:Int)+1:=by omega
   obtain ⟨R,hR⟩:=zzM (113::p)
   rw [<- hR] at a1 ⊢
   clear hR e h0
   go_enter Tryz.func163,Tryz.ntmps163
   go_wp2_with fail
   (with_reducible refine C.out.mono ?_)
   rintro en w1 ⟨rfl,e⟩
   subst e
   go_wp2_with fail
   go_ret
   exact ⟨rfl,rfl⟩
set_option maxRecDepth 20000 in
theorem hasMove_any (F:Nat->Prop) (t:Ty) (kv:Value) (m:Bs) (w:World) (hk:Rep F w (encK t) kv) (ht:atomsT t<=15) (hl:Lim m.length) :
 Calls Tryz.prog 162 #[kv,str m] w fun en w'=>en=.returned (.bool (mvOk t m))/\w'=w:=by
 obtain ⟨kb,ks,rfl,_⟩:=encK_open hk
 cases m with
 | nil =>
   go_enter Tryz.func162,Tryz.ntmps162
   go_wp2_with fail
   go_ret
   exact ⟨rfl,rfl⟩
 | cons c p =>
   have hl':=hl.le
   rw [List.length_cons] at hl'
   have C1:=Lib.hid (Tryz.strings_IndexByte ⟨#[113,116,102]⟩ (c.toNat:Int) w)
   have hcc:(c.toNat:Int).toNat.toUInt8=c:=by simp
   rw [hcc] at C1
   obtain ⟨ix,hix⟩:=zzN (Lib.indexByte (#[113,116,102]:Array UInt8).toList c)
   rw [hix] at C1
   have hct:decide (0<=ix)=(c == 113 || c == 116 || c == 102):=by
    have h:=Lib.contains_iff_indexByte [113,116,102] c
    have hix':Lib.indexByte [113,116,102] c=ix:=hix
    rw [hix'] at h
    rw [<- h]
    simp only [List.contains,List.elem]
    cases c == 113 <;> cases c == 116 <;> cases c == 102 <;> rfl
   have C2:=Lib.hid (kindAt_any F t p (.pointer (some ⟨kb,0,none⟩)) w hk ht (show _<=_ by omega))
   have E:Hid (mvOk t (c::p)=(decide (0<=ix) && (atT t p).isSome)):=by rw [hct];exact Lib.hid rfl
   obtain ⟨M,hM⟩:=zzM (c::p)
   have hM0:0<M.length:=by rw [hM];simp
   have hM0I:(0:Int)<(M.length:Int):=by omega
   have hM1I:(1:Int)<=(M.length:Int):=by omega
   have B0:((((⟨M.toArray⟩:ByteArray)[0]'(lt_str hM0)).toNat:Int))=(c.toNat:Int):=by rw [byte_int hM0];subst hM;rfl
   have q0:((M:Bs) == [])=false:=by rw [hM];rfl
   have q0':((M:Bs) != [])=true:=by rw [hM];rfl
   have ex:(⟨M.toArray⟩:ByteArray).extract 1 M.length=⟨p.toArray⟩:=by rw [hM];exact ext_tail' c p
   rw [<- hM] at E ⊢
   clear hM hcc hix hl hk hct
   by_cases hin:0<=ix
   ·go_enter Tryz.func162,Tryz.ntmps162
    go_wp2_with fail
    refine C1.out.mono ?_
    rintro en w1 ⟨rfl,e⟩
    subst e
    go_wp2_with fail
    refine C2.out.mono ?_
    rintro en w2 ⟨v,rfl,e,hn,hy⟩
    subst e
    cases hat:atT t p with
    | none =>
      obtain rfl:=hn hat
      have E2:=Lib.hid (show mvOk t M=false by rw [E.out,hat];simp)
      clear hn hy hat E
      go_wp2_with fail
      go_ret
      exact ⟨by rw [E2.out];rfl,rfl⟩
    | some a =>
      obtain ⟨ka,_,rfl,_⟩:=encK_open (hy a hat)
      have E2:=Lib.hid (show mvOk t M=true by rw [E.out,hat];simp [hin])
      clear hn hy hat E
      go_wp2_with fail
      go_ret
      exact ⟨by rw [E2.out];rfl,rfl⟩
   ·have E2:=Lib.hid (show mvOk t M=false by rw [E.out];simp [hin])
    clear E
    go_enter Tryz.func162,Tryz.ntmps162
    go_wp2_with fail
    refine C1.out.mono ?_
    rintro en w1 ⟨rfl,e⟩
    subst e
    go_wp2_with fail
    go_ret
    exact ⟨by rw [E2.out];rfl,rfl⟩
def plN (m:Bs):Nat:=if byOpp m=true then 0 else 1
set_option maxRecDepth 20000 in
theorem l1Player_any (c:UInt8) (p:Bs) (hl:p.length<=16777216) (w:World):Calls Tryz.prog 130 #[str (c::p)] w fun en w'=>en=.returned (.int .i64 (plN (c::p):Nat))/\w'=w:=by
 obtain ⟨M,hM⟩:=zzM (c::p)
 obtain ⟨n,hn⟩:=zzM (p.length)
 have hMl:(M.length:Int)=(n:Int)+1:=by rw [hM,hn];simp
 have hM0:0<M.length:=by rw [hM];simp
 have hM0I:(0:Int)<(M.length:Int):=by omega
 have B0:((((⟨M.toArray⟩:ByteArray)[0]'(lt_str hM0)).toNat:Int))=(c.toNat:Int):=by rw [byte_int hM0];subst hM;rfl
 have hw:IntKind.i64.wrap ((M.length:Int)-1)=(n:Int):=by rw [hMl,show (n:Int)+1-1=(n:Int) from by omega];exact wrap_nat _ (by omega)
 have E:plN M=if c=113 then n % 2 else 1-n % 2:=by
  rw [hM,plN,byOpp_cons,<- hn]
  by_cases hc:c=113
  ·subst hc
   rw [if_pos rfl,show ((113:UInt8) == 113)=true from rfl]
   rcases Nat.mod_two_eq_zero_or_one n with h | h <;> simp [h]
  ·rw [if_neg hc,show (c == 113)=false from by simp [hc]]
   rcases Nat.mod_two_eq_zero_or_one n with h | h <;> simp [h]
 have hq:=q_int c
 rw [<- hM]
 clear hM hn
 by_cases hc:c=113
 ·rw [if_pos hc] at E
  have hcq:((c.toNat:Int) != 113)=false:=by rw [bne,hq,hc];rfl
  have HE:=Lib.hid E
  clear E hc hq hMl
  go_enter Tryz.func130,Tryz.ntmps130
  go_wp2_with fail
  go_ret
  exact ⟨by rw [HE.out];simp,rfl⟩
 ·rw [if_neg hc] at E
  have hcq:((c.toNat:Int) != 113)=true:=by rw [bne,hq];simp [hc]
  have hw2:IntKind.i64.wrap (1-((n:Int) % 2))=((1-n % 2:Nat):Int):=by
   rw [show (1:Int)-(n:Int) % 2=((1-n % 2:Nat):Int) from by omega];exact wrap_nat _ (by omega)
  have HE:=Lib.hid E
  clear E hc hq hMl
  go_enter Tryz.func130,Tryz.ntmps130
  go_wp2_with fail
  go_ret
  exact ⟨by rw [HE.out];rfl,rfl⟩
set_option maxRecDepth 20000 in
theorem l1Enabler_any (c:UInt8) (p:Bs) (hl:p.length<=16777216) (w:World):Calls Tryz.prog 131 #[str (c::p)] w fun en w'=>en=.returned (.string ⟨(enab (c::p)).toArray⟩)/\w'=w:=by
 obtain ⟨M,hM⟩:=zzM (c::p)
 obtain ⟨n,hn⟩:=zzM (p.length)
 have hMl:(M.length:Int)=(n:Int)+1:=by rw [hM,hn];simp
 have hM0:0<M.length:=by rw [hM];simp
 have hM0I:(0:Int)<(M.length:Int):=by omega
 have hM1I:(1:Int)<=(M.length:Int):=by omega
 have B0:((((⟨M.toArray⟩:ByteArray)[0]'(lt_str hM0)).toNat:Int))=(c.toNat:Int):=by rw [byte_int hM0];subst hM;rfl
 have hq:=q_int c
 by_cases hc:c=113
 ·have hcq:((c.toNat:Int) != 113)=false:=by rw [bne,hq,hc];rfl
  by_cases hp:p=[]
  ·have E:=Lib.hid (show enab (c::p)=[] by rw [hc,hp];rfl)
   have hn1:((M.length:Int) == 1)=true:=by rw [hMl,hn,hp];rfl
   rw [<- hM] at E ⊢
   clear hM hn hq hc hp hMl
   go_enter Tryz.func131,Tryz.ntmps131
   go_wp2_with fail
   go_ret
   exact ⟨by rw [E.out];rfl,rfl⟩
  ·have hp1:0<n:=by
    rw [hn]
    cases p with
    | nil=>exact absurd rfl hp
    | cons d q=>simp
   have E:=Lib.hid (show enab (c::p)=M.take n by
    unfold enab
    rw [if_neg (by simp [hp]),isQ_cons,hc,show ((113:UInt8) == 113)=true from rfl,if_pos rfl,List.dropLast_eq_take,hM,hc,hn];simp)
   have hn1:((M.length:Int) == 1)=false:=by rw [beq_eq_false_iff_ne];omega
   have ex:(⟨M.toArray⟩:ByteArray).extract 0 n=⟨(M.take n).toArray⟩:=by rw [ext_str];rfl
   have hw:IntKind.i64.wrap ((M.length:Int)-1)=(n:Int):=by
    rw [hMl,show (n:Int)+1-1=(n:Int) from by omega];exact wrap_nat _ (by omega)
   have hle:(n:Int)<=(M.length:Int):=by omega
   obtain ⟨R,hR⟩:=zzM (M.take n)
   rw [<- hR] at ex E
   rw [<- hM] at E ⊢
   clear hM hn hq hc hp hMl hR hp1
   go_enter Tryz.func131,Tryz.ntmps131
   go_wp2_with fail
   go_ret
   exact ⟨by rw [E.out];rfl,rfl⟩
 ·have hcq:((c.toNat:Int) != 113)=true:=by rw [bne,hq];simp [hc]
  have E:=Lib.hid (show enab (c::p)=113::p by
   unfold enab
   rw [if_neg (by simp [hc]),isQ_cons,show (c == 113)=false from by simp [hc],if_neg (by simp),List.tail_cons])
  have ex:(⟨M.toArray⟩:ByteArray).extract 1 M.length=⟨p.toArray⟩:=by rw [hM];exact ext_tail' c p
  have a1:=fun w0=>add_str (P:=Tryz.prog) [113] p (by simp;omega) w0
  rw [List.singleton_append] at a1
  obtain ⟨R,hR⟩:=zzM (113::p)
  rw [<- hR] at a1 E
  rw [<- hM] at E ⊢
  clear hM hn hq hc hMl hR
  go_enter Tryz.func131,Tryz.ntmps131
  go_wp2_with fail
  go_ret
  exact ⟨by rw [E.out];rfl,rfl⟩
theorem ext_tail (c:UInt8) (p:Bs):(⟨(c::p).toArray⟩:ByteArray).extract 1 (c::p).length=⟨p.toArray⟩:=by rw [ext_str,List.take_length];rfl
def BehQ (b':Bd) (lv:List Place) (bg:Place) (F:Nat->Prop) (w:World) (en:Ending) (w':World):Prop :=
 ∃ a la lc,en=.returned (.agg #[.pointer (some ⟨a,0,none⟩),.slice la lv.length lc,.int .i64 (bg.1:Nat),str bg.2])/\Below w.heap.size w w'/\Rep F w (encB b') (.pointer (some ⟨a,0,none⟩))/\LvRep (w.heap.size<=·) w' lv (.slice la lv.length lc)
set_option maxRecDepth 100000 in
theorem behind_q (F:Nat->Prop) (t a:Ty) (l j:Nat) (ss:List Bd) (s y n:Bd) (bv kv lsl:Value) (lv:List Place) (bg:Place) (p:Bs) (idx:Nat) (w:World) (hg:Glob w) (hb:Rep F w (encB (.ask l ss y n)) bv) (hk:Rep F w (encK t) kv) (hlv:LvRep F w lv lsl) (ht:atomsT t<=15)
 (hs:ss[j]? = some s) (hj:j<10) (hp:0<p.length) (hpl:p.length<=1000) (hlast:p[p.length-1]=digit j) (hat:atT t p=some a) (hll:lv.length<=100000) (hssl:ss.length<=100000) :
 Calls Tryz.prog 160 #[.agg #[bv,lsl,.int .i64 (bg.1:Nat),str bg.2],kv,str (113::p),.int .i64 (idx:Nat)] w (BehQ s (lv++placesOf a.args.length idx p) (idx,p) F w):=by
 obtain ⟨kb,ks,rfl,_,hkb,hkr⟩:=encK_open hk
 obtain ⟨la,lc,rfl,_⟩:=hlv.open
 obtain ⟨b,sl,yv,nv,rfl,_,hbc,hsr,hy,hn⟩:=ask_open hb
 obtain ⟨sa,sc,rfl,hcap,hlen,hats⟩:=Rep_sl1_open hsr
 have hjl:=(List.getElem?_eq_some_iff.1 hs).1
 obtain ⟨sb,so,su,sd,rfl,_,hsb,hsd,hsc,hsu⟩:=hats j hjl
 rw [encBs_at,hs] at hsd
 obtain rfl:=Option.some.inj hsd
 obtain ⟨ab,rfl⟩:=encB_ptr hsu
 obtain ⟨W,hW,hbW,hz,b0,b1⟩:=boxes_2 w (.cells #[.pointer (some ⟨b,0,none⟩),.slice la lv.length lc,.int .i64 (bg.1:Nat),str bg.2] 150) (.cells #[.pointer none,.slice none 0 0,.int .i64 0,str []] 150)
 have a15:=atT_len _ _ _ hat
 have aarg:=args_len a
 have KEY:Hid (∀ x,Below W.heap.size W x->x.cell? ⟨w.heap.size,0,none⟩=some (.pointer (some ⟨b,0,none⟩))/\x.cell? ⟨b,2,none⟩=some (.slice (some ⟨sb,so,none⟩) ss.length sc)/\x.cell? ⟨sb,so+j,none⟩=some (.pointer (some ⟨ab,0,none⟩))):=Lib.hid (fun x hx=>by
  obtain ⟨k0,_,_,_⟩:=cells_4 b0
  have k2:W.cell? ⟨b,2,none⟩=some (.slice (some ⟨sb,so,none⟩) ss.length sc):=(hbW.cell (by exact lt_of_heap hbc)).trans (by simp [World.cell?,hbc])
  have k3:W.cell? ⟨sb,so+j,none⟩=some (.pointer (some ⟨ab,0,none⟩)):=(hbW.cell hsb).trans hsc
  exact ⟨(hx.cell (World.block_lt_of_cell? _ _ k0)).trans k0,(hx.cell (World.block_lt_of_cell? _ _ k2)).trans k2,(hx.cell (World.block_lt_of_cell? _ _ k3)).trans k3⟩)
 have f0:=frozen_4 b0 0
 have ex:(⟨(113::p).toArray⟩:ByteArray).extract 1 (p.length+1)=⟨p.toArray⟩:=ext_tail 113 p
 obtain ⟨m1,hm1⟩:=zzM (p.length-1)
 have hpm:IntKind.i64.wrap ((p.length:Int)-1)=(m1:Int):=by rw [show (p.length:Int)-1=(m1:Int) from by omega];exact wrap_nat _ (by omega)
 have hpi:m1<p.length:=by omega
 have hl1:p[m1]=digit j:=by subst hm1;exact hlast
 have B:((((⟨p.toArray⟩:ByteArray)[m1]'(lt_str hpi)).toNat:Int))=48+(j:Int):=by rw [byte_int hpi,hl1,digit_nat hj];omega
 have hj8:IntKind.u8.wrap (48+(j:Int)-48)=(j:Int):=by simp [IntKind.wrap,IntKind.bits,IntKind.signed];omega
 have hjI:(j:Int)<(ss.length:Int):=by omega
 have hm1I:(m1:Int)<(p.length:Int):=by omega
 have HW:=Lib.hid (And.intro hW (And.intro hbW (And.intro hz (And.intro b0 b1))))
 have HA:=Lib.hid (And.intro hg (And.intro hk (And.intro hlv (And.intro hat (And.intro hsu (And.intro ht (And.intro a15 aarg)))))))
 have HL:=Lib.hid (And.intro hpl hll)
 clear hW hbW hz b0 b1 hbc hsr hy hn hb hats hlen hcap hsc hsb hsu hg hk hlv hkb hkr hat hs hlast ht a15 aarg hm1 hl1 hpl hll
 go_enter Tryz.func160,Tryz.ntmps160
 go_upto_region 1 with (fail)
 rw [HW.out.1]
 go_upto_region 3 with (fail)
 refine wp_region_noPanic ?_
 refine wp_region_S (fun w'=>Below W.heap.size W w') (fun i=>i == 14) (by kernel_rfl) ?_
 have hSd:(fun w'=>Below W.heap.size W w') W.drew:=Below.drew (Below.refl _ _)
 refine wpAnyS_take 0 (v:=?_) (by kernel_rfl) (by kernel_rfl) (by kernel_rfl) (by kernel_rfl) (fun _ _ _ _ h=>h) hSd ?_ ?_
 rotate_left
 ·(intro oi ho;simp at ho;subst ho;refine Or.inl ⟨by rfl,fun w' hw'=>?_⟩;go_simp;try with_reducible rfl)
 (intro d hd;simp at hd;subst hd;simp only [Act.put,List.setIfInBounds_toArray,List.set_cons_zero,List.set_cons_succ])
 refine wpAnyS_take 1 (v:=?_) (by kernel_rfl) (by kernel_rfl) (by kernel_rfl) (by kernel_rfl) (fun _ _ _ _ h=>h) hSd ?_ ?_
 rotate_left
 ·(intro oi ho;simp at ho;subst ho;refine Or.inl ⟨by rfl,fun w' hw'=>?_⟩;obtain ⟨e0,e1,e2⟩:=KEY.out w' hw';go_simp;try with_reducible rfl)
 (intro d hd;simp at hd;subst hd;simp only [Act.put,List.setIfInBounds_toArray,List.set_cons_zero,List.set_cons_succ])
 refine wpAnyS_take 2 (v:=?_) (by kernel_rfl) (by kernel_rfl) (by kernel_rfl) (by kernel_rfl) (fun _ _ _ _ h=>h) hSd ?_ ?_
 rotate_left
 ·(intro oi ho;simp at ho;subst ho;refine Or.inl ⟨by rfl,fun w' hw'=>?_⟩;go_simp;try with_reducible rfl)
 (intro d hd;simp at hd;subst hd;simp only [Act.put,List.setIfInBounds_toArray,List.set_cons_zero,List.set_cons_succ])
 refine wpAnyS_take 3 (v:=?_) (by kernel_rfl) (by kernel_rfl) (by kernel_rfl) (by kernel_rfl) (fun _ _ _ _ h=>h) hSd ?_ ?_
 rotate_left
 ·(intro oi ho;simp at ho;subst ho;refine Or.inl ⟨by rfl,fun w' hw'=>?_⟩;go_simp;try with_reducible rfl)
 (intro d hd;simp at hd;subst hd;simp only [Act.put,List.setIfInBounds_toArray,List.set_cons_zero,List.set_cons_succ])
 refine wpAnyS_take 4 (v:=?_) (by kernel_rfl) (by kernel_rfl) (by kernel_rfl) (by kernel_rfl) (fun _ _ _ _ h=>h) hSd ?_ ?_
 rotate_left
 ·(intro oi ho;simp at ho;subst ho;refine Or.inl ⟨by rfl,fun w' hw'=>?_⟩;obtain ⟨e0,e1,e2⟩:=KEY.out w' hw';go_simp;try with_reducible rfl)
 (intro d hd;simp at hd;subst hd;simp only [Act.put,List.setIfInBounds_toArray,List.set_cons_zero,List.set_cons_succ])
 refine wpAnyS_take 5 (v:=?_) (by kernel_rfl) (by kernel_rfl) (by kernel_rfl) (by kernel_rfl) (fun _ _ _ _ h=>h) hSd ?_ ?_
 rotate_left
 ·(intro oi ho;simp at ho;subst ho;refine Or.inl ⟨by rfl,fun w' hw'=>?_⟩;go_simp;try with_reducible rfl)
 (intro d hd;simp at hd;subst hd;simp only [Act.put,List.setIfInBounds_toArray,List.set_cons_zero,List.set_cons_succ])
 refine wpAnyS_take 6 (v:=?_) (by kernel_rfl) (by kernel_rfl) (by kernel_rfl) (by kernel_rfl) (fun _ _ _ _ h=>h) hSd ?_ ?_
 rotate_left
 ·(intro oi ho;simp at ho;subst ho;refine Or.inl ⟨by rfl,fun w' hw'=>?_⟩;go_simp;try with_reducible rfl)
 (intro d hd;simp at hd;subst hd;simp only [Act.put,List.setIfInBounds_toArray,List.set_cons_zero,List.set_cons_succ])
 refine wpAnyS_take 7 (v:=?_) (by kernel_rfl) (by kernel_rfl) (by kernel_rfl) (by kernel_rfl) (fun _ _ _ _ h=>h) hSd ?_ ?_
 rotate_left
 ·(intro oi ho;simp at ho;subst ho;refine Or.inl ⟨by rfl,fun w' hw'=>?_⟩;go_simp;try with_reducible rfl)
 (intro d hd;simp at hd;subst hd;simp only [Act.put,List.setIfInBounds_toArray,List.set_cons_zero,List.set_cons_succ])
 refine wpAnyS_take 8 (v:=?_) (by kernel_rfl) (by kernel_rfl) (by kernel_rfl) (by kernel_rfl) (fun _ _ _ _ h=>h) hSd ?_ ?_
 rotate_left
 ·(intro oi ho;simp at ho;subst ho;refine Or.inl ⟨by rfl,fun w' hw'=>?_⟩;go_simp;try with_reducible rfl)
 (intro d hd;simp at hd;subst hd;simp only [Act.put,List.setIfInBounds_toArray,List.set_cons_zero,List.set_cons_succ])
 refine wpAnyS_take 9 (v:=?_) (by kernel_rfl) (by kernel_rfl) (by kernel_rfl) (by kernel_rfl) (fun _ _ _ _ h=>h) hSd ?_ ?_
 rotate_left
 ·(intro oi ho;simp at ho;subst ho;refine Or.inl ⟨by rfl,fun w' hw'=>?_⟩;go_simp;try with_reducible rfl)
 (intro d hd;simp at hd;subst hd;simp only [Act.put,List.setIfInBounds_toArray,List.set_cons_zero,List.set_cons_succ])
 refine wpAnyS_take 10 (v:=?_) (by kernel_rfl) (by kernel_rfl) (by kernel_rfl) (by kernel_rfl) (fun _ _ _ _ h=>h) hSd ?_ ?_
 rotate_left
 ·(intro oi ho;simp at ho;subst ho;refine Or.inl ⟨by rfl,fun w' hw'=>?_⟩;go_simp;try with_reducible rfl)
 (intro d hd;simp at hd;subst hd;simp only [Act.put,List.setIfInBounds_toArray,List.set_cons_zero,List.set_cons_succ])
 refine wpAnyS_take 11 (v:=?_) (by kernel_rfl) (by kernel_rfl) (by kernel_rfl) (by kernel_rfl) (fun _ _ _ _ h=>h) hSd ?_ ?_
 rotate_left
 ·(intro oi ho;simp at ho;subst ho;refine Or.inl ⟨by rfl,fun w' hw'=>?_⟩;go_simp;try with_reducible rfl)
 (intro d hd;simp at hd;subst hd;simp only [Act.put,List.setIfInBounds_toArray,List.set_cons_zero,List.set_cons_succ])
 refine wpAnyS_take 12 (v:=?_) (by kernel_rfl) (by kernel_rfl) (by kernel_rfl) (by kernel_rfl) (fun _ _ _ _ h=>h) hSd ?_ ?_
 rotate_left
 ·(intro oi ho;simp at ho;subst ho;refine Or.inl ⟨by rfl,fun w' hw'=>?_⟩;obtain ⟨e0,e1,e2⟩:=KEY.out w' hw';go_simp;try with_reducible rfl)
 (intro d hd;simp at hd;subst hd;simp only [Act.put,List.setIfInBounds_toArray,List.set_cons_zero,List.set_cons_succ])
 refine wpAnyS_take 13 (v:=?_) (by kernel_rfl) (by kernel_rfl) (by kernel_rfl) (by kernel_rfl) (fun _ _ _ _ h=>h) hSd ?_ ?_
 rotate_left
 ·(intro oi ho;simp at ho;subst ho;refine Or.inl ⟨by rfl,fun w' hw'=>?_⟩;go_simp;try with_reducible rfl)
 (intro d hd;simp at hd;subst hd;simp only [Act.put,List.setIfInBounds_toArray,List.set_cons_zero,List.set_cons_succ])
 refine wpAnyS_one 14 (by kernel_rfl) ?_
 (intro o14 ho K' hK;simp at ho;subst ho)
 obtain ⟨e0,_,_⟩:=KEY.out W (Below.refl _ _)
 go_simp
 refine hK.out _ _ ?_ ?_
 ·intro h;simp at h
 clear hK K'
 (try simp only [Act.put,List.setIfInBounds_toArray,List.set_cons_zero,List.set_cons_succ])
 refine wpAnyS_done (by kernel_rfl) (NoPanic.normal ?_) _
 obtain ⟨W2,hW2⟩:=zzN ((W.setCell ⟨w.heap.size,0,none⟩ (.pointer (some ⟨ab,0,none⟩))).drew)
 have x0:W2.heap[w.heap.size]? = some (.cells #[.pointer (some ⟨ab,0,none⟩),.slice la lv.length lc,.int .i64 (bg.1:Nat),str bg.2] 150 (0,0)):=by
  rw [<- hW2];show (W.setCell ⟨w.heap.size,0,none⟩ (.pointer (some ⟨ab,0,none⟩))).heap[w.heap.size]? = _
  rw [setCell_at' HW.out.2.2.2.1];rfl
 have x1:W2.heap[w.heap.size+1]? = some (.cells #[.pointer none,.slice none 0 0,.int .i64 0,str []] 150 (0,0)):=by
  rw [<- hW2];show (W.setCell ⟨w.heap.size,0,none⟩ (.pointer (some ⟨ab,0,none⟩))).heap[w.heap.size+1]? = _
  rw [Below.heap_setCell _ _ _ _ (by show w.heap.size+1≠w.heap.size;omega)];exact HW.out.2.2.2.2
 have hb02:Below w.heap.size w W2:=by rw [<- hW2];exact (HW.out.2.1.setCell (p:=⟨w.heap.size,0,none⟩) (Nat.le_refl _) _).drew
 have hz2:W2.heap.size=w.heap.size+2:=by rw [<- hW2];show (W.setCell ⟨w.heap.size,0,none⟩ _).heap.size=_;simp [World.setCell,HW.out.2.2.1]
 rw [hW2]
 have K2:Hid (∀ x,Below W2.heap.size W2 x->x.cell? ⟨w.heap.size,1,none⟩=some (.slice la lv.length lc)):=Lib.hid (fun x hx=>by
  obtain ⟨_,k1,_,_⟩:=cells_4 x0
  exact (hx.cell (World.block_lt_of_cell? _ _ k1)).trans k1)
 have CA:Hid (∀ wz,Below W2.heap.size W2 wz->Calls Tryz.prog 189 #[.pointer (some ⟨kb,0,none⟩),str p] wz fun en w'=>∃ kb2 sa2 sc2,en=.returned (.pointer (some ⟨kb2,0,none⟩))/\w'=wz/\wz.cell? ⟨kb2,0,none⟩=some (.slice sa2 a.args.length sc2)):=Lib.hid (fun wz hz=>by
  have hk2:=HA.out.2.1.below (zzT hb02 hz) (fun _ h=>h)
  have hpl:=HL.out.1
  refine (kindAt_any F t p _ wz hk2 HA.out.2.2.2.2.2.1 (show _<=_ by omega)).mono ?_
  rintro en w' ⟨v,rfl,rfl,_,hy⟩
  obtain ⟨kb2,ks2,rfl,_,hc2,hr2⟩:=encK_open (hy a HA.out.2.2.2.1)
  obtain ⟨sa2,sc2,rfl,_⟩:=Rep_sl1_open hr2
  exact ⟨kb2,sa2,sc2,rfl,rfl,by simp [World.cell?,hc2]⟩)
 have CP:=Lib.hid (fun wz (hz:Below W2.heap.size W2 wz)=>places_any a.args.length idx p wz (HA.out.1.below (zzT hb02 hz)) (by have:=HA.out.2.2.2.2.2;omega) (by have:=HL.out.1;omega))
 have CC:=Lib.hid (fun x pa pc (hx:Below W2.heap.size W2 x) (ho:Own x 148 2 (.slice pa a.args.length pc) a.args.length (plcs idx p a.args.length)) =>
  concatP_any x.heap.size lv.length a.args.length (.slice la lv.length lc) (.slice pa a.args.length pc) (lvC lv) (lvC (placesOf a.args.length idx p)) (x.alloc (.cells #[.slice la lv.length lc,.slice pa a.args.length pc] 146)) (by simp) (by simp)
   ((HA.out.2.2.1.below (zzT hb02 hx) (fun _ h=>h)).src.alloc _) ((SrcSl.ofOwn (by rw [plcs_eq] at ho;exact ho) (lvC_one _)).alloc _) (show _<=_ by have:=HL.out.2;omega) (show _<=_ by have:=HA.out.2.2.2.2.2;omega) (show _<=_ by have:=HL.out.2;have:=HA.out.2.2.2.2.2;omega))
 have H2:=Lib.hid (And.intro x0 (And.intro x1 (And.intro hb02 hz2)))
 clear hW2 x0 x1 hb02 hz2 hSd KEY f0 ex hpm B hj8 hjI hm1I
 go_upto_region 4 with (fail)
 refine wp_region_noPanic ?_
 refine wp_region_S (fun w'=>Below W2.heap.size W2 w') (fun i=>i == 15) (by kernel_rfl) ?_
 have hSd:(fun w'=>Below W2.heap.size W2 w') W2.drew:=Below.drew (Below.refl _ _)
 refine wpAnyS_take 0 (v:=?_) (by kernel_rfl) (by kernel_rfl) (by kernel_rfl) (by kernel_rfl) (fun _ _ _ _ h=>h) hSd ?_ ?_
 rotate_left
 ·(intro oi ho;simp at ho;subst ho;refine Or.inl ⟨by rfl,fun w' hw'=>?_⟩;go_simp;try with_reducible rfl)
 (intro d hd;simp at hd;subst hd;simp only [Act.put,List.setIfInBounds_toArray,List.set_cons_zero,List.set_cons_succ])
 refine wpAnyS_take 1 (v:=?_) (by kernel_rfl) (by kernel_rfl) (by kernel_rfl) (by kernel_rfl) (fun _ _ _ _ h=>h) hSd ?_ ?_
 rotate_left
 ·(intro oi ho;simp at ho;subst ho;refine Or.inl ⟨by rfl,fun w' hw'=>?_⟩;have e1:=K2.out w' hw';go_simp;try with_reducible rfl)
 (intro d hd;simp at hd;subst hd;simp only [Act.put,List.setIfInBounds_toArray,List.set_cons_zero,List.set_cons_succ])
 refine wpAnyS_take 2 (v:=?_) (by kernel_rfl) (by kernel_rfl) (by kernel_rfl) (by kernel_rfl) (fun _ _ _ _ h=>h) hSd ?_ ?_
 rotate_left
 ·(intro oi ho;simp at ho;subst ho;refine Or.inl ⟨by rfl,fun w' hw'=>?_⟩;go_simp;try with_reducible rfl)
 (intro d hd;simp at hd;subst hd;simp only [Act.put,List.setIfInBounds_toArray,List.set_cons_zero,List.set_cons_succ])
 refine wpAnyS_take 3 (v:=?_) (by kernel_rfl) (by kernel_rfl) (by kernel_rfl) (by kernel_rfl) (fun _ _ _ _ h=>h) hSd ?_ ?_
 rotate_left
 ·(intro oi ho;simp at ho;subst ho;refine Or.inl ⟨by rfl,fun w' hw'=>?_⟩;go_simp;try with_reducible rfl)
 (intro d hd;simp at hd;subst hd;simp only [Act.put,List.setIfInBounds_toArray,List.set_cons_zero,List.set_cons_succ])
 refine wpAnyS_take 9 (v:=?_) (by kernel_rfl) (by kernel_rfl) (by kernel_rfl) (by kernel_rfl) (fun _ _ _ _ h=>h) hSd ?_ ?_
 rotate_left
 ·(intro oi ho;simp at ho;subst ho;refine Or.inl ⟨by rfl,fun w' hw'=>?_⟩;go_simp;try with_reducible rfl)
 (intro d hd;simp at hd;subst hd;simp only [Act.put,List.setIfInBounds_toArray,List.set_cons_zero,List.set_cons_succ])
 refine wpAnyS_take 10 (v:=?_) (by kernel_rfl) (by kernel_rfl) (by kernel_rfl) (by kernel_rfl) (fun _ _ _ _ h=>h) hSd ?_ ?_
 rotate_left
 ·(intro oi ho;simp at ho;subst ho;refine Or.inl ⟨by rfl,fun w' hw'=>?_⟩;go_simp;try with_reducible rfl)
 (intro d hd;simp at hd;subst hd;simp only [Act.put,List.setIfInBounds_toArray,List.set_cons_zero,List.set_cons_succ])
 refine wpAnyS_one 4 (by kernel_rfl) ?_
 (intro o4 ho K' hK;simp at ho;subst ho)
 go_simp
 go_at_call 189
 (with_reducible refine (CA.out _ hSd).mono ?_)
 rintro en x4 ⟨kb2,sa2,sc2,rfl,ex4,hc4⟩
 subst ex4
 have hc4':Hid (∀ x,Below W2.heap.size W2 x->x.cell? ⟨kb2,0,none⟩=some (.slice sa2 a.args.length sc2)):=Lib.hid (fun x hx=>(hx.cell (World.block_lt_of_cell? W2 _ hc4)).trans hc4)
 refine hK.out _ _ ?_ ?_
 ·exact fun _=>hSd
 clear hK K'
 (try simp only [Act.put,List.setIfInBounds_toArray,List.set_cons_zero,List.set_cons_succ])
 have hS4:=hSd
 refine wpAnyS_take 5 (v:=?_) (by kernel_rfl) (by kernel_rfl) (by kernel_rfl) (by kernel_rfl) (fun _ _ _ _ h=>h) hS4 ?_ ?_
 rotate_left
 ·(intro oi ho;simp at ho;subst ho;refine Or.inl ⟨by rfl,fun w' hw'=>?_⟩;go_simp;try with_reducible rfl)
 (intro d hd;simp at hd;subst hd;simp only [Act.put,List.setIfInBounds_toArray,List.set_cons_zero,List.set_cons_succ])
 refine wpAnyS_take 6 (v:=?_) (by kernel_rfl) (by kernel_rfl) (by kernel_rfl) (by kernel_rfl) (fun _ _ _ _ h=>h) hS4 ?_ ?_
 rotate_left
 ·(intro oi ho;simp at ho;subst ho;refine Or.inl ⟨by rfl,fun w' hw'=>?_⟩;go_simp;try with_reducible rfl)
 (intro d hd;simp at hd;subst hd;simp only [Act.put,List.setIfInBounds_toArray,List.set_cons_zero,List.set_cons_succ])
 refine wpAnyS_take 7 (v:=?_) (by kernel_rfl) (by kernel_rfl) (by kernel_rfl) (by kernel_rfl) (fun _ _ _ _ h=>h) hS4 ?_ ?_
 rotate_left
 ·(intro oi ho;simp at ho;subst ho;refine Or.inl ⟨by rfl,fun w' hw'=>?_⟩;have e1:=hc4'.out w' hw';go_simp;try with_reducible rfl)
 (intro d hd;simp at hd;subst hd;simp only [Act.put,List.setIfInBounds_toArray,List.set_cons_zero,List.set_cons_succ])
 refine wpAnyS_take 8 (v:=?_) (by kernel_rfl) (by kernel_rfl) (by kernel_rfl) (by kernel_rfl) (fun _ _ _ _ h=>h) hS4 ?_ ?_
 rotate_left
 ·(intro oi ho;simp at ho;subst ho;refine Or.inl ⟨by rfl,fun w' hw'=>?_⟩;go_simp;try with_reducible rfl)
 (intro d hd;simp at hd;subst hd;simp only [Act.put,List.setIfInBounds_toArray,List.set_cons_zero,List.set_cons_succ])
 refine wpAnyS_one 11 (by kernel_rfl) ?_
 (intro o11 ho K' hK;simp at ho;subst ho)
 go_simp
 go_at_call 168
 (with_reducible refine (CP.out _ hSd).mono ?_)
 rintro en x11 ⟨pa,pc,rfl,ho11,hb11,hf11⟩
 have hB11:Below W2.heap.size W2 x11:=Below.trans hSd (hb11.mono (Below.size hSd))
 refine hK.out _ _ ?_ ?_
 ·exact fun _=>hB11
 clear hK K'
 (try simp only [Act.put,List.setIfInBounds_toArray,List.set_cons_zero,List.set_cons_succ])
 refine wpAnyS_one 12 (by kernel_rfl) ?_
 (intro o12 ho K' hK;simp at ho;subst ho)
 go_simp
 refine hK.out _ _ ?_ ?_
 ·exact fun _=>hB11.alloc hB11.size _
 clear hK K'
 (try simp only [Act.put,List.setIfInBounds_toArray,List.set_cons_zero,List.set_cons_succ])
 refine wpAnyS_one 13 (by kernel_rfl) ?_
 (intro o13 ho K' hK;simp at ho;subst ho)
 have hB12:Below W2.heap.size W2 (x11.alloc (.cells #[.slice la lv.length lc,.slice pa a.args.length pc] 146)):=hB11.alloc hB11.size _
 go_simp
 go_at_call 188
 (with_reducible refine (CC.out x11 pa pc hB11 ho11).mono ?_)
 rintro en x13 ⟨ca,cc,rfl,ho13,hb13,hf13⟩
 have hB13:Below W2.heap.size W2 x13:=zzT hB12 hb13
 refine hK.out _ _ ?_ ?_
 ·exact fun _=>hB13
 clear hK K'
 (try simp only [Act.put,List.setIfInBounds_toArray,List.set_cons_zero,List.set_cons_succ])
 have hS13:=hB13
 refine wpAnyS_take 14 (v:=?_) (by kernel_rfl) (by kernel_rfl) (by kernel_rfl) (by kernel_rfl) (fun _ _ _ _ h=>h) hS13 ?_ ?_
 rotate_left
 ·(intro oi ho;simp at ho;subst ho;refine Or.inl ⟨by rfl,fun w' hw'=>?_⟩;go_simp;try with_reducible rfl)
 (intro d hd;simp at hd;subst hd;simp only [Act.put,List.setIfInBounds_toArray,List.set_cons_zero,List.set_cons_succ])
 refine wpAnyS_one 15 (by kernel_rfl) ?_
 (intro o15 ho K' hK;simp at ho;subst ho)
 have xx0:=(hB13.block _ (lt_of_heap H2.out.1)).trans H2.out.1
 obtain ⟨_,e1,_,_⟩:=cells_4 xx0
 have f1:=frozen_4 xx0 1
 go_simp
 refine hK.out _ _ ?_ ?_
 ·intro h;simp at h
 clear hK K'
 (try simp only [Act.put,List.setIfInBounds_toArray,List.set_cons_zero,List.set_cons_succ])
 refine wpAnyS_done (by kernel_rfl) (NoPanic.normal ?_) _
 obtain ⟨W3,hW3⟩:=zzN (x13.setCell ⟨w.heap.size,1,none⟩ (.slice ca (lv.length+a.args.length) cc))
 have y0:W3.heap[w.heap.size]? = some (.cells #[.pointer (some ⟨ab,0,none⟩),.slice ca (lv.length+a.args.length) cc,.int .i64 (bg.1:Nat),str bg.2] 150 (0,0)):=by rw [<- hW3,setCell_at' xx0];rfl
 have xx1:=(hB13.block _ (lt_of_heap H2.out.2.1)).trans H2.out.2.1
 have y1:W3.heap[w.heap.size+1]? = some (.cells #[.pointer none,.slice none 0 0,.int .i64 0,str []] 150 (0,0)):=by rw [<- hW3,Below.heap_setCell _ _ _ _ (by show w.heap.size+1≠w.heap.size;omega)];exact xx1
 have hb03:Below w.heap.size w W3:=by rw [<- hW3];exact (zzT H2.out.2.2.1 hB13).setCell (p:=⟨w.heap.size,1,none⟩) (Nat.le_refl _) _
 have hfr:∀ g,(Value.slice ca (lv.length+a.args.length) cc).ownBlock=some g->w.heap.size+2<=g:=fun g hg=>by
  have h1:=hf13 g hg
  have h2:=hB12.size
  have h3:=H2.out.2.2.2
  omega
 have hown:Own W3 148 2 (.slice ca (lv.length+a.args.length) cc) (lv.length+a.args.length) (lvC (lv++placesOf a.args.length idx p)):=by
  rw [lvC_append,<- hW3]
  exact ho13.keep fun g o hg ho=>by
   have:=hfr g hg
   rw [Below.heap_setCell _ _ _ _ (by show g≠w.heap.size;omega)];exact ho
 rw [hW3]
 obtain ⟨k0,k1,k2,k3⟩:=cells_4 y0
 have g2:=frozen_4 y0 2;have g3:=frozen_4 y0 3
 have H3:=Lib.hid (And.intro y0 (And.intro y1 (And.intro hb03 (And.intro hfr hown))))
 clear hW3 y0 y1 xx1 xx0 hb03 hfr hown hB11 hB12 hB13 hb11 hb13 ho11 ho13 hf11 hf13 hc4 hc4' hSd e1 f1 hS13 CA CP CC K2
 go_upto_region 10 with (fail)
 obtain ⟨W4,hW4⟩:=zzN ((W3.setCell ⟨w.heap.size,2,none⟩ (.int .i64 (idx:Nat))).setCell ⟨w.heap.size,3,none⟩ (str p))
 have y0:W4.heap[w.heap.size]? = some (.cells #[.pointer (some ⟨ab,0,none⟩),.slice ca (lv.length+a.args.length) cc,.int .i64 (idx:Nat),str p] 150 (0,0)):=by rw [<- hW4,setCell_at' (setCell_at' H3.out.1)];rfl
 have oth:∀ g,g≠w.heap.size->W4.heap[g]? = W3.heap[g]?:=fun g hg=>by rw [<- hW4,Below.heap_setCell _ _ _ _ (by show g≠w.heap.size;exact hg),Below.heap_setCell _ _ _ _ (by show g≠w.heap.size;exact hg)]
 have y1:W4.heap[w.heap.size+1]? = some (.cells #[.pointer none,.slice none 0 0,.int .i64 0,str []] 150 (0,0)):=by rw [oth _ (by omega)];exact H3.out.2.1
 have hb04:Below w.heap.size w W4:=by rw [<- hW4];exact (H3.out.2.2.1.setCell (p:=⟨w.heap.size,2,none⟩) (Nat.le_refl _) _).setCell (p:=⟨w.heap.size,3,none⟩) (Nat.le_refl _) _
 have hown:Own W4 148 2 (.slice ca (lv.length+a.args.length) cc) (lv.length+a.args.length) (lvC (lv++placesOf a.args.length idx p)):=H3.out.2.2.2.2.keep fun g o hg ho=>by
  have:=H3.out.2.2.2.1 g hg
  rw [oth g (by omega)];exact ho
 rw [hW4]
 clear k0 k1 k2 k3 g2 g3
 obtain ⟨k0,k1,k2,k3⟩:=cells_4 y0
 obtain ⟨z0,z1,z2,z3⟩:=cells_4 y1
 have g0:=frozen_4 y1 0;have g1:=frozen_4 y1 1;have g2:=frozen_4 y1 2;have g3:=frozen_4 y1 3
 have H4:=Lib.hid (And.intro y1 (And.intro hb04 hown))
 clear hW4 y0 y1 oth hb04 hown
 go_wp2_with fail
 have hV:=set_four H4.out.1 (.pointer (some ⟨ab,0,none⟩)) (.slice ca (lv.length+a.args.length) cc) (.int .i64 (idx:Nat)) (str p)
 obtain ⟨s0,s1,s2,s3⟩:=cells_4 hV
 have hbF:=(((H4.out.2.1.setCell (p:=⟨w.heap.size+1,0,none⟩) (Nat.le_succ _) (.pointer (some ⟨ab,0,none⟩))).setCell (p:=⟨w.heap.size+1,1,none⟩) (Nat.le_succ _) (.slice ca (lv.length+a.args.length) cc)).setCell (p:=⟨w.heap.size+1,2,none⟩) (Nat.le_succ _) (.int .i64 (idx:Nat))).setCell (p:=⟨w.heap.size+1,3,none⟩) (Nat.le_succ _) (str p)
 refine bodyPost_ret (v:=.agg #[.pointer (some ⟨ab,0,none⟩),.slice ca (lv.length+a.args.length) cc,.int .i64 (idx:Nat),str p]) (by simp [results,Tryz.results160,go_sem,s0,s1,s2,s3]) rfl ?_
 have hlen:(lv++placesOf a.args.length idx p).length=lv.length+a.args.length:=by rw [List.length_append,placesOf_length]
 refine ⟨ab,ca,cc,by rw [hlen],hbF,HA.out.2.2.2.2.1,?_⟩
 rw [hlen]
 refine Own.lv ?_ hlen.symm (fun g hg=>by have:=H3.out.2.2.2.1 g hg;omega)
 exact H4.out.2.2.keep fun g o hg ho=>by
  have:=H3.out.2.2.2.1 g hg
  rw [Below.heap_setCell _ _ _ _ (by show g≠w.heap.size+1;omega),Below.heap_setCell _ _ _ _ (by show g≠w.heap.size+1;omega),Below.heap_setCell _ _ _ _ (by show g≠w.heap.size+1;omega),Below.heap_setCell _ _ _ _ (by show g≠w.heap.size+1;omega)];exact ho
def MvRep (F:Nat->Prop) (w:World) (v:Pl) (x:Value):Prop:=Rep F w (.sl 9 1 v.length (v.map fun m=>DV.val (str m.1))) x
def PtRep (F:Nat->Prop) (w:World) (v:Pl) (x:Value):Prop:=Rep F w (.sl 3 1 v.length (v.map fun m=>DV.val (.int .i64 m.2))) x
theorem Reps_vals {F:Nat->Prop} {w:World}:∀ (us vs:List Value),Reps F w (us.map DV.val) vs↔vs=us
 | [],vs=>by simp [Reps_nil]
 | u::us,vs=>by
   rw [List.map_cons,Reps_cons]
   constructor
   ·rintro ⟨x,xs,rfl,h1,h2⟩
    rw [Rep_val] at h1
    rw [(Reps_vals us xs).1 h2,h1]
   ·rintro rfl
    exact ⟨u,us,rfl,Rep_val.2 rfl,(Reps_vals us us).2 rfl⟩
theorem MvRep.src {F:Nat->Prop} {w:World} {v:Pl} {x:Value} (h:MvRep F w v x):SrcSl 1 x v.length (logM v) w:=by
 have h':Rep F w (.sl 9 1 v.length ((logM v).map DV.val)) x:=by unfold MvRep at h;rw [show (logM v).map DV.val=v.map fun m=>DV.val (str m.1) from by simp [logM,Function.comp_def]];exact h
 obtain ⟨xs,hx,hs⟩:=SrcSl.ofRep h' (fun us hu u hm=>by
  rw [(Reps_vals _ _).1 hu] at hm
  obtain ⟨m,_,rfl⟩:=List.mem_map.1 hm
  simp [str,Value.oneCell'])
 rw [(Reps_vals _ _).1 hx] at hs;exact hs
theorem PtRep.src {F:Nat->Prop} {w:World} {v:Pl} {x:Value} (h:PtRep F w v x):SrcSl 1 x v.length (logP v) w:=by
 have h':Rep F w (.sl 3 1 v.length ((logP v).map DV.val)) x:=by unfold PtRep at h;rw [show (logP v).map DV.val=v.map fun m=>DV.val (.int .i64 m.2) from by simp [logP,Function.comp_def]];exact h
 obtain ⟨xs,hx,hs⟩:=SrcSl.ofRep h' (fun us hu u hm=>by
  rw [(Reps_vals _ _).1 hu] at hm
  obtain ⟨m,_,rfl⟩:=List.mem_map.1 hm
  simp [Value.oneCell'])
 rw [(Reps_vals _ _).1 hx] at hs;exact hs
theorem PlayAt.mv {F:Nat->Prop} {w:World} {v:Pl} {mv pt:Value} (h:PlayAt w v mv pt) (hF:∀ g,mv.ownBlock=some g\/pt.ownBlock=some g->F g):MvRep F w v mv/\PtRep F w v pt:=by
 obtain ⟨a1,c1,rfl⟩:=h.1.slice
 obtain ⟨a2,c2,rfl⟩:=h.2.slice
 refine ⟨h.1.rep (fun g hg=>hF g (.inl hg)) ?_,h.2.rep (fun g hg=>hF g (.inr hg)) ?_⟩
 ·rw [show (v.map fun m=>DV.val (str m.1))=(logM v).map DV.val from by simp [logM,Function.comp_def]];exact (Reps_vals _ _).2 rfl
 ·rw [show (v.map fun m=>DV.val (.int .i64 m.2))=(logP v).map DV.val from by simp [logP,Function.comp_def]];exact (Reps_vals _ _).2 rfl
def Fv (va:Nat) (vw:Value) (i:Nat):Prop:=i≠va/\vw.ownBlock≠some i
def Mv (va:Nat) (vw:Value) (i:Nat):Prop:=i=va\/vw.ownBlock=some i
theorem Fv.keep {va:Nat} {vw vw':Value} {w w':World} (hb:But (Mv va vw) w w') (hf:∀ g,vw'.ownBlock=some g->vw.ownBlock=some g\/w.heap.size<=g) {d:DV} {x:Value} (h:Rep (Fv va vw) w d x):Rep (Fv va vw') w' d x :=
 (Rep.keep fun b o hF ho=>⟨⟨hF.1,fun e=>by
  rcases hf b e with h | h
  ·exact hF.2 h
  ·have:=lt_of_heap ho;omega⟩,by rw [hb.block b (lt_of_heap ho) (fun e=>e.elim hF.1 hF.2)];exact ho⟩).1 _ _ h
end Go.Proofs.YtdfkiicodfbibaaGreatDoor

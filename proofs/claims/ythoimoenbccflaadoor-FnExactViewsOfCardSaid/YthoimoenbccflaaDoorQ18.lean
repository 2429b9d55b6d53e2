/- Walks of functions that the statement reaches, and plain words. No conditions. -/
import Derived.Test.YthoimoenbccflaaDoorQ14
import Derived.Test.YthoimoenbccflaaDoorQ17
set_option linter.unusedVariables false
set_option linter.unusedSimpArgs false
set_option maxHeartbeats 8000000
namespace Go.Proofs.YthoimoenbccflaaDoor
open Go.RowKit
mutual
theorem tv_any (t:Ty):∀ b:Bd,TvSaid t b
 | .leaf c=>fun hand lv bg v tv mv pt x0 x1 x2 x3 x4 x5 x6 vw us L w h=>by
   by_cases hc:c=117
   ·subst hc;exact tv_u t hand lv bg v tv mv pt x0 x1 x2 x3 x4 x5 x6 vw us L w h
   ·refine tv_leaf t c ?_ hand lv bg v tv mv pt x0 x1 x2 x3 x4 x5 x6 vw us L w h
    have:=h.wf
    rw [wfB] at this
    rcases this with h1 | h1 | h1
    ·exact .inl h1
    ·exact .inr h1
    ·exact absurd h1 hc
 | .ask l ss y n=>tv_ask t l ss y n (tvs_any t ss) (tv_any t y) (tv_any t n)
theorem tvs_any (t:Ty):∀ ss:List Bd,∀ s∈ss,TvSaid t s
 | [],s,h=>by simp at h
 | a::ss,s,h=>(List.mem_cons.1 h).elim (fun e=>e ▸ tv_any t a) (tvs_any t ss s)
end
theorem Own.empty {w:World} {e:TypeId} (sz:Nat) {g:Nat} (h:w.heap[g]? = some (.cells #[] e (0,0))):Own w e sz (.slice (some ⟨g,0,none⟩) 0 0) 0 [] :=
 ⟨by simp,.inr ⟨g,0,#[],rfl,Nat.zero_le _,h,Nat.le_refl _,Nat.zero_le _,by simp,by simp⟩⟩
theorem PlsG.empty {w:World} {g:Nat} (h:w.heap[g]? = some (.cells #[] 39 (0,0))):PlsG w (.slice (some ⟨g,0,none⟩) 0 0) [] [] :=
 ⟨Own.empty 2 h,rfl,fun i u x h=>by simp at h,fun i j u u' _ h=>by simp at h⟩
structure NumP (B:Nat) (xs ys:List Nat) (u v:Value) (w:World):Prop where
 l:Rep (B<=·) w (numD xs) u
 r:Rep (B<=·) w (numD ys) v
theorem NumP.below {B:Nat} {xs ys:List Nat} {u v:Value} {w w':World} (h:NumP B xs ys u v w) (hb:Below w.heap.size w w'):NumP B xs ys u v w':=⟨h.l.below hb (fun _ h=>h),h.r.below hb (fun _ h=>h)⟩
theorem numD_not {F:Nat->Prop} {w:World} {ns:List Nat} {x:Value} (h:Rep F w (numD ns) x) {g:Nat} {c:Array Value} {T:TypeId} {fr:Nat×Nat} (hb:w.heap[g]? = some (.cells c T fr)) (hT:3≠T):Rep (Fo (.slice (some ⟨g,0,none⟩) 0 0)) w (numD ns) x:=by
 unfold numD at *
 rw [Rep_sl] at *
 obtain ⟨hl,a,cap,hv,hn,hz,h⟩:=h
 refine ⟨hl,a,cap,hv,hn,hz,?_⟩
 rcases h with h | ⟨b,o,cs,fr',ha,hF,hc,hr⟩
 ·exact .inl h
 ·refine .inr ⟨b,o,cs,fr',ha,?_,hc,?_⟩
  ·intro e
   simp [Value.ownBlock] at e
   subst e
   rw [hc] at hb;simp at hb;exact hT hb.2.1
  ·rw [show (ns.map fun n=>DV.val (.int .i64 (n:Nat)))=(ns.map fun n=>Value.int .i64 (n:Nat)).map DV.val from by simp [Function.comp_def]] at *
   exact (Reps_vals _ _).2 ((Reps_vals _ _).1 hr)
theorem viewsPost_empty {w W:World} (hb:Below w.heap.size w W) {g:Nat} (hg:g=W.heap.size):ViewsPost .none w (.returned (.tuple #[.slice (some ⟨g,0,none⟩) 0 0,.bool false])) (W.alloc (.cells #[] 39 )):=by
 subst hg
 refine ⟨_,[],rfl,hb.alloc hb.size _,PlsG.empty (heap_new _ _),fun g h=>?_⟩
 rcases h with h | ⟨u,hu,_⟩
 ·simp [Value.ownBlock] at h
  have:=hb.size
  omega
 ·simp at hu
set_option maxRecDepth 100000 in
theorem specViewsOf_any (s text:Bs) (w:World) (hs:Lim s.length) (ht:Lim text.length) :
 Calls Tryd.prog 4 #[str s,str text] w (ViewsPost (viewsOf s text) w):=by
 have C:=Lib.hid (l3Strategy_any s text hs ht w)
 clear hs ht
 go_enter Tryd.func4,Tryd.ntmps4
 go_wp2_with fail
 (with_reducible refine C.out.mono ?_)
 rintro en w1 ⟨ta,tc,s',v',a2,n2,c2,a3,n3,c3,rfl,hb1,hrt,hrb⟩
 have HQ:Hid (viewsOf s text=(specStrat s text).bind fun b=>viewsB (specType s).1 b (placesOf (specType s).1.args.length 0 []) (0,[]) [([113],-1)]):=rfl
 have HFT:=Lib.hid (fun b (h:specStrat s text=some b)=>And.intro (viewsOf_some (show rdTS s text=some ((specType s).1,b) by rw [rdTS_eq,h];rfl)) (specStrat_good h).1)
 generalize hT:(specType s).1=t at *
 obtain ⟨so,hso⟩:∃ so,so=specStrat s text:=⟨_,rfl⟩
 rw [<- hso] at hrb HQ HFT ⊢
 clear hT hso
 obtain ⟨W,hW,hbW,hz,b0,b1⟩:=boxes_2 w1 (.cells #[.slice ta t.args.length tc] 30) (.cells #[str s',.int .i64 v',.slice a2 n2 c2,.slice a3 n3 c3] 33)
 have HB:=Lib.hid (And.intro hb1 (And.intro hrt hrb))
 have HW:=Lib.hid (And.intro hW (And.intro hbW (And.intro hz (And.intro b0 b1))))
 clear hW hbW hz b0 b1 hb1 hrt hrb
 cases so with
 | none =>
   go_wp2_with fail
   go_ret2
   rw [HW.out.1]
   have hb1W:Below w.heap.size w W:=HB.out.1.trans (HW.out.2.1.mono HB.out.1.size)
   rw [HQ.out]
   exact viewsPost_empty hb1W (by rw [HW.out.2.2.1])
 | some b =>
   go_upto_region 5 with (fail)
   rw [HW.out.1]
   obtain ⟨X,hX,hbX,hzX,x0,x1,x2⟩:=boxes_3 W (.cells #[str [113]] 9) (.cells #[.int .i64 (-1)] 3) (.cells #[.slice (some ⟨w1.heap.size+1+1,0,none⟩) 1 1,.slice (some ⟨w1.heap.size+1+1+1,0,none⟩) 1 1] 39)
   have HE:Hid ((viewsOf s text=viewsB t b (placesOf t.args.length 0 []) (0,[]) [([113],-1)]/\fitB t.args b/\sizeB b<=200/\atomsT t<=15)/\Good t b):=Lib.hid (HFT.out b rfl)
   have hz:=HW.out.2.2.1
   rw [hz] at x0 x1 x2
   have hb1X:Below w1.heap.size w1 X:=HW.out.2.1.trans (hbX.mono HW.out.2.1.size)
   have hbwX:Below w.heap.size w X:=HB.out.1.trans (hb1X.mono HB.out.1.size)
   have kT:=(hbX.block _ (lt_of_heap HW.out.2.2.2.1)).trans HW.out.2.2.2.1
   have kN:=(hbX.block _ (lt_of_heap HW.out.2.2.2.2)).trans HW.out.2.2.2.2
   have KEY:Hid (∀ x,Below X.heap.size X x->x.cell? ⟨w1.heap.size,0,none⟩=some (.slice ta t.args.length tc)/\x.cell? ⟨w1.heap.size+1,0,none⟩=some (str s')/\x.cell? ⟨w1.heap.size+1,1,none⟩=some (.int .i64 v')/\x.cell? ⟨w1.heap.size+1,2,none⟩=some (.slice a2 n2 c2)/\x.cell? ⟨w1.heap.size+1,3,none⟩=some (.slice a3 n3 c3)/\x.cell? ⟨w1.heap.size+4,0,none⟩=some (.slice (some ⟨w1.heap.size+1+1,0,none⟩) 1 1)/\x.cell? ⟨w1.heap.size+4,1,none⟩=some (.slice (some ⟨w1.heap.size+1+1+1,0,none⟩) 1 1)):=Lib.hid (fun x hx=>by
    have key:∀ {p:Addr} {u:Value},X.cell? p=some u->x.cell? p=some u:=fun h=>(hx.cell (World.block_lt_of_cell? _ _ h)).trans h
    obtain ⟨i0,i1,i2,i3⟩:=cells_4 kN
    obtain ⟨m0,m1,_,_⟩:=cells_2 x2
    exact ⟨key (one_cell kT),key i0,key i1,key i2,key i3,key m0,key m1⟩)
   have hargs:=args_len t
   have ha7:t.args.length<=7:=by have:=HE.out.1.2.2.2;omega
   have hFr:∀ {F:Nat->Prop} {d:DV} {u:Value} (x:World),Below X.heap.size X x->(∀ i,i<X.heap.size->F i)->Rep (w.heap.size<=·) w1 d u->Rep F x d u:=fun x hx hF h=>(Rep.keep fun i o hi ho=>⟨hF i (by have:=lt_of_heap ho;have:=hb1X.size;omega),by rw [hx.block _ (by have:=lt_of_heap ho;have:=hb1X.size;omega),hb1X.block _ (lt_of_heap ho)];exact ho⟩).1 _ _ h
   have hFrs:∀ {F:Nat->Prop} {d:List DV} {u:List Value} (x:World),Below X.heap.size X x->(∀ i,i<X.heap.size->F i)->Reps (w.heap.size<=·) w1 d u->Reps F x d u:=fun x hx hF h=>(Rep.keep fun i o hi ho=>⟨hF i (by have:=lt_of_heap ho;have:=hb1X.size;omega),by rw [hx.block _ (by have:=lt_of_heap ho;have:=hb1X.size;omega),hb1X.block _ (lt_of_heap ho)];exact ho⟩).2 _ _ h
   have num0:∀ (F:Nat->Prop) (x:World),Rep F x (numD []) (.slice none 0 0):=fun F x=>Rep_sl.2 ⟨rfl,none,0,rfl,Nat.le_refl _,fun _=>rfl,.inl rfl⟩
   have CBG:Hid (∀ x,Below X.heap.size X x->Calls Tryd.prog 11 #[.agg #[str [],.int .i64 0,.slice none 0 0,.slice none 0 0,.slice none 0 0,.slice none 0 0,.int .i64 0],.agg #[str s',.int .i64 v',.slice a2 n2 c2,.slice a3 n3 c3],.agg #[.slice ta t.args.length tc],.int .i64 0] x fun en w'=>∃ ba bc aa ac,en=.returned (.agg #[str s',.int .i64 v',.slice a2 n2 c2,.slice a3 n3 c3,.slice ba t.args.length bc,.slice aa t.args.length ac,.int .i64 0])/\Below x.heap.size x w'/\NumP X.heap.size (List.replicate t.args.length 0) (List.range t.args.length) (.slice ba t.args.length bc) (.slice aa t.args.length ac) w'):=Lib.hid (fun x hx=>by
    refine (l3Begin_any (fun i=>i<X.heap.size) [] [] [] 0 none 0 0 none 0 0 none 0 none 0 0 s' v' a2 n2 c2 a3 n3 c3 t (.slice ta t.args.length tc) 0 x (num0 _ _) (num0 _ _) (hFr x hx (fun _ h=>h) HB.out.2.1) (by omega) (by simp) (by simp)).mono ?_
    rintro en w' ⟨ba,bc,aa,ac,rfl,hb,h1,h2⟩
    simp only [List.length_nil,Nat.zero_add,List.nil_append] at h1 h2 ⊢
    have hz:=hx.size
    exact ⟨ba,bc,aa,ac,rfl,hb,⟨(Rep.keep fun i o hi ho=>⟨Nat.le_trans hz hi,ho⟩).1 _ _ h1,(Rep.keep fun i o hi ho=>⟨Nat.le_trans hz hi,ho⟩).1 _ _ h2⟩⟩)
   obtain ⟨o,ho⟩:∃ o,o=viewsB t b (placesOf t.args.length 0 []) (0,[]) [([113],-1)]:=⟨_,rfl⟩
   have hspl:SpecPl (placesOf t.args.length 0 []) (0,[]) [([113],-1)] (List.replicate t.args.length 0) (List.range t.args.length) 0:=by
    have h0:SpecPl [] (0,[]) [([113],-1)] [] [] 0:=⟨rfl,rfl,fun i pl h=>by simp at h,rfl,113,-1,rfl⟩
    have:=h0.kid t.args.length 0 [] (by omega) (z:=-1) rfl
    simpa using this
   have CTV:Hid (∀ (x:World) (gO:Nat) (ba:Option Addr) (bc:Nat) (aa:Option Addr) (ac:Nat),Below X.heap.size X x->x.heap[gO]? = some (.cells #[] 39 (0,0))->X.heap.size<=gO->NumP X.heap.size (List.replicate t.args.length 0) (List.range t.args.length) (.slice ba t.args.length bc) (.slice aa t.args.length ac) x ->
    Calls Tryd.prog 10 #[.agg #[.slice ta t.args.length tc],.agg #[str s',.int .i64 v',.slice a2 n2 c2,.slice a3 n3 c3,.slice ba t.args.length bc,.slice aa t.args.length ac,.int .i64 0],.agg #[.slice (some ⟨w1.heap.size+1+1,0,none⟩) 1 1,.slice (some ⟨w1.heap.size+1+1+1,0,none⟩) 1 1],.slice (some ⟨gO,0,none⟩) 0 0] x (TvOut o (.slice (some ⟨gO,0,none⟩) 0 0) [] [] x)):=Lib.hid (fun x gO ba bc aa ac hx hO hgO hn=>by
    rw [ho]
    have hF:∀ i,i<X.heap.size->Fo (.slice (some ⟨gO,0,none⟩) 0 0) i:=fun i hi e=>by simp [Value.ownBlock] at e;omega
    have hrow:∀ {e:TypeId} {u:Value} {g:Nat},X.heap[g]? = some (.cells #[u] e (0,0))->Rep (Fo (.slice (some ⟨gO,0,none⟩) 0 0)) x (.sl e 1 1 [DV.val u]) (.slice (some ⟨g,0,none⟩) 1 1):=fun {e u g} hg=>by
     have hgx:=(hx.block _ (lt_of_heap hg)).trans hg
     have ho:Own x e 1 (.slice (some ⟨g,0,none⟩) 1 1) 1 [u]:=⟨by simp,.inr ⟨g,1,#[u],rfl,Nat.zero_le _,hgx,Nat.le_refl _,by decide,by simp,by simp⟩⟩
     exact ho.rep (fun i hi=>by simp [Value.ownBlock] at hi;subst hi;exact hF g (lt_of_heap hg)) ((Reps_vals [u] [u]).2 rfl)
    refine tv_any t b t.args (placesOf t.args.length 0 []) (0,[]) [([113],-1)] _ _ _ _ _ _ _ _ _ _ _ [] [] x ?_
    refine { t15:=HE.out.1.2.2.2,rt:=hFr x hx hF HB.out.2.1,ra:=⟨_,_,0,hspl,?_⟩,rm:=?_,rp:=?_,fit:=HE.out.1.2.1,wf:=HE.out.2.wf,pf:=PlFit.first t (by omega),bgl:=by simp,v1:=by simp,v60:=by simp,ll:=?_,pls:=PlsG.empty hO,cnt:=?_ }
    ·refine Reps.append (hFrs x hx hF (HB.out.2.2 b rfl)) (Reps_cons.2 ⟨_,_,rfl,?_,Reps_cons.2 ⟨_,_,rfl,?_,Reps_cons.2 ⟨_,_,rfl,Rep_val.2 rfl,Reps_nil.2 rfl⟩⟩⟩)
     ·exact numD_not hn.l hO int_play
     ·exact numD_not hn.r hO int_play
    ·exact hrow x0
    ·exact hrow x1
    ·rw [placesOf_length];simp;omega
    ·have:=HE.out.1.2.2.1;simp;omega)
   have HX:=Lib.hid (And.intro hX (And.intro hbwX hb1X.size))
   have HO:=Lib.hid (show viewsOf s text=o from HE.out.1.1.trans ho.symm)
   clear hFr hFrs num0 hspl ho hX hbX hzX x0 x1 x2 hb1X hbwX kT kN hargs
   rw [HX.out.1]
   refine cut_code (X:=Option Addr×Nat×Option Addr×Nat×Nat×Option Addr×Nat×Nat) (fun zz x=>(((((((((((((zz.put (some 26) (.agg #[.slice ta t.args.length tc])).put (some 27) (.agg #[str [],.int .i64 0,.slice none 0 0,.slice none 0 0,.slice none 0 0,.slice none 0 0,.int .i64 0])).put (some 28) (.agg #[str s',.int .i64 v',.slice a2 n2 c2,.slice a3 n3 c3])).put (some 29) (.agg #[.slice ta t.args.length tc])).put (some 30) (.agg #[str s',.int .i64 v',.slice a2 n2 c2,.slice a3 n3 c3,.slice x.1 t.args.length x.2.1,.slice x.2.2.1 t.args.length x.2.2.2.1,.int .i64 0])).put (some 31) (.agg #[.slice (some ⟨w1.heap.size+1+1,0,none⟩) 1 1,.slice (some ⟨w1.heap.size+1+1+1,0,none⟩) 1 1])).put (some 32) (.slice (some ⟨x.2.2.2.2.1,0,none⟩) 0 0)).put (some 33) (.tuple #[.slice x.2.2.2.2.2.1 x.2.2.2.2.2.2.1 x.2.2.2.2.2.2.2,.bool o.isSome])).put (some 25) (.tuple #[.slice x.2.2.2.2.2.1 x.2.2.2.2.2.2.1 x.2.2.2.2.2.2.2,.bool o.isSome])).put (some 34) (.slice x.2.2.2.2.2.1 x.2.2.2.2.2.2.1 x.2.2.2.2.2.2.2)).put (some 35) (.bool o.isSome)).put (some 10) (.slice x.2.2.2.2.2.1 x.2.2.2.2.2.2.1 x.2.2.2.2.2.2.2)).put (some 11) (.bool o.isSome))) (fun x w7=>Below X.heap.size X w7/\∀ out,o=some out->∃ us',PlsAt w7 out (.slice x.2.2.2.2.2.1 x.2.2.2.2.2.2.1 x.2.2.2.2.2.2.2) us'/\∀ g,PlB (.slice x.2.2.2.2.2.1 x.2.2.2.2.2.2.1 x.2.2.2.2.2.2.2) us' g->X.heap.size<=g) ?_ ?_
   ·refine wp_region_noPanic ?_
    refine wp_region_S (fun w'=>Below X.heap.size X w') (fun _=>false) (by kernel_rfl) ?_
    obtain ⟨y0,hy0⟩:∃ x,X.drew=x:=⟨_,rfl⟩
    rw [hy0]
    have hBy0:Below X.heap.size X y0:=by rw [<- hy0];exact Below.drew (Below.refl _ _)
    obtain ⟨tg0,htg0⟩:∃ x:Nat->Nat,x=fun _=>0:=⟨_,rfl⟩
    clear hy0 htg0
    refine wpAnyS_take 0 (v:=?_) (by kernel_rfl) (by kernel_rfl) (by kernel_rfl) (by kernel_rfl) (fun _ _ _ _ h=>h) hBy0 ?_ ?_
    rotate_left
    ·(intro oi ho;simp at ho;subst ho;refine Or.inl ⟨by rfl,fun w' hw'=>?_⟩;obtain ⟨e0,e1,e2,e3,e4,e5,e6⟩:=KEY.out w' hw';go_simp;try with_reducible rfl)
    (intro d hd;simp at hd;subst hd;simp only [Act.put,List.setIfInBounds_toArray,List.set_cons_zero,List.set_cons_succ])
    refine wpAnyS_take 1 (v:=?_) (by kernel_rfl) (by kernel_rfl) (by kernel_rfl) (by kernel_rfl) (fun _ _ _ _ h=>h) hBy0 ?_ ?_
    rotate_left
    ·(intro oi ho;simp at ho;subst ho;refine Or.inl ⟨by rfl,fun w' hw'=>?_⟩;go_simp;try with_reducible rfl)
    (intro d hd;simp at hd;subst hd;simp only [Act.put,List.setIfInBounds_toArray,List.set_cons_zero,List.set_cons_succ])
    refine wpAnyS_take 2 (v:=?_) (by kernel_rfl) (by kernel_rfl) (by kernel_rfl) (by kernel_rfl) (fun _ _ _ _ h=>h) hBy0 ?_ ?_
    rotate_left
    ·(intro oi ho;simp at ho;subst ho;refine Or.inl ⟨by rfl,fun w' hw'=>?_⟩;obtain ⟨e0,e1,e2,e3,e4,e5,e6⟩:=KEY.out w' hw';go_simp;try with_reducible rfl)
    (intro d hd;simp at hd;subst hd;simp only [Act.put,List.setIfInBounds_toArray,List.set_cons_zero,List.set_cons_succ])
    refine wpAnyS_take 3 (v:=?_) (by kernel_rfl) (by kernel_rfl) (by kernel_rfl) (by kernel_rfl) (fun _ _ _ _ h=>h) hBy0 ?_ ?_
    rotate_left
    ·(intro oi ho;simp at ho;subst ho;refine Or.inl ⟨by rfl,fun w' hw'=>?_⟩;obtain ⟨e0,e1,e2,e3,e4,e5,e6⟩:=KEY.out w' hw';go_simp;try with_reducible rfl)
    (intro d hd;simp at hd;subst hd;simp only [Act.put,List.setIfInBounds_toArray,List.set_cons_zero,List.set_cons_succ])
    refine wpAnyS_take 5 (v:=?_) (by kernel_rfl) (by kernel_rfl) (by kernel_rfl) (by kernel_rfl) (fun _ _ _ _ h=>h) hBy0 ?_ ?_
    rotate_left
    ·(intro oi ho;simp at ho;subst ho;refine Or.inl ⟨by rfl,fun w' hw'=>?_⟩;obtain ⟨e0,e1,e2,e3,e4,e5,e6⟩:=KEY.out w' hw';go_simp;try with_reducible rfl)
    (intro d hd;simp at hd;subst hd;simp only [Act.put,List.setIfInBounds_toArray,List.set_cons_zero,List.set_cons_succ])
    refine wpAnyS_two 4 6 (by kernel_rfl) ?_ ?_
    ·(intro o4 ho K' hK;simp at ho;subst ho)
     go_simp
     go_at_call 11
     (with_reducible refine (CBG.out _ hBy0).mono ?_)
     rintro en y1 ⟨ba,bc,aa,ac,rfl,hb,hnp⟩
     have CP:Hid (NumP X.heap.size (List.replicate t.args.length 0) (List.range t.args.length) (.slice ba t.args.length bc) (.slice aa t.args.length ac) y1):=hnp
     clear hnp
     have hBy1:Below X.heap.size X y1:=hBy0.trans (hb.mono hBy0.size)
     have hby1:=Lib.hid hb;clear hb
     refine hK.out _ _ (fun _=>?_) ?_
     ·exact hBy1
     clear hK K'
     (try simp only [Act.put,List.setIfInBounds_toArray,List.set_cons_zero,List.set_cons_succ])
     refine wpAnyS_one 6 (by kernel_rfl) ?_
     (intro o6 ho K' hK;simp at ho;subst ho)
     go_simp
     refine hK.out _ _ (fun _=>?_) ?_
     ·exact hBy1.alloc hBy1.size _
     clear hK K'
     (try simp only [Act.put,List.setIfInBounds_toArray,List.set_cons_zero,List.set_cons_succ])
     obtain ⟨y2,hnew⟩:∃ x,y1.alloc (.cells #[] 39)=x:=⟨_,rfl⟩
     obtain ⟨gO,hgO⟩:∃ g,y1.heap.size=g:=⟨_,rfl⟩
     rw [hnew,hgO]
     have hBy2:Below X.heap.size X y2:=by rw [<- hnew];exact hBy1.alloc hBy1.size _
     obtain ⟨tg2,htg⟩:∃ x,retag tg0 gO 1=x:=⟨_,rfl⟩
     have CP:Hid (NumP X.heap.size (List.replicate t.args.length 0) (List.range t.args.length) (.slice ba t.args.length bc) (.slice aa t.args.length ac) y2):=by rw [<- hnew];exact CP.out.below ((Below.refl _ _).alloc (Nat.le_refl _) _)
     have EO:Hid (y2.heap[gO]? = some (.cells #[] 39 (0,0))/\tg2 gO=1/\X.heap.size<=gO):=by rw [<- hnew,<- htg,<- hgO];exact ⟨heap_new _ _,by unfold retag;rw [if_pos rfl],hBy1.size⟩
     clear hnew hgO htg
     refine wpAnyS_one 7 (by kernel_rfl) ?_
     (intro o7 ho K' hK;simp at ho;subst ho)
     go_simp
     go_at_call 10
     (with_reducible refine (CTV.out y2 gO ba bc aa ac hBy2 EO.out.1 EO.out.2.2 CP.out).mono ?_)
     rintro en y3 ⟨a10,n10,c10,rfl,hbut,hsome⟩
     have hBy3:Below X.heap.size X y3:=hBy2.trans (hbut.toBelow hBy2.size fun i hi e=>by simp [Value.ownBlock] at e;have:=EO.out.2.2;omega)
     have HSO:Hid (∀ out,o=some out->∃ us',PlsAt y3 out (.slice a10 n10 c10) us'/\∀ g,PlB (.slice a10 n10 c10) us' g->X.heap.size<=g):=Lib.hid (fun out h=>by obtain ⟨us',hp,hr,hn⟩:=hsome out h;exact ⟨us',by simpa using hp,fun g hg=>hg.elim (fun e=>(hr g e).elim (fun e=>by simp [Value.ownBlock] at e;have:=EO.out.2.2;omega) (fun e=>Nat.le_trans hBy2.size e)) (fun ⟨u,hu,e⟩=>Nat.le_trans hBy2.size (hn u hu g e))⟩)
     clear hbut hsome
     refine hK.out _ _ (fun _=>?_) ?_
     ·exact hBy3
     clear hK K'
     (try simp only [Act.put,List.setIfInBounds_toArray,List.set_cons_zero,List.set_cons_succ])
     refine wpAnyS_take 8 (v:=?_) (by kernel_rfl) (by kernel_rfl) (by kernel_rfl) (by kernel_rfl) (fun _ _ _ _ h=>h) hBy3 ?_ ?_
     rotate_left
     ·(intro oi ho;simp at ho;subst ho;refine Or.inl ⟨by rfl,fun w' hw'=>?_⟩;go_simp;try with_reducible rfl)
     (intro d hd;simp at hd;subst hd;simp only [Act.put,List.setIfInBounds_toArray,List.set_cons_zero,List.set_cons_succ])
     refine wpAnyS_take 9 (v:=?_) (by kernel_rfl) (by kernel_rfl) (by kernel_rfl) (by kernel_rfl) (fun _ _ _ _ h=>h) hBy3 ?_ ?_
     rotate_left
     ·(intro oi ho;simp at ho;subst ho;refine Or.inl ⟨by rfl,fun w' hw'=>?_⟩;go_simp;try with_reducible rfl)
     (intro d hd;simp at hd;subst hd;simp only [Act.put,List.setIfInBounds_toArray,List.set_cons_zero,List.set_cons_succ])
     refine wpAnyS_take 10 (v:=?_) (by kernel_rfl) (by kernel_rfl) (by kernel_rfl) (by kernel_rfl) (fun _ _ _ _ h=>h) hBy3 ?_ ?_
     rotate_left
     ·(intro oi ho;simp at ho;subst ho;refine Or.inl ⟨by rfl,fun w' hw'=>?_⟩;go_simp;try with_reducible rfl)
     (intro d hd;simp at hd;subst hd;simp only [Act.put,List.setIfInBounds_toArray,List.set_cons_zero,List.set_cons_succ])
     refine wpAnyS_one 11 (by kernel_rfl) ?_
     (intro o11 ho K' hK;simp at ho;subst ho)
     go_simp
     refine hK.out _ _ (fun _=>?_) ?_
     ·exact hBy3
     clear hK K'
     (try simp only [Act.put,List.setIfInBounds_toArray,List.set_cons_zero,List.set_cons_succ])
     refine wpAnyS_one 12 (by kernel_rfl) ?_
     (intro o12 ho K' hK;simp at ho;subst ho)
     go_simp
     refine hK.out _ _ (fun _=>?_) ?_
     ·exact hBy3
     clear hK K'
     (try simp only [Act.put,List.setIfInBounds_toArray,List.set_cons_zero,List.set_cons_succ])
     refine wpAnyS_done (by kernel_rfl) (NoPanic.normal ?_) _
     exact ⟨rfl,⟨ba,bc,aa,ac,gO,a10,n10,c10⟩,by rfl,hBy3,HSO.out⟩
    ·(intro o6 ho K' hK;simp at ho;subst ho)
     go_simp
     refine hK.out _ _ (fun _=>?_) ?_
     ·exact hBy0.alloc hBy0.size _
     clear hK K'
     (try simp only [Act.put,List.setIfInBounds_toArray,List.set_cons_zero,List.set_cons_succ])
     obtain ⟨y6,hnew⟩:∃ x,y0.alloc (.cells #[] 39)=x:=⟨_,rfl⟩
     obtain ⟨gO,hgO⟩:∃ g,y0.heap.size=g:=⟨_,rfl⟩
     rw [hnew,hgO]
     have hBy6:Below X.heap.size X y6:=by rw [<- hnew];exact hBy0.alloc hBy0.size _
     obtain ⟨tg6,htg⟩:∃ x,retag tg0 gO 1=x:=⟨_,rfl⟩
     have EO:Hid (y6.heap[gO]? = some (.cells #[] 39 (0,0))/\tg6 gO=1/\X.heap.size<=gO):=by rw [<- hnew,<- htg,<- hgO];exact ⟨heap_new _ _,by unfold retag;rw [if_pos rfl],hBy0.size⟩
     clear hnew hgO htg
     refine wpAnyS_one 4 (by kernel_rfl) ?_
     (intro o4 ho K' hK;simp at ho;subst ho)
     go_simp
     go_at_call 11
     (with_reducible refine (CBG.out _ hBy6).mono ?_)
     rintro en y7 ⟨ba,bc,aa,ac,rfl,hb,hnp⟩
     have CP:Hid (NumP X.heap.size (List.replicate t.args.length 0) (List.range t.args.length) (.slice ba t.args.length bc) (.slice aa t.args.length ac) y7):=hnp
     clear hnp
     have hBy7:Below X.heap.size X y7:=hBy6.trans (hb.mono hBy6.size)
     have EO:Hid (y7.heap[gO]? = some (.cells #[] 39 (0,0))/\tg6 gO=1/\X.heap.size<=gO):=⟨(hb.block _ (lt_of_heap EO.out.1)).trans EO.out.1,EO.out.2⟩
     have hby7:=Lib.hid hb;clear hb
     refine hK.out _ _ (fun _=>?_) ?_
     ·exact hBy7
     clear hK K'
     (try simp only [Act.put,List.setIfInBounds_toArray,List.set_cons_zero,List.set_cons_succ])
     refine wpAnyS_one 7 (by kernel_rfl) ?_
     (intro o7 ho K' hK;simp at ho;subst ho)
     go_simp
     go_at_call 10
     (with_reducible refine (CTV.out y7 gO ba bc aa ac hBy7 EO.out.1 EO.out.2.2 CP.out).mono ?_)
     rintro en y8 ⟨a10,n10,c10,rfl,hbut,hsome⟩
     have hBy8:Below X.heap.size X y8:=hBy7.trans (hbut.toBelow hBy7.size fun i hi e=>by simp [Value.ownBlock] at e;have:=EO.out.2.2;omega)
     have HSO:Hid (∀ out,o=some out->∃ us',PlsAt y8 out (.slice a10 n10 c10) us'/\∀ g,PlB (.slice a10 n10 c10) us' g->X.heap.size<=g):=Lib.hid (fun out h=>by obtain ⟨us',hp,hr,hn⟩:=hsome out h;exact ⟨us',by simpa using hp,fun g hg=>hg.elim (fun e=>(hr g e).elim (fun e=>by simp [Value.ownBlock] at e;have:=EO.out.2.2;omega) (fun e=>Nat.le_trans hBy7.size e)) (fun ⟨u,hu,e⟩=>Nat.le_trans hBy7.size (hn u hu g e))⟩)
     clear hbut hsome
     refine hK.out _ _ (fun _=>?_) ?_
     ·exact hBy8
     clear hK K'
     (try simp only [Act.put,List.setIfInBounds_toArray,List.set_cons_zero,List.set_cons_succ])
     refine wpAnyS_take 8 (v:=?_) (by kernel_rfl) (by kernel_rfl) (by kernel_rfl) (by kernel_rfl) (fun _ _ _ _ h=>h) hBy8 ?_ ?_
     rotate_left
     ·(intro oi ho;simp at ho;subst ho;refine Or.inl ⟨by rfl,fun w' hw'=>?_⟩;go_simp;try with_reducible rfl)
     (intro d hd;simp at hd;subst hd;simp only [Act.put,List.setIfInBounds_toArray,List.set_cons_zero,List.set_cons_succ])
     refine wpAnyS_take 9 (v:=?_) (by kernel_rfl) (by kernel_rfl) (by kernel_rfl) (by kernel_rfl) (fun _ _ _ _ h=>h) hBy8 ?_ ?_
     rotate_left
     ·(intro oi ho;simp at ho;subst ho;refine Or.inl ⟨by rfl,fun w' hw'=>?_⟩;go_simp;try with_reducible rfl)
     (intro d hd;simp at hd;subst hd;simp only [Act.put,List.setIfInBounds_toArray,List.set_cons_zero,List.set_cons_succ])
     refine wpAnyS_take 10 (v:=?_) (by kernel_rfl) (by kernel_rfl) (by kernel_rfl) (by kernel_rfl) (fun _ _ _ _ h=>h) hBy8 ?_ ?_
     rotate_left
     ·(intro oi ho;simp at ho;subst ho;refine Or.inl ⟨by rfl,fun w' hw'=>?_⟩;go_simp;try with_reducible rfl)
     (intro d hd;simp at hd;subst hd;simp only [Act.put,List.setIfInBounds_toArray,List.set_cons_zero,List.set_cons_succ])
     refine wpAnyS_one 11 (by kernel_rfl) ?_
     (intro o11 ho K' hK;simp at ho;subst ho)
     go_simp
     refine hK.out _ _ (fun _=>?_) ?_
     ·exact hBy8
     clear hK K'
     (try simp only [Act.put,List.setIfInBounds_toArray,List.set_cons_zero,List.set_cons_succ])
     refine wpAnyS_one 12 (by kernel_rfl) ?_
     (intro o12 ho K' hK;simp at ho;subst ho)
     go_simp
     refine hK.out _ _ (fun _=>?_) ?_
     ·exact hBy8
     clear hK K'
     (try simp only [Act.put,List.setIfInBounds_toArray,List.set_cons_zero,List.set_cons_succ])
     refine wpAnyS_done (by kernel_rfl) (NoPanic.normal ?_) _
     exact ⟨rfl,⟨ba,bc,aa,ac,gO,a10,n10,c10⟩,by rfl,hBy8,HSO.out⟩
   rintro ⟨ba,bc,aa,ac,gO,a10,n10,c10⟩ W9 ⟨hB9,hs9⟩
   dsimp only at hs9
   simp only [pQ,pN,pZ,pS]
   have hbw9:Below w.heap.size w W9:=HX.out.2.1.trans (hB9.mono HX.out.2.1.size)
   have HF:=Lib.hid (And.intro hbw9 hs9)
   clear hB9 hs9 hbw9
   rcases o with _ | out
   ·go_wp2_with fail
    go_ret2
    rw [HO.out]
    exact viewsPost_empty HF.out.1 rfl
   ·go_wp2_with fail
    go_ret2
    rw [HO.out]
    obtain ⟨us',hp,hn⟩:=HF.out.2 out rfl
    exact ⟨_,us',rfl,HF.out.1,hp,fun g hg=>Nat.le_trans HX.out.2.1.size (hn g hg)⟩
mutual
theorem viewsB_len (t:Ty):∀ (b:Bd) (lv:List Place) (bg:Place) (v:Pl) (out:List Pl),viewsB t b lv bg v=some out->∀ l∈out,l.length<=60
 | .leaf c,lv,bg,v,out,h=>by
   rw [viewsB] at h
   split at h
   ·obtain rfl:=Option.some.inj h
    intro l hl;simp at hl
   ·split at h
    ·simp at h
    ·obtain rfl:=Option.some.inj h
     intro l hl
     rw [List.mem_singleton] at hl
     subst hl
     rw [withQ_length];omega
 | .ask l ss y n,lv,bg,v,out,h=>by
   rw [viewsB] at h
   split at h
   ·simp at h
   ·rw [joinO_append] at h
    simp only [joinO,Option.map_eq_some_iff,Option.bind_eq_some_iff] at h
    obtain ⟨_,⟨a,ha,_,⟨b,hb,_,⟨c,hc,_,h0,rfl⟩,rfl⟩,rfl⟩,rfl⟩:=h
    obtain rfl:=Option.some.inj h0
    intro l hl
    rcases List.mem_cons.1 hl with rfl | hl
    ·rw [withQ_length];omega
    ·rcases List.mem_append.1 hl with hl | hl
     ·exact viewsKs_len t ss _ _ _ _ _ a ha l hl
     ·rcases List.mem_append.1 hl with hl | hl
      ·exact viewsB_len t y _ _ _ b hb l hl
      ·rcases List.mem_append.1 hl with hl | hl
       ·exact viewsB_len t n _ _ _ c hc l hl
       ·simp at hl
theorem viewsKs_len (t:Ty):∀ (ss:List Bd) (j:Nat) (path:Bs) (k:Nat) (lv:List Place) (asked:Pl) (out:List Pl),joinO (viewsKs t ss j path k lv asked)=some out->∀ l∈out,l.length<=60
 | [],_,_,_,_,_,out,h=>by
   rw [viewsKs,joinO] at h
   obtain rfl:=Option.some.inj h
   intro l hl;simp at hl
 | s::ss,j,path,k,lv,asked,out,h=>by
   rw [viewsKs,joinO] at h
   simp only [Option.map_eq_some_iff,Option.bind_eq_some_iff] at h
   obtain ⟨a,ha,b,hb,rfl⟩:=h
   intro l hl
   rcases List.mem_append.1 hl with hl | hl
   ·exact viewsB_len t s _ _ _ a ha l hl
   ·exact viewsKs_len t ss _ _ _ _ _ b hb l hl
end
theorem viewsOf_bound (s text:Bs):((viewsOf s text).getD []).length<=200/\∀ l∈(viewsOf s text).getD [],l.length<=60:=by
 unfold viewsOf
 cases h:specStrat s text with
 | none=>simp
 | some b =>
   simp only [Option.bind_some]
   have hz:=specStrat_size h
   cases hv:viewsB (specType s).1 b (placesOf (specType s).1.args.length 0 []) (0,[]) [([113],-1)] with
   | none=>simp
   | some out =>
     have h1:=viewsB_count _ b _ _ _ out hv
     have h2:=viewsB_len _ b _ _ _ out hv
     exact ⟨by simp only [Option.getD_some];omega,h2⟩
theorem sum_len (L:List Pl) (h:∀ l∈L,l.length<=60):(L.map List.length).sum<=60*L.length:=by
 induction L with
 | nil=>simp
 | cons l L ih =>
   have h1:=h l (by simp)
   have h2:=ih (fun x hx=>h x (by simp [hx]))
   simp only [List.map_cons,List.sum_cons,List.length_cons];omega
set_option maxRecDepth 100000 in
theorem fnExactViewsOf_any (s text:Bs) (w:World) (hg:Glob w) :
 Calls Tryd.prog 3 #[str s,str text] w fun en w'=>en=.returned (.bool true)/\Below w.heap.size w w':=by
 by_cases ha:1048576<s.length
 ·have ha':(1048576:Int)<(s.length:Int):=by omega
  go_enter Tryd.func3,Tryd.ntmps3
  go_wp2_with fail
  go_ret
  exact ⟨rfl,Below.refl _ _⟩
 have ha':¬ (1048576:Int)<(s.length:Int):=by omega
 by_cases hb:1048576<text.length
 ·have hb':(1048576:Int)<(text.length:Int):=by omega
  go_enter Tryd.func3,Tryd.ntmps3
  go_wp2_with fail
  go_ret
  exact ⟨rfl,Below.refl _ _⟩
 have hb':¬ (1048576:Int)<(text.length:Int):=by omega
 have hs:Lim s.length:=show _<=_ by omega
 have ht:Lim text.length:=show _<=_ by omega
 obtain ⟨hL,hl⟩:=viewsOf_bound s text
 have CS:=Lib.hid (specViewsOf_any s text w hs ht)
 have CI:Hid (∀ x,Glob x->Calls Tryd.prog 5 #[str s,str text] x (ViewsPost (viewsOf s text) x)):=Lib.hid (fun x hx=>implViewsOf_any s text x hx hs ht)
 unfold ViewsPost at CS CI
 generalize viewsOf s text=o at *
 obtain ⟨L,hLo⟩:∃ L,o.getD []=L:=⟨_,rfl⟩
 obtain ⟨bl,hbl⟩:∃ bl,o.isSome=bl:=⟨_,rfl⟩
 rw [hLo,hbl] at CS CI
 rw [hLo] at hL hl
 clear hLo hbl
 have hmk:markEnd 1 (L.map List.length)<=10000000:=by have:=sum_len L hl;unfold markEnd;omega
 have CM:=Lib.hid (fun v us x h=>markPlayS_any L v us x h (by omega) hmk)
 have CH:=Lib.hid (fun v us x h=>heldPlayS_any (L.map List.length) v us x h (by rw [List.length_map];omega) hmk)
 have CE:=Lib.hid (fun v v' us us' x h h'=>eqPlayS_any L v v' us us' x h h' (by omega) (fun l h=>by have:=hl l h;omega))
 obtain ⟨M,hM⟩:∃ M,M=markEnd 1 (L.map List.length):=⟨_,rfl⟩
 rw [<- hM] at CM CH
 have HG:=Lib.hid hg
 clear hg ha hb hL hl hmk hs ht hM
 have hM0:¬ (M:Int)<0:=by omega
 have hM1:((M:Int) != (M:Int))=false:=by simp
 have e0:(bl != bl)=false:=by simp
 go_enter Tryd.func3,Tryd.ntmps3
 go_wp2_with fail
 refine CS.out.mono ?_
 rintro en w1 ⟨vW,usW,rfl,hb1,hpW,_⟩
 have H1:=Lib.hid (And.intro hb1 hpW);clear hb1 hpW CS
 have C2:=Lib.hid (CI.out w1 (HG.out.below H1.out.1))
 go_wp2_with fail
 refine C2.out.mono ?_
 rintro en w2 ⟨vG,usG,rfl,hb2,hpG,hfG⟩
 have H2:=Lib.hid (And.intro hb2 (And.intro (PlsG.below H1.out.2 hb2:PlsAt w2 L vW usW) (And.intro hpG hfG)));clear hb2 hpG hfG C2
 have C3:=Lib.hid (CE.out vG vW usG usW w2 H2.out.2.2.1 H2.out.2.1)
 go_wp2_with fail
 refine C3.out.mono ?_
 rintro en w3 ⟨rfl,hb3⟩
 have H3:=Lib.hid (And.intro (H2.out.1.trans (hb3.mono H2.out.1.size)) (And.intro (PlsG.below H2.out.2.1 hb3:PlsAt w3 L vW usW) (PlsG.below H2.out.2.2.1 hb3:PlsAt w3 L vG usG)));clear hb3 C3
 have C4:=Lib.hid (CM.out vG usG w3 H3.out.2.2)
 go_wp2_with fail
 refine C4.out.mono ?_
 rintro en w4 ⟨rfl,hb4,hpm⟩
 have hb14:Below w1.heap.size w1 w4:=H3.out.1.trans (hb4.toBelow H3.out.1.size fun i hi e=>by have:=H2.out.2.2.2 i e;omega)
 have hpW4:PlsAt w4 L vW usW:=PlsG.but H3.out.2.1 hb4 (fun b hb e=>by have h1:=H2.out.2.2.2 b e;have h2:=PlsG.lt H1.out.2 hb;omega)
 have H4:=Lib.hid (And.intro hb14 (And.intro hpW4 hpm));clear hb14 hpW4 hpm hb4 C4
 have C5:=Lib.hid (CH.out vG usG w4 H4.out.2.2)
 go_wp2_with fail
 refine C5.out.mono ?_
 rintro en w5 ⟨rfl,hb5⟩
 have H5:=Lib.hid (And.intro (H4.out.1.trans (hb5.mono H4.out.1.size)) (And.intro (PlsG.below H4.out.2.1 hb5:PlsAt w5 L vW usW) (PlsG.below H4.out.2.2 hb5)));clear hb5 C5
 have C6:=Lib.hid (CI.out w5 ((HG.out.below H1.out.1).below H5.out.1))
 go_wp2_with fail
 refine C6.out.mono ?_
 rintro en w6 ⟨vH,usH,rfl,hb6,hpH,_⟩
 have H6:=Lib.hid (And.intro (H5.out.1.trans (hb6.mono H5.out.1.size)) (And.intro (PlsG.below H5.out.2.1 hb6:PlsAt w6 L vW usW) (And.intro (PlsG.below H5.out.2.2 hb6) hpH)));clear hb6 hpH C6
 have C7:=Lib.hid (CE.out vH vW usH usW w6 H6.out.2.2.2 H6.out.2.1)
 go_wp2_with fail
 refine C7.out.mono ?_
 rintro en w7 ⟨rfl,hb7⟩
 have H7:=Lib.hid (And.intro (H6.out.1.trans (hb7.mono H6.out.1.size)) (PlsG.below H6.out.2.2.1 hb7));clear hb7 C7
 have C8:=Lib.hid (CH.out vG usG w7 H7.out.2)
 go_wp2_with fail
 refine C8.out.mono ?_
 rintro en w8 ⟨rfl,hb8⟩
 have HF:=Lib.hid (H1.out.1.trans ((H7.out.1.trans (hb8.mono H7.out.1.size)).mono H1.out.1.size));clear hb8 C8
 go_wp2_with fail
 go_ret
 exact ⟨rfl,HF.out⟩
end Go.Proofs.YthoimoenbccflaaDoor

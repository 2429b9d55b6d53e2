/- Walks of functions that the statement reaches, and plain words. No conditions. -/
import Derived.Test.YthoimoenbccflaaDoorQ12
set_option linter.unusedVariables false
set_option linter.unusedSimpArgs false
set_option maxHeartbeats 4000000
namespace Go.Proofs.YthoimoenbccflaaDoor
open Go.RowKit
mutual
theorem coll_any (t:Ty):∀ b:Bd,CollSaid t b
 | .leaf c=>fun hand lv bg v kv bv lsl mv pt va vw us L w h=>by
   by_cases hc:c=117
   ·subst hc;exact coll_u t hand lv bg v kv bv lsl mv pt va vw us L w h
   ·by_cases hv:60<=v.length
    ·exact coll_leaf_long t c hc hand lv bg v kv bv lsl mv pt va vw us L w h hv
    ·exact coll_leaf t c hc hand lv bg v kv bv lsl mv pt va vw us L w h hv
 | .ask l ss y n=>fun hand lv bg v kv bv lsl mv pt va vw us L w h=>by
   by_cases hv:59<=v.length
   ·exact coll_ask_long t l ss y n hand lv bg v kv bv lsl mv pt va vw us L w h hv
   ·exact coll_ask t l ss y n (colls_any t ss) (coll_any t y) (coll_any t n) hand lv bg v kv bv lsl mv pt va vw us L w h hv
theorem colls_any (t:Ty):∀ ss:List Bd,∀ s∈ss,CollSaid t s
 | [],s,h=>by simp at h
 | a::ss,s,h=>(List.mem_cons.1 h).elim (fun e=>e ▸ coll_any t a) (colls_any t ss s)
end
def viewsOf (s text:Bs):Option (List Pl):=(specStrat s text).bind fun b=>viewsB (specType s).1 b (placesOf (specType s).1.args.length 0 []) (0,[]) [([113],-1)]
def ViewsPost (o:Option (List Pl)) (w:World) (en:Ending) (w':World):Prop :=
 ∃ vw us,en=.returned (.tuple #[vw,.bool o.isSome])/\Below w.heap.size w w'/\PlsAt w' (o.getD []) vw us/\∀ g,PlB vw us g->w.heap.size<=g
theorem ViewsPost.none {w w':World} (hb:Below w.heap.size w w'):ViewsPost .none w (.returned (.tuple #[.slice .none 0 0,.bool false])) w' :=
 ⟨_,[],rfl,hb,PlsG.nil w',fun g h=>by
  rcases h with h | ⟨u,hu,_⟩
  ·simp [Value.ownBlock] at h
  ·simp at hu⟩
theorem viewsOf_none {s text:Bs} (h:rdTS s text=none):viewsOf s text=none:=by
 rw [rdTS_eq,Option.map_eq_none_iff] at h
 unfold viewsOf;rw [h];rfl
theorem viewsOf_some {s text:Bs} {t:Ty} {b:Bd} (h:rdTS s text=some (t,b)):viewsOf s text=viewsB t b (placesOf t.args.length 0 []) (0,[]) [([113],-1)]/\fitB t.args b/\sizeB b<=200/\atomsT t<=15:=by
 have h3:=rdTS_size h
 have h4:atomsT t<=15:=by
  unfold rdTS at h
  cases hk:rdKind s with
  | none=>rw [hk] at h;simp at h
  | some t' =>
    rw [hk] at h
    cases hr:rdStrat t' text with
    | none=>simp [hr] at h
    | some b' =>
      simp [hr] at h
      rw [<- h.1];exact rdKind_le hk
 rw [rdTS_eq,Option.map_eq_some_iff] at h
 obtain ⟨b',h,e⟩:=h
 simp at e;obtain ⟨rfl,rfl⟩:=e
 refine ⟨?_,specStrat_fit h,h3,h4⟩
 unfold viewsOf;rw [h];rfl
theorem PlFit.first (t:Ty) (h:t.args.length<=10):PlFit t (placesOf t.args.length 0 []) t.args 1:=by
 have h0:PlFit t [] [] 0:=⟨rfl,fun i a h=>by simp at h⟩
 have:=h0.kid (m:=1) (k:=0) (by omega) (by omega) (atT_nil t) h
 simpa using this
set_option maxRecDepth 100000 in
theorem implViewsOf_any (s text:Bs) (w:World) (hg:Glob w) (hs:Lim s.length) (ht:Lim text.length) :
 Calls Tryd.prog 5 #[str s,str text] w (ViewsPost (viewsOf s text) w):=by
 have HG:=Lib.hid hg
 have C:=Lib.hid (strategy_any s text w hg hs ht)
 clear hg hs ht
 go_enter Tryd.func5,Tryd.ntmps5
 go_wp2_with fail
 (with_reducible refine C.out.mono ?_)
 rintro en w1 ⟨kv,bv,rfl,hb1,hn1,hy1⟩
 clear C
 cases hq:rdTS s text with
 | none =>
   obtain rfl:=hn1 hq
   have E:=Lib.hid (viewsOf_none hq)
   have HB:=Lib.hid hb1
   clear hn1 hy1 hq hb1
   go_wp2_with fail
   go_ret2
   rw [E.out]
   exact ViewsPost.none HB.out
 | some tb =>
   obtain ⟨t,b⟩:=tb
   obtain ⟨rk,rb⟩:=hy1 t b hq
   obtain ⟨E,hfit,h200,h15⟩:=viewsOf_some hq
   obtain ⟨ka,ks,rfl,_⟩:=encK_open rk
   obtain ⟨ba,rfl⟩:=encB_ptr rb
   have hg1:=HG.out.below hb1
   have hargs:=args_len t
   have ha7:t.args.length<=7:=by omega
   obtain ⟨W,hW,hbW,hz,bx⟩:=box_1 w1 (.cells #[.pointer (some ⟨ka,0,none⟩),.slice none 0 0] 50)
   have CS:=Lib.hid (standOf_any (w.heap.size<=·) t (.pointer (some ⟨ka,0,none⟩)) (.pointer (some ⟨ba,0,none⟩)) 0 W (hg1.below hbW) (rk.below hbW (fun _ h=>h)) h15 ⟨_,rfl⟩)
   have HE:=Lib.hid (And.intro E (And.intro hfit (And.intro h200 (And.intro h15 ha7))))
   have HR:=Lib.hid (And.intro rk (And.intro rb (And.intro hb1 hg1)))
   have HW:=Lib.hid (And.intro hW (And.intro hbW (And.intro hz bx)))
   clear hn1 hy1 hq hb1 rk rb E hfit h200 h15 hg1 hargs ha7 hW hbW hz bx
   go_upto_region 5 with (fail)
   rw [HW.out.1]
   go_wp2_with fail
   refine CS.out.mono ?_
   rintro en w2 ⟨la,lc,rfl,hb2,hlv⟩
   obtain ⟨X,hX,hbX,hzX,x0,x1⟩:=boxes_2 w2 (.cells #[str [113]] 9) (.cells #[.int .i64 (-1)] 3)
   have hWX:Below W.heap.size W X:=hb2.trans (hbX.mono hb2.size)
   have hb1X:Below w1.heap.size w1 X:=HW.out.2.1.trans (hWX.mono HW.out.2.1.size)
   have va_lt:w1.heap.size<W.heap.size:=by rw [HW.out.2.2.1];omega
   have z2:=hb2.size
   have z1:=HR.out.2.2.1.size
   have hfv:∀ g,g≠w1.heap.size->Fv w1.heap.size (.slice none 0 0) g:=fun g hg=>⟨hg,fun e=>by simp [Value.ownBlock] at e⟩
   have keepR:∀ {d:DV} {x:Value},Rep (w.heap.size<=·) w1 d x->Rep (Fv w1.heap.size (.slice none 0 0)) X d x:=fun h =>
    (Rep.keep fun i o _ ho=>⟨hfv i (by have:=lt_of_heap ho;omega),by rw [hb1X.block _ (lt_of_heap ho)];exact ho⟩).1 _ _ h
   have CI:CollIn t b t.args (placesOf t.args.length 0 []) (0,[]) [([113],-1)] (.pointer (some ⟨ka,0,none⟩)) (.pointer (some ⟨ba,0,none⟩)) (.slice la (placesOf t.args.length 0 []).length lc) (.slice (some ⟨w2.heap.size,0,none⟩) 1 1) (.slice (some ⟨w2.heap.size+1,0,none⟩) 1 1) w1.heap.size (.slice none 0 0) [] [] X:=by
    refine { g:=HR.out.2.2.2.below hb1X,t15:=HE.out.2.2.2.1,rk:=keepR HR.out.1,rb:=keepR HR.out.2.1,rl:=?_,rm:=?_,rp:=?_,fit:=HE.out.2.1,pf:=PlFit.first t (by have:=HE.out.2.2.2.2;omega),bgl:=by simp,v1:=by simp,v60:=by simp,ll:=?_,blk:=(hWX.block _ va_lt).trans HW.out.2.2.2,pls:=PlsG.nil X,cnt:=?_,ng:=?_ }
    ·exact (Rep.keep fun i o hi ho=>⟨hfv i (by have:=hi;omega),by rw [hbX.block _ (lt_of_heap ho)];exact ho⟩).1 _ _ hlv
    ·have ho:Own X 9 1 (.slice (some ⟨w2.heap.size,0,none⟩) 1 1) 1 [str [113]]:=by rw [<- hX];exact (Own.litAt #[str [113]] 1 w2.heap.size rfl (by decide) rfl).alloc _
     exact ho.rep (fun g hg=>hfv g (by simp [Value.ownBlock] at hg;omega)) ((Reps_vals [str [113]] [str [113]]).2 rfl)
    ·have ho:Own X 3 1 (.slice (some ⟨w2.heap.size+1,0,none⟩) 1 1) 1 [.int .i64 (-1)]:=by rw [<- hX];exact Own.litAt #[.int .i64 (-1)] 1 (w2.heap.size+1) (by simp) (by decide) rfl
     exact ho.rep (fun g hg=>hfv g (by simp [Value.ownBlock] at hg;omega)) ((Reps_vals [.int .i64 (-1)] [.int .i64 (-1)]).2 rfl)
    ·rw [placesOf_length];have:=HE.out.2.2.2.2;simp;omega
    ·have:=HE.out.2.2.1;simp;omega
    ·intro g hg
     rcases hg with rfl | hg
     ·exact HR.out.2.2.2.new (Nat.le_refl _)
     ·simp [Value.ownBlock] at hg
   have CC:=Lib.hid (coll_any t b _ _ _ _ _ _ _ _ _ _ _ _ _ _ CI)
   have HX:=Lib.hid (And.intro hX (HR.out.2.2.1.trans (hb1X.mono HR.out.2.2.1.size)))
   have HZ:=Lib.hid (show w.heap.size<=X.heap.size from Nat.le_trans z1 hb1X.size)
   clear CI hX hbX hzX x0 x1 hWX hb1X va_lt z2 hfv hb2 hlv keepR z1
   go_wp2_with fail
   rw [HX.out.1]
   refine CC.out.mono ?_
   rintro en w3 ⟨rfl,hb3,hs3⟩
   have EV:=HE.out.1
   generalize viewsB t b (placesOf t.args.length 0 []) (0,[]) [([113],-1)]=o at *
   have h1w:=HR.out.2.2.1.size
   have hbw:Below w.heap.size w w3:=HX.out.2.trans (hb3.toBelow HZ.out fun i hi e=>by
    rcases e with e | e
    ·omega
    ·simp [Value.ownBlock] at e)
   have HF:=Lib.hid (And.intro EV (And.intro hbw hs3))
   clear EV hbw hs3 hb3 HE CC HX h1w
   cases o with
   | none =>
     go_wp2_with fail
     go_ret2
     rw [HF.out.1]
     exact ViewsPost.none HF.out.2.1
   | some out =>
     obtain ⟨vw',us',hblk,hpls,hrow,hnew⟩:=HF.out.2.2 out rfl
     obtain ⟨_,k1,_,_⟩:=cells_2 hblk
     have HL:=Lib.hid (And.intro hpls (And.intro hrow hnew))
     have hw1:=HR.out.2.2.1.size
     clear hblk hpls hrow hnew
     go_wp2_with fail
     go_ret2
     rw [HF.out.1]
     refine ⟨_,us',rfl,HF.out.2.1,?_,fun g hg=>?_⟩
     ·have:=HL.out.1
      simpa using this
     ·rcases hg with hg | ⟨u,hu,hg⟩
      ·rcases HL.out.2.1 g hg with h | h
       ·simp [Value.ownBlock] at h
       ·exact Nat.le_trans HZ.out h
      ·exact Nat.le_trans HZ.out (HL.out.2.2 u hu g hg)
theorem PlsG.cells {w:World} {v:Value} {us:List (Value×Value)} {xs:Rows2} (h:PlsG w v us xs) {i:Nat} {u:Value×Value} (hu:us[i]? = some u):∃ g c,v=.slice (some ⟨g,0,none⟩) us.length c/\w.cell? ⟨g,i*2,none⟩=some u.1/\w.cell? ⟨g,i*2+1,none⟩=some u.2:=by
 obtain ⟨h1,h2⟩:=plC_at us i u hu
 obtain ⟨g,c,e,k1⟩:=h.own.at h1
 obtain ⟨g',c',e',k2⟩:=h.own.at h2
 rw [e] at e'
 simp only [Value.slice.injEq,Option.some.injEq,Addr.mk.injEq,true_and] at e'
 obtain ⟨⟨rfl,_⟩,_⟩:=e'
 exact ⟨g,c,e,k1,k2⟩
theorem PlsG.slice {w:World} {v:Value} {us:List (Value×Value)} {xs:Rows2} (h:PlsG w v us xs):∃ a c,v=.slice a us.length c:=h.own.slice
set_option maxRecDepth 100000 in
theorem eqPlayS_any (L:List Pl) (v v':Value) (us us':List (Value×Value)) (w:World) (h:PlsAt w L v us) (h':PlsAt w L v' us') (hL:L.length<=100000) (hl:∀ l∈L,l.length<=100000) :
 Calls Tryd.prog 6 #[v,v'] w fun en w'=>en=.returned (.bool true)/\Below w.heap.size w w':=by
 obtain ⟨a,c,rfl⟩:=h.slice
 obtain ⟨a',c',rfl⟩:=h'.slice
 have e1:=PlsAt.length h
 have e2:=PlsAt.length h'
 rw [e1] at h
 rw [e2] at h'
 rw [e1,e2]
 have hn0:((L.length:Int) != (L.length:Int))=false:=by simp
 have H:=Lib.hid (And.intro h (And.intro h' (And.intro e1 (And.intro e2 hl))))
 clear h h' e1 e2 hl
 go_enter Tryd.func6,Tryd.ntmps6
 go_wp2_with fail
 go_loopw [5] (fun i wr=>∃ k:Nat,k<=L.length/\i=.int .i64 k/\Below w.heap.size w wr) (fun i _=>L.length-(intOf i).toNat)
 case atStart=>exact ⟨0,Nat.zero_le _,rfl,Below.refl _ _⟩
 case round =>
  rename_i wr
  obtain ⟨k,hk,rfl,hb⟩:=hrel
  have HB:=Lib.hid hb;clear hb
  by_cases hlt:k<L.length
  ·have hlt':(k:Int)<(L.length:Int):=by omega
   obtain ⟨l,hlk⟩:∃ l,L[k]? = some l:=⟨_,List.getElem?_eq_getElem hlt⟩
   obtain ⟨u,huk⟩:∃ u,us[k]? = some u:=⟨_,List.getElem?_eq_getElem (by have:=H.out.2.2.1;omega)⟩
   obtain ⟨u',huk'⟩:∃ u,us'[k]? = some u:=⟨_,List.getElem?_eq_getElem (by have:=H.out.2.2.2.1;omega)⟩
   have hp:=PlsAt.play (PlsG.below H.out.1 HB.out) huk hlk
   have hp':=PlsAt.play (PlsG.below H.out.2.1 HB.out) huk' hlk
   obtain ⟨g,c1,e,k0,k1⟩:=(PlsG.below H.out.1 HB.out).cells huk
   obtain ⟨g',c1',e',k0',k1'⟩:=(PlsG.below H.out.2.1 HB.out).cells huk'
   simp only [Value.slice.injEq] at e e'
   obtain ⟨rfl,hz0,rfl⟩:=e
   obtain ⟨rfl,hz1,rfl⟩:=e'
   clear hz0 hz1
   obtain ⟨u1,u2⟩:=u
   obtain ⟨u1',u2'⟩:=u'
   obtain ⟨b1,d1,q1⟩:=hp.1.slice
   obtain ⟨b2,d2,q2⟩:=hp.2.slice
   obtain ⟨b1',d1',q1'⟩:=hp'.1.slice
   obtain ⟨b2',d2',q2'⟩:=hp'.2.slice
   simp only at q1 q2 q1' q2'
   subst q1;subst q2;subst q1';subst q2'
   obtain ⟨n,hn⟩:∃ n,l.length=n:=⟨_,rfl⟩
   dsimp only at hp hp' k0 k1 k0' k1'
   rw [hn] at hp hp' k0 k1 k0' k1'
   have CE:=Lib.hid (fun x (hx:Below wr.heap.size wr x)=>eqPlay_any l (.slice b1 n d1) (.slice b2 n d2) (.slice b1' n d1') (.slice b2' n d2') x (hp.below hx) (hp'.below hx) (H.out.2.2.2.2 l (List.mem_of_getElem? hlk)))
   have KEY:Hid (∀ x,Below wr.heap.size wr x->x.cell? ⟨g,k*2,none⟩=some (.slice b1 n d1)/\x.cell? ⟨g,k*2+1,none⟩=some (.slice b2 n d2)/\x.cell? ⟨g',k*2,none⟩=some (.slice b1' n d1')/\x.cell? ⟨g',k*2+1,none⟩=some (.slice b2' n d2')):=Lib.hid (fun x hx=>by
    have key:∀ {p:Addr} {u:Value},wr.cell? p=some u->x.cell? p=some u:=fun h=>(hx.cell (World.block_lt_of_cell? _ _ h)).trans h
    exact ⟨key k0,key k1,key k0',key k1'⟩)
   clear hp hp' k0 k1 k0' k1' hn hlk huk huk'
   go_upto_region 6 with (fail)
   refine wp_region_noPanic ?_
   refine wp_region_S (fun w'=>Below wr.heap.size wr w') (fun _=>false) (by kernel_rfl) ?_
   have hSd:(fun w'=>Below wr.heap.size wr w') wr.drew:=Below.drew (Below.refl _ _)
   refine wpAnyS_take 0 (v:=?_) (by kernel_rfl) (by kernel_rfl) (by kernel_rfl) (by kernel_rfl) (fun _ _ _ _ h=>h) hSd ?_ ?_
   rotate_left
   ·(intro oi ho;simp at ho;subst ho;refine Or.inl ⟨by rfl,fun w' hw'=>?_⟩;go_simp;try with_reducible rfl)
   (intro d hd;simp at hd;subst hd;simp only [Act.put,List.setIfInBounds_toArray,List.set_cons_zero,List.set_cons_succ])
   refine wpAnyS_take 1 (v:=?_) (by kernel_rfl) (by kernel_rfl) (by kernel_rfl) (by kernel_rfl) (fun _ _ _ _ h=>h) hSd ?_ ?_
   rotate_left
   ·(intro oi ho;simp at ho;subst ho;refine Or.inl ⟨by rfl,fun w' hw'=>?_⟩;go_simp;try with_reducible rfl)
   (intro d hd;simp at hd;subst hd;simp only [Act.put,List.setIfInBounds_toArray,List.set_cons_zero,List.set_cons_succ])
   refine wpAnyS_take 2 (v:=?_) (by kernel_rfl) (by kernel_rfl) (by kernel_rfl) (by kernel_rfl) (fun _ _ _ _ h=>h) hSd ?_ ?_
   rotate_left
   ·(intro oi ho;simp at ho;subst ho;refine Or.inl ⟨by rfl,fun w' hw'=>?_⟩;go_simp;try with_reducible rfl)
   (intro d hd;simp at hd;subst hd;simp only [Act.put,List.setIfInBounds_toArray,List.set_cons_zero,List.set_cons_succ])
   refine wpAnyS_take 3 (v:=?_) (by kernel_rfl) (by kernel_rfl) (by kernel_rfl) (by kernel_rfl) (fun _ _ _ _ h=>h) hSd ?_ ?_
   rotate_left
   ·(intro oi ho;simp at ho;subst ho;refine Or.inl ⟨by rfl,fun w' hw'=>?_⟩;obtain ⟨e0,e1,e2,e3⟩:=KEY.out w' hw';go_simp;try with_reducible rfl)
   (intro d hd;simp at hd;subst hd;simp only [Act.put,List.setIfInBounds_toArray,List.set_cons_zero,List.set_cons_succ])
   refine wpAnyS_take 4 (v:=?_) (by kernel_rfl) (by kernel_rfl) (by kernel_rfl) (by kernel_rfl) (fun _ _ _ _ h=>h) hSd ?_ ?_
   rotate_left
   ·(intro oi ho;simp at ho;subst ho;refine Or.inl ⟨by rfl,fun w' hw'=>?_⟩;go_simp;try with_reducible rfl)
   (intro d hd;simp at hd;subst hd;simp only [Act.put,List.setIfInBounds_toArray,List.set_cons_zero,List.set_cons_succ])
   refine wpAnyS_take 5 (v:=?_) (by kernel_rfl) (by kernel_rfl) (by kernel_rfl) (by kernel_rfl) (fun _ _ _ _ h=>h) hSd ?_ ?_
   rotate_left
   ·(intro oi ho;simp at ho;subst ho;refine Or.inl ⟨by rfl,fun w' hw'=>?_⟩;go_simp;try with_reducible rfl)
   (intro d hd;simp at hd;subst hd;simp only [Act.put,List.setIfInBounds_toArray,List.set_cons_zero,List.set_cons_succ])
   refine wpAnyS_take 6 (v:=?_) (by kernel_rfl) (by kernel_rfl) (by kernel_rfl) (by kernel_rfl) (fun _ _ _ _ h=>h) hSd ?_ ?_
   rotate_left
   ·(intro oi ho;simp at ho;subst ho;refine Or.inl ⟨by rfl,fun w' hw'=>?_⟩;go_simp;try with_reducible rfl)
   (intro d hd;simp at hd;subst hd;simp only [Act.put,List.setIfInBounds_toArray,List.set_cons_zero,List.set_cons_succ])
   refine wpAnyS_take 7 (v:=?_) (by kernel_rfl) (by kernel_rfl) (by kernel_rfl) (by kernel_rfl) (fun _ _ _ _ h=>h) hSd ?_ ?_
   rotate_left
   ·(intro oi ho;simp at ho;subst ho;refine Or.inl ⟨by rfl,fun w' hw'=>?_⟩;obtain ⟨e0,e1,e2,e3⟩:=KEY.out w' hw';go_simp;try with_reducible rfl)
   (intro d hd;simp at hd;subst hd;simp only [Act.put,List.setIfInBounds_toArray,List.set_cons_zero,List.set_cons_succ])
   refine wpAnyS_one 8 (by kernel_rfl) ?_
   (intro o8 ho K' hK;simp at ho;subst ho)
   go_simp
   go_at_call 15
   (with_reducible refine (CE.out _ hSd).mono ?_)
   rintro en x8 ⟨rfl,hb8⟩
   have hB8:Below wr.heap.size wr x8:=Below.trans hSd (hb8.mono (Below.size hSd))
   refine hK.out _ _ ?_ ?_
   ·exact fun _=>hB8
   clear hK K'
   (try simp only [Act.put,List.setIfInBounds_toArray,List.set_cons_zero,List.set_cons_succ])
   refine wpAnyS_one 9 (by kernel_rfl) ?_
   (intro o9 ho K' hK;simp at ho;subst ho)
   go_simp
   refine hK.out _ _ ?_ ?_
   ·exact fun _=>hB8
   clear hK K'
   (try simp only [Act.put,List.setIfInBounds_toArray,List.set_cons_zero,List.set_cons_succ])
   refine wpAnyS_done (by kernel_rfl) (NoPanic.normal ?_) _
   have HB8:=Lib.hid (HB.out.trans (hB8.mono HB.out.size))
   clear hB8 hb8 hSd
   go_wp2_with fail
   go_roundw
   case rel=>exact ⟨k+1,by omega,by go_num,HB8.out⟩
   case measure=>simp [intOf];omega
  ·obtain rfl:k=L.length:=by omega
   go_wp2_with fail
   go_ret
   exact ⟨rfl,HB.out⟩
set_option maxRecDepth 100000 in
theorem markPlayS_any (L:List Pl) (v:Value) (us:List (Value×Value)) (w:World) (h:PlsAt w L v us) (hL:L.length<=100000) (hm:markEnd 1 (L.map List.length)<=10000000) :
 Calls Tryd.prog 7 #[v,.int .i64 1] w fun en w'=>en=.returned (.int .i64 (markEnd 1 (L.map List.length):Nat))/\But (PlB v us) w w'/\PlsG w' v us (marksL 1 (L.map List.length)):=by
 obtain ⟨a,c,rfl⟩:=h.slice
 have e1:=PlsAt.length h
 obtain ⟨ns,hns⟩:∃ ns,L.map List.length=ns:=⟨_,rfl⟩
 have hnl:ns.length=L.length:=by rw [<- hns,List.length_map]
 rw [hns] at hm ⊢
 have H:=Lib.hid (And.intro h (And.intro e1 (And.intro hns (And.intro hnl hm))))
 rw [e1]
 clear h hns hnl hm
 clear e1
 go_enter Tryd.func7,Tryd.ntmps7
 go_wp2_with fail
 go_loopw [1,5] (fun kv i wr=>∃ (wz:World) (j m:Nat),wz=wr/\j<=L.length/\i=.int .i64 j/\kv=.int .i64 m/\m=markEnd 1 (ns.take j)/\PlsG wr (.slice a L.length c) us (mixed 1 ns L j)/\But (PlB (.slice a L.length c) us) w wr) (fun _ i _=>L.length-(intOf i).toNat)
 case atStart=>exact ⟨_,0,1,rfl,Nat.zero_le _,rfl,rfl,by simp [markEnd],by rw [mixed_zero];have:=H.out.1;rw [H.out.2.1] at this;exact this,But.refl _ _⟩
 case round =>
  obtain ⟨wr,j,m,rfl,hj,rfl,rfl,hmm,hp,hb⟩:=hrel
  have HP:=Lib.hid (And.intro hmm (And.intro hp hb));clear hmm hp hb
  by_cases hlt:j<L.length
  ·have hlt':(j:Int)<(L.length:Int):=by omega
   obtain ⟨l,hlk⟩:∃ l,L[j]? = some l:=⟨_,List.getElem?_eq_getElem hlt⟩
   obtain ⟨u,huk⟩:∃ u,us[j]? = some u:=⟨_,List.getElem?_eq_getElem (by have:=H.out.2.1;omega)⟩
   have hmx:=mixed_at (k:=1) (ns:=ns) H.out.2.2.2.1 hlk
   obtain ⟨o1,o2⟩:=HP.out.2.1.each j u _ huk hmx
   obtain ⟨g,c1,e,k0,k1⟩:=HP.out.2.1.cells huk
   rw [H.out.2.1] at e
   simp only [Value.slice.injEq] at e
   obtain ⟨rfl,hz0,rfl⟩:=e
   clear hz0
   obtain ⟨u1,u2⟩:=u
   simp only [plX] at o1 o2
   have lM:(logM l).length=l.length:=by simp [logM]
   have lP:(logP l).length=l.length:=by simp [logP]
   rw [lM] at o1
   rw [lP] at o2
   obtain ⟨b1,d1,q1⟩:=o1.slice
   obtain ⟨b2,d2,q2⟩:=o2.slice
   try simp only at q1 q2
   subst q1;subst q2
   obtain ⟨n,hn⟩:∃ n,l.length=n:=⟨_,rfl⟩
   have hnj:ns[j]? = some n:=by rw [<- H.out.2.2.1,List.getElem?_map,hlk,<- hn];rfl
   have hme:markEnd 1 (ns.take (j+1))=m+n+n:=by rw [markEnd_next hnj,<- HP.out.1]
   have hmle:=markEnd_le 1 ns (j+1)
   have hmb:=H.out.2.2.2.2
   have h1m:1<=m:=by rw [HP.out.1];unfold markEnd;omega
   have hbig:m+n+n<=10000000:=by omega
   dsimp only at o1 o2 k0 k1
   rw [hn] at o1 o2 k0 k1 huk
   have C1:=Lib.hid (markStringS_any m n b1 d1 (logM l) wr o1 h1m (by omega))
   have HK:=Lib.hid (And.intro k0 k1)
   have HX:=Lib.hid (And.intro huk (And.intro hmx (And.intro hnj (And.intro hme o2))))
   have HL:=Lib.hid (show plX l=(logM l,logP l) from rfl)
   clear hlk huk hmx o1 o2 k1 hn hnj hme hmle hmb lM lP h1m
   go_wp2_with fail
   (with_reducible refine C1.out.mono ?_)
   rintro en w1 ⟨rfl,hb1,ho1⟩
   have hp1:=HP.out.2.1.set1 (ys:=marksS m n) HX.out.1 HX.out.2.1 (by rw [marksS_length];exact ho1) hb1
   have k1':w1.cell? ⟨g,j*2+1,none⟩=some (.slice b2 n d2):=by
    obtain ⟨g',c2,e,_,q⟩:=hp1.cells HX.out.1
    simp only [Value.slice.injEq,Option.some.injEq,Addr.mk.injEq] at e
    obtain ⟨⟨rfl,_⟩,_⟩:=e
    exact q
   have hx1:(mixed 1 ns L j).set j (marksS m n,(plX l).2)=(mixed 1 ns L j).set j (marksS m n,logP l):=rfl
   have o2':=(hp1.each j _ _ HX.out.1 (List.getElem?_set_self (List.getElem?_eq_some_iff.1 HX.out.2.1).1)).2
   have C2:Hid (Calls Tryd.prog 17 #[.slice b2 n d2,.int .i64 ((m:Int)+(n:Int))] w1 fun en w'=>en=.returned (.int .i64 ((m:Int)+(n:Int)+(n:Int)))/\But (fun b=>(Value.slice b2 n d2).ownBlock=some b) w1 w'/\Own w' 3 1 (.slice b2 n d2) n (marksI (m+n) n)):=by
    have lP:(logP l).length=n:=by have:=o2'.1;rw [Nat.mul_one] at this;have h2:=HX.out.2.2.2.2.1;rw [Nat.mul_one] at h2;exact h2
    have hh:=markIntS_any (m+n) n b2 d2 (logP l) w1 (by have:=o2';simp only [plX] at this;rw [lP] at this;exact this) (by omega)
    rw [Int.natCast_add] at hh
    exact Lib.hid hh
   have HW1:=Lib.hid (And.intro hp1 hb1)
   clear hp1 hb1 ho1 o2' hx1 k0 C1
   have hwm:IntKind.i64.wrap ((m:Int)+(n:Int))=(m:Int)+(n:Int):=by rw [<- Int.natCast_add];exact wrap_nat _ (by omega)
   go_wp2_with fail
   (with_reducible refine C2.out.mono ?_)
   rintro en w2 ⟨rfl,hb2,ho2⟩
   have hp2:=HW1.out.1.set2 (ys:=marksI (m+n) n) HX.out.1 (List.getElem?_set_self (List.getElem?_eq_some_iff.1 HX.out.2.1).1) (by rw [marksI_length];exact ho2) hb2
   rw [List.set_set] at hp2
   have hmem:=List.mem_of_getElem? HX.out.1
   have hbw:But (PlB (.slice (some ⟨g,0,none⟩) L.length c) us) w w2:=(HP.out.2.2.trans (HW1.out.2.weak fun i _ hi=>.inr ⟨_,hmem,.inl hi⟩)).trans (hb2.weak fun i _ hi=>.inr ⟨_,hmem,.inr hi⟩)
   have HW2:=Lib.hid (And.intro hp2 hbw)
   clear hp2 hb2 ho2 hbw hmem k1' C2
   go_wp2_with fail
   go_roundw
   case rel =>
    refine ⟨_,j+1,m+n+n,rfl,by omega,by go_num,by push_cast;rfl,HX.out.2.2.2.1.symm,?_,HW2.out.2⟩
    have h:=HW2.out.1
    have hnx:=mixed_next (k:=1) (L:=L) H.out.2.2.2.1 HX.out.2.2.1
    rw [<- HP.out.1] at hnx
    rw [<- hnx];exact h
   case measure=>simp [intOf];omega
  ·obtain rfl:j=L.length:=by omega
   go_wp2_with fail
   go_ret
   have e:ns.take L.length=ns:=List.take_of_length_le (by rw [H.out.2.2.2.1];exact Nat.le_refl _)
   refine ⟨by rw [HP.out.1,e];rfl,HP.out.2.2,?_⟩
   have:=HP.out.2.1
   rw [mixed_all 1 ns L H.out.2.2.2.1] at this;exact this
set_option maxRecDepth 100000 in
theorem heldPlayS_any (ns:List Nat) (v:Value) (us:List (Value×Value)) (w:World) (h:PlsG w v us (marksL 1 ns)) (hL:ns.length<=100000) (hm:markEnd 1 ns<=10000000) :
 Calls Tryd.prog 8 #[v,.int .i64 1] w fun en w'=>en=.returned (.int .i64 (markEnd 1 ns:Nat))/\Below w.heap.size w w':=by
 obtain ⟨a,c,rfl⟩:=h.slice
 have e1:us.length=ns.length:=by have:=h.len;rwa [marksL_length] at this
 have H:=Lib.hid (And.intro h (And.intro e1 hm))
 rw [e1]
 clear h hm
 clear e1
 go_enter Tryd.func8,Tryd.ntmps8
 go_wp2_with fail
 go_loopw [1,5] (fun kv i wr=>∃ (wz:World) (j m:Nat),wz=wr/\j<=ns.length/\i=.int .i64 j/\kv=.int .i64 m/\m=markEnd 1 (ns.take j)/\Below w.heap.size w wr) (fun _ i _=>ns.length-(intOf i).toNat)
 case atStart=>exact ⟨_,0,1,rfl,Nat.zero_le _,rfl,rfl,by simp [markEnd],Below.refl _ _⟩
 case round =>
  obtain ⟨wr,j,m,rfl,hj,rfl,rfl,hmm,hb⟩:=hrel
  have HP:=Lib.hid (And.intro hmm hb);clear hmm hb
  by_cases hlt:j<ns.length
  ·have hlt':(j:Int)<(ns.length:Int):=by omega
   obtain ⟨n,hnj⟩:∃ n,ns[j]? = some n:=⟨_,List.getElem?_eq_getElem hlt⟩
   obtain ⟨u,huk⟩:∃ u,us[j]? = some u:=⟨_,List.getElem?_eq_getElem (by have:=H.out.2.1;omega)⟩
   have hp:=PlsG.below H.out.1 HP.out.2
   obtain ⟨o1,o2⟩:=hp.each j u _ huk (marksL_at ns 1 j n hnj)
   obtain ⟨g,c1,e,k0,k1⟩:=hp.cells huk
   rw [H.out.2.1] at e
   simp only [Value.slice.injEq] at e
   obtain ⟨rfl,hz0,rfl⟩:=e
   clear hz0
   obtain ⟨u1,u2⟩:=u
   rw [<- HP.out.1,marksS_length] at o1
   rw [<- HP.out.1,marksI_length] at o2
   obtain ⟨b1,d1,q1⟩:=o1.slice
   obtain ⟨b2,d2,q2⟩:=o2.slice
   try simp only at q1 q2
   subst q1;subst q2
   dsimp only at o1 o2 k0 k1
   have hme:markEnd 1 (ns.take (j+1))=m+n+n:=by rw [markEnd_next hnj,<- HP.out.1]
   have hmle:=markEnd_le 1 ns (j+1)
   have hmb:=H.out.2.2
   have h1m:1<=m:=by rw [HP.out.1];unfold markEnd;omega
   have hbig:m+n+n<=10000000:=by omega
   have C1:=Lib.hid (heldStringS_any m n b1 d1 wr o1 h1m (by omega))
   have HX:=Lib.hid (And.intro k1 (And.intro o2 hme))
   have hp1:¬ (m:Int)+(n:Int)<0:=by omega
   have hp2:¬ (m:Int)+(n:Int)+(n:Int)<0:=by omega
   clear hp huk o1 o2 k1 hnj hme hmle hmb h1m
   go_wp2_with fail
   (with_reducible refine C1.out.mono ?_)
   rintro en w1 ⟨rfl,hb1⟩
   have k1':=(hb1.cell (World.block_lt_of_cell? _ _ HX.out.1)).trans HX.out.1
   have C2:Hid (Calls Tryd.prog 19 #[.slice b2 n d2,.int .i64 ((m:Int)+(n:Int))] w1 fun en w'=>en=.returned (.int .i64 ((m:Int)+(n:Int)+(n:Int)))/\Below w1.heap.size w1 w'):=by
    have hh:=heldIntS_any (m+n) n b2 d2 w1 (HX.out.2.1.keep fun g o _ ho=>by rw [hb1.block g (lt_of_heap ho)];exact ho) (by omega)
    rw [Int.natCast_add] at hh
    exact Lib.hid hh
   have HW1:=Lib.hid (HP.out.2.trans (hb1.mono HP.out.2.size))
   clear hb1 k0 C1
   go_wp2_with fail
   (with_reducible refine C2.out.mono ?_)
   rintro en w2 ⟨rfl,hb2⟩
   have HW2:=Lib.hid (HW1.out.trans (hb2.mono HW1.out.size))
   clear hb2 k1' C2
   go_wp2_with fail
   go_roundw
   case rel=>exact ⟨_,j+1,m+n+n,rfl,by omega,by go_num,by push_cast;rfl,HX.out.2.2.symm,HW2.out⟩
   case measure=>simp [intOf];omega
  ·obtain rfl:j=ns.length:=by omega
   go_wp2_with fail
   go_ret
   exact ⟨by rw [HP.out.1,List.take_length];rfl,HP.out.2⟩
end Go.Proofs.YthoimoenbccflaaDoor

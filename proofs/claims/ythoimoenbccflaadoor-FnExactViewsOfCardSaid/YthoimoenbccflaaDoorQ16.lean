/- Walks of functions that the statement reaches, and plain words. No conditions. -/
import Derived.Test.YthoimoenbccflaaDoorQ12
import Derived.Test.YthoimoenbccflaaDoorQ15
set_option linter.unusedVariables false
set_option linter.unusedSimpArgs false
set_option maxHeartbeats 4000000
namespace Go.Proofs.YthoimoenbccflaaDoor
open Go.RowKit
structure Ko (vw:Value) (w:World) (vw':Value) (w':World):Prop where
 but:But (fun i=>vw.ownBlock=some i) w w'
 row:∀ g,vw'.ownBlock=some g->vw.ownBlock=some g\/w.heap.size<=g
abbrev Fo (vw:Value) (i:Nat):Prop:=¬ vw.ownBlock=some i
theorem Ko.obj {vw vw':Value} {w w':World} (h:Ko vw w vw' w') {b:Nat} {o:Obj} (hF:Fo vw b) (ho:w.heap[b]? = some o):Fo vw' b/\w'.heap[b]? = some o :=
 ⟨fun e=>by
  rcases h.row b e with h1 | h1
  ·exact hF h1
  ·have:=lt_of_heap ho;omega,by rw [h.but.block b (lt_of_heap ho) hF];exact ho⟩
theorem Ko.rep {vw vw':Value} {w w':World} (h:Ko vw w vw' w') {d:DV} {x:Value} (hr:Rep (Fo vw) w d x):Rep (Fo vw') w' d x:=(Rep.keep fun _ _ hF ho=>h.obj hF ho).1 _ _ hr
theorem Ko.reps {vw vw':Value} {w w':World} (h:Ko vw w vw' w') {d:List DV} {x:List Value} (hr:Reps (Fo vw) w d x):Reps (Fo vw') w' d x:=(Rep.keep fun _ _ hF ho=>h.obj hF ho).2 _ _ hr
theorem Ko.trans {vw vw' vw'':Value} {w w' w'':World} (h:Ko vw w vw' w') (k:Ko vw' w' vw'' w''):Ko vw w vw'' w'' :=
 ⟨h.but.trans' k.but (fun i hi hm=>(h.row i hm).resolve_right (by omega)),fun g hg=>(k.row g hg).elim (fun e=>h.row g e) (fun e=>.inr (Nat.le_trans h.but.size e))⟩
theorem Ko.below {vw:Value} {w w':World} (hb:Below w.heap.size w w'):Ko vw w vw w':=⟨But.ofBelow hb,fun _ hg=>.inl hg⟩
theorem SpAt.ko {vw vw':Value} {w w':World} (h:Ko vw w vw' w') {b:Bd} {lv:List Place} {bg:Place} {v:Pl} {vs:List Value} (hr:SpAt (Fo vw) w b lv bg v vs):SpAt (Fo vw') w' b lv bg v vs:=by
 obtain ⟨begun,args,opens,h1,h2⟩:=hr
 exact ⟨begun,args,opens,h1,h.reps h2⟩
theorem SpAt.below {F:Nat->Prop} {w w':World} (hb:Below w.heap.size w w') {b:Bd} {lv:List Place} {bg:Place} {v:Pl} {vs:List Value} (hr:SpAt F w b lv bg v vs):SpAt F w' b lv bg v vs:=by
 obtain ⟨begun,args,opens,h1,h2⟩:=hr
 exact ⟨begun,args,opens,h1,h2.below hb (fun _ h=>h)⟩
structure TvIn (t:Ty) (b:Bd) (hand:List Ty) (lv:List Place) (bg:Place) (v:Pl) (tv mv pt:Value) (vs:List Value) (vw:Value) (us:List (Value×Value)) (L:List Pl) (w:World):Prop where
 t15:atomsT t<=15
 rt:Rep (Fo vw) w (encS t) tv
 ra:SpAt (Fo vw) w b lv bg v vs
 rm:MvRep (Fo vw) w v mv
 rp:PtRep (Fo vw) w v pt
 fit:fitB hand b
 wf:wfB b
 pf:PlFit t lv hand v.length
 bgl:bg.2.length<=1000
 v1:1<=v.length
 v60:v.length<=60
 ll:lv.length<=8*(v.length+1)
 pls:PlsAt w L vw us
 cnt:L.length+sizeB b<=1000
def TvOut (o:Option (List Pl)) (vw:Value) (us:List (Value×Value)) (L:List Pl) (w:World) (en:Ending) (w':World):Prop :=
 ∃ a n c,en=.returned (.tuple #[.slice a n c,.bool o.isSome])/\But (fun i=>vw.ownBlock=some i) w w'/\∀ out,o=some out->∃ us',PlsAt w' (L++out) (.slice a n c) (us++us')/\(∀ g,(Value.slice a n c).ownBlock=some g->vw.ownBlock=some g\/w.heap.size<=g)/\∀ u∈us',∀ g,u.1.ownBlock=some g\/u.2.ownBlock=some g->w.heap.size<=g
def TvSaid (t:Ty) (b:Bd):Prop:=∀ (hand:List Ty) (lv:List Place) (bg:Place) (v:Pl) (tv mv pt x0 x1 x2 x3 x4 x5 x6:Value) (vw:Value) (us:List (Value×Value)) (L:List Pl) (w:World),TvIn t b hand lv bg v tv mv pt [x0,x1,x2,x3,x4,x5,x6] vw us L w ->
 Calls Tryd.prog 10 #[.agg #[tv],.agg #[x0,x1,x2,x3,x4,x5,x6],.agg #[mv,pt],vw] w (TvOut (viewsB t b lv bg v) vw us L w)
theorem TvOut.no {t:Ty} {b:Bd} {lv:List Place} {bg:Place} {v:Pl} {vw:Value} {us:List (Value×Value)} {L:List Pl} {w w':World} {a:Option Addr} {n c:Nat} (hb:But (fun i=>vw.ownBlock=some i) w w') (e:viewsB t b lv bg v=none) :
 TvOut (viewsB t b lv bg v) vw us L w (.returned (.tuple #[.slice a n c,.bool false])) w':=by
 rw [e]
 exact ⟨a,n,c,rfl,hb,fun out h=>by simp at h⟩
theorem boxes_3 (w:World) (A B C:Obj):∃ W,((w.alloc A).alloc B).alloc C=W/\Below w.heap.size w W/\W.heap.size=w.heap.size+3/\W.heap[w.heap.size]? = some A/\W.heap[w.heap.size+1]? = some B/\W.heap[w.heap.size+2]? = some C:=by
 obtain ⟨X,hX,hbX,hz,x0,x1⟩:=boxes_2 w A B
 obtain ⟨Y,hY,hbY,hz2,y0⟩:=box_1 X C
 rw [hX,hY]
 exact ⟨Y,rfl,hbX.trans (hbY.mono hbX.size),by omega,(hbY.block _ (lt_of_heap x0)).trans x0,(hbY.block _ (lt_of_heap x1)).trans x1,by rw [<- hz];exact y0⟩
theorem AtD_openL {F:Nat->Prop} {w:World} {c:UInt8} {begun args:List Nat} {opens:Nat} {vs:List Value} (h:Reps F w (AtD (.leaf c) begun args opens) vs) :
 ∃ a2 c2 a3 c3 ba bc aa ac,vs=[str [c],.int .i64 0,.slice a2 0 c2,.slice a3 0 c3,.slice ba begun.length bc,.slice aa args.length ac,.int .i64 (opens:Nat)]:=by
 obtain ⟨a2,c2,a3,c3,ba,bc,aa,ac,e,_⟩:=AtD_open h
 exact ⟨a2,c2,a3,c3,ba,bc,aa,ac,e⟩
theorem l2WithPl (v:Pl) (mv pt:Value) (s:Bs) (p:Int) (w:World) (h1:SrcSl 1 mv v.length (logM v) w) (h2:SrcSl 1 pt v.length (logP v) w) (hl:v.length<=1000) :
 Calls Tryd.prog 24 #[.agg #[mv,pt],str s,.int .i64 p] w (CopyP (v++[(s,p)]) w):=by
 refine (l2With_any v.length v.length mv pt (logM v) (logP v) s p w h1 h2 (by omega) (by omega)).mono ?_
 rintro en w' ⟨a1,c1,a2,c2,rfl,hb,ho1,ho2,hf1,hf2⟩
 refine ⟨_,_,rfl,⟨?_,?_⟩,hb,fun g hg=>hg.elim (hf1 g) (hf2 g)⟩
 ·rw [show logM (v++[(s,p)])=logM v++[str s] from by simp [logM],List.length_append];exact ho1
 ·rw [show logP (v++[(s,p)])=logP v++[.int .i64 p] from by simp [logP],List.length_append];exact ho2
theorem pls_add {w W:World} {vw:Value} {us:List (Value×Value)} {L:List Pl} {l:Pl} {mv pt:Value} (hp:PlsAt w L vw us) (hB:Below w.heap.size w W) (hl:PlayAt W l mv pt) (hn:∀ g,mv.ownBlock=some g\/pt.ownBlock=some g->w.heap.size<=g)
 {v':Value} {w5:World} (ho5:Own w5 39 2 v' (us.length+1) (plC us++[mv,pt])) (hb5:But (fun b=>vw.ownBlock=some b) W w5):PlsAt w5 (L++[l]) v' (us++[(mv,pt)]):=by
 have hp':PlsAt W L vw us:=PlsG.below hp hB
 have lM:(plX l).1.length=l.length:=by simp [plX,logM]
 have lP:(plX l).2.length=l.length:=by simp [plX,logP]
 unfold PlsAt
 rw [List.map_append,List.map_singleton]
 exact PlsG.snoc (u:=(mv,pt)) (x:=plX l) hp' ho5 hb5 (by rw [lM];exact hl.1) (by rw [lP];exact hl.2) (fun g hg hP=>by
  have h1:=hn g hg
  have h2:=hp.lt hP
  omega)
set_option maxRecDepth 100000 in
theorem tv_u (t:Ty):TvSaid t (.leaf 117):=by
 intro hand lv bg v tv mv pt x0 x1 x2 x3 x4 x5 x6 vw us L w h
 obtain ⟨begun,args,opens,hsp,hr⟩:=h.ra
 obtain ⟨a2,c2,a3,c3,ba,bc,aa,ac,e⟩:=AtD_openL hr
 simp only [List.cons.injEq,and_true] at e
 obtain ⟨rfl,rfl,rfl,rfl,rfl,rfl,rfl⟩:=e
 obtain ⟨ta,tc,rfl⟩:=encS_slice h.rt
 obtain ⟨a1,c1,rfl⟩:=h.rm.src.slice
 obtain ⟨p1,q1,rfl⟩:=h.rp.src.slice
 obtain ⟨va2,vc,rfl⟩:=h.pls.own.slice
 obtain ⟨W,hW,hbW,hz,b0,b1,b2⟩:=boxes_3 w (.cells #[.slice ta t.args.length tc] 30) (.cells #[str [117],.int .i64 0,.slice a2 0 c2,.slice a3 0 c3,.slice ba begun.length bc,.slice aa args.length ac,.int .i64 (opens:Nat)] 42) (.cells #[.slice a1 v.length c1,.slice p1 v.length q1] 39)
 have CT:=Lib.hid (l3Tell_u (Fo (.slice va2 us.length vc)) lv bg v _ _ _ _ _ _ _ _ _ W (h.ra.below hbW) (h.rm.below hbW (fun _ h=>h)) (h.rp.below hbW (fun _ h=>h)))
 obtain ⟨e0,e1,e2,e3,e4,e5,e6⟩:=cells_7 b1
 obtain ⟨m0,m1,_,_⟩:=cells_2 b2
 have H:=Lib.hid h
 have HW:=Lib.hid (And.intro hW hbW)
 clear h hW hbW hz b0 b1 b2 hr hsp
 go_enter Tryd.func10,Tryd.ntmps10
 go_upto_region 1 with (fail)
 rw [HW.out.1]
 go_wp2_with fail
 refine CT.out.mono ?_
 rintro en w1 ⟨rfl,hb1⟩
 have HB:=Lib.hid (HW.out.2.trans (hb1.mono HW.out.2.size))
 clear hb1
 go_wp2_with fail
 go_ret2
 have e:viewsB t (.leaf 117) lv bg v=some []:=by rw [viewsB];rfl
 rw [e]
 refine ⟨_,_,_,rfl,But.ofBelow HB.out,fun out ho=>?_⟩
 obtain rfl:=Option.some.inj ho
 exact ⟨[],by rw [List.append_nil,List.append_nil];exact PlsG.below H.out.pls HB.out,fun g hg=>.inl hg,fun u hu=>by simp at hu⟩
set_option maxRecDepth 100000 in
theorem tv_leaf (t:Ty) (c:UInt8) (hc:c=116\/c=102):TvSaid t (.leaf c):=by
 intro hand lv bg v tv mv pt x0 x1 x2 x3 x4 x5 x6 vw us L w h
 obtain ⟨begun,args,opens,hsp,hr⟩:=h.ra
 obtain ⟨a2,c2,a3,c3,ba,bc,aa,ac,e⟩:=AtD_openL hr
 simp only [List.cons.injEq,and_true] at e
 obtain ⟨rfl,rfl,rfl,rfl,rfl,rfl,rfl⟩:=e
 obtain ⟨ta,tc,rfl⟩:=encS_slice h.rt
 obtain ⟨a1,c1,rfl⟩:=h.rm.src.slice
 obtain ⟨p1,q1,rfl⟩:=h.rp.src.slice
 obtain ⟨va2,vc,rfl⟩:=h.pls.own.slice
 obtain ⟨W,hW,hbW,hz,b0,b1,b2⟩:=boxes_3 w (.cells #[.slice ta t.args.length tc] 30) (.cells #[str [c],.int .i64 0,.slice a2 0 c2,.slice a3 0 c3,.slice ba begun.length bc,.slice aa args.length ac,.int .i64 (opens:Nat)] 42) (.cells #[.slice a1 v.length c1,.slice p1 v.length q1] 39)
 have CT:=Lib.hid (l3Tell_leaf (Fo (.slice va2 us.length vc)) c hc lv bg v _ _ _ _ _ _ _ _ _ W (h.ra.below hbW) (h.rm.below hbW (fun _ h=>h)) (h.rp.below hbW (fun _ h=>h)) h.bgl (by have:=h.v60;omega))
 have CW:=Lib.hid (fun x (hx:Below W.heap.size W x)=>l2WithPl v _ _ (c::bg.2) (bg.1:Int) x ((h.rm.src.below hbW).below hx) ((h.rp.src.below hbW).below hx) (by have:=h.v60;omega))
 obtain ⟨e0,e1,e2,e3,e4,e5,e6⟩:=cells_7 b1
 obtain ⟨m0,m1,_,_⟩:=cells_2 b2
 have hcq:((c.toNat:Int) != 113)=true:=by rcases hc with rfl | rfl <;> rfl
 have hcn:(c.toNat:Int)≠113:=by rcases hc with rfl | rfl <;> decide
 have H:=Lib.hid h
 have HW:=Lib.hid (And.intro hW (And.intro hbW b2))
 have HE:=Lib.hid (show c≠117 by rcases hc with rfl | rfl <;> decide)
 have husl:us.length<=1000:=by have h1:=h.cnt;have h2:=PlsAt.length h.pls;omega
 obtain ⟨M,hM⟩:∃ M,M=c::bg.2:=⟨_,rfl⟩
 have hM0:0<M.length:=by rw [hM];simp
 have B0:((((⟨M.toArray⟩:ByteArray)[0]'(lt_str hM0)).toNat:Int))=(c.toNat:Int):=by rw [byte_int hM0];subst hM;rfl
 rw [<- hM] at CT CW
 have HM:=Lib.hid hM
 have hM0I:(0:Int)<(M.length:Int):=by omega
 clear h hW hbW hz b0 b1 b2 hr hsp hc hM
 by_cases hv:60<=v.length
 ·have hvI:(60:Int)<=(v.length:Int):=by omega
  have E:=Lib.hid (show viewsB t (.leaf c) lv bg v=none by rw [viewsB,if_neg HE.out,if_pos hv])
  clear hv
  go_enter Tryd.func10,Tryd.ntmps10
  go_upto_region 1 with (fail)
  rw [HW.out.1]
  go_wp2_with fail
  refine CT.out.mono ?_
  rintro en w1 ⟨rfl,hb1⟩
  have n0:=(hb1.cell (World.block_lt_of_cell? _ _ m0)).trans m0
  have HB:=Lib.hid (HW.out.2.1.trans (hb1.mono HW.out.2.1.size))
  clear hb1
  go_wp2_with fail
  go_ret2
  exact TvOut.no (But.ofBelow HB.out) E.out
 ·have hvI:¬ (60:Int)<=(v.length:Int):=by omega
  have E:=Lib.hid (show viewsB t (.leaf c) lv bg v=some [v++[(M,(bg.1:Int))]] by rw [viewsB,if_neg HE.out,if_neg hv,HM.out];rfl)
  clear hv
  go_enter Tryd.func10,Tryd.ntmps10
  go_upto_region 1 with (fail)
  rw [HW.out.1]
  go_wp2_with fail
  refine CT.out.mono ?_
  rintro en w1 ⟨rfl,hb1⟩
  obtain ⟨n0,n1,_,_⟩:=cells_2 ((hb1.block _ (lt_of_heap HW.out.2.2)).trans HW.out.2.2)
  have HB:=Lib.hid (And.intro hb1 (HW.out.2.1.trans (hb1.mono HW.out.2.1.size)))
  clear hb1
  go_wp2_with fail
  (with_reducible refine (CW.out w1 HB.out.1).mono ?_)
  rintro en w2 ⟨mv2,pt2,rfl,hp2,hb2,hf2⟩
  obtain ⟨l3,hl3⟩:∃ l3,v++[(M,(bg.1:Int))]=l3:=⟨_,rfl⟩
  rw [hl3] at hp2
  have E3:=Lib.hid (hl3 ▸ E.out:viewsB t (.leaf c) lv bg v=some [l3])
  obtain ⟨n3,hn3⟩:∃ n3,l3.length=n3:=⟨_,rfl⟩
  obtain ⟨a3',c3',e3'⟩:=hp2.1.slice
  obtain ⟨a4',c4',e4'⟩:=hp2.2.slice
  rw [hn3] at e3' e4'
  subst e3';subst e4'
  have hw2:Below w.heap.size w w2:=HB.out.2.trans (hb2.mono HB.out.2.size)
  obtain ⟨W3,hW3,hbW3,hz3,bx3⟩:=box_1 w2 (.cells #[.slice a3' n3 c3',.slice a4' n3 c4'] 39)
  obtain ⟨k0,k1,_,_⟩:=cells_2 bx3
  have HP:=Lib.hid (And.intro hW3 (And.intro (hw2.trans (hbW3.mono hw2.size)) (And.intro (hp2.below hbW3) (fun g hg=>Nat.le_trans HB.out.2.size (hf2 g hg)))))
  clear hW3 hbW3 hz3 bx3 hp2 hb2 hf2 hl3 hn3 hw2
  go_upto_region 7 with (fail)
  rw [HP.out.1]
  go_wp2_with (at_builtin;refine wpList_append_gen rfl _ _ 22 rfl 39 (.agg #[.slice none 0 0,.slice none 0 0]) 2 48 Tryd.underlying22 Tryd.infoPlay rfl (by decide) (.slice va2 us.length vc) us.length (plC us) rfl ?c1 _ 1 [.slice a3' n3 c3',.slice a4' n3 c4'] rfl ?c2 ?c3 ?c4 ?_)
  case c1=>exact (PlsG.below H.out.pls HP.out.2.1).own.alloc _
  case c2=>exact SrcSl.litk #[.slice a3' n3 c3',.slice a4' n3 c4'] rfl (by simp [Value.oneCell']) _ (by rfl)
  case c3=>unfold maxLen;omega
  case c4=>omega
  intro a5 c5 w5 ho5 hb5 hg5
  have hB3:=HP.out.2.1
  have hz3:=hB3.size
  have hpA:PlsAt w5 (L++[l3]) (.slice a5 (us.length+1) c5) (us++[(.slice a3' n3 c3',.slice a4' n3 c4')]):=pls_add H.out.pls (hB3.alloc hz3 _) (HP.out.2.2.1.below ((Below.refl _ _).alloc (Nat.le_refl _) _)) HP.out.2.2.2 ho5 hb5
  have hbt:But (fun b=>(Value.slice va2 us.length vc).ownBlock=some b) w w5:=(But.ofBelow (hB3.alloc hz3 _)).trans hb5
  have HF:=Lib.hid (And.intro hpA (And.intro hbt hg5))
  clear hpA hbt hg5 ho5 hb5 hB3 hz3
  go_wp2_with fail
  go_ret2
  rw [E3.out]
  refine ⟨_,_,_,rfl,HF.out.2.1,fun out ho=>?_⟩
  obtain rfl:=Option.some.inj ho
  refine ⟨_,HF.out.1,fun g hg=>?_,fun u hu g hg=>?_⟩
  ·rcases HF.out.2.2 g hg with e | e
   ·exact .inl e
   ·refine .inr ?_
    have:=HP.out.2.1.size
    omega
  ·rw [List.mem_singleton] at hu
   subst hu
   exact HP.out.2.2.2 g hg
theorem AskC.of' {t:Ty} {l:Nat} {ss:List Bd} {y n:Bd} {hand:List Ty} {lv:List Place} {bg:Place} {v:Pl} (h15:atomsT t<=15) (hf:fitB hand (.ask l ss y n)) (hpf:PlFit t lv hand v.length) (hbg:bg.2.length<=1000) (h1:1<=v.length) (hll:lv.length<=8*(v.length+1)) :
 ∃ pl a,lv[l]? = some pl/\atT t pl.2=some a/\fitBs (hands hand a.args) ss/\fitB hand y/\fitB hand n/\ss.length=a.args.length/\pl.2.length<=7/\a.args.length<=7/\pl.1<v.length:=by
 have hf2:=fit_parts hf
 rw [fitB] at hf
 obtain ⟨a,h1,h2,h3,h4⟩:=hf
 obtain ⟨a',h1',_,hlen⟩:=hf2
 obtain rfl:a=a':=Option.some.inj (h1.symm.trans h1')
 obtain ⟨pl,hl,hat,hlt⟩:=hpf.each l a h1
 have e1:=atT_len _ _ _ hat
 have e2:=args_len a
 exact ⟨pl,a,hl,hat,h2,h3,h4,hlen,by omega,by omega,hlt⟩
structure TvC (t:Ty) (hand:List Ty) (lv:List Place) (bg:Place) (ss:List Bd) (y n:Bd) (v:Pl) (pl:Place) (a:Ty):Prop where
 t15:atomsT t<=15
 hat:atT t pl.2=some a
 pf:PlFit t lv hand v.length
 fs:fitBs (hands hand a.args) ss
 fy:fitB hand y
 fn:fitB hand n
 ws:∀ s∈ss,wfB s
 wy:wfB y
 wn:wfB n
 len:ss.length=a.args.length
 p7:pl.2.length<=7
 a7:a.args.length<=7
 bgl:bg.2.length<=1000
 v1:1<=v.length
 v58:v.length<=58
 ll:lv.length<=8*(v.length+1)
theorem Own.notBox {w:World} {e T:TypeId} {sz n:Nat} {v:Value} {xs:List Value} (h:Own w e sz v n xs) {g:Nat} {c:Array Value} {fr:Nat×Nat} (hb:w.heap[g]? = some (.cells c T fr)) (he:e≠T):v.ownBlock≠some g:=by
 intro hg
 rcases h.2 with ⟨rfl,_⟩ | ⟨b,cap,cur,rfl,_,hb1,_⟩
 ·simp [Value.ownBlock] at hg
 ·simp [Value.ownBlock] at hg
  subst hg
  rw [hb1] at hb
  simp at hb
  exact he hb.2.1
theorem PlayAt.notBox {w:World} {l:Pl} {mv pt:Value} (h:PlayAt w l mv pt) {T:TypeId} {g:Nat} {c:Array Value} {fr:Nat×Nat} (hb:w.heap[g]? = some (.cells c T fr)) (h1:9≠T) (h2:3≠T):∀ i,mv.ownBlock=some i\/pt.ownBlock=some i->¬ i=g:=by
 intro i hi e
 subst e
 exact hi.elim (h.1.notBox hb h1) (h.2.notBox hb h2)
structure TvV (t:Ty) (l:Nat) (ss:List Bd) (y n:Bd) (lv:List Place) (bg:Place) (asked:Pl) (begun args:List Nat) (opens:Nat) (tv mv pt:Value) (vs:List Value) (B0 B1 B2:Nat) (vw:Value) (w:World):Prop where
 rt:Rep (Fo vw) w (encS t) tv
 sp:SpecPl lv bg asked begun args opens
 ra:Reps (Fo vw) w (AtD (.ask l ss y n) begun args opens) vs
 rm:MvRep (Fo vw) w asked mv
 rp:PtRep (Fo vw) w asked pt
 f0:Fo vw B0
 b0:w.heap[B0]? = some (.cells #[tv] 30 (0,0))
 f1:Fo vw B1
 b1:w.heap[B1]? = some (.cells vs.toArray 42 (0,0))
 f2:Fo vw B2
 b2:w.heap[B2]? = some (.cells #[mv,pt] 39 (0,0))
theorem TvV.keep {t:Ty} {l:Nat} {ss:List Bd} {y n:Bd} {lv:List Place} {bg:Place} {asked:Pl} {begun args:List Nat} {opens:Nat} {tv mv pt:Value} {vs:List Value} {B0 B1 B2:Nat} {vw vw':Value} {w w':World}
 (h:TvV t l ss y n lv bg asked begun args opens tv mv pt vs B0 B1 B2 vw w) (k:Ko vw w vw' w'):TvV t l ss y n lv bg asked begun args opens tv mv pt vs B0 B1 B2 vw' w' :=
 ⟨k.rep h.rt,h.sp,k.reps h.ra,k.rep h.rm,k.rep h.rp,(k.obj h.f0 h.b0).1,(k.obj h.f0 h.b0).2,(k.obj h.f1 h.b1).1,(k.obj h.f1 h.b1).2,(k.obj h.f2 h.b2).1,(k.obj h.f2 h.b2).2⟩
structure TnsIn (M:Bs) (k z:Nat) (asked:Pl) (mvn ptn:Value) (vw:Value) (us:List (Value×Value)) (L:List Pl) (w:World):Prop where
 pls:PlsAt w L vw us
 cnt:L.length+z<=1000
 play:PlayAt w (asked++[(M,(k:Int))]) mvn ptn
 fresh:∀ g,mvn.ownBlock=some g\/ptn.ownBlock=some g->Fo vw g
theorem TnsIn.coll {t:Ty} {l:Nat} {ss:List Bd} {y n:Bd} {hand:List Ty} {lv:List Place} {bg:Place} {v:Pl} {pl:Place} {a:Ty} {begun args:List Nat} {opens:Nat} {tv mv pt:Value} {vs:List Value} {B0 B1 B2:Nat} {vw:Value} {us:List (Value×Value)} {L:List Pl} {wx w':World} {M:Bs} {z:Nat} {x:Bs×Int} {mvn ptn:Value}
 (hc:TvC t hand lv bg ss y n v pl a) (hV:TvV t l ss y n lv bg (v++[x]) begun args opens tv mv pt vs B0 B1 B2 vw wx) (hI:TnsIn M v.length z (v++[x]) mvn ptn vw us L wx) (hb:Below wx.heap.size wx w')
 {b:Bd} {hand':List Ty} {lv':List Place} {bg':Place} {vs':List Value} (hr:SpAt (Fo vw) w' b lv' bg' (v++[x]++[(M,(v.length:Int))]) vs') (hf:fitB hand' b) (hw:wfB b) (hpf:PlFit t lv' hand' (v.length+2)) (hbg:bg'.2.length<=1000) (hll:lv'.length<=lv.length+7) (hz:sizeB b<=z) :
 TvIn t b hand' lv' bg' (v++[x]++[(M,(v.length:Int))]) tv mvn ptn vs' vw us L w':=by
 have hl:(v++[x]++[(M,(v.length:Int))]).length=v.length+2:=by simp
 have hmv:=(hI.play.below hb).mv hI.fresh
 refine { t15:=hc.t15,rt:=hV.rt.below hb (fun _ h=>h),ra:=hr,rm:=hmv.1,rp:=hmv.2,fit:=hf,wf:=hw,pf:=by rw [hl];exact hpf,bgl:=hbg,v1:=by rw [hl];omega,v60:=?_,ll:=?_,pls:=hI.pls.below hb,cnt:=?_ }
 ·rw [hl];have:=hc.v58;omega
 ·rw [hl];have:=hc.ll;omega
 ·have:=hI.cnt;omega
theorem tv_leafstep (c:UInt8) {t:Ty} {l:Nat} {ss:List Bd} {y n:Bd} {hand:List Ty} {lv:List Place} {bg:Place} {v:Pl} {pl:Place} {a:Ty} {begun args:List Nat} {opens:Nat} {tv mv pt:Value} {x0 x1 x2 x3 x4 x5 x6 y0 y1 y2 y3:Value} {B0 B1 B2:Nat} {vw:Value} {us:List (Value×Value)} {L:List Pl} {wx w':World} {z:Nat} {x:Bs×Int} {mvn ptn:Value}
 (b:Bd) (ih:TvSaid t b) (hfb:fitB hand b) (hwb:wfB b) (hc:TvC t hand lv bg ss y n v pl a) (hV:TvV t l ss y n lv bg (v++[x]) begun args opens tv mv pt [x0,x1,x2,x3,x4,x5,x6] B0 B1 B2 vw wx)
 (hI:TnsIn (c::pl.2) v.length z (v++[x]) mvn ptn vw us L wx) (hy:Reps (Fo vw) wx (encN b) [y0,y1,y2,y3]) (hz:sizeB b<=z) (hb:Below wx.heap.size wx w') :
 Calls Tryd.prog 10 #[.agg #[tv],.agg #[y0,y1,y2,y3,x4,x5,x6],.agg #[mvn,ptn],vw] w' (TvOut (viewsB t b lv bg (v++[x]++[(c::pl.2,(v.length:Int))])) vw us L w'):=by
 refine ih hand lv bg _ tv mvn ptn y0 y1 y2 y3 x4 x5 x6 vw us L w' (TnsIn.coll hc hV hI hb ⟨begun,args,opens,hV.sp.more _,?_⟩ hfb hwb (hc.pf.mono (by omega)) hc.bgl (by omega) hz)
 have h1:=(Reps.split hV.ra).2
 rw [encN_length] at h1
 exact Reps.append (hy.below hb (fun _ h=>h)) (h1.below hb (fun _ h=>h))
def BegC (o:Option (List Pl)) (tv:Value) (s:Bs) (v:Int) (a2:Option Addr) (n2 c2:Nat) (a3:Option Addr) (n3 c3:Nat) (nb na idx:Nat) (mvn ptn:Value) (vw:Value) (us:List (Value×Value)) (L:List Pl) (wz:World) (en:Ending) (w':World):Prop :=
 ∃ (ba:Option Addr) (bc:Nat) (aa:Option Addr) (ac:Nat),en=.returned (.agg #[str s,.int .i64 v,.slice a2 n2 c2,.slice a3 n3 c3,.slice ba nb bc,.slice aa na ac,.int .i64 (idx:Nat)])/\Below wz.heap.size wz w' /\
   Calls Tryd.prog 10 #[.agg #[tv],.agg #[str s,.int .i64 v,.slice a2 n2 c2,.slice a3 n3 c3,.slice ba nb bc,.slice aa na ac,.int .i64 (idx:Nat)],.agg #[mvn,ptn],vw] w' (TvOut o vw us L w')
theorem tv_kidstep {t:Ty} {l:Nat} {ss:List Bd} {y n:Bd} {hand:List Ty} {lv:List Place} {bg:Place} {v:Pl} {pl:Place} {a aj:Ty} {begun args:List Nat} {opens:Nat} {tv mv pt kv:Value} {x0 x1 x2 x3:Value} {p2:Option Addr} {m2 d2:Nat} {p3:Option Addr} {m3 d3:Nat} {ba:Option Addr} {bc:Nat} {aa:Option Addr} {ac:Nat} {B0 B1 B2:Nat} {s':Bs} {v':Int} {a2:Option Addr} {n2 c2:Nat} {a3:Option Addr} {n3 c3:Nat} {vw:Value} {us:List (Value×Value)} {L:List Pl} {wx wz:World} {z j:Nat} {x:Bs×Int} {mvn ptn:Value}
 (hx0:x0=str []) (hx1:x1=.int .i64 (l:Nat)) (hx2:x2=.slice p2 m2 d2) (hx3:x3=.slice p3 m3 d3)
 (s:Bd) (hs:ss[j]? = some s) (haj:a.args[j]? = some aj) (ih:TvSaid t s) (hc:TvC t hand lv bg ss y n v pl a) (hV:TvV t l ss y n lv bg (v++[x]) begun args opens tv mv pt [x0,x1,x2,x3,.slice ba begun.length bc,.slice aa args.length ac,.int .i64 (opens:Nat)] B0 B1 B2 vw wx)
 (hI:TnsIn (113::(pl.2++dec j)) v.length z (v++[x]) mvn ptn vw us L wx) (hy:Reps (Fo vw) wx (encN s) [str s',.int .i64 v',.slice a2 n2 c2,.slice a3 n3 c3]) (hk:Rep (Fo vw) wx (encS aj) kv) (hz:sizeB s<=z) (hwz:Below wx.heap.size wx wz) :
 Calls Tryd.prog 11 #[.agg #[x0,x1,x2,x3,.slice ba begun.length bc,.slice aa args.length ac,.int .i64 (opens:Nat)],.agg #[str s',.int .i64 v',.slice a2 n2 c2,.slice a3 n3 c3],.agg #[kv],.int .i64 ((v.length:Int)+1)] wz
  (BegC (viewsB t s (lv++placesOf (argsAt t (pl.2++dec j)) (v.length+1) (pl.2++dec j)) (v.length+1,pl.2++dec j) (v++[x]++[(113::(pl.2++dec j),(v.length:Int))])) tv s' v' a2 n2 c2 a3 n3 c3 (begun.length+aj.args.length) (args.length+aj.args.length) (v.length+1) mvn ptn vw us L wz):=by
 have hj:=(List.getElem?_eq_some_iff.1 hs).1
 have hl:=hc.len
 have h7:=hc.a7
 obtain ⟨h',hh',hfs⟩:=fitBs_at ss _ hc.fs j s hs
 rw [hands,List.getElem?_map,Option.map_eq_some_iff] at hh'
 obtain ⟨aj',haj',rfl⟩:=hh'
 obtain rfl:aj=aj':=Option.some.inj (haj.symm.trans haj')
 have hat:atT t (pl.2++dec j)=some aj:=by rw [atT_append,hc.hat,Option.bind_some,dec_small (by omega),atT_digit _ (by omega)];exact haj
 have e0:argsAt t (pl.2++dec j)=aj.args.length:=by unfold argsAt;rw [hat]
 have e1:=atT_len _ _ _ hat
 have e2:=args_len aj
 have e3:=hc.t15
 have e4:=hc.ll
 have e5:=hc.v58
 have e6:=hV.sp.lb
 have e7:=hV.sp.la
 obtain ⟨q2,d2',q3,d3',rba,rbc,raa,rac,e,_,hrb,hra⟩:=AtD_open hV.ra
 simp only [List.cons.injEq,and_true,Value.slice.injEq,Value.int.injEq,true_and] at e
 obtain ⟨_,_,_,_,⟨rfl,rfl⟩,⟨rfl,rfl⟩⟩:=e
 rw [e0]
 subst hx0;subst hx1;subst hx2;subst hx3
 refine (l3Begin_any (Fo vw) begun args [] (l:Nat) p2 m2 d2 p3 m3 d3 ba bc aa ac (opens:Nat) s' v' a2 n2 c2 a3 n3 c3 aj kv (v.length+1) wz (hrb.below hwz (fun _ h=>h)) (hra.below hwz (fun _ h=>h)) (hk.below hwz (fun _ h=>h)) (by omega) (by omega) (by omega)).mono ?_
 rintro en w' ⟨ba',bc',aa',ac',rfl,hb,hrb',hra'⟩
 have hb':=hwz.trans (hb.mono hwz.size)
 have hF:∀ g,wz.heap.size<=g->Fo vw g:=fun g hg e=>by have:=hI.pls.lt (.inl e);have:=hwz.size;omega
 refine ⟨ba',bc',aa',ac',rfl,hb,ih (hand++aj.args) (lv++placesOf aj.args.length (v.length+1) (pl.2++dec j)) (v.length+1,pl.2++dec j) _ _ _ _ _ _ _ _ _ _ _ vw us L w' ?_⟩
 refine TnsIn.coll hc hV hI hb' ⟨_,_,_,(hV.sp.more [(113::(pl.2++dec j),(v.length:Int))]).kid aj.args.length (v.length+1) (pl.2++dec j) (by omega) (z:=(v.length:Int)) ?_,?_⟩ hfs (hc.ws s (List.mem_of_getElem? hs)) (hc.pf.kid (by omega) (by omega) hat (by omega)) (by show (pl.2++dec j).length<=_;omega) (by rw [List.length_append,placesOf_length];omega) hz
 ·rw [List.getElem?_append_right (by simp)];simp
 ·have lift:∀ {d:DV} {u:Value},Rep (wz.heap.size<=·) w' d u->Rep (Fo vw) w' d u:=fun h=>(Rep.keep fun i o hi ho=>⟨hF i hi,ho⟩).1 _ _ h
  exact Reps.append (hy.below hb' (fun _ h=>h)) (Reps_cons.2 ⟨_,_,rfl,lift hrb',Reps_cons.2 ⟨_,_,rfl,lift hra',Reps_cons.2 ⟨_,_,rfl,Rep_val.2 rfl,Reps_nil.2 rfl⟩⟩⟩)
end Go.Proofs.YthoimoenbccflaaDoor

/- Walks of functions that the statement reaches, and plain words. No conditions. -/
import Derived.Test.YtdfkiicodfbibaaGreatDoorQ6
set_option linter.unusedVariables false
set_option linter.unusedSimpArgs false
set_option maxHeartbeats 8000000
namespace Go.Proofs.YtdfkiicodfbibaaGreatDoor
open Go.RowKit
def numD (ns:List Nat):DV:=.sl 3 1 ns.length (ns.map fun n=>DV.val (.int .i64 (n:Nat)))
theorem numD_open {F:Nat->Prop} {w:World} {ns:List Nat} {x:Value} (h:Rep F w (numD ns) x):∃ a c,x=.slice a ns.length c/\∀ (i n:Nat),ns[i]? = some n->∃ b o,a=some ⟨b,o,none⟩/\F b/\b<w.heap.size/\w.cell? ⟨b,o+i,none⟩=some (.int .i64 (n:Nat)):=by
 obtain ⟨a,c,e,_,_,hats⟩:=Rep_sl1_open h
 refine ⟨a,c,e,fun i n hi=>?_⟩
 obtain ⟨b,o,u,d,ea,hF,hlt,hd,hc,hr⟩:=hats i (List.getElem?_eq_some_iff.1 hi).1
 rw [List.getElem?_map,hi] at hd
 obtain rfl:=Option.some.inj hd
 rw [Rep_val] at hr
 subst hr
 exact ⟨b,o,ea,hF,hlt,hc⟩
theorem numD_src {F:Nat->Prop} {w:World} {ns:List Nat} {x:Value} (h:Rep F w (numD ns) x):SrcSl 1 x ns.length (ns.map fun n=>Value.int .i64 (n:Nat)) w:=by
 have h':Rep F w (.sl 3 1 ns.length ((ns.map fun n=>Value.int .i64 (n:Nat)).map DV.val)) x:=by rw [List.map_map];exact h
 obtain ⟨xs,hx,hs⟩:=SrcSl.ofRep h' (fun us hu u hm=>by
  rw [(Reps_vals _ _).1 hu] at hm
  obtain ⟨m,_,rfl⟩:=List.mem_map.1 hm
  simp [Value.oneCell'])
 rw [(Reps_vals _ _).1 hx] at hs;exact hs
theorem MvRep.cells {F:Nat->Prop} {w:World} {v:Pl} {x:Value} (h:MvRep F w v x):∃ a c,x=.slice a v.length c/\∀ (i:Nat) (m:Bs×Int),v[i]? = some m->∃ b o,a=some ⟨b,o,none⟩/\F b/\b<w.heap.size/\w.cell? ⟨b,o+i,none⟩=some (str m.1):=by
 obtain ⟨a,c,e,_,_,hats⟩:=Rep_sl1_open h
 refine ⟨a,c,e,fun i m hi=>?_⟩
 obtain ⟨b,o,u,d,ea,hF,hlt,hd,hc,hr⟩:=hats i (List.getElem?_eq_some_iff.1 hi).1
 rw [List.getElem?_map,hi] at hd
 obtain rfl:=Option.some.inj hd
 rw [Rep_val] at hr
 subst hr
 exact ⟨b,o,ea,hF,hlt,hc⟩
def AtD (b:Bd) (begun args:List Nat) (opens:Nat):List DV:=encN b++[numD begun,numD args,.val (.int .i64 (opens:Nat))]
def SpAt (F:Nat->Prop) (w:World) (b:Bd) (lv:List Place) (bg:Place) (v:Pl) (vs:List Value):Prop :=
 ∃ begun args opens,SpecPl lv bg v begun args opens/\Reps F w (AtD b begun args opens) vs
theorem AtD_open {F:Nat->Prop} {w:World} {b:Bd} {begun args:List Nat} {opens:Nat} {vs:List Value} (h:Reps F w (AtD b begun args opens) vs) :
 ∃ a2 c2 a3 c3 ba bc aa ac,vs=[str (atomOf b),.int .i64 (lvOf b:Nat),.slice a2 (kidsOf b).length c2,.slice a3 (yesOf b).length c3,.slice ba begun.length bc,.slice aa args.length ac,.int .i64 (opens:Nat)] /\
   Reps F w (encN b) [str (atomOf b),.int .i64 (lvOf b:Nat),.slice a2 (kidsOf b).length c2,.slice a3 (yesOf b).length c3]/\Rep F w (numD begun) (.slice ba begun.length bc)/\Rep F w (numD args) (.slice aa args.length ac):=by
 have h0:=h.length
 obtain ⟨h1,h2⟩:=Reps.split h
 rw [encN_length] at h1 h2
 obtain ⟨v,a2,c2,a3,c3,e,_,_⟩:=encN_open h1
 have hv:=encN_lv (e ▸ h1)
 simp only [Value.int.injEq,true_and] at hv
 subst hv
 obtain ⟨x1,r1,e1,k1,h2⟩:=Reps_cons.1 h2
 obtain ⟨x2,r2,e2,k2,h2⟩:=Reps_cons.1 h2
 obtain ⟨x3,r3,e3,k3,h2⟩:=Reps_cons.1 h2
 rw [Reps_nil] at h2
 subst h2;subst e3;subst e2
 rw [Rep_val] at k3
 subst k3
 obtain ⟨ba,bc,rfl,_⟩:=numD_open k1
 obtain ⟨aa,ac,rfl,_⟩:=numD_open k2
 refine ⟨a2,c2,a3,c3,ba,bc,aa,ac,?_,e ▸ h1,k1,k2⟩
 rw [<- List.take_append_drop 4 vs,e,e1];rfl
theorem cells_7 {w:World} {b:Nat} {x0 x1 x2 x3 x4 x5 x6:Value} {T:TypeId} (h:w.heap[b]? = some (.cells #[x0,x1,x2,x3,x4,x5,x6] T (0,0))):w.cell? ⟨b,0,none⟩=some x0/\w.cell? ⟨b,1,none⟩=some x1/\w.cell? ⟨b,2,none⟩=some x2/\w.cell? ⟨b,3,none⟩=some x3/\w.cell? ⟨b,4,none⟩=some x4/\w.cell? ⟨b,5,none⟩=some x5/\w.cell? ⟨b,6,none⟩=some x6 :=
 ⟨by simp [World.cell?,h],by simp [World.cell?,h],by simp [World.cell?,h],by simp [World.cell?,h],by simp [World.cell?,h],by simp [World.cell?,h],by simp [World.cell?,h]⟩
def STellP (m:Bs) (i:Nat) (ok:Bool) (w:World) (en:Ending) (w':World):Prop:=en=.returned (.tuple #[str m,.int .i64 (i:Nat),.bool ok])/\Below w.heap.size w w'
set_option maxRecDepth 100000 in
theorem l3Tell_u (F:Nat->Prop) (lv:List Place) (bg:Place) (v:Pl) (mv pt x0 x1 x2 x3 x4 x5 x6:Value) (w:World) (h:SpAt F w (.leaf 117) lv bg v [x0,x1,x2,x3,x4,x5,x6]) (hm:MvRep F w v mv) (hp:PtRep F w v pt) :
 Calls Tryz.prog 134 #[.agg #[mv,pt],.agg #[x0,x1,x2,x3,x4,x5,x6]] w (STellP [] 0 false w):=by
 obtain ⟨begun,args,opens,_,hr⟩:=h
 obtain ⟨a2,c2,a3,c3,ba,bc,aa,ac,e,_⟩:=AtD_open hr
 simp only [List.cons.injEq,and_true] at e
 obtain ⟨rfl,rfl,rfl,rfl,rfl,rfl,rfl⟩:=e
 obtain ⟨ma,mc,rfl⟩:=hm.src.slice
 obtain ⟨pa,pc,rfl⟩:=hp.src.slice
 obtain ⟨W,hW,hbW,hz,b0,b1⟩:=boxes_2 w (.cells #[.slice ma v.length mc,.slice pa v.length pc] 33) (.cells #[str [117],.int .i64 (lvOf (.leaf 117):Nat),.slice a2 (kidsOf (.leaf 117)).length c2,.slice a3 (yesOf (.leaf 117)).length c3,.slice ba begun.length bc,.slice aa args.length ac,.int .i64 (opens:Nat)] 177)
 obtain ⟨e0,_⟩:=cells_7 b1
 have HW:=Lib.hid (And.intro hW hbW)
 clear hW hbW hz b0 b1 hr hm hp
 rw [show atomOf (.leaf 117)=[117] from rfl]
 go_enter Tryz.func134,Tryz.ntmps134
 go_upto_region 1 with (fail)
 rw [HW.out.1]
 go_wp2_with fail
 refine bodyPost_ret (v:=.tuple #[str [],.int .i64 (0:Nat),.bool false]) (by simp [results,Tryz.results134,go_sem]) rfl ?_
 exact ⟨rfl,HW.out.2⟩
set_option maxRecDepth 100000 in
theorem l3Tell_leaf (F:Nat->Prop) (c:UInt8) (hc:c=116\/c=102) (lv:List Place) (bg:Place) (v:Pl) (mv pt x0 x1 x2 x3 x4 x5 x6:Value) (w:World) (h:SpAt F w (.leaf c) lv bg v [x0,x1,x2,x3,x4,x5,x6]) (hm:MvRep F w v mv) (hp:PtRep F w v pt) (hl:bg.2.length<=1000) (hv:v.length<=1000) :
 Calls Tryz.prog 134 #[.agg #[mv,pt],.agg #[x0,x1,x2,x3,x4,x5,x6]] w (STellP (c::bg.2) bg.1 true w):=by
 obtain ⟨begun,args,opens,hsp,hr⟩:=h
 obtain ⟨a2,c2,a3,c3,ba,bc,aa,ac,e,_⟩:=AtD_open hr
 simp only [List.cons.injEq,and_true] at e
 obtain ⟨rfl,rfl,rfl,rfl,rfl,rfl,rfl⟩:=e
 obtain ⟨ma,mc,rfl,hmc⟩:=hm.cells
 obtain ⟨pa,pc,rfl⟩:=hp.src.slice
 obtain ⟨hbg1,c',z',hop⟩:=hsp.bg
 obtain ⟨mb,mo,rfl,_,hmb,hcell⟩:=hmc opens _ hop
 have hol:=(List.getElem?_eq_some_iff.1 hop).1
 have holI:(opens:Int)<(v.length:Int):=by omega
 obtain ⟨W,hW,hbW,hz,b0,b1⟩:=boxes_2 w (.cells #[.slice (some ⟨mb,mo,none⟩) v.length mc,.slice pa v.length pc] 33) (.cells #[str [c],.int .i64 (lvOf (.leaf c):Nat),.slice a2 (kidsOf (.leaf c)).length c2,.slice a3 (yesOf (.leaf c)).length c3,.slice ba begun.length bc,.slice aa args.length ac,.int .i64 (opens:Nat)] 177)
 have hcW:W.cell? ⟨mb,mo+opens,none⟩=some (str (c'::bg.2)):=(hbW.cell (p:=⟨mb,mo+opens,none⟩) hmb).trans hcell
 obtain ⟨e0,e1,e2,e3,e4,e5,e6⟩:=cells_7 b1
 obtain ⟨p0,_,_,_⟩:=cells_2 b0
 have a1:=fun w0=>add_str (P:=Tryz.prog) [c] bg.2 (by simp;omega) w0
 rw [List.singleton_append] at a1
 have ex:(⟨(c'::bg.2).toArray⟩:ByteArray).extract 1 (bg.2.length+1)=⟨bg.2.toArray⟩:=ext_tail c' bg.2
 have HO:=Lib.hid hbg1
 have HW:=Lib.hid (And.intro hW hbW)
 have q1:(([c]:Bs) == [117])=false:=by rcases hc with rfl | rfl <;> rfl
 clear hW hbW hz b0 b1 hr hm hp hsp hop hmc hcell hbg1 hol hmb
 rw [show atomOf (.leaf c)=[c] from rfl]
 rcases hc with rfl | rfl
 ·go_enter Tryz.func134,Tryz.ntmps134
  go_upto_region 1 with (fail)
  rw [HW.out.1]
  go_wp2_with fail
  go_quiet (fail)
  go_wp2_with fail
  refine bodyPost_ret (v:=.tuple #[str (116::bg.2),.int .i64 (opens:Nat),.bool true]) (by simp [results,Tryz.results134,go_sem]) rfl ?_
  exact ⟨by rw [HO.out],below_dN HW.out.2 _⟩
 ·go_enter Tryz.func134,Tryz.ntmps134
  go_upto_region 1 with (fail)
  rw [HW.out.1]
  go_wp2_with fail
  go_quiet (fail)
  go_wp2_with fail
  refine bodyPost_ret (v:=.tuple #[str (102::bg.2),.int .i64 (opens:Nat),.bool true]) (by simp [results,Tryz.results134,go_sem]) rfl ?_
  exact ⟨by rw [HO.out],below_dN HW.out.2 _⟩
set_option maxRecDepth 100000 in
theorem l3Tell_ask (F:Nat->Prop) (l:Nat) (ss:List Bd) (y n:Bd) (lv:List Place) (bg pl:Place) (v:Pl) (mv pt x0 x1 x2 x3 x4 x5 x6:Value) (w:World) (h:SpAt F w (.ask l ss y n) lv bg v [x0,x1,x2,x3,x4,x5,x6]) (hm:MvRep F w v mv) (hp:PtRep F w v pt) (hpl:lv[l]? = some pl) (hl:pl.2.length<=1000) (hv:v.length<=1000) (hll:lv.length<=100000) :
 Calls Tryz.prog 134 #[.agg #[mv,pt],.agg #[x0,x1,x2,x3,x4,x5,x6]] w (STellP (113::pl.2) pl.1 true w):=by
 obtain ⟨begun,args,opens,hsp,hr⟩:=h
 obtain ⟨a2,c2,a3,c3,ba,bc,aa,ac,e,_,hrb,hra⟩:=AtD_open hr
 simp only [List.cons.injEq,and_true] at e
 obtain ⟨rfl,rfl,rfl,rfl,rfl,rfl,rfl⟩:=e
 obtain ⟨ma,mc,rfl,hmc⟩:=hm.cells
 obtain ⟨pa,pc,rfl⟩:=hp.src.slice
 obtain ⟨j,m,z,hb,ha,hvk,hpe,hj⟩:=hsp.each l pl hpl
 obtain ⟨mb,mo,rfl,_,hmb,hcell⟩:=hmc pl.1 _ hvk
 obtain ⟨_,_,e,hbc⟩:=numD_open hrb
 simp only [Value.slice.injEq] at e
 obtain ⟨rfl,_,rfl⟩:=e
 obtain ⟨_,_,e,hac⟩:=numD_open hra
 simp only [Value.slice.injEq] at e
 obtain ⟨rfl,_,rfl⟩:=e
 obtain ⟨bb,bo,rfl,_,hbb,hbcell⟩:=hbc l _ hb
 obtain ⟨ab,ao,rfl,_,hab,hacell⟩:=hac l _ ha
 have h1:=(List.getElem?_eq_some_iff.1 hvk).1
 have h2:=(List.getElem?_eq_some_iff.1 hb).1
 have h3:=(List.getElem?_eq_some_iff.1 ha).1
 have i1:(pl.1:Int)<(v.length:Int):=by omega
 have i2:(l:Int)<(begun.length:Int):=by omega
 have i3:(l:Int)<(args.length:Int):=by omega
 have hml:m.length<=1000:=by rw [hpe,List.length_append] at hl;omega
 obtain ⟨W,hW,hbW,hz,b0,b1⟩:=boxes_2 w (.cells #[.slice (some ⟨mb,mo,none⟩) v.length mc,.slice pa v.length pc] 33) (.cells #[str [],.int .i64 (l:Nat),.slice a2 (kidsOf (.ask l ss y n)).length c2,.slice a3 (yesOf (.ask l ss y n)).length c3,.slice (some ⟨bb,bo,none⟩) begun.length bc,.slice (some ⟨ab,ao,none⟩) args.length ac,.int .i64 (opens:Nat)] 177)
 have hcW:W.cell? ⟨mb,mo+pl.1,none⟩=some (str (113::m)):=(hbW.cell (p:=⟨mb,mo+pl.1,none⟩) hmb).trans hcell
 have hbWc:W.cell? ⟨bb,bo+l,none⟩=some (.int .i64 (pl.1:Nat)):=(hbW.cell (p:=⟨bb,bo+l,none⟩) hbb).trans hbcell
 have haWc:W.cell? ⟨ab,ao+l,none⟩=some (.int .i64 (j:Nat)):=(hbW.cell (p:=⟨ab,ao+l,none⟩) hab).trans hacell
 obtain ⟨e0,e1,e2,e3,e4,e5,e6⟩:=cells_7 b1
 obtain ⟨p0,_,_,_⟩:=cells_2 b0
 have KEY:Hid (∀ x,Below W.heap.size W x->x.cell? ⟨w.heap.size,0,none⟩=some (.slice (some ⟨mb,mo,none⟩) v.length mc)/\x.cell? ⟨mb,mo+pl.1,none⟩=some (str (113::m))/\x.cell? ⟨w.heap.size+1,5,none⟩=some (.slice (some ⟨ab,ao,none⟩) args.length ac)/\x.cell? ⟨w.heap.size+1,1,none⟩=some (.int .i64 (l:Nat))/\x.cell? ⟨ab,ao+l,none⟩=some (.int .i64 (j:Nat))):=Lib.hid (fun x hx =>
  ⟨(hx.cell (World.block_lt_of_cell? _ _ p0)).trans p0,(hx.cell (World.block_lt_of_cell? _ _ hcW)).trans hcW,(hx.cell (World.block_lt_of_cell? _ _ e5)).trans e5,(hx.cell (World.block_lt_of_cell? _ _ e1)).trans e1,(hx.cell (World.block_lt_of_cell? _ _ haWc)).trans haWc⟩)
 have CD:=Lib.hid (fun x=>l6Dec_any j (by omega) x)
 have a1:=fun w0=>add_str (P:=Tryz.prog) (113::m) (dec j) (by rw [dec_small hj];simp;omega) w0
 obtain ⟨R,hR⟩:=zzM (113::m++dec j)
 rw [<- hR] at a1
 have HR:=Lib.hid (show R=113::pl.2 by rw [hR,hpe];rfl)
 have HW:=Lib.hid (And.intro hW hbW)
 clear hW hbW hz b0 b1 hr hm hp hsp hmc hcell hmb hb ha hvk hpe hbc hac hbb hab hbcell hacell hR hrb hra h1 h2 h3
 rw [show atomOf (.ask l ss y n)=[] from rfl,show lvOf (.ask l ss y n)=l from rfl]
 go_enter Tryz.func134,Tryz.ntmps134
 go_upto_region 1 with (fail)
 rw [HW.out.1]
 go_upto_region 8 with (fail)
 refine wp_region_noPanic ?_
 refine wp_region_S (fun w'=>Below W.heap.size W w') (fun _=>false) (by kernel_rfl) ?_
 have hSd:(fun w'=>Below W.heap.size W w') W.drew:=Below.drew (Below.refl _ _)
 refine wpAnyS_take 0 (v:=?_) (by kernel_rfl) (by kernel_rfl) (by kernel_rfl) (by kernel_rfl) (fun _ _ _ _ h=>h) hSd ?_ ?_
 rotate_left
 ·(intro oi ho;simp at ho;subst ho;refine Or.inl ⟨by rfl,fun w' hw'=>?_⟩;go_simp;try with_reducible rfl)
 (intro d hd;simp at hd;subst hd;simp only [Act.put,List.setIfInBounds_toArray,List.set_cons_zero,List.set_cons_succ])
 refine wpAnyS_take 1 (v:=?_) (by kernel_rfl) (by kernel_rfl) (by kernel_rfl) (by kernel_rfl) (fun _ _ _ _ h=>h) hSd ?_ ?_
 rotate_left
 ·(intro oi ho;simp at ho;subst ho;refine Or.inl ⟨by rfl,fun w' hw'=>?_⟩;obtain ⟨e0,e1,e2,e3,e4⟩:=KEY.out w' hw';go_simp;try with_reducible rfl)
 (intro d hd;simp at hd;subst hd;simp only [Act.put,List.setIfInBounds_toArray,List.set_cons_zero,List.set_cons_succ])
 refine wpAnyS_take 2 (v:=?_) (by kernel_rfl) (by kernel_rfl) (by kernel_rfl) (by kernel_rfl) (fun _ _ _ _ h=>h) hSd ?_ ?_
 rotate_left
 ·(intro oi ho;simp at ho;subst ho;refine Or.inl ⟨by rfl,fun w' hw'=>?_⟩;go_simp;try with_reducible rfl)
 (intro d hd;simp at hd;subst hd;simp only [Act.put,List.setIfInBounds_toArray,List.set_cons_zero,List.set_cons_succ])
 refine wpAnyS_take 3 (v:=?_) (by kernel_rfl) (by kernel_rfl) (by kernel_rfl) (by kernel_rfl) (fun _ _ _ _ h=>h) hSd ?_ ?_
 rotate_left
 ·(intro oi ho;simp at ho;subst ho;refine Or.inl ⟨by rfl,fun w' hw'=>?_⟩;go_simp;try with_reducible rfl)
 (intro d hd;simp at hd;subst hd;simp only [Act.put,List.setIfInBounds_toArray,List.set_cons_zero,List.set_cons_succ])
 refine wpAnyS_take 4 (v:=?_) (by kernel_rfl) (by kernel_rfl) (by kernel_rfl) (by kernel_rfl) (fun _ _ _ _ h=>h) hSd ?_ ?_
 rotate_left
 ·(intro oi ho;simp at ho;subst ho;refine Or.inl ⟨by rfl,fun w' hw'=>?_⟩;obtain ⟨e0,e1,e2,e3,e4⟩:=KEY.out w' hw';go_simp;try with_reducible rfl)
 (intro d hd;simp at hd;subst hd;simp only [Act.put,List.setIfInBounds_toArray,List.set_cons_zero,List.set_cons_succ])
 refine wpAnyS_take 5 (v:=?_) (by kernel_rfl) (by kernel_rfl) (by kernel_rfl) (by kernel_rfl) (fun _ _ _ _ h=>h) hSd ?_ ?_
 rotate_left
 ·(intro oi ho;simp at ho;subst ho;refine Or.inl ⟨by rfl,fun w' hw'=>?_⟩;go_simp;try with_reducible rfl)
 (intro d hd;simp at hd;subst hd;simp only [Act.put,List.setIfInBounds_toArray,List.set_cons_zero,List.set_cons_succ])
 refine wpAnyS_take 6 (v:=?_) (by kernel_rfl) (by kernel_rfl) (by kernel_rfl) (by kernel_rfl) (fun _ _ _ _ h=>h) hSd ?_ ?_
 rotate_left
 ·(intro oi ho;simp at ho;subst ho;refine Or.inl ⟨by rfl,fun w' hw'=>?_⟩;obtain ⟨e0,e1,e2,e3,e4⟩:=KEY.out w' hw';go_simp;try with_reducible rfl)
 (intro d hd;simp at hd;subst hd;simp only [Act.put,List.setIfInBounds_toArray,List.set_cons_zero,List.set_cons_succ])
 refine wpAnyS_take 7 (v:=?_) (by kernel_rfl) (by kernel_rfl) (by kernel_rfl) (by kernel_rfl) (fun _ _ _ _ h=>h) hSd ?_ ?_
 rotate_left
 ·(intro oi ho;simp at ho;subst ho;refine Or.inl ⟨by rfl,fun w' hw'=>?_⟩;go_simp;try with_reducible rfl)
 (intro d hd;simp at hd;subst hd;simp only [Act.put,List.setIfInBounds_toArray,List.set_cons_zero,List.set_cons_succ])
 refine wpAnyS_take 8 (v:=?_) (by kernel_rfl) (by kernel_rfl) (by kernel_rfl) (by kernel_rfl) (fun _ _ _ _ h=>h) hSd ?_ ?_
 rotate_left
 ·(intro oi ho;simp at ho;subst ho;refine Or.inl ⟨by rfl,fun w' hw'=>?_⟩;go_simp;try with_reducible rfl)
 (intro d hd;simp at hd;subst hd;simp only [Act.put,List.setIfInBounds_toArray,List.set_cons_zero,List.set_cons_succ])
 refine wpAnyS_take 9 (v:=?_) (by kernel_rfl) (by kernel_rfl) (by kernel_rfl) (by kernel_rfl) (fun _ _ _ _ h=>h) hSd ?_ ?_
 rotate_left
 ·(intro oi ho;simp at ho;subst ho;refine Or.inl ⟨by rfl,fun w' hw'=>?_⟩;obtain ⟨e0,e1,e2,e3,e4⟩:=KEY.out w' hw';go_simp;try with_reducible rfl)
 (intro d hd;simp at hd;subst hd;simp only [Act.put,List.setIfInBounds_toArray,List.set_cons_zero,List.set_cons_succ])
 refine wpAnyS_take 10 (v:=?_) (by kernel_rfl) (by kernel_rfl) (by kernel_rfl) (by kernel_rfl) (fun _ _ _ _ h=>h) hSd ?_ ?_
 rotate_left
 ·(intro oi ho;simp at ho;subst ho;refine Or.inl ⟨by rfl,fun w' hw'=>?_⟩;go_simp;try with_reducible rfl)
 (intro d hd;simp at hd;subst hd;simp only [Act.put,List.setIfInBounds_toArray,List.set_cons_zero,List.set_cons_succ])
 refine wpAnyS_take 11 (v:=?_) (by kernel_rfl) (by kernel_rfl) (by kernel_rfl) (by kernel_rfl) (fun _ _ _ _ h=>h) hSd ?_ ?_
 rotate_left
 ·(intro oi ho;simp at ho;subst ho;refine Or.inl ⟨by rfl,fun w' hw'=>?_⟩;obtain ⟨e0,e1,e2,e3,e4⟩:=KEY.out w' hw';go_simp;try with_reducible rfl)
 (intro d hd;simp at hd;subst hd;simp only [Act.put,List.setIfInBounds_toArray,List.set_cons_zero,List.set_cons_succ])
 refine wpAnyS_take 14 (v:=?_) (by kernel_rfl) (by kernel_rfl) (by kernel_rfl) (by kernel_rfl) (fun _ _ _ _ h=>h) hSd ?_ ?_
 rotate_left
 ·(intro oi ho;simp at ho;subst ho;refine Or.inl ⟨by rfl,fun w' hw'=>?_⟩;go_simp;try with_reducible rfl)
 (intro d hd;simp at hd;subst hd;simp only [Act.put,List.setIfInBounds_toArray,List.set_cons_zero,List.set_cons_succ])
 refine wpAnyS_one 12 (by kernel_rfl) ?_
 (intro o12 ho K' hK;simp at ho;subst ho)
 go_simp
 go_at_call 154
 (with_reducible refine (CD.out _).mono ?_)
 rintro en x12 ⟨rfl,hb12⟩
 have hB12:Below W.heap.size W x12:=Below.trans hSd (hb12.mono (Below.size hSd))
 refine hK.out _ _ ?_ ?_
 ·exact fun _=>hB12
 clear hK K'
 (try simp only [Act.put,List.setIfInBounds_toArray,List.set_cons_zero,List.set_cons_succ])
 have hS12:=hB12
 refine wpAnyS_one 13 (by kernel_rfl) ?_
 (intro o13 ho K' hK;simp at ho;subst ho)
 go_simp
 refine hK.out _ _ ?_ ?_
 ·exact fun _=>hB12
 clear hK K'
 (try simp only [Act.put,List.setIfInBounds_toArray,List.set_cons_zero,List.set_cons_succ])
 have hS13:=hB12
 refine wpAnyS_one 15 (by kernel_rfl) ?_
 (intro o15 ho K' hK;simp at ho;subst ho)
 go_simp
 refine hK.out _ _ ?_ ?_
 ·exact fun _=>hB12
 clear hK K'
 (try simp only [Act.put,List.setIfInBounds_toArray,List.set_cons_zero,List.set_cons_succ])
 have hS15:=hB12
 refine wpAnyS_one 16 (by kernel_rfl) ?_
 (intro o16 ho K' hK;simp at ho;subst ho)
 go_simp
 refine hK.out _ _ ?_ ?_
 ·exact fun _=>hB12
 clear hK K'
 (try simp only [Act.put,List.setIfInBounds_toArray,List.set_cons_zero,List.set_cons_succ])
 have hS16:=hB12
 refine wpAnyS_one 17 (by kernel_rfl) ?_
 (intro o17 ho K' hK;simp at ho;subst ho)
 go_simp
 refine hK.out _ _ ?_ ?_
 ·exact fun _=>hB12
 clear hK K'
 (try simp only [Act.put,List.setIfInBounds_toArray,List.set_cons_zero,List.set_cons_succ])
 refine wpAnyS_done (by kernel_rfl) (NoPanic.normal ?_) _
 have HB:=Lib.hid (zzT HW.out.2 hB12)
 clear hB12 hSd hb12
 go_wp2_with fail
 refine bodyPost_ret (v:=.tuple #[str R,.int .i64 (pl.1:Nat),.bool true]) (by simp [results,Tryz.results134,go_sem]) rfl ?_
 exact ⟨by rw [HR.out],HB.out⟩
theorem okAt_eq {t:Ty} {v:Pl} {k:Nat} {m:Bs} {z:Int} (h:v[k]? = some (m,z)):okAt t v k=(mvOk t m && (byOpp m == decide (k % 2=0)) && (if k=0 then m == [113] && decide (z = -1) else decide (0<=z) && decide (z<(k:Int)) && !(m == [113]) && ((v[z.toNat]?).map (·.1) == some (enab m)))):=by
 unfold okAt;rw [h]
theorem even_int (k:Nat):((k:Int) % 2 == 0)=decide (k % 2=0):=by
 rw [Bool.eq_iff_iff,beq_iff_eq,decide_eq_true_iff];omega
theorem PtRep.cells {F:Nat->Prop} {w:World} {v:Pl} {x:Value} (h:PtRep F w v x):∃ a c,x=.slice a v.length c/\∀ (i:Nat) (m:Bs×Int),v[i]? = some m->∃ b o,a=some ⟨b,o,none⟩/\F b/\b<w.heap.size/\w.cell? ⟨b,o+i,none⟩=some (.int .i64 m.2):=by
 obtain ⟨a,c,e,_,_,hats⟩:=Rep_sl1_open h
 refine ⟨a,c,e,fun i m hi=>?_⟩
 obtain ⟨b,o,u,d,ea,hF,hlt,hd,hc,hr⟩:=hats i (List.getElem?_eq_some_iff.1 hi).1
 rw [List.getElem?_map,hi] at hd
 obtain rfl:=Option.some.inj hd
 rw [Rep_val] at hr
 subst hr
 exact ⟨b,o,ea,hF,hlt,hc⟩
set_option maxRecDepth 100000 in
theorem hasPlay_v (F:Nat->Prop) (t:Ty) (kv mv pt:Value) (v:Pl) (w:World) (hk:Rep F w (encK t) kv) (ht:atomsT t<=15) (hm:MvRep F w v mv) (hp:PtRep F w v pt) (h60:v.length<=60) (hl:∀ x∈v,Lim x.1.length) :
 Calls Tryz.prog 112 #[kv,.agg #[mv,pt]] w fun en w'=>en=.returned (.bool (allAt t v v.length))/\Below w.heap.size w w':=by
 obtain ⟨kb,ks,rfl,_⟩:=encK_open hk
 obtain ⟨ma,mc,rfl,hmc⟩:=hm.cells
 obtain ⟨pa,pc,rfl,hpc⟩:=hp.cells
 obtain ⟨W,hW,hbW,hz,b0⟩:=box_1 w (.cells #[.slice ma v.length mc,.slice pa v.length pc] 33)
 obtain ⟨c0,c1,_,_⟩:=cells_2 b0
 have hlen:¬ (60:Int)<(v.length:Int):=by omega
 have hne:((v.length:Int) != (v.length:Int))=false:=by simp
 have hkW:=hk.below hbW (fun _ h=>h)
 have HH:=Lib.hid (And.intro hmc (And.intro hpc (And.intro hbW (And.intro hkW hl))))
 have HW:=Lib.hid hW
 clear hk hm hp hmc hpc hz b0 hkW hbW hW hl
 go_enter Tryz.func112,Tryz.ntmps112
 go_upto_region 1 with (fail)
 rw [HW.out]
 go_wp2_with fail
 go_loopw [24] (fun i wr=>∃ (wz:World) (k:Nat),wz=wr/\k<=v.length/\i=.int .i64 k/\allAt t v k=true/\Below W.heap.size W wz) (fun i _=>v.length-(intOf i).toNat)
 case atStart=>exact ⟨_,0,rfl,Nat.zero_le _,rfl,rfl,Below.refl _ _⟩
 case round =>
  obtain ⟨wr,k,rfl,hk,rfl,hall,hB⟩:=hrel
  have d0:=(hB.cell (World.block_lt_of_cell? _ _ c0)).trans c0
  have d1:=(hB.cell (World.block_lt_of_cell? _ _ c1)).trans c1
  clear c0 c1
  have HB:=Lib.hid (And.intro hB (zzT HH.out.2.2.1 hB))
  clear hB
  by_cases hlt:k<v.length
  ·have hlt':(k:Int)<(v.length:Int):=by omega
   obtain ⟨⟨m,z⟩,hvk⟩:∃ x,v[k]? = some x:=⟨_,List.getElem?_eq_getElem hlt⟩
   obtain ⟨mb,mo,rfl,_,hmb,hmk⟩:=HH.out.1 k _ hvk
   obtain ⟨pb,po,rfl,_,hpb,hpk⟩:=HH.out.2.1 k _ hvk
   have m0:=(HB.out.2.cell (p:=⟨mb,mo+k,none⟩) hmb).trans hmk
   have p0:=(HB.out.2.cell (p:=⟨pb,po+k,none⟩) hpb).trans hpk
   have hok:=okAt_eq (t:=t) hvk
   have hlm:Lim m.length:=HH.out.2.2.2.2 _ (List.mem_of_getElem? hvk)
   have CM:=Lib.hid (hasMove_any F t (.pointer (some ⟨kb,0,none⟩)) m wr (HH.out.2.2.2.1.below HB.out.1 (fun _ h=>h)) ht hlm)
   have HA:=Lib.hid (And.intro hall (And.intro hvk hok))
   have FALSE:Hid (okAt t v k=false->allAt t v v.length=false):=Lib.hid (fun h=>allAt_false h hlt)
   clear hall hmb hpb hmk hpk hok
   cases hmv:mvOk t m with
   | false =>
     have E:=Lib.hid (FALSE.out (by rw [HA.out.2.2,hmv];rfl))
     rw [hmv] at CM
     clear FALSE hvk hlm
     go_wp2_with fail
     (with_reducible refine CM.out.mono ?_)
     rintro en w1 ⟨rfl,e⟩
     subst w1
     go_wp2_with fail
     go_ret
     exact ⟨by rw [E.out];rfl,HB.out.2⟩
   | true =>
     rw [hmv] at CM
     obtain ⟨c,p,hcp⟩:∃ c p,m=c::p:=by
      cases m with
      | nil=>simp [mvOk] at hmv
      | cons c p=>exact ⟨c,p,rfl⟩
     have hpl:p.length<=16777216:=by have:=hlm.le;rw [hcp,List.length_cons] at this;omega
     have CB:=Lib.hid (byOpponent_any c p hpl wr)
     have CE:=Lib.hid (fun x=>enabler_any c p hpl x)
     rw [<- hcp] at CB CE
     obtain ⟨bo,hbo⟩:=zzN (byOpp m)
     obtain ⟨en0,hen0⟩:=zzN (enab m)
     rw [hbo] at CB
     rw [hen0] at CE
     have HO:Hid (okAt t v k=((bo == decide (k % 2=0)) && (if k=0 then m == [113] && decide (z = -1) else decide (0<=z) && decide (z<(k:Int)) && !(m == [113]) && ((v[z.toNat]?).map (·.1) == some en0)))):=by
      rw [HA.out.2.2,hmv,hbo,hen0];exact Lib.hid (by rw [Bool.true_and])
     clear hbo hen0 hmv hlm hpl hcp hvk
     by_cases hb1:bo=((k:Int) % 2 == 0)
     ·subst hb1
      have hb2:(((k:Int) % 2 == 0) == decide (k % 2=0))=true:=by rw [even_int];simp
      replace HO:Hid (okAt t v k=(if k=0 then m == [113] && decide (z = -1) else decide (0<=z) && decide (z<(k:Int)) && !(m == [113]) && ((v[z.toNat]?).map (·.1) == some en0))):=by rw [HO.out,hb2];exact Lib.hid (by rw [Bool.true_and])
      clear hb2
      by_cases hz1:z < -1
      ·have E:=Lib.hid (FALSE.out (by rw [HO.out];split;(· rw [Bool.and_eq_false_iff];exact .inr (by simp;omega));(· simp only [Bool.and_eq_false_iff];exact .inl (.inl (.inl (by simp;omega))))))
       clear FALSE HO
       go_wp2_with fail
       (with_reducible refine CM.out.mono ?_)
       rintro en w1 ⟨rfl,e⟩
       subst w1
       go_wp2_with fail
       (with_reducible refine CB.out.mono ?_)
       rintro en w2 ⟨rfl,e⟩
       subst w2
       go_wp2_with fail
       go_ret
       exact ⟨by rw [E.out];rfl,HB.out.2⟩
      by_cases hz2:(k:Int)<=z
      ·have E:=Lib.hid (FALSE.out (by rw [HO.out];split;(· rw [Bool.and_eq_false_iff];exact .inr (by simp;omega));(· simp only [Bool.and_eq_false_iff];exact .inl (.inl (.inr (by simp;omega))))))
       clear FALSE HO
       go_wp2_with fail
       (with_reducible refine CM.out.mono ?_)
       rintro en w1 ⟨rfl,e⟩
       subst w1
       go_wp2_with fail
       (with_reducible refine CB.out.mono ?_)
       rintro en w2 ⟨rfl,e⟩
       subst w2
       go_wp2_with fail
       go_ret
       exact ⟨by rw [E.out];rfl,HB.out.2⟩
      by_cases hk0:k=0
      ·have hk0b:((k:Int) == 0)=true:=by rw [hk0];rfl
       have hz:z = -1:=by omega
       have hzb:(z == -1)=true:=by rw [hz];rfl
       have hkp:¬ (0:Int)<(k:Int):=by omega
       have hkn:(0<k)=False:=by simp [hk0]
       replace HO:Hid (okAt t v k=(m == [113] && decide (z = -1))):=by rw [HO.out,if_pos hk0];exact Lib.hid rfl
       have hd:decide (z = -1)=true:=by simp [hz]
       cases hmq:((m:Bs) == [113]) with
       | false =>
         have hmq2:((m:Bs) != [113])=true:=by rw [bne,hmq];rfl
         have E:=Lib.hid (FALSE.out (by rw [HO.out,hmq];rfl))
         clear FALSE HO hz hk0 hd
         go_wp2_with fail
         (with_reducible refine CM.out.mono ?_)
         rintro en w1 ⟨rfl,e⟩
         subst w1
         go_wp2_with fail
         (with_reducible refine CB.out.mono ?_)
         rintro en w2 ⟨rfl,e⟩
         subst w2
         go_upto_region 9 with (fail)
         refine wp_region_noPanic ?_
         refine wp_region_S (fun w'=>Below wr.heap.size wr w') (fun _=>false) (by kernel_rfl) ?_
         have hSd:(fun w'=>Below wr.heap.size wr w') wr.drew:=Below.drew (Below.refl _ _)
         refine wpAnyS_take 0 (v:=?_) (by kernel_rfl) (by kernel_rfl) (by kernel_rfl) (by kernel_rfl) (fun _ _ _ _ h=>h) hSd ?_ ?_
         rotate_left
         ·(intro oi ho;simp at ho;subst ho;refine Or.inl ⟨by rfl,fun w' hw'=>?_⟩;go_simp;try with_reducible rfl)
         (intro d hd;simp at hd;subst hd;simp only [Act.put,List.setIfInBounds_toArray,List.set_cons_zero,List.set_cons_succ])
         refine wpAnyS_take 1 (v:=?_) (by kernel_rfl) (by kernel_rfl) (by kernel_rfl) (by kernel_rfl) (fun _ _ _ _ h=>h) hSd ?_ ?_
         rotate_left
         ·(intro oi ho;simp at ho;subst ho;refine Or.inl ⟨by rfl,fun w' hw'=>?_⟩;go_simp;try with_reducible rfl)
         (intro d hd;simp at hd;subst hd;simp only [Act.put,List.setIfInBounds_toArray,List.set_cons_zero,List.set_cons_succ])
         refine wpAnyS_take 2 (v:=?_) (by kernel_rfl) (by kernel_rfl) (by kernel_rfl) (by kernel_rfl) (fun _ _ _ _ h=>h) hSd ?_ ?_
         rotate_left
         ·(intro oi ho;simp at ho;subst ho;refine Or.inl ⟨by rfl,fun w' hw'=>?_⟩;go_simp;try with_reducible rfl)
         (intro d hd;simp at hd;subst hd;simp only [Act.put,List.setIfInBounds_toArray,List.set_cons_zero,List.set_cons_succ])
         refine wpAnyS_take 3 (v:=?_) (by kernel_rfl) (by kernel_rfl) (by kernel_rfl) (by kernel_rfl) (fun _ _ _ _ h=>h) hSd ?_ ?_
         rotate_left
         ·(intro oi ho;simp at ho;subst ho;refine Or.inl ⟨by rfl,fun w' hw'=>?_⟩;go_simp;try with_reducible rfl)
         (intro d hd;simp at hd;subst hd;simp only [Act.put,List.setIfInBounds_toArray,List.set_cons_zero,List.set_cons_succ])
         refine wpAnyS_take 4 (v:=?_) (by kernel_rfl) (by kernel_rfl) (by kernel_rfl) (by kernel_rfl) (fun _ _ _ _ h=>h) hSd ?_ ?_
         rotate_left
         ·(intro oi ho;simp at ho;subst ho;refine Or.inl ⟨by rfl,fun w' hw'=>?_⟩;go_simp;try with_reducible rfl)
         (intro d hd;simp at hd;subst hd;simp only [Act.put,List.setIfInBounds_toArray,List.set_cons_zero,List.set_cons_succ])
         refine wpAnyS_take 5 (v:=?_) (by kernel_rfl) (by kernel_rfl) (by kernel_rfl) (by kernel_rfl) (fun _ _ _ _ h=>h) hSd ?_ ?_
         rotate_left
         ·(intro oi ho;simp at ho;subst ho;refine Or.inl ⟨by rfl,fun w' hw'=>?_⟩;go_simp;try with_reducible rfl)
         (intro d hd;simp at hd;subst hd;simp only [Act.put,List.setIfInBounds_toArray,List.set_cons_zero,List.set_cons_succ])
         refine wpAnyS_take 6 (v:=?_) (by kernel_rfl) (by kernel_rfl) (by kernel_rfl) (by kernel_rfl) (fun _ _ _ _ h=>h) hSd ?_ ?_
         rotate_left
         ·(intro oi ho;simp at ho;subst ho;refine Or.inl ⟨by rfl,fun w' hw'=>?_⟩;go_simp;try with_reducible rfl)
         (intro d hd;simp at hd;subst hd;simp only [Act.put,List.setIfInBounds_toArray,List.set_cons_zero,List.set_cons_succ])
         refine wpAnyS_take 7 (v:=undef) (by kernel_rfl) (by kernel_rfl) (by kernel_rfl) (by kernel_rfl) (fun _ _ _ _ h=>h) hSd (fun oi ho=>by simp at ho;subst ho;exact Or.inr ⟨by rfl,rfl⟩) ?_
         (intro d hd;simp at hd;subst hd;simp only [Act.put,List.setIfInBounds_toArray,List.set_cons_zero,List.set_cons_succ])
         refine wpAnyS_take 8 (v:=undef) (by kernel_rfl) (by kernel_rfl) (by kernel_rfl) (by kernel_rfl) (fun _ _ _ _ h=>h) hSd (fun oi ho=>by simp at ho;subst ho;exact Or.inr ⟨by rfl,rfl⟩) ?_
         (intro d hd;simp at hd;subst hd;simp only [Act.put,List.setIfInBounds_toArray,List.set_cons_zero,List.set_cons_succ])
         refine wpAnyS_take 9 (v:=undef) (by kernel_rfl) (by kernel_rfl) (by kernel_rfl) (by kernel_rfl) (fun _ _ _ _ h=>h) hSd (fun oi ho=>by simp at ho;subst ho;exact Or.inr ⟨by rfl,rfl⟩) ?_
         (intro d hd;simp at hd;subst hd;simp only [Act.put,List.setIfInBounds_toArray,List.set_cons_zero,List.set_cons_succ])
         refine wpAnyS_take 10 (v:=undef) (by kernel_rfl) (by kernel_rfl) (by kernel_rfl) (by kernel_rfl) (fun _ _ _ _ h=>h) hSd (fun oi ho=>by simp at ho;subst ho;exact Or.inr ⟨by rfl,rfl⟩) ?_
         (intro d hd;simp at hd;subst hd;simp only [Act.put,List.setIfInBounds_toArray,List.set_cons_zero,List.set_cons_succ])
         refine wpAnyS_take 11 (v:=undef) (by kernel_rfl) (by kernel_rfl) (by kernel_rfl) (by kernel_rfl) (fun _ _ _ _ h=>h) hSd (fun oi ho=>by simp at ho;subst ho;exact Or.inr ⟨by rfl,rfl⟩) ?_
         (intro d hd;simp at hd;subst hd;simp only [Act.put,List.setIfInBounds_toArray,List.set_cons_zero,List.set_cons_succ])
         refine wpAnyS_take 12 (v:=undef) (by kernel_rfl) (by kernel_rfl) (by kernel_rfl) (by kernel_rfl) (fun _ _ _ _ h=>h) hSd (fun oi ho=>by simp at ho;subst ho;exact Or.inr ⟨by rfl,rfl⟩) ?_
         (intro d hd;simp at hd;subst hd;simp only [Act.put,List.setIfInBounds_toArray,List.set_cons_zero,List.set_cons_succ])
         refine wpAnyS_take 13 (v:=undef) (by kernel_rfl) (by kernel_rfl) (by kernel_rfl) (by kernel_rfl) (fun _ _ _ _ h=>h) hSd (fun oi ho=>by simp at ho;subst ho;exact Or.inr ⟨by rfl,rfl⟩) ?_
         (intro d hd;simp at hd;subst hd;simp only [Act.put,List.setIfInBounds_toArray,List.set_cons_zero,List.set_cons_succ])
         refine wpAnyS_take 14 (v:=undef) (by kernel_rfl) (by kernel_rfl) (by kernel_rfl) (by kernel_rfl) (fun _ _ _ _ h=>h) hSd (fun oi ho=>by simp at ho;subst ho;exact Or.inr ⟨by rfl,rfl⟩) ?_
         (intro d hd;simp at hd;subst hd;simp only [Act.put,List.setIfInBounds_toArray,List.set_cons_zero,List.set_cons_succ])
         refine wpAnyS_take 15 (v:=undef) (by kernel_rfl) (by kernel_rfl) (by kernel_rfl) (by kernel_rfl) (fun _ _ _ _ h=>h) hSd (fun oi ho=>by simp at ho;subst ho;exact Or.inr ⟨by rfl,rfl⟩) ?_
         (intro d hd;simp at hd;subst hd;simp only [Act.put,List.setIfInBounds_toArray,List.set_cons_zero,List.set_cons_succ])
         refine wpAnyS_take 16 (v:=undef) (by kernel_rfl) (by kernel_rfl) (by kernel_rfl) (by kernel_rfl) (fun _ _ _ _ h=>h) hSd (fun oi ho=>by simp at ho;subst ho;exact Or.inr ⟨by rfl,rfl⟩) ?_
         (intro d hd;simp at hd;subst hd;simp only [Act.put,List.setIfInBounds_toArray,List.set_cons_zero,List.set_cons_succ])
         refine wpAnyS_take 17 (v:=undef) (by kernel_rfl) (by kernel_rfl) (by kernel_rfl) (by kernel_rfl) (fun _ _ _ _ h=>h) hSd (fun oi ho=>by simp at ho;subst ho;exact Or.inr ⟨by rfl,rfl⟩) ?_
         (intro d hd;simp at hd;subst hd;simp only [Act.put,List.setIfInBounds_toArray,List.set_cons_zero,List.set_cons_succ])
         refine wpAnyS_take 18 (v:=undef) (by kernel_rfl) (by kernel_rfl) (by kernel_rfl) (by kernel_rfl) (fun _ _ _ _ h=>h) hSd (fun oi ho=>by simp at ho;subst ho;exact Or.inr ⟨by rfl,rfl⟩) ?_
         (intro d hd;simp at hd;subst hd;simp only [Act.put,List.setIfInBounds_toArray,List.set_cons_zero,List.set_cons_succ])
         refine wpAnyS_take 19 (v:=undef) (by kernel_rfl) (by kernel_rfl) (by kernel_rfl) (by kernel_rfl) (fun _ _ _ _ h=>h) hSd (fun oi ho=>by simp at ho;subst ho;exact Or.inr ⟨by rfl,rfl⟩) ?_
         (intro d hd;simp at hd;subst hd;simp only [Act.put,List.setIfInBounds_toArray,List.set_cons_zero,List.set_cons_succ])
         refine wpAnyS_take 20 (v:=undef) (by kernel_rfl) (by kernel_rfl) (by kernel_rfl) (by kernel_rfl) (fun _ _ _ _ h=>h) hSd (fun oi ho=>by simp at ho;subst ho;exact Or.inr ⟨by rfl,rfl⟩) ?_
         (intro d hd;simp at hd;subst hd;simp only [Act.put,List.setIfInBounds_toArray,List.set_cons_zero,List.set_cons_succ])
         refine wpAnyS_take 21 (v:=undef) (by kernel_rfl) (by kernel_rfl) (by kernel_rfl) (by kernel_rfl) (fun _ _ _ _ h=>h) hSd (fun oi ho=>by simp at ho;subst ho;exact Or.inr ⟨by rfl,rfl⟩) ?_
         (intro d hd;simp at hd;subst hd;simp only [Act.put,List.setIfInBounds_toArray,List.set_cons_zero,List.set_cons_succ])
         refine wpAnyS_take 22 (v:=undef) (by kernel_rfl) (by kernel_rfl) (by kernel_rfl) (by kernel_rfl) (fun _ _ _ _ h=>h) hSd (fun oi ho=>by simp at ho;subst ho;exact Or.inr ⟨by rfl,rfl⟩) ?_
         (intro d hd;simp at hd;subst hd;simp only [Act.put,List.setIfInBounds_toArray,List.set_cons_zero,List.set_cons_succ])
         refine wpAnyS_take 23 (v:=?_) (by kernel_rfl) (by kernel_rfl) (by kernel_rfl) (by kernel_rfl) (fun _ _ _ _ h=>h) hSd ?_ ?_
         rotate_left
         ·(intro oi ho;simp at ho;subst ho;refine Or.inl ⟨by rfl,fun w' hw'=>?_⟩;go_simp;try with_reducible rfl)
         (intro d hd;simp at hd;subst hd;simp only [Act.put,List.setIfInBounds_toArray,List.set_cons_zero,List.set_cons_succ])
         refine wpAnyS_done (by kernel_rfl) (NoPanic.normal ?_) _
         go_wp2_with fail
         go_ret
         exact ⟨by rw [E.out];rfl,below_dN HB.out.2 _⟩
       | true =>
         have hmq2:((m:Bs) != [113])=false:=by rw [bne,hmq];rfl
         have E:=Lib.hid (show allAt t v (k+1)=true by rw [allAt,HA.out.1,HO.out,hmq,hd];rfl)
         clear FALSE HO hz hk0 hd
         go_wp2_with fail
         (with_reducible refine CM.out.mono ?_)
         rintro en w1 ⟨rfl,e⟩
         subst w1
         go_wp2_with fail
         (with_reducible refine CB.out.mono ?_)
         rintro en w2 ⟨rfl,e⟩
         subst w2
         go_upto_region 9 with (fail)
         refine wp_region_noPanic ?_
         refine wp_region_S (fun w'=>Below wr.heap.size wr w') (fun _=>false) (by kernel_rfl) ?_
         have hSd:(fun w'=>Below wr.heap.size wr w') wr.drew:=Below.drew (Below.refl _ _)
         refine wpAnyS_take 0 (v:=?_) (by kernel_rfl) (by kernel_rfl) (by kernel_rfl) (by kernel_rfl) (fun _ _ _ _ h=>h) hSd ?_ ?_
         rotate_left
         ·(intro oi ho;simp at ho;subst ho;refine Or.inl ⟨by rfl,fun w' hw'=>?_⟩;go_simp;try with_reducible rfl)
         (intro d hd;simp at hd;subst hd;simp only [Act.put,List.setIfInBounds_toArray,List.set_cons_zero,List.set_cons_succ])
         refine wpAnyS_take 1 (v:=?_) (by kernel_rfl) (by kernel_rfl) (by kernel_rfl) (by kernel_rfl) (fun _ _ _ _ h=>h) hSd ?_ ?_
         rotate_left
         ·(intro oi ho;simp at ho;subst ho;refine Or.inl ⟨by rfl,fun w' hw'=>?_⟩;go_simp;try with_reducible rfl)
         (intro d hd;simp at hd;subst hd;simp only [Act.put,List.setIfInBounds_toArray,List.set_cons_zero,List.set_cons_succ])
         refine wpAnyS_take 2 (v:=?_) (by kernel_rfl) (by kernel_rfl) (by kernel_rfl) (by kernel_rfl) (fun _ _ _ _ h=>h) hSd ?_ ?_
         rotate_left
         ·(intro oi ho;simp at ho;subst ho;refine Or.inl ⟨by rfl,fun w' hw'=>?_⟩;go_simp;try with_reducible rfl)
         (intro d hd;simp at hd;subst hd;simp only [Act.put,List.setIfInBounds_toArray,List.set_cons_zero,List.set_cons_succ])
         refine wpAnyS_take 3 (v:=?_) (by kernel_rfl) (by kernel_rfl) (by kernel_rfl) (by kernel_rfl) (fun _ _ _ _ h=>h) hSd ?_ ?_
         rotate_left
         ·(intro oi ho;simp at ho;subst ho;refine Or.inl ⟨by rfl,fun w' hw'=>?_⟩;go_simp;try with_reducible rfl)
         (intro d hd;simp at hd;subst hd;simp only [Act.put,List.setIfInBounds_toArray,List.set_cons_zero,List.set_cons_succ])
         refine wpAnyS_take 4 (v:=?_) (by kernel_rfl) (by kernel_rfl) (by kernel_rfl) (by kernel_rfl) (fun _ _ _ _ h=>h) hSd ?_ ?_
         rotate_left
         ·(intro oi ho;simp at ho;subst ho;refine Or.inl ⟨by rfl,fun w' hw'=>?_⟩;go_simp;try with_reducible rfl)
         (intro d hd;simp at hd;subst hd;simp only [Act.put,List.setIfInBounds_toArray,List.set_cons_zero,List.set_cons_succ])
         refine wpAnyS_take 5 (v:=?_) (by kernel_rfl) (by kernel_rfl) (by kernel_rfl) (by kernel_rfl) (fun _ _ _ _ h=>h) hSd ?_ ?_
         rotate_left
         ·(intro oi ho;simp at ho;subst ho;refine Or.inl ⟨by rfl,fun w' hw'=>?_⟩;go_simp;try with_reducible rfl)
         (intro d hd;simp at hd;subst hd;simp only [Act.put,List.setIfInBounds_toArray,List.set_cons_zero,List.set_cons_succ])
         refine wpAnyS_take 6 (v:=?_) (by kernel_rfl) (by kernel_rfl) (by kernel_rfl) (by kernel_rfl) (fun _ _ _ _ h=>h) hSd ?_ ?_
         rotate_left
         ·(intro oi ho;simp at ho;subst ho;refine Or.inl ⟨by rfl,fun w' hw'=>?_⟩;go_simp;try with_reducible rfl)
         (intro d hd;simp at hd;subst hd;simp only [Act.put,List.setIfInBounds_toArray,List.set_cons_zero,List.set_cons_succ])
         refine wpAnyS_take 7 (v:=?_) (by kernel_rfl) (by kernel_rfl) (by kernel_rfl) (by kernel_rfl) (fun _ _ _ _ h=>h) hSd ?_ ?_
         rotate_left
         ·(intro oi ho;simp at ho;subst ho;refine Or.inl ⟨by rfl,fun w' hw'=>?_⟩;go_simp;try with_reducible rfl)
         (intro d hd;simp at hd;subst hd;simp only [Act.put,List.setIfInBounds_toArray,List.set_cons_zero,List.set_cons_succ])
         refine wpAnyS_take 8 (v:=?_) (by kernel_rfl) (by kernel_rfl) (by kernel_rfl) (by kernel_rfl) (fun _ _ _ _ h=>h) hSd ?_ ?_
         rotate_left
         ·(intro oi ho;simp at ho;subst ho;refine Or.inl ⟨by rfl,fun w' hw'=>?_⟩;go_simp;try with_reducible rfl)
         (intro d hd;simp at hd;subst hd;simp only [Act.put,List.setIfInBounds_toArray,List.set_cons_zero,List.set_cons_succ])
         refine wpAnyS_take 9 (v:=?_) (by kernel_rfl) (by kernel_rfl) (by kernel_rfl) (by kernel_rfl) (fun _ _ _ _ h=>h) hSd ?_ ?_
         rotate_left
         ·(intro oi ho;simp at ho;subst ho;refine Or.inl ⟨by rfl,fun w' hw'=>?_⟩;go_simp;try with_reducible rfl)
         (intro d hd;simp at hd;subst hd;simp only [Act.put,List.setIfInBounds_toArray,List.set_cons_zero,List.set_cons_succ])
         refine wpAnyS_take 10 (v:=undef) (by kernel_rfl) (by kernel_rfl) (by kernel_rfl) (by kernel_rfl) (fun _ _ _ _ h=>h) hSd (fun oi ho=>by simp at ho;subst ho;exact Or.inr ⟨by rfl,rfl⟩) ?_
         (intro d hd;simp at hd;subst hd;simp only [Act.put,List.setIfInBounds_toArray,List.set_cons_zero,List.set_cons_succ])
         refine wpAnyS_take 11 (v:=undef) (by kernel_rfl) (by kernel_rfl) (by kernel_rfl) (by kernel_rfl) (fun _ _ _ _ h=>h) hSd (fun oi ho=>by simp at ho;subst ho;exact Or.inr ⟨by rfl,rfl⟩) ?_
         (intro d hd;simp at hd;subst hd;simp only [Act.put,List.setIfInBounds_toArray,List.set_cons_zero,List.set_cons_succ])
         refine wpAnyS_take 12 (v:=undef) (by kernel_rfl) (by kernel_rfl) (by kernel_rfl) (by kernel_rfl) (fun _ _ _ _ h=>h) hSd (fun oi ho=>by simp at ho;subst ho;exact Or.inr ⟨by rfl,rfl⟩) ?_
         (intro d hd;simp at hd;subst hd;simp only [Act.put,List.setIfInBounds_toArray,List.set_cons_zero,List.set_cons_succ])
         refine wpAnyS_take 13 (v:=undef) (by kernel_rfl) (by kernel_rfl) (by kernel_rfl) (by kernel_rfl) (fun _ _ _ _ h=>h) hSd (fun oi ho=>by simp at ho;subst ho;exact Or.inr ⟨by rfl,rfl⟩) ?_
         (intro d hd;simp at hd;subst hd;simp only [Act.put,List.setIfInBounds_toArray,List.set_cons_zero,List.set_cons_succ])
         refine wpAnyS_take 14 (v:=undef) (by kernel_rfl) (by kernel_rfl) (by kernel_rfl) (by kernel_rfl) (fun _ _ _ _ h=>h) hSd (fun oi ho=>by simp at ho;subst ho;exact Or.inr ⟨by rfl,rfl⟩) ?_
         (intro d hd;simp at hd;subst hd;simp only [Act.put,List.setIfInBounds_toArray,List.set_cons_zero,List.set_cons_succ])
         refine wpAnyS_take 15 (v:=undef) (by kernel_rfl) (by kernel_rfl) (by kernel_rfl) (by kernel_rfl) (fun _ _ _ _ h=>h) hSd (fun oi ho=>by simp at ho;subst ho;exact Or.inr ⟨by rfl,rfl⟩) ?_
         (intro d hd;simp at hd;subst hd;simp only [Act.put,List.setIfInBounds_toArray,List.set_cons_zero,List.set_cons_succ])
         refine wpAnyS_take 16 (v:=undef) (by kernel_rfl) (by kernel_rfl) (by kernel_rfl) (by kernel_rfl) (fun _ _ _ _ h=>h) hSd (fun oi ho=>by simp at ho;subst ho;exact Or.inr ⟨by rfl,rfl⟩) ?_
         (intro d hd;simp at hd;subst hd;simp only [Act.put,List.setIfInBounds_toArray,List.set_cons_zero,List.set_cons_succ])
         refine wpAnyS_take 17 (v:=undef) (by kernel_rfl) (by kernel_rfl) (by kernel_rfl) (by kernel_rfl) (fun _ _ _ _ h=>h) hSd (fun oi ho=>by simp at ho;subst ho;exact Or.inr ⟨by rfl,rfl⟩) ?_
         (intro d hd;simp at hd;subst hd;simp only [Act.put,List.setIfInBounds_toArray,List.set_cons_zero,List.set_cons_succ])
         refine wpAnyS_take 18 (v:=undef) (by kernel_rfl) (by kernel_rfl) (by kernel_rfl) (by kernel_rfl) (fun _ _ _ _ h=>h) hSd (fun oi ho=>by simp at ho;subst ho;exact Or.inr ⟨by rfl,rfl⟩) ?_
         (intro d hd;simp at hd;subst hd;simp only [Act.put,List.setIfInBounds_toArray,List.set_cons_zero,List.set_cons_succ])
         refine wpAnyS_take 19 (v:=undef) (by kernel_rfl) (by kernel_rfl) (by kernel_rfl) (by kernel_rfl) (fun _ _ _ _ h=>h) hSd (fun oi ho=>by simp at ho;subst ho;exact Or.inr ⟨by rfl,rfl⟩) ?_
         (intro d hd;simp at hd;subst hd;simp only [Act.put,List.setIfInBounds_toArray,List.set_cons_zero,List.set_cons_succ])
         refine wpAnyS_take 20 (v:=undef) (by kernel_rfl) (by kernel_rfl) (by kernel_rfl) (by kernel_rfl) (fun _ _ _ _ h=>h) hSd (fun oi ho=>by simp at ho;subst ho;exact Or.inr ⟨by rfl,rfl⟩) ?_
         (intro d hd;simp at hd;subst hd;simp only [Act.put,List.setIfInBounds_toArray,List.set_cons_zero,List.set_cons_succ])
         refine wpAnyS_take 21 (v:=undef) (by kernel_rfl) (by kernel_rfl) (by kernel_rfl) (by kernel_rfl) (fun _ _ _ _ h=>h) hSd (fun oi ho=>by simp at ho;subst ho;exact Or.inr ⟨by rfl,rfl⟩) ?_
         (intro d hd;simp at hd;subst hd;simp only [Act.put,List.setIfInBounds_toArray,List.set_cons_zero,List.set_cons_succ])
         refine wpAnyS_take 22 (v:=?_) (by kernel_rfl) (by kernel_rfl) (by kernel_rfl) (by kernel_rfl) (fun _ _ _ _ h=>h) hSd ?_ ?_
         rotate_left
         ·(intro oi ho;simp at ho;subst ho;refine Or.inl ⟨by rfl,fun w' hw'=>?_⟩;go_simp;try with_reducible rfl)
         (intro d hd;simp at hd;subst hd;simp only [Act.put,List.setIfInBounds_toArray,List.set_cons_zero,List.set_cons_succ])
         refine wpAnyS_take 23 (v:=?_) (by kernel_rfl) (by kernel_rfl) (by kernel_rfl) (by kernel_rfl) (fun _ _ _ _ h=>h) hSd ?_ ?_
         rotate_left
         ·(intro oi ho;simp at ho;subst ho;refine Or.inl ⟨by rfl,fun w' hw'=>?_⟩;go_simp;try with_reducible rfl)
         (intro d hd;simp at hd;subst hd;simp only [Act.put,List.setIfInBounds_toArray,List.set_cons_zero,List.set_cons_succ])
         refine wpAnyS_done (by kernel_rfl) (NoPanic.normal ?_) _
         go_wp2_with fail
         go_roundw
         case rel=>exact ⟨_,k+1,rfl,by omega,by go_num,E.out,HB.out.1.drew⟩
         case measure=>simp [intOf];omega
      ·have hk0b:((k:Int) == 0)=false:=by rw [beq_eq_false_iff_ne];omega
       have hkp:(0:Int)<(k:Int):=by omega
       have hkn:(0<k)=True:=by simp;omega
       replace HO:Hid (okAt t v k=(decide (0<=z) && decide (z<(k:Int)) && !(m == [113]) && ((v[z.toNat]?).map (·.1) == some en0))):=by rw [HO.out,if_neg hk0];exact Lib.hid rfl
       by_cases hz3:z = -1
       ·have hzb:(z == -1)=true:=by rw [hz3];rfl
        have E:=Lib.hid (FALSE.out (by rw [HO.out];simp only [Bool.and_eq_false_iff];exact .inl (.inl (.inl (by simp;omega)))))
        clear FALSE HO hz3 hk0
        go_wp2_with fail
        (with_reducible refine CM.out.mono ?_)
        rintro en w1 ⟨rfl,e⟩
        subst w1
        go_wp2_with fail
        (with_reducible refine CB.out.mono ?_)
        rintro en w2 ⟨rfl,e⟩
        subst w2
        go_wp2_with fail
        go_ret
        exact ⟨by rw [E.out];rfl,HB.out.2⟩
       have hzb:(z == -1)=false:=by rw [beq_eq_false_iff_ne];exact hz3
       obtain ⟨zn,hzn⟩:∃ zn:Nat,z=(zn:Int):=⟨z.toNat,by omega⟩
       subst hzn
       obtain ⟨⟨my,zy⟩,hvy⟩:∃ x,v[zn]? = some x:=⟨_,List.getElem?_eq_getElem (by omega)⟩
       have hznl:(zn:Int)<(v.length:Int):=by omega
       have hdd:(decide ((0:Int)<=(zn:Int)) && decide ((zn:Int)<(k:Int)))=true:=by simp;omega
       replace HO:Hid (okAt t v k=(!(m == [113]) && (my == en0))):=by rw [HO.out,hdd,Int.toNat_natCast,hvy];exact Lib.hid (by rw [Bool.true_and];rfl)
       obtain ⟨yb,yo,ey,_,hyb,hyk⟩:=HH.out.1 zn _ hvy
       simp only [Option.some.injEq,Addr.mk.injEq] at ey
       obtain ⟨rfl,rfl,_⟩:=ey
       have y0:=(HB.out.2.cell (p:=⟨mb,mo+zn,none⟩) hyb).trans hyk
       clear hyb hyk hvy hdd hz3
       cases hmq:((m:Bs) == [113]) with
       | true =>
         have E:=Lib.hid (FALSE.out (by rw [HO.out,hmq];rfl))
         clear FALSE HO hk0
         go_wp2_with fail
         (with_reducible refine CM.out.mono ?_)
         rintro en w1 ⟨rfl,e⟩
         subst w1
         go_wp2_with fail
         (with_reducible refine CB.out.mono ?_)
         rintro en w2 ⟨rfl,e⟩
         subst w2
         go_upto_region 9 with (fail)
         refine wp_region_noPanic ?_
         refine wp_region_S (fun w'=>Below wr.heap.size wr w') (fun _=>false) (by kernel_rfl) ?_
         have hSd:(fun w'=>Below wr.heap.size wr w') wr.drew:=Below.drew (Below.refl _ _)
         refine wpAnyS_take 0 (v:=?_) (by kernel_rfl) (by kernel_rfl) (by kernel_rfl) (by kernel_rfl) (fun _ _ _ _ h=>h) hSd ?_ ?_
         rotate_left
         ·(intro oi ho;simp at ho;subst ho;refine Or.inl ⟨by rfl,fun w' hw'=>?_⟩;go_simp;try with_reducible rfl)
         (intro d hd;simp at hd;subst hd;simp only [Act.put,List.setIfInBounds_toArray,List.set_cons_zero,List.set_cons_succ])
         refine wpAnyS_take 1 (v:=?_) (by kernel_rfl) (by kernel_rfl) (by kernel_rfl) (by kernel_rfl) (fun _ _ _ _ h=>h) hSd ?_ ?_
         rotate_left
         ·(intro oi ho;simp at ho;subst ho;refine Or.inl ⟨by rfl,fun w' hw'=>?_⟩;go_simp;try with_reducible rfl)
         (intro d hd;simp at hd;subst hd;simp only [Act.put,List.setIfInBounds_toArray,List.set_cons_zero,List.set_cons_succ])
         refine wpAnyS_take 2 (v:=?_) (by kernel_rfl) (by kernel_rfl) (by kernel_rfl) (by kernel_rfl) (fun _ _ _ _ h=>h) hSd ?_ ?_
         rotate_left
         ·(intro oi ho;simp at ho;subst ho;refine Or.inl ⟨by rfl,fun w' hw'=>?_⟩;go_simp;try with_reducible rfl)
         (intro d hd;simp at hd;subst hd;simp only [Act.put,List.setIfInBounds_toArray,List.set_cons_zero,List.set_cons_succ])
         refine wpAnyS_take 3 (v:=undef) (by kernel_rfl) (by kernel_rfl) (by kernel_rfl) (by kernel_rfl) (fun _ _ _ _ h=>h) hSd (fun oi ho=>by simp at ho;subst ho;exact Or.inr ⟨by rfl,rfl⟩) ?_
         (intro d hd;simp at hd;subst hd;simp only [Act.put,List.setIfInBounds_toArray,List.set_cons_zero,List.set_cons_succ])
         refine wpAnyS_take 4 (v:=undef) (by kernel_rfl) (by kernel_rfl) (by kernel_rfl) (by kernel_rfl) (fun _ _ _ _ h=>h) hSd (fun oi ho=>by simp at ho;subst ho;exact Or.inr ⟨by rfl,rfl⟩) ?_
         (intro d hd;simp at hd;subst hd;simp only [Act.put,List.setIfInBounds_toArray,List.set_cons_zero,List.set_cons_succ])
         refine wpAnyS_take 5 (v:=?_) (by kernel_rfl) (by kernel_rfl) (by kernel_rfl) (by kernel_rfl) (fun _ _ _ _ h=>h) hSd ?_ ?_
         rotate_left
         ·(intro oi ho;simp at ho;subst ho;refine Or.inl ⟨by rfl,fun w' hw'=>?_⟩;go_simp;try with_reducible rfl)
         (intro d hd;simp at hd;subst hd;simp only [Act.put,List.setIfInBounds_toArray,List.set_cons_zero,List.set_cons_succ])
         refine wpAnyS_take 6 (v:=?_) (by kernel_rfl) (by kernel_rfl) (by kernel_rfl) (by kernel_rfl) (fun _ _ _ _ h=>h) hSd ?_ ?_
         rotate_left
         ·(intro oi ho;simp at ho;subst ho;refine Or.inl ⟨by rfl,fun w' hw'=>?_⟩;go_simp;try with_reducible rfl)
         (intro d hd;simp at hd;subst hd;simp only [Act.put,List.setIfInBounds_toArray,List.set_cons_zero,List.set_cons_succ])
         refine wpAnyS_take 7 (v:=?_) (by kernel_rfl) (by kernel_rfl) (by kernel_rfl) (by kernel_rfl) (fun _ _ _ _ h=>h) hSd ?_ ?_
         rotate_left
         ·(intro oi ho;simp at ho;subst ho;refine Or.inl ⟨by rfl,fun w' hw'=>?_⟩;go_simp;try with_reducible rfl)
         (intro d hd;simp at hd;subst hd;simp only [Act.put,List.setIfInBounds_toArray,List.set_cons_zero,List.set_cons_succ])
         refine wpAnyS_take 8 (v:=?_) (by kernel_rfl) (by kernel_rfl) (by kernel_rfl) (by kernel_rfl) (fun _ _ _ _ h=>h) hSd ?_ ?_
         rotate_left
         ·(intro oi ho;simp at ho;subst ho;refine Or.inl ⟨by rfl,fun w' hw'=>?_⟩;go_simp;try with_reducible rfl)
         (intro d hd;simp at hd;subst hd;simp only [Act.put,List.setIfInBounds_toArray,List.set_cons_zero,List.set_cons_succ])
         refine wpAnyS_take 9 (v:=?_) (by kernel_rfl) (by kernel_rfl) (by kernel_rfl) (by kernel_rfl) (fun _ _ _ _ h=>h) hSd ?_ ?_
         rotate_left
         ·(intro oi ho;simp at ho;subst ho;refine Or.inl ⟨by rfl,fun w' hw'=>?_⟩;go_simp;try with_reducible rfl)
         (intro d hd;simp at hd;subst hd;simp only [Act.put,List.setIfInBounds_toArray,List.set_cons_zero,List.set_cons_succ])
         refine wpAnyS_take 10 (v:=?_) (by kernel_rfl) (by kernel_rfl) (by kernel_rfl) (by kernel_rfl) (fun _ _ _ _ h=>h) hSd ?_ ?_
         rotate_left
         ·(intro oi ho;simp at ho;subst ho;refine Or.inl ⟨by rfl,fun w' hw'=>?_⟩;go_simp;try with_reducible rfl)
         (intro d hd;simp at hd;subst hd;simp only [Act.put,List.setIfInBounds_toArray,List.set_cons_zero,List.set_cons_succ])
         refine wpAnyS_take 11 (v:=?_) (by kernel_rfl) (by kernel_rfl) (by kernel_rfl) (by kernel_rfl) (fun _ _ _ _ h=>h) hSd ?_ ?_
         rotate_left
         ·(intro oi ho;simp at ho;subst ho;refine Or.inl ⟨by rfl,fun w' hw'=>?_⟩;go_simp;try with_reducible rfl)
         (intro d hd;simp at hd;subst hd;simp only [Act.put,List.setIfInBounds_toArray,List.set_cons_zero,List.set_cons_succ])
         refine wpAnyS_take 12 (v:=?_) (by kernel_rfl) (by kernel_rfl) (by kernel_rfl) (by kernel_rfl) (fun _ _ _ _ h=>h) hSd ?_ ?_
         rotate_left
         ·(intro oi ho;simp at ho;subst ho;refine Or.inl ⟨by rfl,fun w' hw'=>?_⟩;go_simp;try with_reducible rfl)
         (intro d hd;simp at hd;subst hd;simp only [Act.put,List.setIfInBounds_toArray,List.set_cons_zero,List.set_cons_succ])
         refine wpAnyS_take 13 (v:=undef) (by kernel_rfl) (by kernel_rfl) (by kernel_rfl) (by kernel_rfl) (fun _ _ _ _ h=>h) hSd (fun oi ho=>by simp at ho;subst ho;exact Or.inr ⟨by rfl,rfl⟩) ?_
         (intro d hd;simp at hd;subst hd;simp only [Act.put,List.setIfInBounds_toArray,List.set_cons_zero,List.set_cons_succ])
         refine wpAnyS_take 14 (v:=undef) (by kernel_rfl) (by kernel_rfl) (by kernel_rfl) (by kernel_rfl) (fun _ _ _ _ h=>h) hSd (fun oi ho=>by simp at ho;subst ho;exact Or.inr ⟨by rfl,rfl⟩) ?_
         (intro d hd;simp at hd;subst hd;simp only [Act.put,List.setIfInBounds_toArray,List.set_cons_zero,List.set_cons_succ])
         refine wpAnyS_take 15 (v:=undef) (by kernel_rfl) (by kernel_rfl) (by kernel_rfl) (by kernel_rfl) (fun _ _ _ _ h=>h) hSd (fun oi ho=>by simp at ho;subst ho;exact Or.inr ⟨by rfl,rfl⟩) ?_
         (intro d hd;simp at hd;subst hd;simp only [Act.put,List.setIfInBounds_toArray,List.set_cons_zero,List.set_cons_succ])
         refine wpAnyS_take 16 (v:=undef) (by kernel_rfl) (by kernel_rfl) (by kernel_rfl) (by kernel_rfl) (fun _ _ _ _ h=>h) hSd (fun oi ho=>by simp at ho;subst ho;exact Or.inr ⟨by rfl,rfl⟩) ?_
         (intro d hd;simp at hd;subst hd;simp only [Act.put,List.setIfInBounds_toArray,List.set_cons_zero,List.set_cons_succ])
         refine wpAnyS_take 17 (v:=undef) (by kernel_rfl) (by kernel_rfl) (by kernel_rfl) (by kernel_rfl) (fun _ _ _ _ h=>h) hSd (fun oi ho=>by simp at ho;subst ho;exact Or.inr ⟨by rfl,rfl⟩) ?_
         (intro d hd;simp at hd;subst hd;simp only [Act.put,List.setIfInBounds_toArray,List.set_cons_zero,List.set_cons_succ])
         refine wpAnyS_take 18 (v:=undef) (by kernel_rfl) (by kernel_rfl) (by kernel_rfl) (by kernel_rfl) (fun _ _ _ _ h=>h) hSd (fun oi ho=>by simp at ho;subst ho;exact Or.inr ⟨by rfl,rfl⟩) ?_
         (intro d hd;simp at hd;subst hd;simp only [Act.put,List.setIfInBounds_toArray,List.set_cons_zero,List.set_cons_succ])
         refine wpAnyS_take 19 (v:=undef) (by kernel_rfl) (by kernel_rfl) (by kernel_rfl) (by kernel_rfl) (fun _ _ _ _ h=>h) hSd (fun oi ho=>by simp at ho;subst ho;exact Or.inr ⟨by rfl,rfl⟩) ?_
         (intro d hd;simp at hd;subst hd;simp only [Act.put,List.setIfInBounds_toArray,List.set_cons_zero,List.set_cons_succ])
         refine wpAnyS_take 20 (v:=undef) (by kernel_rfl) (by kernel_rfl) (by kernel_rfl) (by kernel_rfl) (fun _ _ _ _ h=>h) hSd (fun oi ho=>by simp at ho;subst ho;exact Or.inr ⟨by rfl,rfl⟩) ?_
         (intro d hd;simp at hd;subst hd;simp only [Act.put,List.setIfInBounds_toArray,List.set_cons_zero,List.set_cons_succ])
         refine wpAnyS_take 21 (v:=?_) (by kernel_rfl) (by kernel_rfl) (by kernel_rfl) (by kernel_rfl) (fun _ _ _ _ h=>h) hSd ?_ ?_
         rotate_left
         ·(intro oi ho;simp at ho;subst ho;refine Or.inl ⟨by rfl,fun w' hw'=>?_⟩;go_simp;try with_reducible rfl)
         (intro d hd;simp at hd;subst hd;simp only [Act.put,List.setIfInBounds_toArray,List.set_cons_zero,List.set_cons_succ])
         refine wpAnyS_take 22 (v:=?_) (by kernel_rfl) (by kernel_rfl) (by kernel_rfl) (by kernel_rfl) (fun _ _ _ _ h=>h) hSd ?_ ?_
         rotate_left
         ·(intro oi ho;simp at ho;subst ho;refine Or.inl ⟨by rfl,fun w' hw'=>?_⟩;go_simp;try with_reducible rfl)
         (intro d hd;simp at hd;subst hd;simp only [Act.put,List.setIfInBounds_toArray,List.set_cons_zero,List.set_cons_succ])
         refine wpAnyS_take 23 (v:=?_) (by kernel_rfl) (by kernel_rfl) (by kernel_rfl) (by kernel_rfl) (fun _ _ _ _ h=>h) hSd ?_ ?_
         rotate_left
         ·(intro oi ho;simp at ho;subst ho;refine Or.inl ⟨by rfl,fun w' hw'=>?_⟩;go_simp;try with_reducible rfl)
         (intro d hd;simp at hd;subst hd;simp only [Act.put,List.setIfInBounds_toArray,List.set_cons_zero,List.set_cons_succ])
         refine wpAnyS_done (by kernel_rfl) (NoPanic.normal ?_) _
         go_wp2_with fail
         go_ret
         exact ⟨by rw [E.out];rfl,below_dN HB.out.2 _⟩
       | false =>
         have KEY:Hid (∀ x,Below wr.heap.size wr x->x.cell? ⟨w.heap.size,0,none⟩=some (.slice (some ⟨mb,mo,none⟩) v.length mc)):=Lib.hid (fun x hx=>(hx.cell (World.block_lt_of_cell? _ _ d0)).trans d0)
         have KEYY:Hid (∀ x,Below wr.heap.size wr x->x.cell? ⟨mb,mo+zn,none⟩=some (str my)):=Lib.hid (fun x hx=>(hx.cell (World.block_lt_of_cell? _ _ y0)).trans y0)
         have hmq2:((m:Bs) != [113])=true:=by rw [bne,hmq];rfl
         cases hme:(my == en0) with
         | false =>
           have hme2:((my:Bs) != en0)=true:=by rw [bne,hme];rfl
           have E:=Lib.hid (FALSE.out (by rw [HO.out,hmq,hme];rfl))
           clear FALSE HO hk0
           go_wp2_with fail
           (with_reducible refine CM.out.mono ?_)
           rintro en w1 ⟨rfl,e⟩
           subst w1
           go_wp2_with fail
           (with_reducible refine CB.out.mono ?_)
           rintro en w2 ⟨rfl,e⟩
           subst w2
           go_upto_region 9 with (fail)
           refine wp_region_noPanic ?_
           refine wp_region_S (fun w'=>Below wr.heap.size wr w') (fun _=>false) (by kernel_rfl) ?_
           have hSd:(fun w'=>Below wr.heap.size wr w') wr.drew:=Below.drew (Below.refl _ _)
           refine wpAnyS_take 0 (v:=?_) (by kernel_rfl) (by kernel_rfl) (by kernel_rfl) (by kernel_rfl) (fun _ _ _ _ h=>h) hSd ?_ ?_
           rotate_left
           ·(intro oi ho;simp at ho;subst ho;refine Or.inl ⟨by rfl,fun w' hw'=>?_⟩;go_simp;try with_reducible rfl)
           (intro d hd;simp at hd;subst hd;simp only [Act.put,List.setIfInBounds_toArray,List.set_cons_zero,List.set_cons_succ])
           refine wpAnyS_take 1 (v:=?_) (by kernel_rfl) (by kernel_rfl) (by kernel_rfl) (by kernel_rfl) (fun _ _ _ _ h=>h) hSd ?_ ?_
           rotate_left
           ·(intro oi ho;simp at ho;subst ho;refine Or.inl ⟨by rfl,fun w' hw'=>?_⟩;go_simp;try with_reducible rfl)
           (intro d hd;simp at hd;subst hd;simp only [Act.put,List.setIfInBounds_toArray,List.set_cons_zero,List.set_cons_succ])
           refine wpAnyS_take 2 (v:=?_) (by kernel_rfl) (by kernel_rfl) (by kernel_rfl) (by kernel_rfl) (fun _ _ _ _ h=>h) hSd ?_ ?_
           rotate_left
           ·(intro oi ho;simp at ho;subst ho;refine Or.inl ⟨by rfl,fun w' hw'=>?_⟩;go_simp;try with_reducible rfl)
           (intro d hd;simp at hd;subst hd;simp only [Act.put,List.setIfInBounds_toArray,List.set_cons_zero,List.set_cons_succ])
           refine wpAnyS_take 3 (v:=undef) (by kernel_rfl) (by kernel_rfl) (by kernel_rfl) (by kernel_rfl) (fun _ _ _ _ h=>h) hSd (fun oi ho=>by simp at ho;subst ho;exact Or.inr ⟨by rfl,rfl⟩) ?_
           (intro d hd;simp at hd;subst hd;simp only [Act.put,List.setIfInBounds_toArray,List.set_cons_zero,List.set_cons_succ])
           refine wpAnyS_take 4 (v:=undef) (by kernel_rfl) (by kernel_rfl) (by kernel_rfl) (by kernel_rfl) (fun _ _ _ _ h=>h) hSd (fun oi ho=>by simp at ho;subst ho;exact Or.inr ⟨by rfl,rfl⟩) ?_
           (intro d hd;simp at hd;subst hd;simp only [Act.put,List.setIfInBounds_toArray,List.set_cons_zero,List.set_cons_succ])
           refine wpAnyS_take 5 (v:=?_) (by kernel_rfl) (by kernel_rfl) (by kernel_rfl) (by kernel_rfl) (fun _ _ _ _ h=>h) hSd ?_ ?_
           rotate_left
           ·(intro oi ho;simp at ho;subst ho;refine Or.inl ⟨by rfl,fun w' hw'=>?_⟩;go_simp;try with_reducible rfl)
           (intro d hd;simp at hd;subst hd;simp only [Act.put,List.setIfInBounds_toArray,List.set_cons_zero,List.set_cons_succ])
           refine wpAnyS_take 6 (v:=?_) (by kernel_rfl) (by kernel_rfl) (by kernel_rfl) (by kernel_rfl) (fun _ _ _ _ h=>h) hSd ?_ ?_
           rotate_left
           ·(intro oi ho;simp at ho;subst ho;refine Or.inl ⟨by rfl,fun w' hw'=>?_⟩;go_simp;try with_reducible rfl)
           (intro d hd;simp at hd;subst hd;simp only [Act.put,List.setIfInBounds_toArray,List.set_cons_zero,List.set_cons_succ])
           refine wpAnyS_take 7 (v:=?_) (by kernel_rfl) (by kernel_rfl) (by kernel_rfl) (by kernel_rfl) (fun _ _ _ _ h=>h) hSd ?_ ?_
           rotate_left
           ·(intro oi ho;simp at ho;subst ho;refine Or.inl ⟨by rfl,fun w' hw'=>?_⟩;go_simp;try with_reducible rfl)
           (intro d hd;simp at hd;subst hd;simp only [Act.put,List.setIfInBounds_toArray,List.set_cons_zero,List.set_cons_succ])
           refine wpAnyS_take 8 (v:=?_) (by kernel_rfl) (by kernel_rfl) (by kernel_rfl) (by kernel_rfl) (fun _ _ _ _ h=>h) hSd ?_ ?_
           rotate_left
           ·(intro oi ho;simp at ho;subst ho;refine Or.inl ⟨by rfl,fun w' hw'=>?_⟩;go_simp;try with_reducible rfl)
           (intro d hd;simp at hd;subst hd;simp only [Act.put,List.setIfInBounds_toArray,List.set_cons_zero,List.set_cons_succ])
           refine wpAnyS_take 9 (v:=?_) (by kernel_rfl) (by kernel_rfl) (by kernel_rfl) (by kernel_rfl) (fun _ _ _ _ h=>h) hSd ?_ ?_
           rotate_left
           ·(intro oi ho;simp at ho;subst ho;refine Or.inl ⟨by rfl,fun w' hw'=>?_⟩;go_simp;try with_reducible rfl)
           (intro d hd;simp at hd;subst hd;simp only [Act.put,List.setIfInBounds_toArray,List.set_cons_zero,List.set_cons_succ])
           refine wpAnyS_take 10 (v:=?_) (by kernel_rfl) (by kernel_rfl) (by kernel_rfl) (by kernel_rfl) (fun _ _ _ _ h=>h) hSd ?_ ?_
           rotate_left
           ·(intro oi ho;simp at ho;subst ho;refine Or.inl ⟨by rfl,fun w' hw'=>?_⟩;go_simp;try with_reducible rfl)
           (intro d hd;simp at hd;subst hd;simp only [Act.put,List.setIfInBounds_toArray,List.set_cons_zero,List.set_cons_succ])
           refine wpAnyS_take 11 (v:=?_) (by kernel_rfl) (by kernel_rfl) (by kernel_rfl) (by kernel_rfl) (fun _ _ _ _ h=>h) hSd ?_ ?_
           rotate_left
           ·(intro oi ho;simp at ho;subst ho;refine Or.inl ⟨by rfl,fun w' hw'=>?_⟩;go_simp;try with_reducible rfl)
           (intro d hd;simp at hd;subst hd;simp only [Act.put,List.setIfInBounds_toArray,List.set_cons_zero,List.set_cons_succ])
           refine wpAnyS_take 12 (v:=?_) (by kernel_rfl) (by kernel_rfl) (by kernel_rfl) (by kernel_rfl) (fun _ _ _ _ h=>h) hSd ?_ ?_
           rotate_left
           ·(intro oi ho;simp at ho;subst ho;refine Or.inl ⟨by rfl,fun w' hw'=>?_⟩;go_simp;try with_reducible rfl)
           (intro d hd;simp at hd;subst hd;simp only [Act.put,List.setIfInBounds_toArray,List.set_cons_zero,List.set_cons_succ])
           refine wpAnyS_take 13 (v:=?_) (by kernel_rfl) (by kernel_rfl) (by kernel_rfl) (by kernel_rfl) (fun _ _ _ _ h=>h) hSd ?_ ?_
           rotate_left
           ·(intro oi ho;simp at ho;subst ho;refine Or.inl ⟨by rfl,fun w' hw'=>?_⟩;go_simp;try with_reducible rfl)
           (intro d hd;simp at hd;subst hd;simp only [Act.put,List.setIfInBounds_toArray,List.set_cons_zero,List.set_cons_succ])
           refine wpAnyS_take 14 (v:=?_) (by kernel_rfl) (by kernel_rfl) (by kernel_rfl) (by kernel_rfl) (fun _ _ _ _ h=>h) hSd ?_ ?_
           rotate_left
           ·(intro oi ho;simp at ho;subst ho;refine Or.inl ⟨by rfl,fun w' hw'=>?_⟩;have e0:=KEY.out w' hw';go_simp;try with_reducible rfl)
           (intro d hd;simp at hd;subst hd;simp only [Act.put,List.setIfInBounds_toArray,List.set_cons_zero,List.set_cons_succ])
           refine wpAnyS_take 15 (v:=?_) (by kernel_rfl) (by kernel_rfl) (by kernel_rfl) (by kernel_rfl) (fun _ _ _ _ h=>h) hSd ?_ ?_
           rotate_left
           ·(intro oi ho;simp at ho;subst ho;refine Or.inl ⟨by rfl,fun w' hw'=>?_⟩;go_simp;try with_reducible rfl)
           (intro d hd;simp at hd;subst hd;simp only [Act.put,List.setIfInBounds_toArray,List.set_cons_zero,List.set_cons_succ])
           refine wpAnyS_take 16 (v:=?_) (by kernel_rfl) (by kernel_rfl) (by kernel_rfl) (by kernel_rfl) (fun _ _ _ _ h=>h) hSd ?_ ?_
           rotate_left
           ·(intro oi ho;simp at ho;subst ho;refine Or.inl ⟨by rfl,fun w' hw'=>?_⟩;go_simp;try with_reducible rfl)
           (intro d hd;simp at hd;subst hd;simp only [Act.put,List.setIfInBounds_toArray,List.set_cons_zero,List.set_cons_succ])
           refine wpAnyS_take 17 (v:=?_) (by kernel_rfl) (by kernel_rfl) (by kernel_rfl) (by kernel_rfl) (fun _ _ _ _ h=>h) hSd ?_ ?_
           rotate_left
           ·(intro oi ho;simp at ho;subst ho;refine Or.inl ⟨by rfl,fun w' hw'=>?_⟩;have e0:=KEYY.out w' hw';go_simp;try with_reducible rfl)
           (intro d hd;simp at hd;subst hd;simp only [Act.put,List.setIfInBounds_toArray,List.set_cons_zero,List.set_cons_succ])
           refine wpAnyS_take 18 (v:=?_) (by kernel_rfl) (by kernel_rfl) (by kernel_rfl) (by kernel_rfl) (fun _ _ _ _ h=>h) hSd ?_ ?_
           rotate_left
           ·(intro oi ho;simp at ho;subst ho;refine Or.inl ⟨by rfl,fun w' hw'=>?_⟩;go_simp;try with_reducible rfl)
           (intro d hd;simp at hd;subst hd;simp only [Act.put,List.setIfInBounds_toArray,List.set_cons_zero,List.set_cons_succ])
           refine wpAnyS_one 19 (by kernel_rfl) ?_
           (intro o19 ho K' hK;simp at ho;subst ho)
           go_simp
           go_at_call 163
           (with_reducible refine (CE.out _).mono ?_)
           rintro en x19 ⟨rfl,e⟩
           subst x19
           refine hK.out _ _ ?_ ?_
           ·exact fun _=>hSd
           clear hK K'
           (try simp only [Act.put,List.setIfInBounds_toArray,List.set_cons_zero,List.set_cons_succ])
           refine wpAnyS_take 20 (v:=?_) (by kernel_rfl) (by kernel_rfl) (by kernel_rfl) (by kernel_rfl) (fun _ _ _ _ h=>h) hSd ?_ ?_
           rotate_left
           ·(intro oi ho;simp at ho;subst ho;refine Or.inl ⟨by rfl,fun w' hw'=>?_⟩;go_simp;try with_reducible rfl)
           (intro d hd;simp at hd;subst hd;simp only [Act.put,List.setIfInBounds_toArray,List.set_cons_zero,List.set_cons_succ])
           refine wpAnyS_take 21 (v:=?_) (by kernel_rfl) (by kernel_rfl) (by kernel_rfl) (by kernel_rfl) (fun _ _ _ _ h=>h) hSd ?_ ?_
           rotate_left
           ·(intro oi ho;simp at ho;subst ho;refine Or.inl ⟨by rfl,fun w' hw'=>?_⟩;go_simp;try with_reducible rfl)
           (intro d hd;simp at hd;subst hd;simp only [Act.put,List.setIfInBounds_toArray,List.set_cons_zero,List.set_cons_succ])
           refine wpAnyS_take 22 (v:=?_) (by kernel_rfl) (by kernel_rfl) (by kernel_rfl) (by kernel_rfl) (fun _ _ _ _ h=>h) hSd ?_ ?_
           rotate_left
           ·(intro oi ho;simp at ho;subst ho;refine Or.inl ⟨by rfl,fun w' hw'=>?_⟩;go_simp;try with_reducible rfl)
           (intro d hd;simp at hd;subst hd;simp only [Act.put,List.setIfInBounds_toArray,List.set_cons_zero,List.set_cons_succ])
           refine wpAnyS_take 23 (v:=?_) (by kernel_rfl) (by kernel_rfl) (by kernel_rfl) (by kernel_rfl) (fun _ _ _ _ h=>h) hSd ?_ ?_
           rotate_left
           ·(intro oi ho;simp at ho;subst ho;refine Or.inl ⟨by rfl,fun w' hw'=>?_⟩;go_simp;try with_reducible rfl)
           (intro d hd;simp at hd;subst hd;simp only [Act.put,List.setIfInBounds_toArray,List.set_cons_zero,List.set_cons_succ])
           refine wpAnyS_done (by kernel_rfl) (NoPanic.normal ?_) _
           go_wp2_with fail
           go_ret
           exact ⟨by rw [E.out];rfl,below_dN HB.out.2 _⟩
         | true =>
           have hme2:((my:Bs) != en0)=false:=by rw [bne,hme];rfl
           have E:=Lib.hid (show allAt t v (k+1)=true by rw [allAt,HA.out.1,HO.out,hmq,hme];rfl)
           clear FALSE HO hk0
           go_wp2_with fail
           (with_reducible refine CM.out.mono ?_)
           rintro en w1 ⟨rfl,e⟩
           subst w1
           go_wp2_with fail
           (with_reducible refine CB.out.mono ?_)
           rintro en w2 ⟨rfl,e⟩
           subst w2
           go_upto_region 9 with (fail)
           refine wp_region_noPanic ?_
           refine wp_region_S (fun w'=>Below wr.heap.size wr w') (fun _=>false) (by kernel_rfl) ?_
           have hSd:(fun w'=>Below wr.heap.size wr w') wr.drew:=Below.drew (Below.refl _ _)
           refine wpAnyS_take 0 (v:=?_) (by kernel_rfl) (by kernel_rfl) (by kernel_rfl) (by kernel_rfl) (fun _ _ _ _ h=>h) hSd ?_ ?_
           rotate_left
           ·(intro oi ho;simp at ho;subst ho;refine Or.inl ⟨by rfl,fun w' hw'=>?_⟩;go_simp;try with_reducible rfl)
           (intro d hd;simp at hd;subst hd;simp only [Act.put,List.setIfInBounds_toArray,List.set_cons_zero,List.set_cons_succ])
           refine wpAnyS_take 1 (v:=?_) (by kernel_rfl) (by kernel_rfl) (by kernel_rfl) (by kernel_rfl) (fun _ _ _ _ h=>h) hSd ?_ ?_
           rotate_left
           ·(intro oi ho;simp at ho;subst ho;refine Or.inl ⟨by rfl,fun w' hw'=>?_⟩;go_simp;try with_reducible rfl)
           (intro d hd;simp at hd;subst hd;simp only [Act.put,List.setIfInBounds_toArray,List.set_cons_zero,List.set_cons_succ])
           refine wpAnyS_take 2 (v:=?_) (by kernel_rfl) (by kernel_rfl) (by kernel_rfl) (by kernel_rfl) (fun _ _ _ _ h=>h) hSd ?_ ?_
           rotate_left
           ·(intro oi ho;simp at ho;subst ho;refine Or.inl ⟨by rfl,fun w' hw'=>?_⟩;go_simp;try with_reducible rfl)
           (intro d hd;simp at hd;subst hd;simp only [Act.put,List.setIfInBounds_toArray,List.set_cons_zero,List.set_cons_succ])
           refine wpAnyS_take 3 (v:=undef) (by kernel_rfl) (by kernel_rfl) (by kernel_rfl) (by kernel_rfl) (fun _ _ _ _ h=>h) hSd (fun oi ho=>by simp at ho;subst ho;exact Or.inr ⟨by rfl,rfl⟩) ?_
           (intro d hd;simp at hd;subst hd;simp only [Act.put,List.setIfInBounds_toArray,List.set_cons_zero,List.set_cons_succ])
           refine wpAnyS_take 4 (v:=undef) (by kernel_rfl) (by kernel_rfl) (by kernel_rfl) (by kernel_rfl) (fun _ _ _ _ h=>h) hSd (fun oi ho=>by simp at ho;subst ho;exact Or.inr ⟨by rfl,rfl⟩) ?_
           (intro d hd;simp at hd;subst hd;simp only [Act.put,List.setIfInBounds_toArray,List.set_cons_zero,List.set_cons_succ])
           refine wpAnyS_take 5 (v:=?_) (by kernel_rfl) (by kernel_rfl) (by kernel_rfl) (by kernel_rfl) (fun _ _ _ _ h=>h) hSd ?_ ?_
           rotate_left
           ·(intro oi ho;simp at ho;subst ho;refine Or.inl ⟨by rfl,fun w' hw'=>?_⟩;go_simp;try with_reducible rfl)
           (intro d hd;simp at hd;subst hd;simp only [Act.put,List.setIfInBounds_toArray,List.set_cons_zero,List.set_cons_succ])
           refine wpAnyS_take 6 (v:=?_) (by kernel_rfl) (by kernel_rfl) (by kernel_rfl) (by kernel_rfl) (fun _ _ _ _ h=>h) hSd ?_ ?_
           rotate_left
           ·(intro oi ho;simp at ho;subst ho;refine Or.inl ⟨by rfl,fun w' hw'=>?_⟩;go_simp;try with_reducible rfl)
           (intro d hd;simp at hd;subst hd;simp only [Act.put,List.setIfInBounds_toArray,List.set_cons_zero,List.set_cons_succ])
           refine wpAnyS_take 7 (v:=?_) (by kernel_rfl) (by kernel_rfl) (by kernel_rfl) (by kernel_rfl) (fun _ _ _ _ h=>h) hSd ?_ ?_
           rotate_left
           ·(intro oi ho;simp at ho;subst ho;refine Or.inl ⟨by rfl,fun w' hw'=>?_⟩;go_simp;try with_reducible rfl)
           (intro d hd;simp at hd;subst hd;simp only [Act.put,List.setIfInBounds_toArray,List.set_cons_zero,List.set_cons_succ])
           refine wpAnyS_take 8 (v:=?_) (by kernel_rfl) (by kernel_rfl) (by kernel_rfl) (by kernel_rfl) (fun _ _ _ _ h=>h) hSd ?_ ?_
           rotate_left
           ·(intro oi ho;simp at ho;subst ho;refine Or.inl ⟨by rfl,fun w' hw'=>?_⟩;go_simp;try with_reducible rfl)
           (intro d hd;simp at hd;subst hd;simp only [Act.put,List.setIfInBounds_toArray,List.set_cons_zero,List.set_cons_succ])
           refine wpAnyS_take 9 (v:=?_) (by kernel_rfl) (by kernel_rfl) (by kernel_rfl) (by kernel_rfl) (fun _ _ _ _ h=>h) hSd ?_ ?_
           rotate_left
           ·(intro oi ho;simp at ho;subst ho;refine Or.inl ⟨by rfl,fun w' hw'=>?_⟩;go_simp;try with_reducible rfl)
           (intro d hd;simp at hd;subst hd;simp only [Act.put,List.setIfInBounds_toArray,List.set_cons_zero,List.set_cons_succ])
           refine wpAnyS_take 10 (v:=?_) (by kernel_rfl) (by kernel_rfl) (by kernel_rfl) (by kernel_rfl) (fun _ _ _ _ h=>h) hSd ?_ ?_
           rotate_left
           ·(intro oi ho;simp at ho;subst ho;refine Or.inl ⟨by rfl,fun w' hw'=>?_⟩;go_simp;try with_reducible rfl)
           (intro d hd;simp at hd;subst hd;simp only [Act.put,List.setIfInBounds_toArray,List.set_cons_zero,List.set_cons_succ])
           refine wpAnyS_take 11 (v:=?_) (by kernel_rfl) (by kernel_rfl) (by kernel_rfl) (by kernel_rfl) (fun _ _ _ _ h=>h) hSd ?_ ?_
           rotate_left
           ·(intro oi ho;simp at ho;subst ho;refine Or.inl ⟨by rfl,fun w' hw'=>?_⟩;go_simp;try with_reducible rfl)
           (intro d hd;simp at hd;subst hd;simp only [Act.put,List.setIfInBounds_toArray,List.set_cons_zero,List.set_cons_succ])
           refine wpAnyS_take 12 (v:=?_) (by kernel_rfl) (by kernel_rfl) (by kernel_rfl) (by kernel_rfl) (fun _ _ _ _ h=>h) hSd ?_ ?_
           rotate_left
           ·(intro oi ho;simp at ho;subst ho;refine Or.inl ⟨by rfl,fun w' hw'=>?_⟩;go_simp;try with_reducible rfl)
           (intro d hd;simp at hd;subst hd;simp only [Act.put,List.setIfInBounds_toArray,List.set_cons_zero,List.set_cons_succ])
           refine wpAnyS_take 13 (v:=?_) (by kernel_rfl) (by kernel_rfl) (by kernel_rfl) (by kernel_rfl) (fun _ _ _ _ h=>h) hSd ?_ ?_
           rotate_left
           ·(intro oi ho;simp at ho;subst ho;refine Or.inl ⟨by rfl,fun w' hw'=>?_⟩;go_simp;try with_reducible rfl)
           (intro d hd;simp at hd;subst hd;simp only [Act.put,List.setIfInBounds_toArray,List.set_cons_zero,List.set_cons_succ])
           refine wpAnyS_take 14 (v:=?_) (by kernel_rfl) (by kernel_rfl) (by kernel_rfl) (by kernel_rfl) (fun _ _ _ _ h=>h) hSd ?_ ?_
           rotate_left
           ·(intro oi ho;simp at ho;subst ho;refine Or.inl ⟨by rfl,fun w' hw'=>?_⟩;have e0:=KEY.out w' hw';go_simp;try with_reducible rfl)
           (intro d hd;simp at hd;subst hd;simp only [Act.put,List.setIfInBounds_toArray,List.set_cons_zero,List.set_cons_succ])
           refine wpAnyS_take 15 (v:=?_) (by kernel_rfl) (by kernel_rfl) (by kernel_rfl) (by kernel_rfl) (fun _ _ _ _ h=>h) hSd ?_ ?_
           rotate_left
           ·(intro oi ho;simp at ho;subst ho;refine Or.inl ⟨by rfl,fun w' hw'=>?_⟩;go_simp;try with_reducible rfl)
           (intro d hd;simp at hd;subst hd;simp only [Act.put,List.setIfInBounds_toArray,List.set_cons_zero,List.set_cons_succ])
           refine wpAnyS_take 16 (v:=?_) (by kernel_rfl) (by kernel_rfl) (by kernel_rfl) (by kernel_rfl) (fun _ _ _ _ h=>h) hSd ?_ ?_
           rotate_left
           ·(intro oi ho;simp at ho;subst ho;refine Or.inl ⟨by rfl,fun w' hw'=>?_⟩;go_simp;try with_reducible rfl)
           (intro d hd;simp at hd;subst hd;simp only [Act.put,List.setIfInBounds_toArray,List.set_cons_zero,List.set_cons_succ])
           refine wpAnyS_take 17 (v:=?_) (by kernel_rfl) (by kernel_rfl) (by kernel_rfl) (by kernel_rfl) (fun _ _ _ _ h=>h) hSd ?_ ?_
           rotate_left
           ·(intro oi ho;simp at ho;subst ho;refine Or.inl ⟨by rfl,fun w' hw'=>?_⟩;have e0:=KEYY.out w' hw';go_simp;try with_reducible rfl)
           (intro d hd;simp at hd;subst hd;simp only [Act.put,List.setIfInBounds_toArray,List.set_cons_zero,List.set_cons_succ])
           refine wpAnyS_take 18 (v:=?_) (by kernel_rfl) (by kernel_rfl) (by kernel_rfl) (by kernel_rfl) (fun _ _ _ _ h=>h) hSd ?_ ?_
           rotate_left
           ·(intro oi ho;simp at ho;subst ho;refine Or.inl ⟨by rfl,fun w' hw'=>?_⟩;go_simp;try with_reducible rfl)
           (intro d hd;simp at hd;subst hd;simp only [Act.put,List.setIfInBounds_toArray,List.set_cons_zero,List.set_cons_succ])
           refine wpAnyS_one 19 (by kernel_rfl) ?_
           (intro o19 ho K' hK;simp at ho;subst ho)
           go_simp
           go_at_call 163
           (with_reducible refine (CE.out _).mono ?_)
           rintro en x19 ⟨rfl,e⟩
           subst x19
           refine hK.out _ _ ?_ ?_
           ·exact fun _=>hSd
           clear hK K'
           (try simp only [Act.put,List.setIfInBounds_toArray,List.set_cons_zero,List.set_cons_succ])
           refine wpAnyS_take 20 (v:=?_) (by kernel_rfl) (by kernel_rfl) (by kernel_rfl) (by kernel_rfl) (fun _ _ _ _ h=>h) hSd ?_ ?_
           rotate_left
           ·(intro oi ho;simp at ho;subst ho;refine Or.inl ⟨by rfl,fun w' hw'=>?_⟩;go_simp;try with_reducible rfl)
           (intro d hd;simp at hd;subst hd;simp only [Act.put,List.setIfInBounds_toArray,List.set_cons_zero,List.set_cons_succ])
           refine wpAnyS_take 21 (v:=?_) (by kernel_rfl) (by kernel_rfl) (by kernel_rfl) (by kernel_rfl) (fun _ _ _ _ h=>h) hSd ?_ ?_
           rotate_left
           ·(intro oi ho;simp at ho;subst ho;refine Or.inl ⟨by rfl,fun w' hw'=>?_⟩;go_simp;try with_reducible rfl)
           (intro d hd;simp at hd;subst hd;simp only [Act.put,List.setIfInBounds_toArray,List.set_cons_zero,List.set_cons_succ])
           refine wpAnyS_take 22 (v:=?_) (by kernel_rfl) (by kernel_rfl) (by kernel_rfl) (by kernel_rfl) (fun _ _ _ _ h=>h) hSd ?_ ?_
           rotate_left
           ·(intro oi ho;simp at ho;subst ho;refine Or.inl ⟨by rfl,fun w' hw'=>?_⟩;go_simp;try with_reducible rfl)
           (intro d hd;simp at hd;subst hd;simp only [Act.put,List.setIfInBounds_toArray,List.set_cons_zero,List.set_cons_succ])
           refine wpAnyS_take 23 (v:=?_) (by kernel_rfl) (by kernel_rfl) (by kernel_rfl) (by kernel_rfl) (fun _ _ _ _ h=>h) hSd ?_ ?_
           rotate_left
           ·(intro oi ho;simp at ho;subst ho;refine Or.inl ⟨by rfl,fun w' hw'=>?_⟩;go_simp;try with_reducible rfl)
           (intro d hd;simp at hd;subst hd;simp only [Act.put,List.setIfInBounds_toArray,List.set_cons_zero,List.set_cons_succ])
           refine wpAnyS_done (by kernel_rfl) (NoPanic.normal ?_) _
           go_wp2_with fail
           go_roundw
           case rel=>exact ⟨_,k+1,rfl,by omega,by go_num,E.out,HB.out.1.drew⟩
           case measure=>simp [intOf];omega
     ·have E:=Lib.hid (FALSE.out (by rw [HO.out];rw [even_int] at hb1;rw [Bool.and_eq_false_iff];exact .inl (by rw [beq_eq_false_iff_ne];exact hb1)))
      clear FALSE HO
      go_wp2_with fail
      (with_reducible refine CM.out.mono ?_)
      rintro en w1 ⟨rfl,e⟩
      subst w1
      go_wp2_with fail
      (with_reducible refine CB.out.mono ?_)
      rintro en w2 ⟨rfl,e⟩
      subst w2
      go_wp2_with fail
      go_ret
      exact ⟨by rw [E.out];rfl,HB.out.2⟩
  ·obtain rfl:k=v.length:=by omega
   go_wp2_with fail
   go_ret
   exact ⟨by rw [hall];rfl,HB.out.2⟩

def MsRep (F:Nat->Prop) (w:World) (ms:List Bs) (x:Value):Prop:=Rep F w (.sl 9 1 ms.length (ms.map fun m=>DV.val (str m))) x
def PsRep (F:Nat->Prop) (w:World) (ps:List Int) (x:Value):Prop:=Rep F w (.sl 3 1 ps.length (ps.map fun z=>DV.val (.int .i64 z))) x
def validIn (t:Ty) (ms:List Bs) (ps:List Int):Bool:=decide (ms.length<=60) && (decide (ps.length=ms.length) && allAt t (ms.zip ps) (ms.zip ps).length)
theorem MsRep.slice {F:Nat->Prop} {w:World} {ms:List Bs} {x:Value} (h:MsRep F w ms x):∃ a c,x=.slice a ms.length c:=by
 obtain ⟨a,c,e,_⟩:=Rep_sl1_open h;exact ⟨a,c,e⟩
theorem PsRep.slice {F:Nat->Prop} {w:World} {ps:List Int} {x:Value} (h:PsRep F w ps x):∃ a c,x=.slice a ps.length c:=by
 obtain ⟨a,c,e,_⟩:=Rep_sl1_open h;exact ⟨a,c,e⟩
theorem zip_fst {ms:List Bs} {ps:List Int} (h:ps.length=ms.length):(ms.zip ps).map (·.1)=ms:=by
 rw [List.map_fst_zip (by omega)]
theorem zip_snd {ms:List Bs} {ps:List Int} (h:ps.length=ms.length):(ms.zip ps).map (·.2)=ps:=by
 rw [List.map_snd_zip (by omega)]
theorem MsRep.zip {F:Nat->Prop} {w:World} {ms:List Bs} {ps:List Int} {x:Value} (h:MsRep F w ms x) (he:ps.length=ms.length):MvRep F w (ms.zip ps) x:=by
 have h1:(ms.zip ps).length=ms.length:=by rw [List.length_zip];omega
 unfold MvRep
 rw [h1,show (ms.zip ps).map (fun m=>DV.val (str m.1))=ms.map (fun m=>DV.val (str m)) from by
  conv=>rhs;rw [<- zip_fst he]
  rw [List.map_map];rfl]
 exact h
theorem PsRep.zip {F:Nat->Prop} {w:World} {ms:List Bs} {ps:List Int} {x:Value} (h:PsRep F w ps x) (he:ps.length=ms.length):PtRep F w (ms.zip ps) x:=by
 have h1:(ms.zip ps).length=ps.length:=by rw [List.length_zip];omega
 unfold PtRep
 rw [h1,show (ms.zip ps).map (fun m=>DV.val (.int .i64 m.2))=ps.map (fun z=>DV.val (.int .i64 z)) from by
  conv=>rhs;rw [<- zip_snd he]
  rw [List.map_map];rfl]
 exact h
set_option maxRecDepth 100000 in
theorem hasPlay_any (F:Nat->Prop) (t:Ty) (kv mv pt:Value) (ms:List Bs) (ps:List Int) (w:World) (hk:Rep F w (encK t) kv) (ht:atomsT t<=15) (hm:MsRep F w ms mv) (hp:PsRep F w ps pt) (hl:∀ x∈ms,Lim x.length) :
 Calls Tryz.prog 112 #[kv,.agg #[mv,pt]] w fun en w'=>en=.returned (.bool (validIn t ms ps))/\Below w.heap.size w w':=by
 by_cases h60:ms.length<=60
 ·by_cases he:ps.length=ms.length
  ·refine (hasPlay_v F t kv mv pt (ms.zip ps) w hk ht (hm.zip he) (hp.zip he) (by rw [List.length_zip];omega) (fun x hx=>hl _ (List.of_mem_zip hx).1)).mono ?_
   rintro en w' ⟨rfl,hb⟩
   refine ⟨?_,hb⟩
   unfold validIn
   rw [decide_eq_true h60,decide_eq_true he];rfl
  ·have E:=Lib.hid (show validIn t ms ps=false by unfold validIn;rw [decide_eq_false he,Bool.false_and,Bool.and_false])
   obtain ⟨kb,ks,rfl,_⟩:=encK_open hk
   obtain ⟨ma,mc,rfl⟩:=hm.slice
   obtain ⟨pa,pc,rfl⟩:=hp.slice
   obtain ⟨W,hW,hbW,hz,b0⟩:=box_1 w (.cells #[.slice ma ms.length mc,.slice pa ps.length pc] 33)
   obtain ⟨c0,c1,_,_⟩:=cells_2 b0
   have hlen:¬ (60:Int)<(ms.length:Int):=by omega
   have hne:((ps.length:Int) != (ms.length:Int))=true:=by simp;omega
   have HW:=Lib.hid hW
   have HB:=Lib.hid hbW
   clear hk hm hp hz b0 hbW hW hl h60 he
   go_enter Tryz.func112,Tryz.ntmps112
   go_upto_region 1 with (fail)
   rw [HW.out]
   go_wp2_with fail
   go_ret
   exact ⟨by rw [E.out];rfl,HB.out⟩
 ·have E:=Lib.hid (show validIn t ms ps=false by unfold validIn;rw [decide_eq_false h60,Bool.false_and])
  obtain ⟨kb,ks,rfl,_⟩:=encK_open hk
  obtain ⟨ma,mc,rfl⟩:=hm.slice
  obtain ⟨pa,pc,rfl⟩:=hp.slice
  obtain ⟨W,hW,hbW,hz,b0⟩:=box_1 w (.cells #[.slice ma ms.length mc,.slice pa ps.length pc] 33)
  obtain ⟨c0,c1,_,_⟩:=cells_2 b0
  have hlen:(60:Int)<(ms.length:Int):=by omega
  have HW:=Lib.hid hW
  have HB:=Lib.hid hbW
  clear hk hm hp hz b0 hbW hW hl h60
  go_enter Tryz.func112,Tryz.ntmps112
  go_upto_region 1 with (fail)
  rw [HW.out]
  go_wp2_with fail
  go_ret
  exact ⟨by rw [E.out];rfl,HB.out⟩
theorem MsRep.below {F F':Nat->Prop} {w w':World} {ms:List Bs} {x:Value} (h:MsRep F w ms x) (hb:Below w.heap.size w w') (hF:∀ b,F b->F' b):MsRep F' w' ms x:=Rep.below hb hF h
theorem PsRep.below {F F':Nat->Prop} {w w':World} {ps:List Int} {x:Value} (h:PsRep F w ps x) (hb:Below w.heap.size w w') (hF:∀ b,F b->F' b):PsRep F' w' ps x:=Rep.below hb hF h
def playOk (s:Bs) (ms:List Bs) (ps:List Int):Bool:=(specType s).2 && validIn (specType s).1 ms ps
theorem playOk_kind {s:Bs} {t:Ty} (h:rdKind s=some t) (ms:List Bs) (ps:List Int):playOk s ms ps=validIn t ms ps/\atomsT t<=15:=by
 rw [specType_eq] at h
 unfold playOk
 cases h2:(specType s).2 with
 | false=>rw [h2] at h;simp at h
 | true =>
   rw [h2] at h
   obtain rfl:=Option.some.inj h
   exact ⟨by rw [Bool.true_and],(specType_canon h2).2⟩
theorem playOk_none {s:Bs} (h:rdKind s=none) (ms:List Bs) (ps:List Int):playOk s ms ps=false:=by
 rw [specType_eq] at h
 unfold playOk
 cases h2:(specType s).2 with
 | false=>rfl
 | true=>rw [h2] at h;simp at h
set_option maxRecDepth 100000 in
theorem implPlayValid_any (F:Nat->Prop) (s:Bs) (mv pt:Value) (ms:List Bs) (ps:List Int) (w:World) (hs:Lim s.length) (hm:MsRep F w ms mv) (hp:PsRep F w ps pt) (hl:∀ x∈ms,Lim x.length) :
 Calls Tryz.prog 72 #[str s,.agg #[mv,pt]] w fun en w'=>en=.returned (.bool (playOk s ms ps))/\Below w.heap.size w w':=by
 obtain ⟨ma,mc,rfl⟩:=hm.slice
 obtain ⟨pa,pc,rfl⟩:=hp.slice
 obtain ⟨W,hW,hbW,hz,b0⟩:=box_1 w (.cells #[.slice ma ms.length mc,.slice pa ps.length pc] 33)
 have C:=Lib.hid (readKind_any s W hs)
 have HR:=Lib.hid (And.intro (hm.below hbW (F':=fun _=>True) fun _ _=>trivial) (And.intro (hp.below hbW (F':=fun _=>True) fun _ _=>trivial) (And.intro hl hbW)))
 have HW:=Lib.hid (And.intro hW b0)
 clear hs hm hp hl hW hz b0 hbW
 go_enter Tryz.func72,Tryz.ntmps72
 go_upto_region 1 with (fail)
 rw [HW.out.1]
 go_wp2_with fail
 (with_reducible refine C.out.mono ?_)
 rintro en w1 ⟨kv,rfl,hb1,hn1,hy1⟩
 clear C
 obtain ⟨c0,c1,_,_⟩:=cells_2 HW.out.2
 have c0':=(hb1.cell (World.block_lt_of_cell? _ _ c0)).trans c0
 have c1':=(hb1.cell (World.block_lt_of_cell? _ _ c1)).trans c1
 clear c0 c1
 have HB1:=Lib.hid (And.intro hb1 (zzT HR.out.2.2.2 hb1))
 cases hq:rdKind s with
 | none =>
   obtain rfl:=hn1 hq
   have E:=Lib.hid (playOk_none hq ms ps)
   clear hn1 hy1 hq hb1
   go_wp2_with fail
   go_ret
   exact ⟨by rw [E.out];rfl,HB1.out.2⟩
 | some t =>
   have rk:=hy1 t hq
   obtain ⟨ka,ks,rfl,_⟩:=encK_open rk
   obtain ⟨E,h15⟩:=playOk_kind hq ms ps
   have E:=Lib.hid E
   have C2:=Lib.hid (hasPlay_any (fun _=>True) t (.pointer (some ⟨ka,0,none⟩)) _ _ ms ps w1 ((Rep.keep fun b o _ ho=>⟨trivial,ho⟩).1 _ _ rk) h15 (HR.out.1.below HB1.out.1 fun _ h=>h) (HR.out.2.1.below HB1.out.1 fun _ h=>h) HR.out.2.2.1)
   clear hn1 hy1 hq hb1 rk h15
   go_wp2_with fail
   (with_reducible refine C2.out.mono ?_)
   rintro en w2 ⟨rfl,hb2⟩
   have HB2:=Lib.hid (zzT HB1.out.2 hb2)
   clear hb2
   go_wp2_with fail
   go_ret
   exact ⟨by rw [E.out];rfl,HB2.out⟩
end Go.Proofs.YtdfkiicodfbibaaGreatDoor

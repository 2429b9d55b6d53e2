/- Walks of functions that the statement reaches, and plain words. No conditions. -/
import Derived.Test.YtdfkiicodfbibaaGreatDoorQ9
set_option linter.unusedVariables false
set_option linter.unusedSimpArgs false
set_option maxHeartbeats 8000000
namespace Go.Proofs.YtdfkiicodfbibaaGreatDoor
open Go.RowKit
theorem AtD_openU {F:Nat->Prop} {w:World} {l:Nat} {ss:List Bd} {y n:Bd} {begun args:List Nat} {opens:Nat} {vs:List Value} (h:Reps F w (AtD (.ask l ss y n) begun args opens) vs) :
 ∃ a2 c2 a3 c3 ba bc aa ac,vs=[str [],.int .i64 (l:Nat),.slice a2 ss.length c2,.slice a3 2 c3,.slice ba begun.length bc,.slice aa args.length ac,.int .i64 (opens:Nat)] /\
   Rep F w (.sl 81 4 ss.length (encNs ss)) (.slice a2 ss.length c2)/\Rep F w (.sl 81 4 2 (encNs [y,n])) (.slice a3 2 c3)/\Rep F w (numD begun) (.slice ba begun.length bc)/\Rep F w (numD args) (.slice aa args.length ac):=by
 obtain ⟨a2,c2,a3,c3,ba,bc,aa,ac,e,h1,h5,h6⟩:=AtD_open h
 obtain ⟨v,a2',c2',a3',c3',e',h2,h3⟩:=encN_open h1
 simp only [List.cons.injEq,and_true,Value.slice.injEq] at e'
 obtain ⟨_,_,⟨rfl,_,rfl⟩,⟨rfl,_,rfl⟩⟩:=e'
 exact ⟨a2,c2,a3,c3,ba,bc,aa,ac,e,h2,h3,h5,h6⟩
theorem l1At_ago (F:Nat->Prop) (t a:Ty) (p:Bs) (tv:Value) (w x:World) (h:Rep F w (encS t) tv) (ht:atomsT t<=15) (hp:Lim p.length) (hat:atT t p=some a) (hx:Below w.heap.size w x) :
 Calls Tryz.prog 174 #[.agg #[tv],str p] x fun en w'=>∃ ka kc,en=.returned (.tuple #[.agg #[.slice ka a.args.length kc],.bool true])/\Below x.heap.size x w'/\Rep F w (encS a) (.slice ka a.args.length kc):=by
 have h1:Rep (fun b=>F b/\b<w.heap.size) x (encS t) tv:=(Rep.keep fun b o hf ho=>⟨⟨hf,lt_of_heap ho⟩,by rw [hx.block _ (lt_of_heap ho)];exact ho⟩).1 _ _ h
 refine (l1At_any _ t p tv x h1 ht hp).mono ?_
 rintro en w' ⟨va,vn,vc,rfl,hb,hv⟩
 have h2:=hv a hat
 obtain ⟨ka,kc,e⟩:=encS_slice h2
 simp only [Value.slice.injEq] at e
 obtain ⟨rfl,rfl,rfl⟩:=e
 refine ⟨va,vc,by rw [hat];rfl,hb,(Rep.keep fun b o hf ho=>⟨hf.1,by rw [<- hx.block _ hf.2];exact ho⟩).1 _ _ h2⟩
theorem numD_ne {F:Nat->Prop} {w:World} {ns:List Nat} {x:Value} (h:Rep F w (numD ns) x) {g:Nat} {c:Array Value} {T:TypeId} {fr:Nat×Nat} (hb:w.heap[g]? = some (.cells c T fr)) (hT:3≠T):Rep (fun i=>F i/\i≠g) w (numD ns) x:=by
 unfold numD at *
 rw [Rep_sl] at *
 obtain ⟨hl,a,cap,hv,hn,hz,h⟩:=h
 refine ⟨hl,a,cap,hv,hn,hz,?_⟩
 rcases h with h | ⟨b,o,cs,fr',ha,hF,hc,hr⟩
 ·exact .inl h
 ·refine .inr ⟨b,o,cs,fr',ha,⟨hF,?_⟩,hc,?_⟩
  ·rintro rfl
   rw [hc] at hb;simp at hb;exact hT hb.2.1
  ·rw [show (ns.map fun n=>DV.val (.int .i64 (n:Nat)))=(ns.map fun n=>Value.int .i64 (n:Nat)).map DV.val from by simp [Function.comp_def]] at *
   exact (Reps_vals _ _).2 ((Reps_vals _ _).1 hr)
structure NumQ (B:Nat) (xs ys:List Nat) (u v:Value) (w:World):Prop where
 l:Rep (B<=·) w (numD xs) u
 r:Rep (B<=·) w (numD ys) v
theorem NumQ.below {B:Nat} {xs ys:List Nat} {u v:Value} {w w':World} (h:NumQ B xs ys u v w) (hb:Below w.heap.size w w'):NumQ B xs ys u v w':=⟨h.l.below hb (fun _ h=>h),h.r.below hb (fun _ h=>h)⟩
theorem NumQ.notBox {B:Nat} {xs ys:List Nat} {u v:Value} {w:World} (h:NumQ B xs ys u v w) {g:Nat} {c:Array Value} {T:TypeId} {fr:Nat×Nat} (hb:w.heap[g]? = some (.cells c T fr)) (h1:3≠T) (_:3≠T) :
 Rep (fun i=>B<=i/\i≠g) w (numD xs) u/\Rep (fun i=>B<=i/\i≠g) w (numD ys) v:=⟨numD_ne h.l hb h1,numD_ne h.r hb h1⟩
theorem NumQ.but {B:Nat} {xs ys:List Nat} {u v:Value} {w w':World} {g:Nat} (_:NumQ B xs ys u v w) (hb:But (fun i=>i=g) w w') (hn:Rep (fun i=>B<=i/\i≠g) w (numD xs) u/\Rep (fun i=>B<=i/\i≠g) w (numD ys) v):NumQ B xs ys u v w' :=
 ⟨(Rep.keep fun i o hi ho=>⟨hi.1,by rw [hb.block i (lt_of_heap ho) hi.2];exact ho⟩).1 _ _ hn.1,(Rep.keep fun i o hi ho=>⟨hi.1,by rw [hb.block i (lt_of_heap ho) hi.2];exact ho⟩).1 _ _ hn.2⟩
theorem int_place:3≠177:=by decide
theorem AtD_mk {F:Nat->Prop} {w:World} {b:Bd} {begun args:List Nat} {opens:Nat} {y0 y1 y2 y3 u v:Value} (h1:Reps F w (encN b) [y0,y1,y2,y3]) (h2:Rep F w (numD begun) u) (h3:Rep F w (numD args) v):Reps F w (AtD b begun args opens) [y0,y1,y2,y3,u,v,.int .i64 (opens:Nat)]:=by
 show Reps F w (encN b++[numD begun,numD args,.val (.int .i64 (opens:Nat))]) ([y0,y1,y2,y3]++[u,v,.int .i64 (opens:Nat)])
 exact Reps.append h1 (Reps_cons.2 ⟨_,_,rfl,h2,Reps_cons.2 ⟨_,_,rfl,h3,Reps_cons.2 ⟨_,_,rfl,Rep_val.2 rfl,Reps_nil.2 rfl⟩⟩⟩)
def WalkQ (s:St) (v:Pl) (w:World) (en:Ending) (w':World):Prop :=
 ∃ x0 x1 x2 x3 x4 x5 x6,en=.returned (.tuple #[.agg #[x0,x1,x2,x3,x4,x5,x6],.bool true])/\Below w.heap.size w w'/\SpAt (fun _=>True) w' s.1 s.2.1 s.2.2 v [x0,x1,x2,x3,x4,x5,x6]
set_option maxRecDepth 100000 in
theorem l3Walk_any (F:Nat->Prop) (t:Ty) (b:Bd) (v:Pl) (k:Nat) (s0:St) (tv mv pt:Value) (nv:List Value) (w:World) (hk:Rep F w (encS t) tv) (hb:Reps F w (encN b) nv) (hm:PlIn F t v mv pt w)
 (h15:atomsT t<=15) (hf:fitB t.args b) (hw:wfB b) (hvk:v.length=k+1) (hke:k % 2=0) (hfo:followsTo t b v k) (hs0:placeAt t b v (k+1)=some s0) :
 Calls Tryz.prog 133 #[.agg #[tv],.agg nv.toArray,.agg #[mv,pt]] w (WalkQ s0 v w):=by
 have h60:=valid_len hm.ok
 have VC:=Lib.hid (view_chain hm.ok k (by omega) hke)
 have FO:=Lib.hid (And.intro hfo hs0)
 have FIT:=Lib.hid (startW_fit (b:=b) h15 hf hw)
 have hn1:0<v.length:=by omega
 obtain ⟨vi,a2,c2,a3,c3,rfl,_,_⟩:=encN_open hb
 obtain ⟨ta,tc,rfl⟩:=encS_slice hk
 obtain ⟨ma,mc,rfl,hmc⟩:=hm.m.cells
 obtain ⟨pa,pc,rfl,hpc⟩:=hm.p.cells
 generalize hq0:atomOf b=q0 at *
 generalize hq2:(kidsOf b).length=q2 at *
 generalize hq3:(yesOf b).length=q3 at *
 obtain ⟨W,hW,hbW,hz,b0,b1,b2,b3⟩:=boxes_4 w (.cells #[.slice ta t.args.length tc] 78) (.cells #[str q0,.int .i64 vi,.slice a2 q2 c2,.slice a3 q3 c3] 81) (.cells #[.slice ma v.length mc,.slice pa v.length pc] 33) (.cells #[str [],.int .i64 0,.slice none 0 0,.slice none 0 0,.slice none 0 0,.slice none 0 0,.int .i64 0] 177)
 obtain ⟨c0,c1,_,_⟩:=cells_2 b2
 have CV:=l2View_any F t v false v.length _ _ W (hm.below hbW).m (hm.below hbW).p hm.ok hn1 (Nat.le_refl _) hm.l
 rw [show ((whoI false:Nat):Int)=1 from rfl] at CV
 have CV:=Lib.hid CV
 have HI:=Lib.hid (And.intro hk (And.intro hb (And.intro hmc (And.intro h15 (And.intro hm.ok hm)))))
 have HW:=Lib.hid (And.intro hW (And.intro hbW (And.intro hz (And.intro b0 (And.intro b1 (And.intro b2 b3))))))
 have HK:=Lib.hid hvk
 clear hW hbW hz b0 b1 b2 b3 hk hb hm h15 hmc hpc hf hw hfo hs0 hvk
 go_enter Tryz.func133,Tryz.ntmps133
 go_upto_region 1 with (fail)
 rw [HW.out.1]
 go_wp2_with fail
 (with_reducible refine CV.out.mono ?_)
 rintro en w2 ⟨vv,rfl,hb2,hN2⟩
 rw [HK.out] at hN2
 generalize hvw:viewP v false (k+1)=vw at *
 obtain ⟨vb,vo,vc,rfl,hvl,hvc⟩:=hN2
 obtain ⟨z0,hz0⟩:∃ z0:Nat,z0=0:=⟨_,rfl⟩
 have h0:w2.cell? ⟨vb,vo,none⟩=some (.int .i64 (z0:Nat)):=by rw [hz0];exact hvc 0 0 VC.out.zero
 have HZ:=Lib.hid hz0
 have hvp:0<vw.length:=(List.getElem?_eq_some_iff.1 VC.out.zero).1
 have hvpI:(0:Int)<(vw.length:Int):=by omega
 have hwk2:Below w.heap.size w w2:=zzT HW.out.2.1 hb2
 have KEY2:Hid (∀ x,Below w2.heap.size w2 x->(x.cell? ⟨w.heap.size+1,0,none⟩=some (str q0)/\x.cell? ⟨w.heap.size+1,1,none⟩=some (.int .i64 vi)/\x.cell? ⟨w.heap.size+1,2,none⟩=some (.slice a2 q2 c2)/\x.cell? ⟨w.heap.size+1,3,none⟩=some (.slice a3 q3 c3))/\x.cell? ⟨w.heap.size,0,none⟩=some (.slice ta t.args.length tc)/\x.cell? ⟨vb,vo,none⟩=some (.int .i64 (z0:Nat))):=Lib.hid (fun x hx=>by
  have key:∀ {p:Addr} {u:Value},W.cell? p=some u->x.cell? p=some u:=fun h=>(hx.cell (Nat.lt_of_lt_of_le (World.block_lt_of_cell? _ _ h) hb2.size)).trans ((hb2.cell (World.block_lt_of_cell? _ _ h)).trans h)
  obtain ⟨i0,i1,i2,i3⟩:=cells_4 HW.out.2.2.2.2.1
  exact ⟨⟨key i0,key i1,key i2,key i3⟩,key (one_cell HW.out.2.2.2.1),(hx.cell (World.block_lt_of_cell? _ _ h0)).trans h0⟩)
 have num0:∀ (F:Nat->Prop) (x:World),Rep F x (numD []) (.slice none 0 0):=fun F x=>Rep_sl.2 ⟨rfl,none,0,rfl,Nat.le_refl _,fun _=>rfl,.inl rfl⟩
 have hargs:=args_len t
 have h15':=HI.out.2.2.2.1
 have CBG:Hid (∀ x,Below w2.heap.size w2 x->Calls Tryz.prog 173 #[.agg #[str [],.int .i64 0,.slice none 0 0,.slice none 0 0,.slice none 0 0,.slice none 0 0,.int .i64 0],.agg #[str q0,.int .i64 vi,.slice a2 q2 c2,.slice a3 q3 c3],.agg #[.slice ta t.args.length tc],.int .i64 (z0:Nat)] x fun en w'=>∃ ba bc aa ac,en=.returned (.agg #[str q0,.int .i64 vi,.slice a2 q2 c2,.slice a3 q3 c3,.slice ba t.args.length bc,.slice aa t.args.length ac,.int .i64 (z0:Nat)])/\Below x.heap.size x w'/\NumQ w2.heap.size (List.replicate t.args.length z0) (List.range t.args.length) (.slice ba t.args.length bc) (.slice aa t.args.length ac) w'):=Lib.hid (fun x hx=>by
  refine (l3Begin_any F [] [] [] 0 none 0 0 none 0 0 none 0 none 0 0 q0 vi a2 q2 c2 a3 q3 c3 t (.slice ta t.args.length tc) z0 x (num0 _ _) (num0 _ _) (((HI.out.1.below hwk2 fun _ h=>h)).below hx fun _ h=>h) (by omega) (by simp) (by simp)).mono ?_
  rintro en w' ⟨ba,bc,aa,ac,rfl,hb,h1,h2⟩
  simp only [List.length_nil,Nat.zero_add,List.nil_append] at h1 h2 ⊢
  have hz:=hx.size
  exact ⟨ba,bc,aa,ac,rfl,hb,⟨(Rep.keep fun i o hi ho=>⟨Nat.le_trans hz hi,ho⟩).1 _ _ h1,(Rep.keep fun i o hi ho=>⟨Nat.le_trans hz hi,ho⟩).1 _ _ h2⟩⟩)
 have H2:=Lib.hid (And.intro hb2 (And.intro hvl (And.intro hvc hwk2)))
 clear hz0 hb2 hvl hvc c0 c1 CV hvw hwk2 num0 h15' h0
 go_upto_region 2 with (fail)
 refine cut_code (X:=Option Addr×Nat×Option Addr×Nat×Nat) (fun zz x=>((((((((zz.put (some 21) (.agg #[str [],.int .i64 0,.slice none 0 0,.slice none 0 0,.slice none 0 0,.slice none 0 0,.int .i64 0])).put (some 22) (.agg #[str q0,.int .i64 vi,.slice a2 q2 c2,.slice a3 q3 c3])).put (some 23) (.agg #[.slice ta t.args.length tc])).put (some 24) (.slice (some ⟨vb,vo,none⟩) vw.length vc)).put (some 25) (.pointer (some ⟨vb,vo,none⟩))).put (some 26) (.int .i64 (z0:Nat))).put (some 27) (.agg #[str q0,.int .i64 vi,.slice a2 q2 c2,.slice a3 q3 c3,.slice x.1 t.args.length x.2.1,.slice x.2.2.1 t.args.length x.2.2.2.1,.int .i64 (z0:Nat)])).put (some 9) (.pointer (some ⟨x.2.2.2.2,0,none⟩)))) (fun x w7=>Below w2.heap.size w2 w7/\w7.heap[x.2.2.2.2]? = some (.cells #[str q0,.int .i64 vi,.slice a2 q2 c2,.slice a3 q3 c3,.slice x.1 t.args.length x.2.1,.slice x.2.2.1 t.args.length x.2.2.2.1,.int .i64 (z0:Nat)] 177 (0,0))/\w2.heap.size<=x.2.2.2.2/\NumQ w2.heap.size (List.replicate t.args.length z0) (List.range t.args.length) (.slice x.1 t.args.length x.2.1) (.slice x.2.2.1 t.args.length x.2.2.2.1) w7) ?_ ?_
 ·refine wp_region_noPanic ?_
  refine wp_region_S (fun w'=>Below w2.heap.size w2 w') (fun _=>false) (by kernel_rfl) ?_
  obtain ⟨y0,hy0⟩:=zzN (w2.drew)
  rw [hy0]
  have hBy0:Below w2.heap.size w2 y0:=by rw [<- hy0];exact Below.drew (Below.refl _ _)
  obtain ⟨tg0,htg0⟩:∃ x:Nat->Nat,x=fun _=>0:=⟨_,rfl⟩
  clear hy0 htg0
  refine wpAnyS_take 0 (v:=?_) (by kernel_rfl) (by kernel_rfl) (by kernel_rfl) (by kernel_rfl) (fun _ _ _ _ h=>h) hBy0 ?_ ?_
  rotate_left
  ·(intro oi ho;simp at ho;subst ho;refine Or.inl ⟨by rfl,fun w' hw'=>?_⟩;go_simp;try with_reducible rfl)
  (intro d hd;simp at hd;subst hd;simp only [Act.put,List.setIfInBounds_toArray,List.set_cons_zero,List.set_cons_succ])
  refine wpAnyS_take 1 (v:=?_) (by kernel_rfl) (by kernel_rfl) (by kernel_rfl) (by kernel_rfl) (fun _ _ _ _ h=>h) hBy0 ?_ ?_
  rotate_left
  ·(intro oi ho;simp at ho;subst ho;refine Or.inl ⟨by rfl,fun w' hw'=>?_⟩;obtain ⟨⟨e0,e1,e2,e3⟩,_⟩:=KEY2.out w' hw';go_simp;try with_reducible rfl)
  (intro d hd;simp at hd;subst hd;simp only [Act.put,List.setIfInBounds_toArray,List.set_cons_zero,List.set_cons_succ])
  refine wpAnyS_take 2 (v:=?_) (by kernel_rfl) (by kernel_rfl) (by kernel_rfl) (by kernel_rfl) (fun _ _ _ _ h=>h) hBy0 ?_ ?_
  rotate_left
  ·(intro oi ho;simp at ho;subst ho;refine Or.inl ⟨by rfl,fun w' hw'=>?_⟩;have e0:=(KEY2.out w' hw').2.1;go_simp;try with_reducible rfl)
  (intro d hd;simp at hd;subst hd;simp only [Act.put,List.setIfInBounds_toArray,List.set_cons_zero,List.set_cons_succ])
  refine wpAnyS_take 3 (v:=?_) (by kernel_rfl) (by kernel_rfl) (by kernel_rfl) (by kernel_rfl) (fun _ _ _ _ h=>h) hBy0 ?_ ?_
  rotate_left
  ·(intro oi ho;simp at ho;subst ho;refine Or.inl ⟨by rfl,fun w' hw'=>?_⟩;go_simp;try with_reducible rfl)
  (intro d hd;simp at hd;subst hd;simp only [Act.put,List.setIfInBounds_toArray,List.set_cons_zero,List.set_cons_succ])
  refine wpAnyS_take 4 (v:=?_) (by kernel_rfl) (by kernel_rfl) (by kernel_rfl) (by kernel_rfl) (fun _ _ _ _ h=>h) hBy0 ?_ ?_
  rotate_left
  ·(intro oi ho;simp at ho;subst ho;refine Or.inl ⟨by rfl,fun w' hw'=>?_⟩;go_simp;try with_reducible rfl)
  (intro d hd;simp at hd;subst hd;simp only [Act.put,List.setIfInBounds_toArray,List.set_cons_zero,List.set_cons_succ])
  refine wpAnyS_take 5 (v:=?_) (by kernel_rfl) (by kernel_rfl) (by kernel_rfl) (by kernel_rfl) (fun _ _ _ _ h=>h) hBy0 ?_ ?_
  rotate_left
  ·(intro oi ho;simp at ho;subst ho;refine Or.inl ⟨by rfl,fun w' hw'=>?_⟩;have e0:=(KEY2.out w' hw').2.2;go_simp;try with_reducible rfl)
  (intro d hd;simp at hd;subst hd;simp only [Act.put,List.setIfInBounds_toArray,List.set_cons_zero,List.set_cons_succ])
  refine wpAnyS_two 6 7 (by kernel_rfl) ?_ ?_
  ·(intro o6 ho K' hK;simp at ho;subst ho)
   go_simp
   go_at_call 173
   (with_reducible refine (CBG.out _ hBy0).mono ?_)
   rintro en y1 ⟨ba,bc,aa,ac,rfl,hb,hnp⟩
   have CP:Hid (NumQ w2.heap.size (List.replicate t.args.length z0) (List.range t.args.length) (.slice ba t.args.length bc) (.slice aa t.args.length ac) y1):=hnp
   clear hnp
   have hBy1:Below w2.heap.size w2 y1:=zzT hBy0 hb
   have hby1:=Lib.hid hb;clear hb
   refine hK.out _ _ (fun _=>?_) ?_
   ·exact hBy1
   clear hK K'
   (try simp only [Act.put,List.setIfInBounds_toArray,List.set_cons_zero,List.set_cons_succ])
   refine wpAnyS_one 7 (by kernel_rfl) ?_
   (intro o7 ho K' hK;simp at ho;subst ho)
   go_simp
   refine hK.out _ _ (fun _=>?_) ?_
   ·exact hBy1.alloc hBy1.size _
   clear hK K'
   (try simp only [Act.put,List.setIfInBounds_toArray,List.set_cons_zero,List.set_cons_succ])
   obtain ⟨y2,hnew⟩:=zzN (y1.alloc (.cells #[str [],.int .i64 0,.slice none 0 0,.slice none 0 0,.slice none 0 0,.slice none 0 0,.int .i64 0] 177))
   obtain ⟨gA,hgA⟩:=zzN (y1.heap.size)
   rw [hnew,hgA]
   have hBy2:Below w2.heap.size w2 y2:=by rw [<- hnew];exact hBy1.alloc hBy1.size _
   obtain ⟨tg2,htg⟩:=zzN (retag tg0 gA 1)
   have CP:Hid (NumQ w2.heap.size (List.replicate t.args.length z0) (List.range t.args.length) (.slice ba t.args.length bc) (.slice aa t.args.length ac) y2):=by rw [<- hnew];exact CP.out.below ((Below.refl _ _).alloc (Nat.le_refl _) _)
   have EA:Hid (y2.heap[gA]? = some (.cells #[str [],.int .i64 0,.slice none 0 0,.slice none 0 0,.slice none 0 0,.slice none 0 0,.int .i64 0] 177 (0,0))/\tg2 gA=1/\w2.heap.size<=gA):=by rw [<- hnew,<- htg,<- hgA];exact ⟨heap_new _ _,by unfold retag;rw [if_pos rfl],hBy1.size⟩
   clear hnew hgA htg
   refine wpAnyS_one 8 (by kernel_rfl) ?_
   (intro o8 ho K' hK;simp at ho;subst ho)
   obtain ⟨uA0,cA0⟩:∃ u,y2.cell? ⟨gA,0,none⟩=some u:=⟨_,by simp [World.cell?,EA.out.1];rfl⟩
   have fA0:y2.frozen? ⟨gA,0,none⟩=false:=by simp [World.frozen?,EA.out.1]
   obtain ⟨uA1,cA1⟩:∃ u,y2.cell? ⟨gA,1,none⟩=some u:=⟨_,by simp [World.cell?,EA.out.1];rfl⟩
   have fA1:y2.frozen? ⟨gA,1,none⟩=false:=by simp [World.frozen?,EA.out.1]
   obtain ⟨uA2,cA2⟩:∃ u,y2.cell? ⟨gA,2,none⟩=some u:=⟨_,by simp [World.cell?,EA.out.1];rfl⟩
   have fA2:y2.frozen? ⟨gA,2,none⟩=false:=by simp [World.frozen?,EA.out.1]
   obtain ⟨uA3,cA3⟩:∃ u,y2.cell? ⟨gA,3,none⟩=some u:=⟨_,by simp [World.cell?,EA.out.1];rfl⟩
   have fA3:y2.frozen? ⟨gA,3,none⟩=false:=by simp [World.frozen?,EA.out.1]
   obtain ⟨uA4,cA4⟩:∃ u,y2.cell? ⟨gA,4,none⟩=some u:=⟨_,by simp [World.cell?,EA.out.1];rfl⟩
   have fA4:y2.frozen? ⟨gA,4,none⟩=false:=by simp [World.frozen?,EA.out.1]
   obtain ⟨uA5,cA5⟩:∃ u,y2.cell? ⟨gA,5,none⟩=some u:=⟨_,by simp [World.cell?,EA.out.1];rfl⟩
   have fA5:y2.frozen? ⟨gA,5,none⟩=false:=by simp [World.frozen?,EA.out.1]
   obtain ⟨uA6,cA6⟩:∃ u,y2.cell? ⟨gA,6,none⟩=some u:=⟨_,by simp [World.cell?,EA.out.1];rfl⟩
   have fA6:y2.frozen? ⟨gA,6,none⟩=false:=by simp [World.frozen?,EA.out.1]
   go_simp
   refine hK.out _ _ (fun _=>?_) ?_
   ·exact (((((((hBy2.setCell (p:=⟨gA,0,none⟩) EA.out.2.2 _).setCell (p:=⟨gA,1,none⟩) EA.out.2.2 _).setCell (p:=⟨gA,2,none⟩) EA.out.2.2 _).setCell (p:=⟨gA,3,none⟩) EA.out.2.2 _).setCell (p:=⟨gA,4,none⟩) EA.out.2.2 _).setCell (p:=⟨gA,5,none⟩) EA.out.2.2 _).setCell (p:=⟨gA,6,none⟩) EA.out.2.2 _)
   clear hK K'
   (try simp only [Act.put,List.setIfInBounds_toArray,List.set_cons_zero,List.set_cons_succ])
   obtain ⟨y3,hnew⟩:=zzN ((((((((y2.setCell ⟨gA,0,none⟩ (str q0)).setCell ⟨gA,1,none⟩ (.int .i64 vi)).setCell ⟨gA,2,none⟩ (.slice a2 q2 c2)).setCell ⟨gA,3,none⟩ (.slice a3 q3 c3)).setCell ⟨gA,4,none⟩ (.slice ba t.args.length bc)).setCell ⟨gA,5,none⟩ (.slice aa t.args.length ac)).setCell ⟨gA,6,none⟩ (.int .i64 (z0:Nat))))
   rw [hnew]
   have hBy3:Below w2.heap.size w2 y3:=by rw [<- hnew];exact (((((((hBy2.setCell (p:=⟨gA,0,none⟩) EA.out.2.2 _).setCell (p:=⟨gA,1,none⟩) EA.out.2.2 _).setCell (p:=⟨gA,2,none⟩) EA.out.2.2 _).setCell (p:=⟨gA,3,none⟩) EA.out.2.2 _).setCell (p:=⟨gA,4,none⟩) EA.out.2.2 _).setCell (p:=⟨gA,5,none⟩) EA.out.2.2 _).setCell (p:=⟨gA,6,none⟩) EA.out.2.2 _)
   have hbt:But (fun i=>i=gA) y2 y3:=by rw [<- hnew];exact ((((((((But.refl (fun i=>i=gA) y2).setCell (p:=⟨gA,0,none⟩) (.inl rfl) _).setCell (p:=⟨gA,1,none⟩) (.inl rfl) _).setCell (p:=⟨gA,2,none⟩) (.inl rfl) _).setCell (p:=⟨gA,3,none⟩) (.inl rfl) _).setCell (p:=⟨gA,4,none⟩) (.inl rfl) _).setCell (p:=⟨gA,5,none⟩) (.inl rfl) _).setCell (p:=⟨gA,6,none⟩) (.inl rfl) _)
   have htg:∀ g,g=gA->tg2 g=1:=fun g e=>by rw [e];exact EA.out.2.1
   have CP:Hid (NumQ w2.heap.size (List.replicate t.args.length z0) (List.range t.args.length) (.slice ba t.args.length bc) (.slice aa t.args.length ac) y3):=CP.out.but hbt (CP.out.notBox EA.out.1 (by decide) (by decide))
   have EA:Hid (y3.heap[gA]? = some (.cells #[str q0,.int .i64 vi,.slice a2 q2 c2,.slice a3 q3 c3,.slice ba t.args.length bc,.slice aa t.args.length ac,.int .i64 (z0:Nat)] 177 (0,0))/\tg2 gA=1/\w2.heap.size<=gA):=⟨by rw [<- hnew];exact (setCell_at' (setCell_at' (setCell_at' (setCell_at' (setCell_at' (setCell_at' (setCell_at' EA.out.1))))))),EA.out.2⟩
   clear hnew hbt htg cA0 fA0 cA1 fA1 cA2 fA2 cA3 fA3 cA4 fA4 cA5 fA5 cA6 fA6
   refine wpAnyS_done (by kernel_rfl) (NoPanic.normal ?_) _
   exact ⟨rfl,⟨ba,bc,aa,ac,gA⟩,by rfl,hBy3,EA.out.1,EA.out.2.2,CP.out⟩
  ·(intro o7 ho K' hK;simp at ho;subst ho)
   go_simp
   refine hK.out _ _ (fun _=>?_) ?_
   ·exact hBy0.alloc hBy0.size _
   clear hK K'
   (try simp only [Act.put,List.setIfInBounds_toArray,List.set_cons_zero,List.set_cons_succ])
   obtain ⟨y4,hnew⟩:=zzN (y0.alloc (.cells #[str [],.int .i64 0,.slice none 0 0,.slice none 0 0,.slice none 0 0,.slice none 0 0,.int .i64 0] 177))
   obtain ⟨gA,hgA⟩:=zzN (y0.heap.size)
   rw [hnew,hgA]
   have hBy4:Below w2.heap.size w2 y4:=by rw [<- hnew];exact hBy0.alloc hBy0.size _
   obtain ⟨tg4,htg⟩:=zzN (retag tg0 gA 1)
   have EA:Hid (y4.heap[gA]? = some (.cells #[str [],.int .i64 0,.slice none 0 0,.slice none 0 0,.slice none 0 0,.slice none 0 0,.int .i64 0] 177 (0,0))/\tg4 gA=1/\w2.heap.size<=gA):=by rw [<- hnew,<- htg,<- hgA];exact ⟨heap_new _ _,by unfold retag;rw [if_pos rfl],hBy0.size⟩
   clear hnew hgA htg
   refine wpAnyS_one 6 (by kernel_rfl) ?_
   (intro o6 ho K' hK;simp at ho;subst ho)
   go_simp
   go_at_call 173
   (with_reducible refine (CBG.out _ hBy4).mono ?_)
   rintro en y5 ⟨ba,bc,aa,ac,rfl,hb,hnp⟩
   have CP:Hid (NumQ w2.heap.size (List.replicate t.args.length z0) (List.range t.args.length) (.slice ba t.args.length bc) (.slice aa t.args.length ac) y5):=hnp
   clear hnp
   have hBy5:Below w2.heap.size w2 y5:=zzT hBy4 hb
   have EA:Hid (y5.heap[gA]? = some (.cells #[str [],.int .i64 0,.slice none 0 0,.slice none 0 0,.slice none 0 0,.slice none 0 0,.int .i64 0] 177 (0,0))/\tg4 gA=1/\w2.heap.size<=gA):=⟨(hb.block _ (lt_of_heap EA.out.1)).trans EA.out.1,EA.out.2⟩
   have hby5:=Lib.hid hb;clear hb
   refine hK.out _ _ (fun _=>?_) ?_
   ·exact hBy5
   clear hK K'
   (try simp only [Act.put,List.setIfInBounds_toArray,List.set_cons_zero,List.set_cons_succ])
   refine wpAnyS_one 8 (by kernel_rfl) ?_
   (intro o8 ho K' hK;simp at ho;subst ho)
   obtain ⟨uA0,cA0⟩:∃ u,y5.cell? ⟨gA,0,none⟩=some u:=⟨_,by simp [World.cell?,EA.out.1];rfl⟩
   have fA0:y5.frozen? ⟨gA,0,none⟩=false:=by simp [World.frozen?,EA.out.1]
   obtain ⟨uA1,cA1⟩:∃ u,y5.cell? ⟨gA,1,none⟩=some u:=⟨_,by simp [World.cell?,EA.out.1];rfl⟩
   have fA1:y5.frozen? ⟨gA,1,none⟩=false:=by simp [World.frozen?,EA.out.1]
   obtain ⟨uA2,cA2⟩:∃ u,y5.cell? ⟨gA,2,none⟩=some u:=⟨_,by simp [World.cell?,EA.out.1];rfl⟩
   have fA2:y5.frozen? ⟨gA,2,none⟩=false:=by simp [World.frozen?,EA.out.1]
   obtain ⟨uA3,cA3⟩:∃ u,y5.cell? ⟨gA,3,none⟩=some u:=⟨_,by simp [World.cell?,EA.out.1];rfl⟩
   have fA3:y5.frozen? ⟨gA,3,none⟩=false:=by simp [World.frozen?,EA.out.1]
   obtain ⟨uA4,cA4⟩:∃ u,y5.cell? ⟨gA,4,none⟩=some u:=⟨_,by simp [World.cell?,EA.out.1];rfl⟩
   have fA4:y5.frozen? ⟨gA,4,none⟩=false:=by simp [World.frozen?,EA.out.1]
   obtain ⟨uA5,cA5⟩:∃ u,y5.cell? ⟨gA,5,none⟩=some u:=⟨_,by simp [World.cell?,EA.out.1];rfl⟩
   have fA5:y5.frozen? ⟨gA,5,none⟩=false:=by simp [World.frozen?,EA.out.1]
   obtain ⟨uA6,cA6⟩:∃ u,y5.cell? ⟨gA,6,none⟩=some u:=⟨_,by simp [World.cell?,EA.out.1];rfl⟩
   have fA6:y5.frozen? ⟨gA,6,none⟩=false:=by simp [World.frozen?,EA.out.1]
   go_simp
   refine hK.out _ _ (fun _=>?_) ?_
   ·exact (((((((hBy5.setCell (p:=⟨gA,0,none⟩) EA.out.2.2 _).setCell (p:=⟨gA,1,none⟩) EA.out.2.2 _).setCell (p:=⟨gA,2,none⟩) EA.out.2.2 _).setCell (p:=⟨gA,3,none⟩) EA.out.2.2 _).setCell (p:=⟨gA,4,none⟩) EA.out.2.2 _).setCell (p:=⟨gA,5,none⟩) EA.out.2.2 _).setCell (p:=⟨gA,6,none⟩) EA.out.2.2 _)
   clear hK K'
   (try simp only [Act.put,List.setIfInBounds_toArray,List.set_cons_zero,List.set_cons_succ])
   obtain ⟨y6,hnew⟩:=zzN ((((((((y5.setCell ⟨gA,0,none⟩ (str q0)).setCell ⟨gA,1,none⟩ (.int .i64 vi)).setCell ⟨gA,2,none⟩ (.slice a2 q2 c2)).setCell ⟨gA,3,none⟩ (.slice a3 q3 c3)).setCell ⟨gA,4,none⟩ (.slice ba t.args.length bc)).setCell ⟨gA,5,none⟩ (.slice aa t.args.length ac)).setCell ⟨gA,6,none⟩ (.int .i64 (z0:Nat))))
   rw [hnew]
   have hBy6:Below w2.heap.size w2 y6:=by rw [<- hnew];exact (((((((hBy5.setCell (p:=⟨gA,0,none⟩) EA.out.2.2 _).setCell (p:=⟨gA,1,none⟩) EA.out.2.2 _).setCell (p:=⟨gA,2,none⟩) EA.out.2.2 _).setCell (p:=⟨gA,3,none⟩) EA.out.2.2 _).setCell (p:=⟨gA,4,none⟩) EA.out.2.2 _).setCell (p:=⟨gA,5,none⟩) EA.out.2.2 _).setCell (p:=⟨gA,6,none⟩) EA.out.2.2 _)
   have hbt:But (fun i=>i=gA) y5 y6:=by rw [<- hnew];exact ((((((((But.refl (fun i=>i=gA) y5).setCell (p:=⟨gA,0,none⟩) (.inl rfl) _).setCell (p:=⟨gA,1,none⟩) (.inl rfl) _).setCell (p:=⟨gA,2,none⟩) (.inl rfl) _).setCell (p:=⟨gA,3,none⟩) (.inl rfl) _).setCell (p:=⟨gA,4,none⟩) (.inl rfl) _).setCell (p:=⟨gA,5,none⟩) (.inl rfl) _).setCell (p:=⟨gA,6,none⟩) (.inl rfl) _)
   have htg:∀ g,g=gA->tg4 g=1:=fun g e=>by rw [e];exact EA.out.2.1
   have CP:Hid (NumQ w2.heap.size (List.replicate t.args.length z0) (List.range t.args.length) (.slice ba t.args.length bc) (.slice aa t.args.length ac) y6):=CP.out.but hbt (CP.out.notBox EA.out.1 (by decide) (by decide))
   have EA:Hid (y6.heap[gA]? = some (.cells #[str q0,.int .i64 vi,.slice a2 q2 c2,.slice a3 q3 c3,.slice ba t.args.length bc,.slice aa t.args.length ac,.int .i64 (z0:Nat)] 177 (0,0))/\tg4 gA=1/\w2.heap.size<=gA):=⟨by rw [<- hnew];exact (setCell_at' (setCell_at' (setCell_at' (setCell_at' (setCell_at' (setCell_at' (setCell_at' EA.out.1))))))),EA.out.2⟩
   clear hnew hbt htg cA0 fA0 cA1 fA1 cA2 fA2 cA3 fA3 cA4 fA4 cA5 fA5 cA6 fA6
   refine wpAnyS_done (by kernel_rfl) (NoPanic.normal ?_) _
   exact ⟨rfl,⟨ba,bc,aa,ac,gA⟩,by rfl,hBy6,EA.out.1,EA.out.2.2,CP.out⟩
 rintro ⟨ba,bc,aa,ac,gA⟩ Y ⟨hY,hYA,hgA,hNQ⟩
 dsimp only at hYA hgA hNQ
 simp only [pQ,pN,pZ,pS]
 clear KEY2 CBG
 have hzW:=HW.out.2.2.1
 have hsz2:=H2.out.1.size
 have HSZ:=Lib.hid (And.intro hzW (And.intro hsz2 hgA))
 have hwY:Below w.heap.size w Y:=zzT H2.out.2.2.2 hY
 have hWY:Below W.heap.size W Y:=zzT H2.out.1 hY
 have hv0:v[0]? = some ([113],-1):=by
  obtain ⟨c,p,z,hv,ho⟩:=valid_at HI.out.2.2.2.2.1 hn1
  obtain ⟨rfl,rfl,rfl⟩:=ho.zero rfl
  exact hv
 have HST:Hid (SpAt (fun g=>g≠gA/\g≠w.heap.size+3) Y (startW t b).1 (startW t b).2.1 (startW t b).2.2 v [str q0,.int .i64 vi,.slice a2 q2 c2,.slice a3 q3 c3,.slice ba t.args.length bc,.slice aa t.args.length ac,.int .i64 (z0:Nat)]):=Lib.hid (by
  have h0:SpecPl [] (0,[]) v [] [] 0:=⟨rfl,rfl,fun i pl h=>by simp at h,rfl,113,-1,hv0⟩
  have h1:=h0.kid t.args.length 0 [] (by have:=HI.out.2.2.2.1;omega) hv0
  simp only [List.nil_append] at h1
  have hz0:=HZ.out
  subst hz0
  refine ⟨_,_,_,h1,AtD_mk (b:=b) ?_ ?_ ?_⟩
  ·exact (Rep.keep fun i o _ ho=>⟨by have:=lt_of_heap ho;omega,by rw [hwY.block _ (lt_of_heap ho)];exact ho⟩).2 _ _ HI.out.2.1
  ·exact (Rep.keep fun i o hi ho=>⟨⟨hi.2,by have:=hi.1;omega⟩,ho⟩).1 _ _ (numD_ne hNQ.l hYA int_place)
  ·exact (Rep.keep fun i o hi ho=>⟨⟨hi.2,by have:=hi.1;omega⟩,ho⟩).1 _ _ (numD_ne hNQ.r hYA int_place))
 have HY:=Lib.hid (And.intro hwY (And.intro hWY (And.intro hY hYA)))
 clear hwY hWY hY hYA hNQ hzW hsz2 hv0 hgA
 go_wp2_with fail
 go_loopw [10] (fun i wr=>∃ (wz:World) (j e:Nat) (s:St) (hand:List Ty) (x0 x1 x2 x3 x4 x5 x6:Value),wz=wr/\i=.int .i64 ((2*j+2:Nat):Int)/\vw[2*j]? = some e/\placeAt t b v (e+1)=some s/\StFit t hand s (e+1)/\wz.heap[gA]? = some (.cells #[x0,x1,x2,x3,x4,x5,x6] 177 (0,0))/\SpAt (fun g=>g≠gA/\g≠w.heap.size+3) wz s.1 s.2.1 s.2.2 v [x0,x1,x2,x3,x4,x5,x6]/\But (fun g=>g=gA) Y wz) (fun i _=>vw.length+2-(intOf i).toNat)
 case atStart =>
  exact ⟨_,0,0,startW t b,t.args,_,_,_,_,_,_,_,rfl,rfl,VC.out.zero,placeAt_first t b v,FIT.out,HY.out.2.2.2,HST.out,But.refl _ _⟩
 case round =>
  obtain ⟨wr,j,e,s,hand,x0,x1,x2,x3,x4,x5,x6,rfl,rfl,hve,hpl,hfit,hbox,hst,hB⟩:=hrel
  obtain ⟨lenE,hjv⟩:e<=k/\2*j<vw.length:=⟨VC.out.all _ _ hve,(List.getElem?_eq_some_iff.1 hve).1⟩
  have hvlen:=VC.out.len
  have hvl1:=HK.out
  have hAY:gA<Y.heap.size:=lt_of_heap HY.out.2.2.2
  obtain ⟨i2,hi2⟩:=zzM (2*j+2)
  rw [<- hi2]
  have hwr:Below w.heap.size w wr:=HY.out.1.trans (hB.toBelow (by have:=HY.out.1.size;omega) fun i hi e1=>by have h1:=HSZ.out;omega)
  have HB:=Lib.hid (And.intro hB hwr)
  have HST2:=Lib.hid (And.intro hst (And.intro hbox (And.intro hfit hpl)))
  have hWr:∀ i o,W.heap[i]? = some o->i≠gA->wr.heap[i]? = some o:=fun i o h hne=>by
   have hl:=lt_of_heap h
   rw [HB.out.1.block i (by have:=HY.out.2.1.size;omega) hne,HY.out.2.1.block i hl];exact h
  have g0:w.heap.size≠gA:=by have:=HSZ.out;omega
  have g2:w.heap.size+1+1≠gA:=by have:=HSZ.out;omega
  have g3:w.heap.size+3≠gA:=by have:=HSZ.out;omega
  have R0:=hWr _ _ HW.out.2.2.2.1 g0
  have R2:=hWr _ _ HW.out.2.2.2.2.2.1 g2
  have R3:=hWr _ _ HW.out.2.2.2.2.2.2 g3
  have HR:=Lib.hid (And.intro R0 (And.intro R2 R3))
  clear hB hwr hst hbox hWr g0 g2 g3 R0 R2 R3
  by_cases hlt:i2<vw.length
  ·have hltI:(i2:Int)<(vw.length:Int):=by omega
   obtain ⟨e1,e',c,p,h1,h2,h3,h4,h5,h6,h7⟩:=VC.out.step j (by omega)
   obtain rfl:e1=e:=Option.some.inj (h1.symm.trans hve)
   have hr:=FO.out.1 (e1+1) (by have:=h6.lt;omega) h6.odd
   obtain ⟨x,hx,hxe⟩:=h6.en
   unfold replyAt at hr
   rw [hpl,Option.bind_some,hx] at hr
   obtain ⟨l,ss,y,nn,a,pl,hd⟩:=step_data HI.out.2.2.2.1 hfit h7 h4 hxe hr
   obtain ⟨s',hand',hs1,hs2⟩:=hd.next (k:=e') hfit (by have:=h6.lt;omega) (by omega) HI.out.2.2.2.1
   have hpl':placeAt t b v (e'+1)=some s':=by rw [placeAt_step HI.out.2.2.2.2.1 b (by omega) h4 h6,hpl,Option.bind_some,hs1]
   have he'v:(e':Int)<(v.length:Int):=by omega
   obtain ⟨mb,mo,rfl,_,hmb,hmk⟩:=HI.out.2.2.1 e' _ h6.at'
   have hvi:vw[i2]? = some e':=by rw [hi2];exact h2
   obtain ⟨begun,args,opens,hsp,hat⟩:=HST2.out.1
   obtain ⟨b',lv,bg⟩:=s
   have hb0:b'=.ask l ss y nn:=hd.body
   subst hb0
   obtain ⟨n2,d2,n3,d3,na,da,nb,db,ex,hkids,hyes,hbeg,harg⟩:=AtD_openU hat
   simp only [List.cons.injEq,and_true] at ex
   obtain ⟨rfl,rfl,rfl,rfl,rfl,rfl,rfl⟩:=ex
   have HN:=Lib.hid (And.intro hpl' (And.intro hs2 (And.intro (show vw[2*(j+1)]? = some e' from h2) (show i2+2=2*(j+1)+2 by omega))))
   have HD:=Lib.hid (And.intro hd (And.intro hs1 (And.intro h6 (And.intro h7 hvi))))
   have HT:=Lib.hid (And.intro hsp (And.intro hkids (And.intro hyes (And.intro hbeg harg))))
   have hlen:=hd.len
   have hal:=atT_len _ _ _ hd.hat
   have hargs2:=args_len a
   have hll:=hfit.ll
   have hll':lv.length<=8*(e1+1):=hll
   have HLN:=Lib.hid (And.intro hlen (And.intro hal (And.intro hargs2 hll')))
   obtain ⟨M,hM⟩:=zzM (c::p)
   rw [<- hM] at hmk
   have KEY:=Lib.hid (fun (y:World) (hy:Below wr.heap.size wr y)=>(show (y.cell? ⟨gA,0,none⟩=some (str [])/\y.cell? ⟨gA,1,none⟩=some (.int .i64 (l:Nat))/\y.cell? ⟨gA,2,none⟩=some (.slice n2 ss.length d2)/\y.cell? ⟨gA,3,none⟩=some (.slice n3 2 d3)/\y.cell? ⟨gA,4,none⟩=some (.slice na begun.length da)/\y.cell? ⟨gA,5,none⟩=some (.slice nb args.length db)/\y.cell? ⟨gA,6,none⟩=some (.int .i64 (opens:Nat)))/\y.cell? ⟨w.heap.size+2,0,none⟩=some (.slice (some ⟨mb,mo,none⟩) v.length mc)/\y.cell? ⟨vb,vo+i2,none⟩=some (.int .i64 (e':Nat))/\y.cell? ⟨mb,mo+e',none⟩=some (str M)/\y.cell? ⟨w.heap.size,0,none⟩=some (.slice ta t.args.length tc) from by
    have hk:∀ (a:Addr) (u:Value),wr.cell? a=some u->y.cell? a=some u:=fun a u h=>(hy.cell (World.block_lt_of_cell? _ _ h)).trans h
    have hwk:∀ (a:Addr) (u:Value),w.cell? a=some u->y.cell? a=some u:=fun a u h=>hk a u ((HB.out.2.cell (World.block_lt_of_cell? _ _ h)).trans h)
    obtain ⟨q0,q1,q2,q3,q4,q5,q6⟩:=cells_7 HST2.out.2.1
    obtain ⟨k0,_⟩:=cells_2 HR.out.2.1
    refine ⟨⟨hk _ _ q0,hk _ _ q1,hk _ _ q2,hk _ _ q3,hk _ _ q4,hk _ _ q5,hk _ _ q6⟩,hk _ _ k0,?_,hwk _ _ hmk,hk _ _ (one_cell HR.out.1)⟩
    have hl2:=H2.out.2.1
    refine hk _ _ ((HB.out.1.cell (p:=⟨vb,vo+i2,none⟩) (by show vb<_;have:=HY.out.2.2.1.size;omega) (by show vb≠gA;have:=HSZ.out;omega)).trans ?_)
    exact (HY.out.2.2.1.cell (p:=⟨vb,vo+i2,none⟩) hl2).trans (H2.out.2.2.1 i2 e' hvi)))
   have hw2:IntKind.i64.wrap ((i2:Int)+2)=((i2+2:Nat):Int):=by rw [wrap_low _ (by omega) (by omega)];omega
   have hM0:0<M.length:=by rw [hM];simp
   have hM0I:(0:Int)<(M.length:Int):=by omega
   have B0:((((⟨M.toArray⟩:ByteArray)[0]'(lt_str hM0)).toNat:Int))=(c.toNat:Int):=by rw [byte_int hM0];subst hM;rfl
   obtain ⟨q0,_⟩:=(KEY.out wr (Below.refl _ _)).1
   have HM:=Lib.hid hM
   clear hr hx hxe hd hs1 hs2 hpl' h1 h2 h3 h4 h5 h6 h7 hmb hmk hve hpl hfit hi2 hM lenE hjv hvlen hvl1 hvi hsp hat hkids hyes hbeg harg hlen hal hargs2 hll hll' hAY
   go_upto_region 8 with (fail)
   refine wp_region_noPanic ?_
   refine wp_region_S (fun w'=>Below wr.heap.size wr w') (fun _=>false) (by kernel_rfl) ?_
   have hSd:(fun w'=>Below wr.heap.size wr w') wr.drew:=Below.drew (Below.refl _ _)
   refine wpAnyS_take 0 (v:=?_) (by kernel_rfl) (by kernel_rfl) (by kernel_rfl) (by kernel_rfl) (fun _ _ _ _ h=>h) hSd ?_ ?_
   rotate_left
   ·(intro oi ho;simp at ho;subst ho;refine Or.inl ⟨by rfl,fun w' hw'=>?_⟩;go_simp;try with_reducible rfl)
   (intro d hd;simp at hd;subst hd;simp only [Act.put,List.setIfInBounds_toArray,List.set_cons_zero,List.set_cons_succ])
   refine wpAnyS_take 1 (v:=?_) (by kernel_rfl) (by kernel_rfl) (by kernel_rfl) (by kernel_rfl) (fun _ _ _ _ h=>h) hSd ?_ ?_
   rotate_left
   ·(intro oi ho;simp at ho;subst ho;refine Or.inl ⟨by rfl,fun w' hw'=>?_⟩;have e0:=(KEY.out w' hw').2.1;go_simp;try with_reducible rfl)
   (intro d hd;simp at hd;subst hd;simp only [Act.put,List.setIfInBounds_toArray,List.set_cons_zero,List.set_cons_succ])
   refine wpAnyS_take 2 (v:=?_) (by kernel_rfl) (by kernel_rfl) (by kernel_rfl) (by kernel_rfl) (fun _ _ _ _ h=>h) hSd ?_ ?_
   rotate_left
   ·(intro oi ho;simp at ho;subst ho;refine Or.inl ⟨by rfl,fun w' hw'=>?_⟩;go_simp;try with_reducible rfl)
   (intro d hd;simp at hd;subst hd;simp only [Act.put,List.setIfInBounds_toArray,List.set_cons_zero,List.set_cons_succ])
   refine wpAnyS_take 3 (v:=?_) (by kernel_rfl) (by kernel_rfl) (by kernel_rfl) (by kernel_rfl) (fun _ _ _ _ h=>h) hSd ?_ ?_
   rotate_left
   ·(intro oi ho;simp at ho;subst ho;refine Or.inl ⟨by rfl,fun w' hw'=>?_⟩;go_simp;try with_reducible rfl)
   (intro d hd;simp at hd;subst hd;simp only [Act.put,List.setIfInBounds_toArray,List.set_cons_zero,List.set_cons_succ])
   refine wpAnyS_take 4 (v:=?_) (by kernel_rfl) (by kernel_rfl) (by kernel_rfl) (by kernel_rfl) (fun _ _ _ _ h=>h) hSd ?_ ?_
   rotate_left
   ·(intro oi ho;simp at ho;subst ho;refine Or.inl ⟨by rfl,fun w' hw'=>?_⟩;go_simp;try with_reducible rfl)
   (intro d hd;simp at hd;subst hd;simp only [Act.put,List.setIfInBounds_toArray,List.set_cons_zero,List.set_cons_succ])
   refine wpAnyS_take 5 (v:=?_) (by kernel_rfl) (by kernel_rfl) (by kernel_rfl) (by kernel_rfl) (fun _ _ _ _ h=>h) hSd ?_ ?_
   rotate_left
   ·(intro oi ho;simp at ho;subst ho;refine Or.inl ⟨by rfl,fun w' hw'=>?_⟩;have e0:=(KEY.out w' hw').2.2.1;go_simp;try with_reducible rfl)
   (intro d hd;simp at hd;subst hd;simp only [Act.put,List.setIfInBounds_toArray,List.set_cons_zero,List.set_cons_succ])
   refine wpAnyS_take 6 (v:=?_) (by kernel_rfl) (by kernel_rfl) (by kernel_rfl) (by kernel_rfl) (fun _ _ _ _ h=>h) hSd ?_ ?_
   rotate_left
   ·(intro oi ho;simp at ho;subst ho;refine Or.inl ⟨by rfl,fun w' hw'=>?_⟩;go_simp;try with_reducible rfl)
   (intro d hd;simp at hd;subst hd;simp only [Act.put,List.setIfInBounds_toArray,List.set_cons_zero,List.set_cons_succ])
   refine wpAnyS_take 7 (v:=?_) (by kernel_rfl) (by kernel_rfl) (by kernel_rfl) (by kernel_rfl) (fun _ _ _ _ h=>h) hSd ?_ ?_
   rotate_left
   ·(intro oi ho;simp at ho;subst ho;refine Or.inl ⟨by rfl,fun w' hw'=>?_⟩;have e0:=(KEY.out w' hw').2.2.2.1;go_simp;try with_reducible rfl)
   (intro d hd;simp at hd;subst hd;simp only [Act.put,List.setIfInBounds_toArray,List.set_cons_zero,List.set_cons_succ])
   refine wpAnyS_take 8 (v:=?_) (by kernel_rfl) (by kernel_rfl) (by kernel_rfl) (by kernel_rfl) (fun _ _ _ _ h=>h) hSd ?_ ?_
   rotate_left
   ·(intro oi ho;simp at ho;subst ho;refine Or.inl ⟨by rfl,fun w' hw'=>?_⟩;go_simp;try with_reducible rfl)
   (intro d hd;simp at hd;subst hd;simp only [Act.put,List.setIfInBounds_toArray,List.set_cons_zero,List.set_cons_succ])
   refine wpAnyS_done (by kernel_rfl) (NoPanic.normal ?_) _
   obtain ⟨W8,hW8⟩:=zzN (wr.drew)
   rw [hW8]
   have hb8:Below wr.heap.size wr W8:=by rw [<- hW8];exact Below.drew (Below.refl _ _)
   have H8:=Lib.hid (And.intro hb8 (And.intro ((hb8.block _ (lt_of_heap HST2.out.2.1)).trans HST2.out.2.1) (And.intro (HB.out.1.trans (But.ofBelow hb8)) (zzT HB.out.2 hb8))))
   have hk8:∀ (a:Addr) (u:Value),wr.cell? a=some u->W8.cell? a=some u:=fun a u h=>(H8.out.1.cell (World.block_lt_of_cell? _ _ h)).trans h
   clear hb8 hW8 hSd q0
   rcases HD.out.1.mv with ⟨hc,jj,aj,sb,hp,hj10,haj,hsb,hat,hld⟩ | ⟨hc,hp⟩
   ·subst hc
    have hs1:=HD.out.2.1
    unfold stepW at hs1
    simp only [if_true] at hs1
    rw [hld,hsb] at hs1
    have ea:argsAt t p=aj.args.length:=by unfold argsAt;rw [hat]
    rw [ea] at hs1
    obtain rfl:s'=(sb,lv++placesOf aj.args.length e' p,(e',p)):=(Option.some.inj hs1).symm
    have hjs:=(List.getElem?_eq_some_iff.1 hsb).1
    have hjsI:(jj:Int)<(ss.length:Int):=by omega
    obtain ⟨_,_,ex,hats⟩:=AtNs.of (bs:=ss) HT.out.2.1
    simp only [Value.slice.injEq] at ex
    obtain ⟨rfl,_,rfl⟩:=ex
    obtain ⟨kb,ko,s1,v1,ka2,kn2,kc2,ka3,kn3,kc3,sd,ex,hkbl,hsd,y0,y1,y2,y3,hyk⟩:=hats jj hjs
    subst ex
    obtain rfl:sb=sd:=Option.some.inj (hsb.symm.trans hsd)
    have eM:=HM.out
    obtain ⟨m1,hm1⟩:=zzM (p.length)
    have hMl:M.length=m1+1:=by rw [eM,hm1];rfl
    have hal1:=atT_len _ _ _ hat
    have hargs1:=args_len aj
    have hp60:p.length<=100:=by have:=HI.out.2.2.2.1;omega
    have hpm:IntKind.i64.wrap ((M.length:Int)-1)=(m1:Int):=by rw [hMl,show ((m1+1:Nat):Int)-1=(m1:Int) from by omega];exact wrap_nat _ (by omega)
    have hpi:m1<M.length:=by omega
    have hm1I:(m1:Int)<(M.length:Int):=by omega
    have hl1:M[m1]=digit jj:=by
     have h9:M[m1]? = some (digit jj):=by
      rw [eM,hm1]
      show (113::p)[p.length]? = _
      rw [hp,List.length_append];simp
     exact (List.getElem?_eq_some_iff.1 h9).2
    have B1:((((⟨M.toArray⟩:ByteArray)[m1]'(lt_str hpi)).toNat:Int))=48+(jj:Int):=by rw [byte_int hpi,hl1,digit_nat hj10];omega
    have hj8:IntKind.u8.wrap (48+(jj:Int)-48)=(jj:Int):=by simp [IntKind.wrap,IntKind.bits,IntKind.signed];omega
    have hqn:((((113:UInt8).toNat:Nat):Int) != 113)=false:=rfl
    have exx:(⟨M.toArray⟩:ByteArray).extract 1 M.length=⟨p.toArray⟩:=by rw [hMl,eM,hm1];exact ext_tail 113 p
    have h1M:(1:Int)<=(M.length:Int):=by omega
    have CAT:=Lib.hid (fun x (hx:Below wr.heap.size wr x)=>l1At_ago F t aj p (.slice ta t.args.length tc) w x HI.out.1 HI.out.2.2.2.1 (show _<=_ by omega) hat (zzT HB.out.2 hx))
    have HKID:=Lib.hid (And.intro (And.intro y0 (And.intro y1 (And.intro y2 y3))) hyk)
    have HARG:=Lib.hid (And.intro hargs1 (And.intro hal1 hat))
    have hkk8:=Lib.hid hk8
    clear hp haj hsb hat hld hs1 ea hats hkbl hsd y0 y1 y2 y3 hyk eM hm1 hl1 hargs1 hal1 hk8 hjs hMl
    go_upto_region 15 with (fail)
    have KEY8:=Lib.hid (fun (y:World) (hy:Below W8.heap.size W8 y)=>KEY.out y (zzT H8.out.1 hy))
    have CAT8:=Lib.hid (fun (y:World) (hy:Below W8.heap.size W8 y)=>CAT.out y (zzT H8.out.1 hy))
    clear CAT
    refine cut_code (X:=Option Addr×Nat×Nat) (fun zz x=>(((((((((zz.put (some 68) (.agg #[.slice ta t.args.length tc])).put (some 69) (str M)).put (some 70) (str p)).put (some 71) (.tuple #[.agg #[.slice x.1 aj.args.length x.2.1],.bool true])).put (some 67) (.tuple #[.agg #[.slice x.1 aj.args.length x.2.1],.bool true])).put (some 72) (.agg #[.slice x.1 aj.args.length x.2.1])).put (some 73) (.bool true)).put (some 14) (.pointer (some ⟨x.2.2,0,none⟩))).put (some 15) (.bool true))) (fun x w7=>Below W8.heap.size W8 w7/\w7.heap[x.2.2]? = some (.cells #[.slice x.1 aj.args.length x.2.1] 78 (0,0))/\W8.heap.size<=x.2.2/\Rep F w (encS aj) (.slice x.1 aj.args.length x.2.1)) ?_ ?_
    ·refine wp_region_noPanic ?_
     refine wp_region_S (fun w'=>Below W8.heap.size W8 w') (fun _=>false) (by kernel_rfl) ?_
     obtain ⟨z0,hz0⟩:=zzN (W8.drew)
     rw [hz0]
     have hBz0:Below W8.heap.size W8 z0:=by rw [<- hz0];exact Below.drew (Below.refl _ _)
     obtain ⟨tg0,htg0⟩:∃ x:Nat->Nat,x=fun _=>0:=⟨_,rfl⟩
     clear hz0 htg0
     refine wpAnyS_take 0 (v:=?_) (by kernel_rfl) (by kernel_rfl) (by kernel_rfl) (by kernel_rfl) (fun _ _ _ _ h=>h) hBz0 ?_ ?_
     rotate_left
     ·(intro oi ho;simp at ho;subst ho;refine Or.inl ⟨by rfl,fun w' hw'=>?_⟩;have e0:=(KEY8.out w' hw').2.2.2.2;go_simp;try with_reducible rfl)
     (intro d hd;simp at hd;subst hd;simp only [Act.put,List.setIfInBounds_toArray,List.set_cons_zero,List.set_cons_succ])
     refine wpAnyS_take 1 (v:=?_) (by kernel_rfl) (by kernel_rfl) (by kernel_rfl) (by kernel_rfl) (fun _ _ _ _ h=>h) hBz0 ?_ ?_
     rotate_left
     ·(intro oi ho;simp at ho;subst ho;refine Or.inl ⟨by rfl,fun w' hw'=>?_⟩;go_simp;try with_reducible rfl)
     (intro d hd;simp at hd;subst hd;simp only [Act.put,List.setIfInBounds_toArray,List.set_cons_zero,List.set_cons_succ])
     refine wpAnyS_take 2 (v:=?_) (by kernel_rfl) (by kernel_rfl) (by kernel_rfl) (by kernel_rfl) (fun _ _ _ _ h=>h) hBz0 ?_ ?_
     rotate_left
     ·(intro oi ho;simp at ho;subst ho;refine Or.inl ⟨by rfl,fun w' hw'=>?_⟩;go_simp;try with_reducible rfl)
     (intro d hd;simp at hd;subst hd;simp only [Act.put,List.setIfInBounds_toArray,List.set_cons_zero,List.set_cons_succ])
     refine wpAnyS_two 3 7 (by kernel_rfl) ?_ ?_
     ·(intro o3 ho K' hK;simp at ho;subst ho)
      go_simp
      go_at_call 174
      (with_reducible refine (CAT8.out _ hBz0).mono ?_)
      rintro en z1 ⟨ka,kc,rfl,hb,hkr⟩
      have HKR:=Lib.hid hkr
      clear hkr
      have hBz1:Below W8.heap.size W8 z1:=zzT hBz0 hb
      have hbz1:=Lib.hid hb;clear hb
      refine hK.out _ _ (fun _=>?_) ?_
      ·exact hBz1
      clear hK K'
      (try simp only [Act.put,List.setIfInBounds_toArray,List.set_cons_zero,List.set_cons_succ])
      refine wpAnyS_take 4 (v:=?_) (by kernel_rfl) (by kernel_rfl) (by kernel_rfl) (by kernel_rfl) (fun _ _ _ _ h=>h) hBz1 ?_ ?_
      rotate_left
      ·(intro oi ho;simp at ho;subst ho;refine Or.inl ⟨by rfl,fun w' hw'=>?_⟩;go_simp;try with_reducible rfl)
      (intro d hd;simp at hd;subst hd;simp only [Act.put,List.setIfInBounds_toArray,List.set_cons_zero,List.set_cons_succ])
      refine wpAnyS_take 5 (v:=?_) (by kernel_rfl) (by kernel_rfl) (by kernel_rfl) (by kernel_rfl) (fun _ _ _ _ h=>h) hBz1 ?_ ?_
      rotate_left
      ·(intro oi ho;simp at ho;subst ho;refine Or.inl ⟨by rfl,fun w' hw'=>?_⟩;go_simp;try with_reducible rfl)
      (intro d hd;simp at hd;subst hd;simp only [Act.put,List.setIfInBounds_toArray,List.set_cons_zero,List.set_cons_succ])
      refine wpAnyS_take 6 (v:=?_) (by kernel_rfl) (by kernel_rfl) (by kernel_rfl) (by kernel_rfl) (fun _ _ _ _ h=>h) hBz1 ?_ ?_
      rotate_left
      ·(intro oi ho;simp at ho;subst ho;refine Or.inl ⟨by rfl,fun w' hw'=>?_⟩;go_simp;try with_reducible rfl)
      (intro d hd;simp at hd;subst hd;simp only [Act.put,List.setIfInBounds_toArray,List.set_cons_zero,List.set_cons_succ])
      refine wpAnyS_one 7 (by kernel_rfl) ?_
      (intro o7 ho K' hK;simp at ho;subst ho)
      go_simp
      refine hK.out _ _ (fun _=>?_) ?_
      ·exact hBz1.alloc hBz1.size _
      clear hK K'
      (try simp only [Act.put,List.setIfInBounds_toArray,List.set_cons_zero,List.set_cons_succ])
      obtain ⟨z2,hnew⟩:=zzN (z1.alloc (.cells #[.slice none 0 0] 78))
      obtain ⟨gK,hgK⟩:=zzN (z1.heap.size)
      rw [hnew,hgK]
      have hBz2:Below W8.heap.size W8 z2:=by rw [<- hnew];exact hBz1.alloc hBz1.size _
      obtain ⟨tg2,htg⟩:=zzN (retag tg0 gK 4)
      have EK:Hid (z2.heap[gK]? = some (.cells #[.slice none 0 0] 78 (0,0))/\tg2 gK=4/\W8.heap.size<=gK):=by rw [<- hnew,<- htg,<- hgK];exact ⟨heap_new _ _,by unfold retag;rw [if_pos rfl],hBz1.size⟩
      clear hnew hgK htg
      refine wpAnyS_one 8 (by kernel_rfl) ?_
      (intro o8 ho K' hK;simp at ho;subst ho)
      obtain ⟨uK0,cK0⟩:∃ u,z2.cell? ⟨gK,0,none⟩=some u:=⟨_,by simp [World.cell?,EK.out.1];rfl⟩
      have fK0:z2.frozen? ⟨gK,0,none⟩=false:=by simp [World.frozen?,EK.out.1]
      go_simp
      refine hK.out _ _ (fun _=>?_) ?_
      ·exact (hBz2.setCell (p:=⟨gK,0,none⟩) EK.out.2.2 _)
      clear hK K'
      (try simp only [Act.put,List.setIfInBounds_toArray,List.set_cons_zero,List.set_cons_succ])
      obtain ⟨z3,hnew⟩:=zzN ((z2.setCell ⟨gK,0,none⟩ (.slice ka aj.args.length kc)))
      rw [hnew]
      have hBz3:Below W8.heap.size W8 z3:=by rw [<- hnew];exact (hBz2.setCell (p:=⟨gK,0,none⟩) EK.out.2.2 _)
      have hbt:But (fun i=>i=gK) z2 z3:=by rw [<- hnew];exact ((But.refl (fun i=>i=gK) z2).setCell (p:=⟨gK,0,none⟩) (.inl rfl) _)
      have htg:∀ g,g=gK->tg2 g=4:=fun g e=>by rw [e];exact EK.out.2.1
      have EK:Hid (z3.heap[gK]? = some (.cells #[.slice ka aj.args.length kc] 78 (0,0))/\tg2 gK=4/\W8.heap.size<=gK):=⟨by rw [<- hnew];exact (setCell_at' EK.out.1),EK.out.2⟩
      clear hnew hbt htg cK0 fK0
      refine wpAnyS_one 9 (by kernel_rfl) ?_
      (intro o9 ho K' hK;simp at ho;subst ho)
      go_simp
      refine hK.out _ _ (fun _=>?_) ?_
      ·exact hBz3
      clear hK K'
      (try simp only [Act.put,List.setIfInBounds_toArray,List.set_cons_zero,List.set_cons_succ])
      refine wpAnyS_done (by kernel_rfl) (NoPanic.normal ?_) _
      exact ⟨rfl,⟨ka,kc,gK⟩,by rfl,hBz3,EK.out.1,EK.out.2.2,HKR.out⟩
     ·(intro o7 ho K' hK;simp at ho;subst ho)
      go_simp
      refine hK.out _ _ (fun _=>?_) ?_
      ·exact hBz0.alloc hBz0.size _
      clear hK K'
      (try simp only [Act.put,List.setIfInBounds_toArray,List.set_cons_zero,List.set_cons_succ])
      obtain ⟨z5,hnew⟩:=zzN (z0.alloc (.cells #[.slice none 0 0] 78))
      obtain ⟨gK,hgK⟩:=zzN (z0.heap.size)
      rw [hnew,hgK]
      have hBz5:Below W8.heap.size W8 z5:=by rw [<- hnew];exact hBz0.alloc hBz0.size _
      obtain ⟨tg5,htg⟩:=zzN (retag tg0 gK 4)
      have EK:Hid (z5.heap[gK]? = some (.cells #[.slice none 0 0] 78 (0,0))/\tg5 gK=4/\W8.heap.size<=gK):=by rw [<- hnew,<- htg,<- hgK];exact ⟨heap_new _ _,by unfold retag;rw [if_pos rfl],hBz0.size⟩
      clear hnew hgK htg
      refine wpAnyS_one 3 (by kernel_rfl) ?_
      (intro o3 ho K' hK;simp at ho;subst ho)
      go_simp
      go_at_call 174
      (with_reducible refine (CAT8.out _ hBz5).mono ?_)
      rintro en z6 ⟨ka,kc,rfl,hb,hkr⟩
      have HKR:=Lib.hid hkr
      clear hkr
      have hBz6:Below W8.heap.size W8 z6:=zzT hBz5 hb
      have EK:Hid (z6.heap[gK]? = some (.cells #[.slice none 0 0] 78 (0,0))/\tg5 gK=4/\W8.heap.size<=gK):=⟨(hb.block _ (lt_of_heap EK.out.1)).trans EK.out.1,EK.out.2⟩
      have hbz6:=Lib.hid hb;clear hb
      refine hK.out _ _ (fun _=>?_) ?_
      ·exact hBz6
      clear hK K'
      (try simp only [Act.put,List.setIfInBounds_toArray,List.set_cons_zero,List.set_cons_succ])
      refine wpAnyS_take 4 (v:=?_) (by kernel_rfl) (by kernel_rfl) (by kernel_rfl) (by kernel_rfl) (fun _ _ _ _ h=>h) hBz6 ?_ ?_
      rotate_left
      ·(intro oi ho;simp at ho;subst ho;refine Or.inl ⟨by rfl,fun w' hw'=>?_⟩;go_simp;try with_reducible rfl)
      (intro d hd;simp at hd;subst hd;simp only [Act.put,List.setIfInBounds_toArray,List.set_cons_zero,List.set_cons_succ])
      refine wpAnyS_take 5 (v:=?_) (by kernel_rfl) (by kernel_rfl) (by kernel_rfl) (by kernel_rfl) (fun _ _ _ _ h=>h) hBz6 ?_ ?_
      rotate_left
      ·(intro oi ho;simp at ho;subst ho;refine Or.inl ⟨by rfl,fun w' hw'=>?_⟩;go_simp;try with_reducible rfl)
      (intro d hd;simp at hd;subst hd;simp only [Act.put,List.setIfInBounds_toArray,List.set_cons_zero,List.set_cons_succ])
      refine wpAnyS_take 6 (v:=?_) (by kernel_rfl) (by kernel_rfl) (by kernel_rfl) (by kernel_rfl) (fun _ _ _ _ h=>h) hBz6 ?_ ?_
      rotate_left
      ·(intro oi ho;simp at ho;subst ho;refine Or.inl ⟨by rfl,fun w' hw'=>?_⟩;go_simp;try with_reducible rfl)
      (intro d hd;simp at hd;subst hd;simp only [Act.put,List.setIfInBounds_toArray,List.set_cons_zero,List.set_cons_succ])
      refine wpAnyS_one 8 (by kernel_rfl) ?_
      (intro o8 ho K' hK;simp at ho;subst ho)
      obtain ⟨uK0,cK0⟩:∃ u,z6.cell? ⟨gK,0,none⟩=some u:=⟨_,by simp [World.cell?,EK.out.1];rfl⟩
      have fK0:z6.frozen? ⟨gK,0,none⟩=false:=by simp [World.frozen?,EK.out.1]
      go_simp
      refine hK.out _ _ (fun _=>?_) ?_
      ·exact (hBz6.setCell (p:=⟨gK,0,none⟩) EK.out.2.2 _)
      clear hK K'
      (try simp only [Act.put,List.setIfInBounds_toArray,List.set_cons_zero,List.set_cons_succ])
      obtain ⟨z7,hnew⟩:=zzN ((z6.setCell ⟨gK,0,none⟩ (.slice ka aj.args.length kc)))
      rw [hnew]
      have hBz7:Below W8.heap.size W8 z7:=by rw [<- hnew];exact (hBz6.setCell (p:=⟨gK,0,none⟩) EK.out.2.2 _)
      have hbt:But (fun i=>i=gK) z6 z7:=by rw [<- hnew];exact ((But.refl (fun i=>i=gK) z6).setCell (p:=⟨gK,0,none⟩) (.inl rfl) _)
      have htg:∀ g,g=gK->tg5 g=4:=fun g e=>by rw [e];exact EK.out.2.1
      have EK:Hid (z7.heap[gK]? = some (.cells #[.slice ka aj.args.length kc] 78 (0,0))/\tg5 gK=4/\W8.heap.size<=gK):=⟨by rw [<- hnew];exact (setCell_at' EK.out.1),EK.out.2⟩
      clear hnew hbt htg cK0 fK0
      refine wpAnyS_one 9 (by kernel_rfl) ?_
      (intro o9 ho K' hK;simp at ho;subst ho)
      go_simp
      refine hK.out _ _ (fun _=>?_) ?_
      ·exact hBz7
      clear hK K'
      (try simp only [Act.put,List.setIfInBounds_toArray,List.set_cons_zero,List.set_cons_succ])
      refine wpAnyS_done (by kernel_rfl) (NoPanic.normal ?_) _
      exact ⟨rfl,⟨ka,kc,gK⟩,by rfl,hBz7,EK.out.1,EK.out.2.2,HKR.out⟩
    rintro ⟨ka,kc,gK⟩ W9 ⟨hB9,hK9,hgK,hkr⟩
    dsimp only at hK9 hgK hkr
    simp only [pQ,pN,pZ,pS]
    have hr9:Below wr.heap.size wr W9:=zzT H8.out.1 hB9
    have KEY9:=Lib.hid (fun (y:World) (hy:Below W9.heap.size W9 y)=>(show _/\_/\y.cell? ⟨gK,0,none⟩=some (.slice ka aj.args.length kc)/\(y.cell? ⟨kb,ko+jj*4,none⟩=some (str s1)/\y.cell? ⟨kb,ko+jj*4+1,none⟩=some (.int .i64 v1)/\y.cell? ⟨kb,ko+jj*4+2,none⟩=some (.slice ka2 kn2 kc2)/\y.cell? ⟨kb,ko+jj*4+3,none⟩=some (.slice ka3 kn3 kc3)) from by
     have hry:=zzT hr9 hy
     have key:∀ {p:Addr} {u:Value},wr.cell? p=some u->y.cell? p=some u:=fun h=>(hry.cell (World.block_lt_of_cell? _ _ h)).trans h
     have k9:=one_cell hK9
     exact ⟨(KEY.out y hry).1,(KEY.out y hry).2.2.1,(hy.cell (World.block_lt_of_cell? _ _ k9)).trans k9,key HKID.out.1.1,key HKID.out.1.2.1,key HKID.out.1.2.2.1,key HKID.out.1.2.2.2⟩))
    have CBG9:=Lib.hid (fun (y:World) (hy:Below W9.heap.size W9 y)=>by
     have hry:=zzT hr9 hy
     have h1:begun.length=lv.length:=HT.out.1.lb
     have h2:args.length=lv.length:=HT.out.1.la
     have h3:=HLN.out.2.2.2
     have h4:=HARG.out.1
     have h5:=HARG.out.2.1
     have h6:=HD.out.2.2.1.lt
     have h7:=HI.out.2.2.2.1
     have kp:∀ {d:DV} {u:Value},Rep (fun g=>g≠gA/\g≠w.heap.size+3) wr d u->Rep (fun _=>True) y d u:=fun h=>(Rep.keep fun i o _ ho=>⟨trivial,by rw [hry.block i (lt_of_heap ho)];exact ho⟩).1 _ _ h
     exact l3Begin_any (fun _=>True) begun args [] (l:Nat) (some ⟨kb,ko,none⟩) ss.length d2 n3 2 d3 na da nb db (opens:Nat) s1 v1 ka2 kn2 kc2 ka3 kn3 kc3 aj (.slice ka aj.args.length kc) e' y (kp HT.out.2.2.2.1) (kp HT.out.2.2.2.2)
      ((Rep.keep fun i o _ ho=>⟨trivial,by rw [hry.block i (by have:=lt_of_heap ho;have:=HB.out.2.size;omega),HB.out.2.block i (lt_of_heap ho)];exact ho⟩).1 _ _ hkr) (by omega) (by omega) (by omega))
    have hbx9:=(hr9.block _ (lt_of_heap HST2.out.2.1)).trans HST2.out.2.1
    have H9:=Lib.hid (And.intro hr9 (And.intro (HB.out.1.trans (But.ofBelow hr9)) (And.intro (zzT HB.out.2 hr9) hbx9)))
    clear hB9 hK9 hgK hkr hr9 hbx9 KEY KEY8 CAT8
    go_upto_region 16 with (fail)
    refine wp_region_noPanic ?_
    refine wp_region_S (fun w'=>Below W9.heap.size W9 w') (fun i=>i=13) (by kernel_rfl) ?_
    have hSd:(fun w'=>Below W9.heap.size W9 w') W9.drew:=Below.drew (Below.refl _ _)
    refine wpAnyS_take 0 (v:=?_) (by kernel_rfl) (by kernel_rfl) (by kernel_rfl) (by kernel_rfl) (fun _ _ _ _ h=>h) hSd ?_ ?_
    rotate_left
    ·(intro oi ho;simp at ho;subst ho;refine Or.inl ⟨by rfl,fun w' hw'=>?_⟩;obtain ⟨e0,e1,e2,e3,e4,e5,e6⟩:=(KEY9.out w' hw').1;go_simp;try with_reducible rfl)
    (intro d hd;simp at hd;subst hd;simp only [Act.put,List.setIfInBounds_toArray,List.set_cons_zero,List.set_cons_succ])
    refine wpAnyS_take 1 (v:=?_) (by kernel_rfl) (by kernel_rfl) (by kernel_rfl) (by kernel_rfl) (fun _ _ _ _ h=>h) hSd ?_ ?_
    rotate_left
    ·(intro oi ho;simp at ho;subst ho;refine Or.inl ⟨by rfl,fun w' hw'=>?_⟩;go_simp;try with_reducible rfl)
    (intro d hd;simp at hd;subst hd;simp only [Act.put,List.setIfInBounds_toArray,List.set_cons_zero,List.set_cons_succ])
    refine wpAnyS_take 2 (v:=?_) (by kernel_rfl) (by kernel_rfl) (by kernel_rfl) (by kernel_rfl) (fun _ _ _ _ h=>h) hSd ?_ ?_
    rotate_left
    ·(intro oi ho;simp at ho;subst ho;refine Or.inl ⟨by rfl,fun w' hw'=>?_⟩;go_simp;try with_reducible rfl)
    (intro d hd;simp at hd;subst hd;simp only [Act.put,List.setIfInBounds_toArray,List.set_cons_zero,List.set_cons_succ])
    refine wpAnyS_take 3 (v:=?_) (by kernel_rfl) (by kernel_rfl) (by kernel_rfl) (by kernel_rfl) (fun _ _ _ _ h=>h) hSd ?_ ?_
    rotate_left
    ·(intro oi ho;simp at ho;subst ho;refine Or.inl ⟨by rfl,fun w' hw'=>?_⟩;have e0:=(KEY9.out w' hw').1.2.2.1;go_simp;try with_reducible rfl)
    (intro d hd;simp at hd;subst hd;simp only [Act.put,List.setIfInBounds_toArray,List.set_cons_zero,List.set_cons_succ])
    refine wpAnyS_take 4 (v:=?_) (by kernel_rfl) (by kernel_rfl) (by kernel_rfl) (by kernel_rfl) (fun _ _ _ _ h=>h) hSd ?_ ?_
    rotate_left
    ·(intro oi ho;simp at ho;subst ho;refine Or.inl ⟨by rfl,fun w' hw'=>?_⟩;go_simp;try with_reducible rfl)
    (intro d hd;simp at hd;subst hd;simp only [Act.put,List.setIfInBounds_toArray,List.set_cons_zero,List.set_cons_succ])
    refine wpAnyS_take 5 (v:=?_) (by kernel_rfl) (by kernel_rfl) (by kernel_rfl) (by kernel_rfl) (fun _ _ _ _ h=>h) hSd ?_ ?_
    rotate_left
    ·(intro oi ho;simp at ho;subst ho;refine Or.inl ⟨by rfl,fun w' hw'=>?_⟩;go_simp;try with_reducible rfl)
    (intro d hd;simp at hd;subst hd;simp only [Act.put,List.setIfInBounds_toArray,List.set_cons_zero,List.set_cons_succ])
    refine wpAnyS_take 6 (v:=?_) (by kernel_rfl) (by kernel_rfl) (by kernel_rfl) (by kernel_rfl) (fun _ _ _ _ h=>h) hSd ?_ ?_
    rotate_left
    ·(intro oi ho;simp at ho;subst ho;refine Or.inl ⟨by rfl,fun w' hw'=>?_⟩;obtain ⟨e0,e1,e2,e3⟩:=(KEY9.out w' hw').2.2.2;go_simp;try with_reducible rfl)
    (intro d hd;simp at hd;subst hd;simp only [Act.put,List.setIfInBounds_toArray,List.set_cons_zero,List.set_cons_succ])
    refine wpAnyS_take 7 (v:=?_) (by kernel_rfl) (by kernel_rfl) (by kernel_rfl) (by kernel_rfl) (fun _ _ _ _ h=>h) hSd ?_ ?_
    rotate_left
    ·(intro oi ho;simp at ho;subst ho;refine Or.inl ⟨by rfl,fun w' hw'=>?_⟩;have e0:=(KEY9.out w' hw').2.2.1;go_simp;try with_reducible rfl)
    (intro d hd;simp at hd;subst hd;simp only [Act.put,List.setIfInBounds_toArray,List.set_cons_zero,List.set_cons_succ])
    refine wpAnyS_take 8 (v:=?_) (by kernel_rfl) (by kernel_rfl) (by kernel_rfl) (by kernel_rfl) (fun _ _ _ _ h=>h) hSd ?_ ?_
    rotate_left
    ·(intro oi ho;simp at ho;subst ho;refine Or.inl ⟨by rfl,fun w' hw'=>?_⟩;go_simp;try with_reducible rfl)
    (intro d hd;simp at hd;subst hd;simp only [Act.put,List.setIfInBounds_toArray,List.set_cons_zero,List.set_cons_succ])
    refine wpAnyS_take 9 (v:=?_) (by kernel_rfl) (by kernel_rfl) (by kernel_rfl) (by kernel_rfl) (fun _ _ _ _ h=>h) hSd ?_ ?_
    rotate_left
    ·(intro oi ho;simp at ho;subst ho;refine Or.inl ⟨by rfl,fun w' hw'=>?_⟩;go_simp;try with_reducible rfl)
    (intro d hd;simp at hd;subst hd;simp only [Act.put,List.setIfInBounds_toArray,List.set_cons_zero,List.set_cons_succ])
    refine wpAnyS_take 10 (v:=?_) (by kernel_rfl) (by kernel_rfl) (by kernel_rfl) (by kernel_rfl) (fun _ _ _ _ h=>h) hSd ?_ ?_
    rotate_left
    ·(intro oi ho;simp at ho;subst ho;refine Or.inl ⟨by rfl,fun w' hw'=>?_⟩;go_simp;try with_reducible rfl)
    (intro d hd;simp at hd;subst hd;simp only [Act.put,List.setIfInBounds_toArray,List.set_cons_zero,List.set_cons_succ])
    refine wpAnyS_take 11 (v:=?_) (by kernel_rfl) (by kernel_rfl) (by kernel_rfl) (by kernel_rfl) (fun _ _ _ _ h=>h) hSd ?_ ?_
    rotate_left
    ·(intro oi ho;simp at ho;subst ho;refine Or.inl ⟨by rfl,fun w' hw'=>?_⟩;have e0:=(KEY9.out w' hw').2.1;go_simp;try with_reducible rfl)
    (intro d hd;simp at hd;subst hd;simp only [Act.put,List.setIfInBounds_toArray,List.set_cons_zero,List.set_cons_succ])
    refine wpAnyS_one 12 (by kernel_rfl) ?_
    (intro o12 ho K' hK;simp at ho;subst ho)
    go_simp
    go_at_call 173
    (with_reducible refine (CBG9.out _ hSd).mono ?_)
    rintro en x12 ⟨b12,bc12,a12,ac12,rfl,hb12,hr1,hr2⟩
    have hB12:Below W9.heap.size W9 x12:=zzT hSd hb12
    have xx:=(hB12.block _ (lt_of_heap H9.out.2.2.2)).trans H9.out.2.2.2
    refine hK.out _ _ ?_ ?_
    ·exact fun _=>hB12
    clear hK K'
    (try simp only [Act.put,List.setIfInBounds_toArray,List.set_cons_zero,List.set_cons_succ])
    have hS12:=hB12
    refine wpAnyS_one 13 (by kernel_rfl) ?_
    (intro o13 ho K' hK;simp at ho;subst ho)
    have f0:=frozen_4 xx 0;have f1:=frozen_4 xx 1;have f2:=frozen_4 xx 2;have f3:=frozen_4 xx 3;have f4:=frozen_4 xx 4;have f5:=frozen_4 xx 5;have f6:=frozen_4 xx 6
    obtain ⟨e0,e1,e2,e3,e4,e5,e6⟩:=cells_7 xx
    go_simp
    refine hK.out _ _ ?_ ?_
    ·intro h;simp at h
    clear hK K'
    (try simp only [Act.put,List.setIfInBounds_toArray,List.set_cons_zero,List.set_cons_succ])
    refine wpAnyS_done (by kernel_rfl) (NoPanic.normal ?_) _
    obtain ⟨W10,hW10⟩:=zzN ((((((((x12.setCell ⟨gA,0,none⟩ (str s1)).setCell ⟨gA,1,none⟩ (.int .i64 v1)).setCell ⟨gA,2,none⟩ (.slice ka2 kn2 kc2)).setCell ⟨gA,3,none⟩ (.slice ka3 kn3 kc3)).setCell ⟨gA,4,none⟩ (.slice b12 (begun.length+aj.args.length) bc12)).setCell ⟨gA,5,none⟩ (.slice a12 (args.length+aj.args.length) ac12)).setCell ⟨gA,6,none⟩ (.int .i64 (e':Nat))))
    rw [hW10]
    have bx10:W10.heap[gA]? = some (.cells #[str s1,.int .i64 v1,.slice ka2 kn2 kc2,.slice ka3 kn3 kc3,.slice b12 (begun.length+aj.args.length) bc12,.slice a12 (args.length+aj.args.length) ac12,.int .i64 (e':Nat)] 177 (0,0)):=by rw [<- hW10];exact set_seven xx _ _ _ _ _ _ _
    have hoth:∀ g,g≠gA->W10.heap[g]? = x12.heap[g]?:=fun g hg=>by
     rw [<- hW10,Below.heap_setCell _ _ _ _ (by show g≠gA;exact hg),Below.heap_setCell _ _ _ _ (by show g≠gA;exact hg),Below.heap_setCell _ _ _ _ (by show g≠gA;exact hg),Below.heap_setCell _ _ _ _ (by show g≠gA;exact hg),Below.heap_setCell _ _ _ _ (by show g≠gA;exact hg),Below.heap_setCell _ _ _ _ (by show g≠gA;exact hg),Below.heap_setCell _ _ _ _ (by show g≠gA;exact hg)]
    have hB10:But (fun g=>g=gA) Y W10:=by
     rw [<- hW10]
     exact (((((((H9.out.2.1.trans (But.ofBelow hB12)).setCell (p:=⟨gA,0,none⟩) (.inl rfl) _).setCell (p:=⟨gA,1,none⟩) (.inl rfl) _).setCell (p:=⟨gA,2,none⟩) (.inl rfl) _).setCell (p:=⟨gA,3,none⟩) (.inl rfl) _).setCell (p:=⟨gA,4,none⟩) (.inl rfl) _).setCell (p:=⟨gA,5,none⟩) (.inl rfl) _).setCell (p:=⟨gA,6,none⟩) (.inl rfl) _
    have kp:∀ i o,(i≠gA/\i≠w.heap.size+3)->wr.heap[i]? = some o->(i≠gA/\i≠w.heap.size+3)/\W10.heap[i]? = some o:=fun i o hi ho=>⟨hi,by rw [hoth i hi.1,hB12.block i (by have:=lt_of_heap ho;have:=H9.out.1.size;omega),H9.out.1.block i (lt_of_heap ho)];exact ho⟩
    have kn:∀ i o,W9.heap.size<=i->x12.heap[i]? = some o->(i≠gA/\i≠w.heap.size+3)/\W10.heap[i]? = some o:=fun i o hi ho=>by
     have h1:=HSZ.out;have h2:=lt_of_heap H9.out.2.2.2;have h3:=HY.out.1.size;have h4:=H9.out.2.1.size;have h5:=HY.out.2.1.size
     exact ⟨⟨by omega,by omega⟩,by rw [hoth i (by omega)];exact ho⟩
    have hspk:=HT.out.1.kid aj.args.length e' p (by have h4:=HARG.out.1;have h5:=HARG.out.2.1;have h7:=HI.out.2.2.2.1;omega) HD.out.2.2.1.at'
    have H10:=Lib.hid (And.intro bx10 (And.intro hB10 (show SpAt (fun g=>g≠gA/\g≠w.heap.size+3) W10 sb (lv++placesOf aj.args.length e' p) (e',p) v [str s1,.int .i64 v1,.slice ka2 kn2 kc2,.slice ka3 kn3 kc3,.slice b12 (begun.length+aj.args.length) bc12,.slice a12 (args.length+aj.args.length) ac12,.int .i64 (e':Nat)] from ⟨_,_,e',hspk,AtD_mk ((Rep.keep kp).2 _ _ HKID.out.2) ((Rep.keep kn).1 _ _ hr1) ((Rep.keep kn).1 _ _ hr2)⟩)))
    clear bx10 hoth hB10 kp kn hspk hW10 xx hr1 hr2 hB12 hb12 hS12 hSd KEY9 CBG9
    go_wp2_with fail
    go_roundw
    case rel=>exact ⟨_,j+1,e',_,hand',_,_,_,_,_,_,_,rfl,by rw [<- HN.out.2.2.2];rfl,HN.out.2.2.1,HN.out.1,HN.out.2.1,H10.out.1,H10.out.2.2,H10.out.2.1⟩
    case measure=>simp [intOf];omega
   ·clear hp
    rcases hc with rfl | rfl
    ·obtain ⟨_,_,ex,hats⟩:=AtNs.of (bs:=[y,nn]) HT.out.2.2.1
     simp only [Value.slice.injEq] at ex
     obtain ⟨rfl,_,rfl⟩:=ex
     obtain ⟨kb,ko,s1,v1,ka2,kn2,kc2,ka3,kn3,kc3,sd,ex,hkbl,hsd,y0,y1,y2,y3,hyk⟩:=hats 0 (by simp)
     subst ex
     obtain rfl:y=sd:=Option.some.inj hsd
     have hs1:=HD.out.2.1
     obtain rfl:s'=(y,lv,bg):=(Option.some.inj hs1).symm
     have y0':=hk8 _ _ y0
     have y1':=hk8 _ _ y1
     have y2':=hk8 _ _ y2
     have y3':=hk8 _ _ y3
     have HYK:=Lib.hid hyk
     obtain ⟨⟨q0,q1,q2,q3,_⟩,_⟩:=KEY.out W8 H8.out.1
     have hqn:((((116:UInt8).toNat:Nat):Int) != 113)=true:=rfl
     have hqf:((((116:UInt8).toNat:Nat):Int) == 102)=false:=rfl
     have f0:=frozen_4 H8.out.2.1 0;have f1:=frozen_4 H8.out.2.1 1;have f2:=frozen_4 H8.out.2.1 2;have f3:=frozen_4 H8.out.2.1 3
     clear hats hkbl hsd y0 y1 y2 y3 hyk hs1 hk8
     simp only [Nat.zero_mul,Nat.one_mul,Nat.add_zero] at y0' y1' y2' y3'
     go_upto_region 5 with (fail)
     obtain ⟨W10,hW10⟩:=zzN ((((W8.setCell ⟨gA,0,none⟩ (str s1)).setCell ⟨gA,1,none⟩ (.int .i64 v1)).setCell ⟨gA,2,none⟩ (.slice ka2 kn2 kc2)).setCell ⟨gA,3,none⟩ (.slice ka3 kn3 kc3))
     rw [hW10]
     have bx10:W10.heap[gA]? = some (.cells #[str s1,.int .i64 v1,.slice ka2 kn2 kc2,.slice ka3 kn3 kc3,.slice na begun.length da,.slice nb args.length db,.int .i64 (opens:Nat)] 177 (0,0)):=by
      rw [<- hW10,setCell_at' (setCell_at' (setCell_at' (setCell_at' H8.out.2.1)))];rfl
     have hoth:∀ g,g≠gA->W10.heap[g]? = W8.heap[g]?:=fun g hg=>by
      rw [<- hW10,Below.heap_setCell _ _ _ _ (by show g≠gA;exact hg),Below.heap_setCell _ _ _ _ (by show g≠gA;exact hg),Below.heap_setCell _ _ _ _ (by show g≠gA;exact hg),Below.heap_setCell _ _ _ _ (by show g≠gA;exact hg)]
     have hB10:But (fun g=>g=gA) Y W10:=by
      rw [<- hW10]
      exact (((H8.out.2.2.1.setCell (p:=⟨gA,0,none⟩) (.inl rfl) _).setCell (p:=⟨gA,1,none⟩) (.inl rfl) _).setCell (p:=⟨gA,2,none⟩) (.inl rfl) _).setCell (p:=⟨gA,3,none⟩) (.inl rfl) _
     have kp:∀ i o,(i≠gA/\i≠w.heap.size+3)->wr.heap[i]? = some o->(i≠gA/\i≠w.heap.size+3)/\W10.heap[i]? = some o:=fun i o hi ho=>⟨hi,by rw [hoth i hi.1,H8.out.1.block i (lt_of_heap ho)];exact ho⟩
     have H10:=Lib.hid (And.intro bx10 (And.intro hB10 (show SpAt (fun g=>g≠gA/\g≠w.heap.size+3) W10 y lv bg v [str s1,.int .i64 v1,.slice ka2 kn2 kc2,.slice ka3 kn3 kc3,.slice na begun.length da,.slice nb args.length db,.int .i64 (opens:Nat)] from ⟨begun,args,opens,HT.out.1,AtD_mk ((Rep.keep kp).2 _ _ HYK.out) ((Rep.keep kp).1 _ _ HT.out.2.2.2.1) ((Rep.keep kp).1 _ _ HT.out.2.2.2.2)⟩)))
     clear bx10 hoth hB10 kp hW10 q0 q1 q2 q3 f0 f1 f2 f3 y0' y1' y2' y3'
     go_wp2_with fail
     go_roundw
     case rel=>exact ⟨_,j+1,e',_,hand',_,_,_,_,_,_,_,rfl,by rw [<- HN.out.2.2.2];rfl,HN.out.2.2.1,HN.out.1,HN.out.2.1,H10.out.1,H10.out.2.2,H10.out.2.1⟩
     case measure=>simp [intOf];omega
    ·obtain ⟨_,_,ex,hats⟩:=AtNs.of (bs:=[y,nn]) HT.out.2.2.1
     simp only [Value.slice.injEq] at ex
     obtain ⟨rfl,_,rfl⟩:=ex
     obtain ⟨kb,ko,s1,v1,ka2,kn2,kc2,ka3,kn3,kc3,sd,ex,hkbl,hsd,y0,y1,y2,y3,hyk⟩:=hats 1 (by simp)
     subst ex
     obtain rfl:nn=sd:=Option.some.inj hsd
     have hs1:=HD.out.2.1
     obtain rfl:s'=(nn,lv,bg):=(Option.some.inj hs1).symm
     have y0':=hk8 _ _ y0
     have y1':=hk8 _ _ y1
     have y2':=hk8 _ _ y2
     have y3':=hk8 _ _ y3
     have HYK:=Lib.hid hyk
     obtain ⟨⟨q0,q1,q2,q3,_⟩,_⟩:=KEY.out W8 H8.out.1
     have hqn:((((102:UInt8).toNat:Nat):Int) != 113)=true:=rfl
     have hqf:((((102:UInt8).toNat:Nat):Int) == 102)=true:=rfl
     have f0:=frozen_4 H8.out.2.1 0;have f1:=frozen_4 H8.out.2.1 1;have f2:=frozen_4 H8.out.2.1 2;have f3:=frozen_4 H8.out.2.1 3
     clear hats hkbl hsd y0 y1 y2 y3 hyk hs1 hk8
     simp only [Nat.zero_mul,Nat.one_mul,Nat.add_zero] at y0' y1' y2' y3'
     go_upto_region 5 with (fail)
     obtain ⟨W10,hW10⟩:=zzN ((((W8.setCell ⟨gA,0,none⟩ (str s1)).setCell ⟨gA,1,none⟩ (.int .i64 v1)).setCell ⟨gA,2,none⟩ (.slice ka2 kn2 kc2)).setCell ⟨gA,3,none⟩ (.slice ka3 kn3 kc3))
     rw [hW10]
     have bx10:W10.heap[gA]? = some (.cells #[str s1,.int .i64 v1,.slice ka2 kn2 kc2,.slice ka3 kn3 kc3,.slice na begun.length da,.slice nb args.length db,.int .i64 (opens:Nat)] 177 (0,0)):=by
      rw [<- hW10,setCell_at' (setCell_at' (setCell_at' (setCell_at' H8.out.2.1)))];rfl
     have hoth:∀ g,g≠gA->W10.heap[g]? = W8.heap[g]?:=fun g hg=>by
      rw [<- hW10,Below.heap_setCell _ _ _ _ (by show g≠gA;exact hg),Below.heap_setCell _ _ _ _ (by show g≠gA;exact hg),Below.heap_setCell _ _ _ _ (by show g≠gA;exact hg),Below.heap_setCell _ _ _ _ (by show g≠gA;exact hg)]
     have hB10:But (fun g=>g=gA) Y W10:=by
      rw [<- hW10]
      exact (((H8.out.2.2.1.setCell (p:=⟨gA,0,none⟩) (.inl rfl) _).setCell (p:=⟨gA,1,none⟩) (.inl rfl) _).setCell (p:=⟨gA,2,none⟩) (.inl rfl) _).setCell (p:=⟨gA,3,none⟩) (.inl rfl) _
     have kp:∀ i o,(i≠gA/\i≠w.heap.size+3)->wr.heap[i]? = some o->(i≠gA/\i≠w.heap.size+3)/\W10.heap[i]? = some o:=fun i o hi ho=>⟨hi,by rw [hoth i hi.1,H8.out.1.block i (lt_of_heap ho)];exact ho⟩
     have H10:=Lib.hid (And.intro bx10 (And.intro hB10 (show SpAt (fun g=>g≠gA/\g≠w.heap.size+3) W10 nn lv bg v [str s1,.int .i64 v1,.slice ka2 kn2 kc2,.slice ka3 kn3 kc3,.slice na begun.length da,.slice nb args.length db,.int .i64 (opens:Nat)] from ⟨begun,args,opens,HT.out.1,AtD_mk ((Rep.keep kp).2 _ _ HYK.out) ((Rep.keep kp).1 _ _ HT.out.2.2.2.1) ((Rep.keep kp).1 _ _ HT.out.2.2.2.2)⟩)))
     clear bx10 hoth hB10 kp hW10 q0 q1 q2 q3 f0 f1 f2 f3 y0' y1' y2' y3'
     go_wp2_with fail
     go_roundw
     case rel=>exact ⟨_,j+1,e',_,hand',_,_,_,_,_,_,_,rfl,by rw [<- HN.out.2.2.2];rfl,HN.out.2.2.1,HN.out.1,HN.out.2.1,H10.out.1,H10.out.2.2,H10.out.2.1⟩
     case measure=>simp [intOf];omega
  ·have hltI:¬ (i2:Int)<(vw.length:Int):=by omega
   have hodd:=VC.out.odd
   have hlast:=VC.out.last
   have h1:=HSZ.out
   rw [show vw.length-1=2*j from by omega,hve] at hlast
   obtain rfl:=Option.some.inj hlast
   obtain rfl:s=s0:=Option.some.inj (HST2.out.2.2.2.symm.trans FO.out.2)
   obtain ⟨begun,args,opens,hsp,hat⟩:=HST2.out.1
   obtain ⟨n2,d2,n3,d3,na,da,nb,db,ex,_⟩:=AtD_open hat
   generalize atomOf s.1=u0 at ex
   generalize lvOf s.1=u1 at ex
   generalize (kidsOf s.1).length=u2 at ex
   generalize (yesOf s.1).length=u3 at ex
   simp only [List.cons.injEq,and_true] at ex
   obtain ⟨rfl,rfl,rfl,rfl,rfl,rfl,rfl⟩:=ex
   obtain ⟨q0,q1,q2,q3,q4,q5,q6⟩:=cells_7 HST2.out.2.1
   obtain ⟨z0',z1',z2',z3',z4',z5',z6'⟩:=cells_7 HR.out.2.2
   have f0:=frozen_4 HR.out.2.2 0;have f1:=frozen_4 HR.out.2.2 1;have f2:=frozen_4 HR.out.2.2 2;have f3:=frozen_4 HR.out.2.2 3;have f4:=frozen_4 HR.out.2.2 4;have f5:=frozen_4 HR.out.2.2 5;have f6:=frozen_4 HR.out.2.2 6
   have HAT:=Lib.hid (And.intro hsp hat)
   clear hve lenE hjv hvlen hvl1 hlast hodd h1 hsp hat hi2 hAY
   go_wp2_with fail
   have hV:=set_seven HR.out.2.2 (str u0) (.int .i64 (u1:Nat)) (.slice n2 u2 d2) (.slice n3 u3 d3) (.slice na begun.length da) (.slice nb args.length db) (.int .i64 (opens:Nat))
   obtain ⟨s0',s1',s2',s3',s4',s5',s6'⟩:=cells_7 hV
   have hoth:∀ g,g≠w.heap.size+3->(((((((wr.setCell ⟨w.heap.size+3,0,none⟩ (str u0)).setCell ⟨w.heap.size+3,1,none⟩ (.int .i64 (u1:Nat))).setCell ⟨w.heap.size+3,2,none⟩ (.slice n2 u2 d2)).setCell ⟨w.heap.size+3,3,none⟩ (.slice n3 u3 d3)).setCell ⟨w.heap.size+3,4,none⟩ (.slice na begun.length da)).setCell ⟨w.heap.size+3,5,none⟩ (.slice nb args.length db)).setCell ⟨w.heap.size+3,6,none⟩ (.int .i64 (opens:Nat))).heap[g]? = wr.heap[g]?:=fun g hg=>by
    rw [Below.heap_setCell _ _ _ _ (by show g≠w.heap.size+3;exact hg),Below.heap_setCell _ _ _ _ (by show g≠w.heap.size+3;exact hg),Below.heap_setCell _ _ _ _ (by show g≠w.heap.size+3;exact hg),Below.heap_setCell _ _ _ _ (by show g≠w.heap.size+3;exact hg),Below.heap_setCell _ _ _ _ (by show g≠w.heap.size+3;exact hg),Below.heap_setCell _ _ _ _ (by show g≠w.heap.size+3;exact hg),Below.heap_setCell _ _ _ _ (by show g≠w.heap.size+3;exact hg)]
   have hbF:=((((((HB.out.2.setCell (p:=⟨w.heap.size+3,0,none⟩) (Nat.le_add_right _ _) (str u0)).setCell (p:=⟨w.heap.size+3,1,none⟩) (Nat.le_add_right _ _) (.int .i64 (u1:Nat))).setCell (p:=⟨w.heap.size+3,2,none⟩) (Nat.le_add_right _ _) (.slice n2 u2 d2)).setCell (p:=⟨w.heap.size+3,3,none⟩) (Nat.le_add_right _ _) (.slice n3 u3 d3)).setCell (p:=⟨w.heap.size+3,4,none⟩) (Nat.le_add_right _ _) (.slice na begun.length da)).setCell (p:=⟨w.heap.size+3,5,none⟩) (Nat.le_add_right _ _) (.slice nb args.length db)).setCell (p:=⟨w.heap.size+3,6,none⟩) (Nat.le_add_right _ _) (.int .i64 (opens:Nat))
   refine bodyPost_ret (v:=.tuple #[.agg #[str u0,.int .i64 (u1:Nat),.slice n2 u2 d2,.slice n3 u3 d3,.slice na begun.length da,.slice nb args.length db,.int .i64 (opens:Nat)],.bool true]) (by simp [results,Tryz.results133,go_sem,s0',s1',s2',s3',s4',s5',s6']) rfl ?_
   exact ⟨_,_,_,_,_,_,_,rfl,hbF,begun,args,opens,HAT.out.1,(Rep.keep fun i o hi ho=>⟨trivial,by rw [hoth i hi.2];exact ho⟩).2 _ _ HAT.out.2⟩
theorem Tryz.infoPlay:(Tryz.prog.info? 33).map (fun i=>(i.zero,i.size,i.bytes))=some (some (.agg #[.slice none 0 0,.slice none 0 0]),2,48):=by kernel_rfl
section
variable {P:Program} {ops:Array Oper} {Q:Exit->Act->World->Prop} {md:Region.Mode} {S:World->Prop} {T:Nat->Bool}
theorem wpAnyS_firstD {i:Nat} {oi:Oper} {v:Value} {D:List Nat} (hi:ops[i]? = some oi) (hsel:∀ (j:Nat) (o:Oper) cs b,ops[j]? = some o->o.op≠.select cs b)
 (hQ:∀ c a w,Q (.panic c) (a.put oi.dst v) w->Q (.panic c) a w)
 (hT:∀ j oj,ops[j]? = some oj->T j=true->j∈D) (hD:∀ j∈D,∀ oj,ops[j]? = some oj->∃ e∈oj.after,Region.binds md e=true/\(e.on=i\/e.on∈D)) (hTi:T i=false) :
 ∀ (fuel:Nat) (listed:Array Bool) (a:Act) (w:World),(∀ j∈D,listed.getD j false=false) ->
   (∀ j oj,ops[j]? = some oj->j≠i->listed.getD j true=false->(∀ e∈oj.after,Region.binds md e=true->e.on≠i)->oi.apart ops oj=true) ->
   i∈Region.ready md ops listed->YieldsIf P ops S oi v a->S w ->
   wpAnyS P md ops Q S T fuel (listed.setIfInBounds i true) (a.put oi.dst v) w->wpAnyS P md ops Q S T (fuel+1) listed a w:=by
 intro fuel
 induction fuel with
 | zero =>
   intro listed a w _ _ hr hy hS H
   refine ⟨fun h=>(by rw [h] at hr;cases hr),fun j hj=>?_⟩
   by_cases hji:j=i
   ·subst hji;exact hy.wpOp hi hS ⟨fun _=>hS,H⟩
   ·have:=ready_keep hj hji
    rw [H.1] at this
    cases this
 | succ fuel ih =>
   intro listed a w hDl hfree hr hy hS H
   refine ⟨fun h=>(by rw [h] at hr;cases hr),fun j hj=>?_⟩
   by_cases hji:j=i
   ·subst hji;exact hy.wpOp hi hS ⟨fun _=>hS,H⟩
   ·have h1:=H.2 j (ready_keep hj hji)
    obtain ⟨hjun,oj,hoj,hall⟩:=ready_spec hj
    have hnot:∀ e∈oj.after,Region.binds md e=true->e.on≠i:=fun e he hb heq=>by
     have h1:=hall e he hb
     have h0:=(ready_spec hr).1
     rw [heq] at h1
     simp only [Array.getD_eq_getD_getElem?] at h0 h1
     rcases Nat.lt_or_ge i listed.size with h' | h'
     ·simp [h'] at h0 h1;rw [h0] at h1;cases h1
     ·simp [Array.getElem?_eq_none h'] at h1
    have hDj:j ∉ D:=fun hd=>by
     obtain ⟨e,he,hb,heq⟩:=hD j hd oj hoj
     rcases heq with heq | heq
     ·exact hnot e he hb heq
     ·have h1:=hall e he hb
      rw [hDl _ heq] at h1;cases h1
    have hTj:T j=false:=by
     cases hT':T j with
     | false=>rfl
     | true=>exact absurd (hT j oj hoj hT') hDj
    have h2:=wpOp_putIf hoj (hfree j oj hoj hji hjun hnot) (fun cs b=>hsel i oi cs b hi) (fun cs b=>hsel j oj cs b hoj) hQ hy h1
    have hDl':∀ k∈D,(listed.setIfInBounds j true).getD k false=false:=fun k hk=>by
     have hkj:j≠k:=fun e=>hDj (e ▸ hk)
     have:=hDl k hk
     simp only [Array.getD_eq_getD_getElem?] at this ⊢
     rw [Array.getElem?_setIfInBounds_ne hkj];exact this
    have hfree':∀ k ok,ops[k]? = some ok->k≠i->(listed.setIfInBounds j true).getD k true=false ->
     (∀ e∈ok.after,Region.binds md e=true->e.on≠i)->oi.apart ops ok=true:=fun k ok hk hki hun hno=>by
     refine hfree k ok hk hki ?_ hno
     by_cases hjk:j=k
     ·subst hjk;exact hjun
     ·simp only [Array.getD_eq_getD_getElem?] at hun ⊢
      rw [Array.getElem?_setIfInBounds_ne hjk] at hun;exact hun
    refine wpOp_mono (fun a' w' h3=>⟨h3.2.1,ih (listed.setIfInBounds j true) a' w' hDl' hfree' (ready_keep hr (Ne.symm hji)) h3.1 (h3.2.1 hTj) ?_⟩) h2
    rw [Array.setIfInBounds_comm _ _ hji]
    exact h3.2.2
def waitD (md:Region.Mode) (ops:Array Oper) (T:Nat->Bool) (D:List Nat) (listed:Array Bool) (i:Nat):Bool :=
 !T i && ((List.range ops.size).all (fun j=>!T j || D.contains j) && D.all fun j=>!listed.getD j false && ((ops[j]?).map fun o=>o.after.any fun e=>Region.binds md e && (e.on == i || D.contains e.on)).getD true)
theorem wpAnyS_takeD (i:Nat) (D:List Nat) {v:Value} {fuel:Nat} {listed:Array Bool} {a:Act} {w:World}
 (hs:Region.noSelect ops=true) (hf:Region.free md ops listed i=true) (hr:(Region.ready md ops listed).contains i=true) (ht:waitD md ops T D listed i=true)
 (hQ:∀ d c a w,Q (.panic c) (a.put d v) w->Q (.panic c) a w) (hS:S w)
 (hy:∀ oi,ops[i]? = some oi->YieldsIf P ops S oi v a)
 (h:∀ d,(ops[i]?).bind (·.dst)=d->wpAnyS P md ops Q S T fuel (listed.setIfInBounds i true) (a.put d v) w):wpAnyS P md ops Q S T (fuel+1) listed a w:=by
 have hm:i∈Region.ready md ops listed:=by simpa using hr
 obtain ⟨_,oi,hi,_⟩:=ready_spec hm
 unfold waitD at ht
 rw [Bool.and_eq_true,Bool.and_eq_true] at ht
 obtain ⟨h1,h2,h3⟩:=ht
 rw [List.all_eq_true] at h2 h3
 refine wpAnyS_firstD (D:=D) hi (Region.noSelect_spec hs) (fun c a w=>hQ _ c a w) (fun j oj hj hT=>?_) (fun j hj oj ho=>?_) (by simpa using h1) fuel listed a w (fun j hj=>?_) (Region.free_spec hi hf) hm (hy oi hi) hS (h _ (by rw [hi];rfl))
 ·have:=h2 j (List.mem_range.2 (Array.getElem?_eq_some_iff.1 hj).1)
  rw [hT] at this;simpa using this
 ·have:=h3 j hj
  rw [Bool.and_eq_true,ho] at this
  have:=this.2
  simp only [Option.map_some,Option.getD_some] at this
  rw [Array.any_eq_true'] at this
  obtain ⟨e,he,h4⟩:=this
  rw [Bool.and_eq_true,Bool.or_eq_true,beq_iff_eq,List.contains_iff_mem] at h4
  exact ⟨e,he,h4⟩
 ·have:=h3 j hj
  rw [Bool.and_eq_true] at this
  simpa using this.1
end
structure Kv (va:Nat) (vw:Value) (w:World) (vw':Value) (w':World):Prop where
 but:But (Mv va vw) w w'
 row:∀ g,vw'.ownBlock=some g->vw.ownBlock=some g\/w.heap.size<=g
theorem Kv.obj {va:Nat} {vw vw':Value} {w w':World} (h:Kv va vw w vw' w') {b:Nat} {o:Obj} (hF:Fv va vw b) (ho:w.heap[b]? = some o):Fv va vw' b/\w'.heap[b]? = some o :=
 ⟨⟨hF.1,fun e=>by
   rcases h.row b e with h1 | h1
   ·exact hF.2 h1
   ·have:=lt_of_heap ho;omega⟩,by rw [h.but.block b (lt_of_heap ho) (fun e=>e.elim hF.1 hF.2)];exact ho⟩
theorem Kv.rep {va:Nat} {vw vw':Value} {w w':World} (h:Kv va vw w vw' w') {d:DV} {x:Value} (hr:Rep (Fv va vw) w d x):Rep (Fv va vw') w' d x:=Fv.keep h.but h.row hr
theorem Kv.trans {va:Nat} {vw vw' vw'':Value} {w w' w'':World} (h:Kv va vw w vw' w') (k:Kv va vw' w' vw'' w''):Kv va vw w vw'' w'' :=
 ⟨h.but.trans' k.but (fun i hi hm=>hm.imp id (fun e=>(h.row i e).resolve_right (by omega))),fun g hg=>(k.row g hg).elim (fun e=>h.row g e) (fun e=>.inr (Nat.le_trans h.but.size e))⟩
theorem Kv.below {va:Nat} {vw:Value} {w w':World} (hb:Below w.heap.size w w'):Kv va vw w vw w':=⟨But.ofBelow hb,fun _ hg=>.inl hg⟩
structure AskV (t:Ty) (l:Nat) (ss:List Bd) (y n:Bd) (lv:List Place) (bg:Place) (asked:Pl) (kv bv lsl mv pt:Value) (B0 B1:Nat) (va:Nat) (vw:Value) (w:World):Prop where
 g:Glob w
 ng:∀ g,Mv va vw g->NotG g
 rk:Rep (Fv va vw) w (encK t) kv
 rb:Rep (Fv va vw) w (encB (.ask l ss y n)) bv
 rl:LvRep (Fv va vw) w lv lsl
 rm:MvRep (Fv va vw) w asked mv
 rp:PtRep (Fv va vw) w asked pt
 f0:Fv va vw B0
 b0:w.heap[B0]? = some (.cells #[bv,lsl,.int .i64 (bg.1:Nat),str bg.2] 150 (0,0))
 f1:Fv va vw B1
 b1:w.heap[B1]? = some (.cells #[mv,pt] 33 (0,0))
theorem AskV.keep {t:Ty} {l:Nat} {ss:List Bd} {y n:Bd} {lv:List Place} {bg:Place} {asked:Pl} {kv bv lsl mv pt:Value} {B0 B1:Nat} {va:Nat} {vw vw':Value} {w w':World}
 (h:AskV t l ss y n lv bg asked kv bv lsl mv pt B0 B1 va vw w) (k:Kv va vw w vw' w'):AskV t l ss y n lv bg asked kv bv lsl mv pt B0 B1 va vw' w' :=
 ⟨h.g.but k.but h.ng,fun g hg=>hg.elim (fun e=>h.ng g (.inl e)) (fun e=>(k.row g e).elim (fun e=>h.ng g (.inr e)) (fun e=>h.g.new e)),k.rep h.rk,k.rep h.rb,k.rep h.rl,k.rep h.rm,k.rep h.rp,
  (k.obj h.f0 h.b0).1,(k.obj h.f0 h.b0).2,(k.obj h.f1 h.b1).1,(k.obj h.f1 h.b1).2⟩
structure Ko (vw:Value) (w:World) (vw':Value) (w':World):Prop where
 but:But (fun i=>vw.ownBlock=some i) w w'
 row:∀ g,vw'.ownBlock=some g->vw.ownBlock=some g\/w.heap.size<=g
abbrev Fo (vw:Value) (i:Nat):Prop:=¬ vw.ownBlock=some i
theorem Ko.obj {vw vw':Value} {w w':World} (h:Ko vw w vw' w') {b:Nat} {o:Obj} (hF:Fo vw b) (ho:w.heap[b]? = some o):Fo vw' b/\w'.heap[b]? = some o :=
 ⟨fun e=>by
  rcases h.row b e with h1 | h1
  ·exact hF h1
  ·have:=lt_of_heap ho;omega,by rw [h.but.block b (lt_of_heap ho) hF];exact ho⟩
theorem Ko.rep {vw vw':Value} {w w':World} (h:Ko vw w vw' w') {d:DV} {x:Value} (hr:Rep (Fo vw) w d x):Rep (Fo vw') w' d x:=(Rep.keep fun _ _ hF ho=>h.obj hF ho).1 _ _ hr
theorem Ko.reps {vw vw':Value} {w w':World} (h:Ko vw w vw' w') {d:List DV} {x:List Value} (hr:Reps (Fo vw) w d x):Reps (Fo vw') w' d x:=(Rep.keep fun _ _ hF ho=>h.obj hF ho).2 _ _ hr
theorem Ko.trans {vw vw' vw'':Value} {w w' w'':World} (h:Ko vw w vw' w') (k:Ko vw' w' vw'' w''):Ko vw w vw'' w'' :=
 ⟨h.but.trans' k.but (fun i hi hm=>(h.row i hm).resolve_right (by omega)),fun g hg=>(k.row g hg).elim (fun e=>h.row g e) (fun e=>.inr (Nat.le_trans h.but.size e))⟩
theorem Ko.below {vw:Value} {w w':World} (hb:Below w.heap.size w w'):Ko vw w vw w':=⟨But.ofBelow hb,fun _ hg=>.inl hg⟩
theorem SpAt.ko {vw vw':Value} {w w':World} (h:Ko vw w vw' w') {b:Bd} {lv:List Place} {bg:Place} {v:Pl} {vs:List Value} (hr:SpAt (Fo vw) w b lv bg v vs):SpAt (Fo vw') w' b lv bg v vs:=by
 obtain ⟨begun,args,opens,h1,h2⟩:=hr
 exact ⟨begun,args,opens,h1,h.reps h2⟩
theorem SpAt.below {F:Nat->Prop} {w w':World} (hb:Below w.heap.size w w') {b:Bd} {lv:List Place} {bg:Place} {v:Pl} {vs:List Value} (hr:SpAt F w b lv bg v vs):SpAt F w' b lv bg v vs:=by
 obtain ⟨begun,args,opens,h1,h2⟩:=hr
 exact ⟨begun,args,opens,h1,h2.below hb (fun _ h=>h)⟩
def TvOut (o:Option (List Pl)) (vw:Value) (us:List (Value×Value)) (L:List Pl) (w:World) (en:Ending) (w':World):Prop :=
 ∃ a n c,en=.returned (.tuple #[.slice a n c,.bool o.isSome])/\But (fun i=>vw.ownBlock=some i) w w'/\∀ out,o=some out->∃ us',PlsAt w' (L++out) (.slice a n c) (us++us')/\(∀ g,(Value.slice a n c).ownBlock=some g->vw.ownBlock=some g\/w.heap.size<=g)/\∀ u∈us',∀ g,u.1.ownBlock=some g\/u.2.ownBlock=some g->w.heap.size<=g
theorem TvOut.no {t:Ty} {b:Bd} {lv:List Place} {bg:Place} {v:Pl} {vw:Value} {us:List (Value×Value)} {L:List Pl} {w w':World} {a:Option Addr} {n c:Nat} (hb:But (fun i=>vw.ownBlock=some i) w w') (e:viewsB t b lv bg v=none) :
 TvOut (viewsB t b lv bg v) vw us L w (.returned (.tuple #[.slice a n c,.bool false])) w':=by
 rw [e]
 exact ⟨a,n,c,rfl,hb,fun out h=>by simp at h⟩
theorem l2WithPl (v:Pl) (mv pt:Value) (s:Bs) (p:Int) (w:World) (h1:SrcSl 1 mv v.length (logM v) w) (h2:SrcSl 1 pt v.length (logP v) w) (hl:v.length<=1000) :
 Calls Tryz.prog 126 #[.agg #[mv,pt],str s,.int .i64 p] w (CopyP (v++[(s,p)]) w):=by
 refine (l2With_any v.length v.length mv pt (logM v) (logP v) s p w h1 h2 (by omega) (by omega)).mono ?_
 rintro en w' ⟨a1,c1,a2,c2,rfl,hb,ho1,ho2,hf1,hf2⟩
 refine ⟨_,_,rfl,⟨?_,?_⟩,hb,fun g hg=>hg.elim (hf1 g) (hf2 g)⟩
 ·rw [show logM (v++[(s,p)])=logM v++[str s] from by simp [logM],List.length_append];exact ho1
 ·rw [show logP (v++[(s,p)])=logP v++[.int .i64 p] from by simp [logP],List.length_append];exact ho2
theorem pls_add {w W:World} {vw:Value} {us:List (Value×Value)} {L:List Pl} {l:Pl} {mv pt:Value} (hp:PlsAt w L vw us) (hB:Below w.heap.size w W) (hl:PlayAt W l mv pt) (hn:∀ g,mv.ownBlock=some g\/pt.ownBlock=some g->w.heap.size<=g)
 {v':Value} {w5:World} (ho5:Own w5 33 2 v' (us.length+1) (plC us++[mv,pt])) (hb5:But (fun b=>vw.ownBlock=some b) W w5):PlsAt w5 (L++[l]) v' (us++[(mv,pt)]):=by
 have hp':PlsAt W L vw us:=PlsG.below hp hB
 have lM:(plX l).1.length=l.length:=by simp [plX,logM]
 have lP:(plX l).2.length=l.length:=by simp [plX,logP]
 unfold PlsAt
 rw [List.map_append,List.map_singleton]
 exact PlsG.snoc (u:=(mv,pt)) (x:=plX l) hp' ho5 hb5 (by rw [lM];exact hl.1) (by rw [lP];exact hl.2) (fun g hg hP=>by
  have h1:=hn g hg
  have h2:=hp.lt hP
  omega)
def tellN (s:St):Bs×Nat×Bool:=match told s with
 | none=>([],0,false)
 | some x=>(x.1,x.2.toNat,true)
theorem l3Tell_any {t:Ty} {hand:List Ty} {s:St} {n:Nat} (v:Pl) (mv pt x0 x1 x2 x3 x4 x5 x6:Value) (w:World) (hs:StFit t hand s n) (h15:atomsT t<=15) (hn:n<=100) (hv:v.length<=1000)
 (hr:SpAt (fun _=>True) w s.1 s.2.1 s.2.2 v [x0,x1,x2,x3,x4,x5,x6]) (hm:MvRep (fun _=>True) w v mv) (hp:PtRep (fun _=>True) w v pt) :
 Calls Tryz.prog 134 #[.agg #[mv,pt],.agg #[x0,x1,x2,x3,x4,x5,x6]] w (STellP (tellN s).1 (tellN s).2.1 (tellN s).2.2 w):=by
 obtain ⟨ta,hta⟩:=hs.bgt
 have hbl:=atT_len _ _ _ hta
 have hll:=hs.ll
 have hwf:=hs.wf
 obtain ⟨b,lv,bg⟩:=s
 have hbl':bg.2.length<=1000:=by
  have:((b,lv,bg):St).2.2.2.length<=100:=by omega
  have h2:bg.2.length<=100:=this
  omega
 cases b with
 | leaf c =>
   rw [show ((Bd.leaf c,lv,bg):St).1=.leaf c from rfl,wfB] at hwf
   by_cases hc:c=117
   ·subst hc
    have e:tellN (Bd.leaf 117,lv,bg)=([],0,false):=rfl
    rw [e]
    exact l3Tell_u (fun _=>True) lv bg v mv pt x0 x1 x2 x3 x4 x5 x6 w hr hm hp
   ·have hc2:c=116\/c=102:=by
     rcases hwf with h | h | h
     ·exact .inl h
     ·exact .inr h
     ·exact absurd h hc
    have e:tellN (Bd.leaf c,lv,bg)=(c::bg.2,bg.1,true):=by unfold tellN told;simp only [if_neg hc,Int.toNat_natCast]
    rw [e]
    exact l3Tell_leaf (fun _=>True) c hc2 lv bg v mv pt x0 x1 x2 x3 x4 x5 x6 w hr hm hp hbl' hv
 | ask l ss y nn =>
   have hf:=hs.fit
   rw [show ((Bd.ask l ss y nn,lv,bg):St).1=.ask l ss y nn from rfl,fitB] at hf
   obtain ⟨a,h1,_⟩:=hf
   obtain ⟨pl,hl,hat,_⟩:=hs.pf.each l a h1
   have hl':lv[l]? = some pl:=hl
   have hpl:=atT_len _ _ _ hat
   have hll':lv.length<=8*n:=hll
   have e:tellN (Bd.ask l ss y nn,lv,bg)=(113::pl.2,pl.1,true):=by unfold tellN told;simp only [hl',Option.map_some,Int.toNat_natCast]
   rw [e]
   exact l3Tell_ask (fun _=>True) l ss y nn lv bg pl v mv pt x0 x1 x2 x3 x4 x5 x6 w hr hm hp hl' (by omega) hv (by omega)
def ReplyQ (s:St) (v:Pl) (mv pt:Value) (w:World) (en:Ending) (w':World):Prop :=
 ∃ a1 n1 c1 a2 n2 c2,en=.returned (.tuple #[.agg #[.slice a1 n1 c1,.slice a2 n2 c2],.bool (told s).isSome])/\Below w.heap.size w w'/\(told s=none->.slice a1 n1 c1=mv/\.slice a2 n2 c2=pt) /\
   ∀ x,told s=some x->PlayAt w' (v++[x]) (.slice a1 n1 c1) (.slice a2 n2 c2)/\∀ g,(Value.slice a1 n1 c1).ownBlock=some g\/(Value.slice a2 n2 c2).ownBlock=some g->w.heap.size<=g
theorem told_nat {s:St} {x:Bs×Int} (h:told s=some x):x.2=((x.2.toNat:Nat):Int):=by
 unfold told at h
 split at h
 ·split at h
  ·simp at h
  ·obtain rfl:=Option.some.inj h;simp
 ·rw [Option.map_eq_some_iff] at h
  obtain ⟨pl,_,rfl⟩:=h
  simp
theorem set_two' {w:World} {b:Nat} {x y:Value} {T:TypeId} (h:w.heap[b]? = some (.cells #[x,y] T (0,0))) (u v:Value):((w.setCell ⟨b,0,none⟩ u).setCell ⟨b,1,none⟩ v).heap[b]? = some (.cells #[u,v] T (0,0)):=by
 rw [setCell_at' (setCell_at' h)];rfl
set_option maxRecDepth 100000 in
theorem l3Reply_any (F:Nat->Prop) (t:Ty) (b:Bd) (v:Pl) (k:Nat) (s0:St) (tv mv pt:Value) (nv:List Value) (w:World) (hk:Rep F w (encS t) tv) (hb:Reps F w (encN b) nv) (hm:PlIn F t v mv pt w)
 (h15:atomsT t<=15) (hf:fitB t.args b) (hw:wfB b) (hvk:v.length=k+1) (hke:k % 2=0) (hfo:followsTo t b v k) (hs0:placeAt t b v (k+1)=some s0) :
 Calls Tryz.prog 76 #[.agg #[tv],.agg nv.toArray,.agg #[mv,pt]] w (ReplyQ s0 v mv pt w):=by
 have h60:=valid_len hm.ok
 obtain ⟨s1,hand,hs1,hfit⟩:=place_fits h15 hf hw hm.ok k (by omega) hke hfo
 obtain rfl:s0=s1:=Option.some.inj (hs0.symm.trans hs1)
 obtain ⟨vi,a2,c2,a3,c3,rfl,_,_⟩:=encN_open hb
 obtain ⟨ta,tc,rfl⟩:=encS_slice hk
 obtain ⟨ma,mc,rfl,_⟩:=hm.m.cells
 obtain ⟨pa,pc,rfl,_⟩:=hm.p.cells
 generalize hq0:atomOf b=q0 at *
 generalize hq2:(kidsOf b).length=q2 at *
 generalize hq3:(yesOf b).length=q3 at *
 obtain ⟨W,hW,hbW,hz,b0,b1,b2,b3⟩:=boxes_4 w (.cells #[.slice ta t.args.length tc] 78) (.cells #[str q0,.int .i64 vi,.slice a2 q2 c2,.slice a3 q3 c3] 81) (.cells #[.slice ma v.length mc,.slice pa v.length pc] 33) (.cells #[.slice none 0 0,.slice none 0 0] 33)
 have CW:Hid (Calls Tryz.prog 133 #[.agg #[.slice ta t.args.length tc],.agg #[str q0,.int .i64 vi,.slice a2 q2 c2,.slice a3 q3 c3],.agg #[.slice ma v.length mc,.slice pa v.length pc]] W (WalkQ s0 v W)) :=
  Lib.hid (l3Walk_any F t b v k s0 (.slice ta t.args.length tc) (.slice ma v.length mc) (.slice pa v.length pc) [str q0,.int .i64 vi,.slice a2 q2 c2,.slice a3 q3 c3] W (hk.below hbW fun _ h=>h) ((Rep.keep fun i o hi ho=>⟨hi,by rw [hbW.block i (lt_of_heap ho)];exact ho⟩).2 _ _ hb) (hm.below hbW) h15 hf hw hvk hke hfo hs0)
 have HI:=Lib.hid (And.intro hm (And.intro h15 hfit))
 have HW:=Lib.hid (And.intro hW (And.intro hbW (And.intro hz (And.intro b2 b3))))
 have hv1000:v.length<=1000:=by omega
 have HK:=Lib.hid (show k+1<=100 by omega)
 have g0:=one_cell b0
 obtain ⟨n0,n1,n2,n3⟩:=cells_4 b1
 obtain ⟨c0,c1,_,_⟩:=cells_2 b2
 clear hk hb hm h15 hf hw hvk hke hfo hs0 hs1 hfit hW hbW hz b0 b1 b2 b3
 go_enter Tryz.func76,Tryz.ntmps76
 go_upto_region 1 with (fail)
 rw [HW.out.1]
 go_wp2_with fail
 (with_reducible refine CW.out.mono ?_)
 rintro en w1 ⟨x0,x1,x2,x3,x4,x5,x6,rfl,hb1,hsp⟩
 obtain ⟨begun,args,opens,hspl,hat⟩:=hsp
 obtain ⟨n2',d2,n3',d3,na,da,nb,db,ex,_⟩:=AtD_open hat
 generalize atomOf s0.1=u0 at ex
 generalize lvOf s0.1=u1 at ex
 generalize (kidsOf s0.1).length=u2 at ex
 generalize (yesOf s0.1).length=u3 at ex
 simp only [List.cons.injEq,and_true] at ex
 obtain ⟨rfl,rfl,rfl,rfl,rfl,rfl,rfl⟩:=ex
 obtain ⟨X,hX,hbX,hzX,x0⟩:=box_1 w1 (.cells #[str u0,.int .i64 (u1:Nat),.slice n2' u2 d2,.slice n3' u3 d3,.slice na begun.length da,.slice nb args.length db,.int .i64 (opens:Nat)] 177)
 have hWX:Below W.heap.size W X:=zzT hb1 hbX
 have hwX:Below w.heap.size w X:=zzT HW.out.2.1 hWX
 have hmX:=HI.out.1.below hwX
 have hmT:MvRep (fun _=>True) X v (.slice ma v.length mc):=(Rep.keep fun i o _ ho=>⟨trivial,ho⟩).1 _ _ hmX.m
 have hpT:PtRep (fun _=>True) X v (.slice pa v.length pc):=(Rep.keep fun i o _ ho=>⟨trivial,ho⟩).1 _ _ hmX.p
 have CT:=l3Tell_any v (.slice ma v.length mc) (.slice pa v.length pc) _ _ _ _ _ _ _ X HI.out.2.2 HI.out.2.1 HK.out hv1000 ⟨begun,args,opens,hspl,(Rep.keep fun i o _ ho=>⟨trivial,by rw [hbX.block i (lt_of_heap ho)];exact ho⟩).2 _ _ hat⟩ hmT hpT
 have CWT:=Lib.hid (fun (y:World) (hy:Below X.heap.size X y) (m:Bs) (z:Int)=>l2WithPl v (.slice ma v.length mc) (.slice pa v.length pc) m z y (MvRep.src (Rep.below hy (fun _ h=>h) hmT)) (PtRep.src (Rep.below hy (fun _ h=>h) hpT)) hv1000)
 have p0:=(hWX.cell (World.block_lt_of_cell? _ _ c0)).trans c0
 have p1:=(hWX.cell (World.block_lt_of_cell? _ _ c1)).trans c1
 have b3:=(hWX.block _ (lt_of_heap HW.out.2.2.2.2)).trans HW.out.2.2.2.2
 obtain ⟨e0,e1,e2,e3,e4,e5,e6⟩:=cells_7 x0
 have HX:=Lib.hid (And.intro hX (And.intro hwX b3))
 have hzW:=Lib.hid HW.out.2.2.1
 clear hX hbX hzX x0 hWX hwX hmX hmT hpT b3 hb1 hspl hat c0 c1 g0 n0 n1 n2 n3 CW
 obtain ⟨o,ho⟩:=zzN (told s0)
 cases o with
 | none =>
   have et:tellN s0=([],0,false):=by unfold tellN;rw [ho]
   rw [et] at CT
   have CT:=Lib.hid CT
   have HO:=Lib.hid ho
   clear et ho CWT
   go_upto_region 2 with (fail)
   rw [HX.out.1]
   go_wp2_with fail
   (with_reducible refine CT.out.mono ?_)
   rintro en w2 ⟨rfl,hb2⟩
   have p0':=(hb2.cell (World.block_lt_of_cell? _ _ p0)).trans p0
   have p1':=(hb2.cell (World.block_lt_of_cell? _ _ p1)).trans p1
   have b3:=(hb2.block _ (lt_of_heap HX.out.2.2)).trans HX.out.2.2
   obtain ⟨z0,z1,f0,f1⟩:=cells_2 b3
   have HB:=Lib.hid (And.intro (zzT HX.out.2.1 hb2) b3)
   clear hb2 p0 p1 e0 e1 e2 e3 e4 e5 e6 b3 CT
   go_wp2_with fail
   have hV:=set_two' HB.out.2 (.slice ma v.length mc) (.slice pa v.length pc)
   obtain ⟨s0',s1',_,_⟩:=cells_2 hV
   refine bodyPost_ret (v:=.tuple #[.agg #[.slice ma v.length mc,.slice pa v.length pc],.bool false]) (by simp [results,Tryz.results76,go_sem,s0',s1']) rfl ?_
   refine ⟨_,_,_,_,_,_,by rw [HO.out];rfl,(HB.out.1.setCell (p:=⟨w.heap.size+3,0,none⟩) (Nat.le_add_right _ _) _).setCell (p:=⟨w.heap.size+3,1,none⟩) (Nat.le_add_right _ _) _,fun _=>⟨rfl,rfl⟩,fun x h=>?_⟩
   rw [HO.out] at h;simp at h
 | some x =>
   have et:tellN s0=(x.1,x.2.toNat,true):=by unfold tellN;rw [ho]
   rw [et] at CT
   have hxn:=told_nat ho
   obtain ⟨m,z⟩:=x
   simp only at CT hxn
   obtain ⟨zn,hzn⟩:∃ zn:Nat,z.toNat=zn:=⟨_,rfl⟩
   rw [hzn] at CT hxn
   subst hxn
   have CT:=Lib.hid CT
   have HO:=Lib.hid ho
   clear et ho hzn
   go_upto_region 2 with (fail)
   rw [HX.out.1]
   go_wp2_with fail
   (with_reducible refine CT.out.mono ?_)
   rintro en w2 ⟨rfl,hb2⟩
   have p0':=(hb2.cell (World.block_lt_of_cell? _ _ p0)).trans p0
   have p1':=(hb2.cell (World.block_lt_of_cell? _ _ p1)).trans p1
   have b3:=(hb2.block _ (lt_of_heap HX.out.2.2)).trans HX.out.2.2
   have CW2:=Lib.hid (CWT.out w2 hb2 m (zn:Int))
   have HB:=Lib.hid (And.intro (zzT HX.out.2.1 hb2) b3)
   clear hb2 p0 p1 e0 e1 e2 e3 e4 e5 e6 b3 CT CWT
   go_wp2_with fail
   (with_reducible refine CW2.out.mono ?_)
   rintro en w3 ⟨mvn,ptn,rfl,hpn,hb3,hfn⟩
   obtain ⟨a8,c8,e8⟩:=hpn.1.slice
   obtain ⟨a9,c9,e9⟩:=hpn.2.slice
   subst e8;subst e9
   have b3:=(hb3.block _ (lt_of_heap HB.out.2)).trans HB.out.2
   obtain ⟨z0,z1,f0,f1⟩:=cells_2 b3
   have HB3:=Lib.hid (And.intro (zzT HB.out.1 hb3) (And.intro b3 (And.intro hpn (And.intro hfn (show w.heap.size+3<w2.heap.size from lt_of_heap HB.out.2)))))
   clear hb3 p0' p1' b3 hpn hfn CW2
   generalize hL:(v++[(m,(zn:Int))]).length=L at *
   go_wp2_with fail
   have hV:=set_two' HB3.out.2.1 (.slice a8 L c8) (.slice a9 L c9)
   obtain ⟨s0',s1',_,_⟩:=cells_2 hV
   have hoth:∀ g,g≠w.heap.size+3->((w3.setCell ⟨w.heap.size+3,0,none⟩ (.slice a8 L c8)).setCell ⟨w.heap.size+3,1,none⟩ (.slice a9 L c9)).heap[g]? = w3.heap[g]?:=fun g hg=>by
    rw [Below.heap_setCell _ _ _ _ (by show g≠w.heap.size+3;exact hg),Below.heap_setCell _ _ _ _ (by show g≠w.heap.size+3;exact hg)]
   refine bodyPost_ret (v:=.tuple #[.agg #[.slice a8 L c8,.slice a9 L c9],.bool true]) (by simp [results,Tryz.results76,go_sem,s0',s1']) rfl ?_
   refine ⟨_,_,_,_,_,_,by rw [HO.out];rfl,(HB3.out.1.setCell (p:=⟨w.heap.size+3,0,none⟩) (Nat.le_add_right _ _) _).setCell (p:=⟨w.heap.size+3,1,none⟩) (Nat.le_add_right _ _) _,fun h=>?_,fun x h=>?_⟩
   ·rw [HO.out] at h;simp at h
   ·rw [HO.out] at h
    obtain rfl:=Option.some.inj h
    have hlt:=HB3.out.2.2.2.2
    refine ⟨⟨HB3.out.2.2.1.1.keep fun g o hg ho=>?_,HB3.out.2.2.1.2.keep fun g o hg ho=>?_⟩,fun g hg=>?_⟩
    ·have:=HB3.out.2.2.2.1 g (.inl hg)
     rw [hoth g (by omega)];exact ho
    ·have:=HB3.out.2.2.2.1 g (.inr hg)
     rw [hoth g (by omega)];exact ho
    ·have:=HB3.out.2.2.2.1 g hg;omega
theorem take_at (v:Pl) {n i:Nat} (h:i<n):(v.take n)[i]? = v[i]?:=by rw [List.getElem?_take,if_pos h]
theorem okAt_take (t:Ty) (v:Pl) {n i:Nat} (h:i<n):okAt t (v.take n) i=okAt t v i:=by
 unfold okAt
 rw [take_at v h]
 cases hv:v[i]? with
 | none=>rfl
 | some x =>
   simp only
   by_cases hi:i=0
   ·rw [if_pos hi,if_pos hi]
   ·rw [if_neg hi,if_neg hi]
    by_cases hz:0<=x.2/\x.2<(i:Int)
    ·rw [take_at v (show x.2.toNat<n by omega)]
    ·have:(decide (0<=x.2) && decide (x.2<(i:Int)))=false:=by
      rw [Bool.and_eq_false_iff,decide_eq_false_iff_not,decide_eq_false_iff_not]
      by_cases h0:0<=x.2
      ·exact .inr fun h1=>hz ⟨h0,h1⟩
      ·exact .inl h0
     rw [this,Bool.false_and,Bool.false_and,Bool.false_and]
theorem allAt_take (t:Ty) (v:Pl) {n:Nat}:∀ m,m<=n->allAt t (v.take n) m=allAt t v m
 | 0,_=>rfl
 | m+1,h=>by rw [allAt,allAt,allAt_take t v m (by omega),okAt_take t v (by omega)]
theorem allAt_of {t:Ty} {v:Pl}:∀ {m:Nat},(∀ i,i<m->okAt t v i=true)->allAt t v m=true
 | 0,_=>rfl
 | m+1,h=>by rw [allAt,allAt_of (fun i hi=>h i (by omega)),h m (by omega)];rfl
theorem valid_take {t:Ty} {v:Pl} (h:validPl t v=true) (n:Nat):validPl t (v.take n)=true:=by
 have h60:=valid_len h
 unfold validPl at h ⊢
 rw [Bool.and_eq_true] at h ⊢
 refine ⟨by rw [decide_eq_true_eq,List.length_take];omega,?_⟩
 rw [allAt_take t v _ (by rw [List.length_take];omega)]
 exact allAt_of fun i hi=>allAt_at h.2 (by rw [List.length_take] at hi;omega)
theorem placeF_take {t:Ty} {v:Pl} (h:validPl t v=true) (b:Bd) {n:Nat}:∀ f m,m<=n->m<=v.length->placeF t b (v.take n) f m=placeF t b v f m
 | 0,_,_,_=>rfl
 | f+1,m,hm,hl=>by
   rw [placeF,placeF]
   by_cases h1:m<=1
   ·rw [if_pos h1,if_pos h1]
   ·rw [if_neg h1,if_neg h1,take_at v (show m-1<n by omega)]
    obtain ⟨c,p,z,hv,ho⟩:=valid_at h (show m-1<v.length by omega)
    rw [hv]
    have:=(ho.pos (by omega)).2.1
    simp only
    rw [placeF_take h b f z.toNat (by omega) (by omega)]
theorem placeAt_take {t:Ty} {v:Pl} (h:validPl t v=true) (b:Bd) {n m:Nat} (hm:m<=n) (hl:m<=v.length):placeAt t b (v.take n) m=placeAt t b v m:=placeF_take h b _ m hm hl
theorem PlIn.take {F:Nat->Prop} {t:Ty} {v:Pl} {mv pt:Value} {w:World} (h:PlIn F t v mv pt w) {n:Nat} {mv' pt':Value} (hm:MvRep F w (v.take n) mv') (hp:PtRep F w (v.take n) pt'):PlIn F t (v.take n) mv' pt' w :=
 ⟨hm,hp,valid_take h.ok n,fun x hx=>h.l x (List.mem_of_mem_take hx)⟩
theorem Own.notBox {w:World} {e T:TypeId} {sz n:Nat} {v:Value} {xs:List Value} (h:Own w e sz v n xs) {g:Nat} {c:Array Value} {fr:Nat×Nat} (hb:w.heap[g]? = some (.cells c T fr)) (he:e≠T):v.ownBlock≠some g:=by
 intro hg
 rcases h.2 with ⟨rfl,_⟩ | ⟨b,cap,cur,rfl,_,hb1,_⟩
 ·simp [Value.ownBlock] at hg
 ·simp [Value.ownBlock] at hg
  subst hg
  rw [hb1] at hb
  simp at hb
  exact he hb.2.1
theorem PlayAt.notBox {w:World} {l:Pl} {mv pt:Value} (h:PlayAt w l mv pt) {T:TypeId} {g:Nat} {c:Array Value} {fr:Nat×Nat} (hb:w.heap[g]? = some (.cells c T fr)) (h1:9≠T) (h2:3≠T):∀ i,mv.ownBlock=some i\/pt.ownBlock=some i->¬ i=g:=by
 intro i hi e
 subst e
 exact hi.elim (h.1.notBox hb h1) (h.2.notBox hb h2)
end Go.Proofs.YtdfkiicodfbibaaGreatDoor

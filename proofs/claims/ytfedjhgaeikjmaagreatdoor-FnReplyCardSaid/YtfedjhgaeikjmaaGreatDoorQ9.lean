/- Walks of functions that the statement reaches, and plain words. No conditions. -/
import Derived.Test.YtfedjhgaeikjmaaGreatDoorQ8
set_option linter.unusedVariables false
set_option linter.unusedSimpArgs false
set_option maxHeartbeats 8000000
namespace Go.Proofs.YtfedjhgaeikjmaaGreatDoor
open Go.RowKit
theorem AtD_openU {F:Nat->Prop} {w:World} {l:Nat} {ss:List Bd} {y n:Bd} {begun args:List Nat} {opens:Nat} {vs:List Value} (h:zv F w (AtD (.ask l ss y n) begun args opens) vs) :
 ∃ a2 c2 a3 c3 ba bc aa ac,vs=[str [],.int .i64 (l:Nat),.slice a2 ss.length c2,.slice a3 2 c3,.slice ba begun.length bc,.slice aa args.length ac,.int .i64 (opens:Nat)] /\
   Rep F w (.sl 64 4 ss.length (kS ss)) (.slice a2 ss.length c2)/\Rep F w (.sl 64 4 2 (kS [y,n])) (.slice a3 2 c3)/\Rep F w (numD begun) (.slice ba begun.length bc)/\Rep F w (numD args) (.slice aa args.length ac):=by
 obtain ⟨a2,c2,a3,c3,ba,bc,aa,ac,e,h1,h5,h6⟩:=uR h
 obtain ⟨v,Cs,Cq,a3',c3',e',h2,h3⟩:=jx h1
 simp only [List.cons.injEq,and_true,Value.slice.injEq] at e'
 obtain ⟨_,_,⟨rfl,_,rfl⟩,⟨rfl,_,rfl⟩⟩:=e'
 exact ⟨a2,c2,a3,c3,ba,bc,aa,ac,e,h2,h3,h5,h6⟩
theorem l1At_ago (F:Nat->Prop) (t a:Ty) (p:Bs) (tv:Value) (w x:World) (h:Rep F w (qP t) tv) (ht:zP t<=15) (hp:Lim p.length) (hat:atT t p=some a) (hx:Below w.heap.size w x) :
 Calls Tryz.prog 129 #[.agg #[tv],str p] x fun en w'=>∃ ka kc,en=.returned (.tuple #[.agg #[.slice ka a.args.length kc],.bool true])/\Below x.heap.size x w'/\Rep F w (qP a) (.slice ka a.args.length kc):=by
 have h1:Rep (fun b=>F b/\b<w.heap.size) x (qP t) tv:=(Rep.keep fun b o hf ho=>⟨⟨hf,zZ ho⟩,by rw [hx.block _ (zZ ho)];exact ho⟩).1 _ _ h
 refine (l1At_any _ t p tv x h1 ht hp).mono ?_
 rintro en w' ⟨va,vn,vc,rfl,hb,hv⟩
 have h2:=hv a hat
 obtain ⟨ka,kc,e⟩:=zp h2
 simp only [Value.slice.injEq] at e
 obtain ⟨rfl,rfl,rfl⟩:=e
 refine ⟨va,vc,by rw [hat];rfl,hb,(Rep.keep fun b o hf ho=>⟨hf.1,by rw [<- hx.block _ hf.2];exact ho⟩).1 _ _ h2⟩
theorem gQ {F:Nat->Prop} {w:World} {ns:List Nat} {x:Value} (h:Rep F w (numD ns) x) {g:Nat} {c:Array Value} {T:TypeId} {fr:Nat×Nat} (hb:w.heap[g]? = some (.cells c T fr)) (hT:3≠T):Rep (fun i=>F i/\i≠g) w (numD ns) x:=by
 unfold numD at *
 rw [qu] at *
 obtain ⟨hl,a,cap,hv,hn,hz,h⟩:=h
 refine ⟨hl,a,cap,hv,hn,hz,?_⟩
 rcases h with h | ⟨b,o,cs,fr',ha,hF,hc,hr⟩
 ·exact .inl h
 ·refine .inr ⟨b,o,cs,fr',ha,⟨hF,?_⟩,hc,?_⟩
  ·rintro rfl
   rw [hc] at hb;simp at hb;exact hT hb.2.1
  ·rw [show (ns.map fun n=>DV.val (.int .i64 (n:Nat)))=(ns.map fun n=>Value.int .i64 (n:Nat)).map DV.val from by simp [Function.comp_def]] at *
   exact (qJ _ _).2 ((qJ _ _).1 hr)
structure xT (B:Nat) (xs ys:List Nat) (u v:Value) (w:World):Prop where
 l:Rep (B<=·) w (numD xs) u
 r:Rep (B<=·) w (numD ys) v
theorem xT.below {B:Nat} {xs ys:List Nat} {u v:Value} {w w':World} (h:xT B xs ys u v w) (hb:Below w.heap.size w w'):xT B xs ys u v w':=⟨h.l.below hb (fun _ h=>h),h.r.below hb (fun _ h=>h)⟩
theorem xT.notBox {B:Nat} {xs ys:List Nat} {u v:Value} {w:World} (h:xT B xs ys u v w) {g:Nat} {c:Array Value} {T:TypeId} {fr:Nat×Nat} (hb:w.heap[g]? = some (.cells c T fr)) (h1:3≠T) (_:3≠T) :
 Rep (fun i=>B<=i/\i≠g) w (numD xs) u/\Rep (fun i=>B<=i/\i≠g) w (numD ys) v:=⟨gQ h.l hb h1,gQ h.r hb h1⟩
theorem xT.but {B:Nat} {xs ys:List Nat} {u v:Value} {w w':World} {g:Nat} (_:xT B xs ys u v w) (hb:But (fun i=>i=g) w w') (hn:Rep (fun i=>B<=i/\i≠g) w (numD xs) u/\Rep (fun i=>B<=i/\i≠g) w (numD ys) v):xT B xs ys u v w' :=
 ⟨(Rep.keep fun i o hi ho=>⟨hi.1,by rw [hb.block i (zZ ho) hi.2];exact ho⟩).1 _ _ hn.1,(Rep.keep fun i o hi ho=>⟨hi.1,by rw [hb.block i (zZ ho) hi.2];exact ho⟩).1 _ _ hn.2⟩
theorem int_place:3≠145:=by decide
theorem AtD_mk {F:Nat->Prop} {w:World} {b:Bd} {begun args:List Nat} {opens:Nat} {y0 y1 y2 y3 u v:Value} (h1:zv F w (qZ b) [y0,y1,y2,y3]) (h2:Rep F w (numD begun) u) (h3:Rep F w (numD args) v):zv F w (AtD b begun args opens) [y0,y1,y2,y3,u,v,.int .i64 (opens:Nat)]:=by
 show zv F w (qZ b++[numD begun,numD args,.val (.int .i64 (opens:Nat))]) ([y0,y1,y2,y3]++[u,v,.int .i64 (opens:Nat)])
 exact zv.append h1 (zG.2 ⟨_,_,rfl,h2,zG.2 ⟨_,_,rfl,h3,zG.2 ⟨_,_,rfl,z8.2 rfl,zm.2 rfl⟩⟩⟩)
def WalkQ (s:St) (v:Pl) (w:World) (en:Ending) (w':World):Prop :=
 ∃ x0 x1 x2 x3 x4 x5 x6,en=.returned (.tuple #[.agg #[x0,x1,x2,x3,x4,x5,x6],.bool true])/\Below w.heap.size w w'/\xZ (fun _=>True) w' s.1 s.2.1 s.2.2 v [x0,x1,x2,x3,x4,x5,x6]
set_option maxRecDepth 100000 in
theorem l3Walk_any (F:Nat->Prop) (t:Ty) (b:Bd) (v:Pl) (k:Nat) (s0:St) (tv mv pt:Value) (nv:List Value) (w:World) (hk:Rep F w (qP t) tv) (hb:zv F w (qZ b) nv) (hm:vK F t v mv pt w)
 (cJ:zP t<=15) (hf:kE t.args b) (hw:wfB b) (cS:v.length=k+1) (fH:k % 2=0) (dF:zj t b v k) (dz:kN t b v (k+1)=some s0) :
 Calls Tryz.prog 90 #[.agg #[tv],.agg nv.toArray,.agg #[mv,pt]] w (WalkQ s0 v w):=by
 have dE:=za hm.ok
 have VC:=bz (gE hm.ok k (by omega) fH)
 have FO:=bz (bj dF dz)
 have FIT:=bz (uA (b:=b) cJ hf hw)
 have dX:0<v.length:=by omega
 obtain ⟨vi,a2,c2,a3,c3,rfl,_,_⟩:=jx hb
 obtain ⟨ta,tc,rfl⟩:=zp hk
 obtain ⟨ma,mc,rfl,cb⟩:=hm.m.cells
 obtain ⟨pa,pc,rfl,dP⟩:=hm.p.cells
 generalize hq0:jm b=q0 at *
 generalize rQ:(qh b).length=q2 at *
 generalize hq3:(jg b).length=q3 at *
 obtain ⟨W,hW,b9,hz,b0,b1,b2,b3⟩:=boxes_4 w (.cells #[.slice ta t.args.length tc] 61) (.cells #[str q0,.int .i64 vi,.slice a2 q2 c2,.slice a3 q3 c3] 64) (.cells #[.slice ma v.length mc,.slice pa v.length pc] 33) (.cells #[str [],.int .i64 0,.slice none 0 0,.slice none 0 0,.slice none 0 0,.slice none 0 0,.int .i64 0] 145)
 obtain ⟨c0,c1,_,_⟩:=zJ b2
 have CV:=xF F t v false v.length _ _ W (hm.below b9).m (hm.below b9).p hm.ok dX (bw _) hm.l
 rw [show ((pz false:Nat):Int)=1 from rfl] at CV
 have CV:=bz CV
 have HI:=bz (bj hk (bj hb (bj cb (bj cJ (bj hm.ok hm)))))
 have HW:=bz (bj hW (bj b9 (bj hz (bj b0 (bj b1 (bj b2 b3))))))
 have HK:=bz cS
 clear hW b9 hz b0 b1 b2 b3 hk hb hm cJ cb dP hf hw dF dz cS
 go_enter Tryz.func90,Tryz.ntmps90
 go_upto_region 1 with (fail)
 rw [HW.out.1]
 go_wp2_with fail
 (with_reducible refine CV.out.mono ?_)
 rintro en w2 ⟨vv,rfl,cK,ot⟩
 rw [HK.out] at ot
 generalize fp:zd v false (k+1)=vw at *
 obtain ⟨vb,vo,vc,rfl,fv,tF⟩:=ot
 obtain ⟨z0,mN⟩:∃ z0:Nat,z0=0:=⟨_,rfl⟩
 have h0:w2.cell? ⟨vb,vo,none⟩=some (.int .i64 (z0:Nat)):=by rw [mN];exact tF 0 0 VC.out.zero
 have HZ:=bz mN
 have hvp:0<vw.length:=(List.getElem?_eq_some_iff.1 VC.out.zero).1
 have hvpI:(0:Int)<(vw.length:Int):=by omega
 have Aj:Below w.heap.size w w2:=zzT HW.out.2.1 cK
 have lh:Hid (∀ x,Below w2.heap.size w2 x->(x.cell? ⟨w.heap.size+1,0,none⟩=some (str q0)/\x.cell? ⟨w.heap.size+1,1,none⟩=some (.int .i64 vi)/\x.cell? ⟨w.heap.size+1,2,none⟩=some (.slice a2 q2 c2)/\x.cell? ⟨w.heap.size+1,3,none⟩=some (.slice a3 q3 c3))/\x.cell? ⟨w.heap.size,0,none⟩=some (.slice ta t.args.length tc)/\x.cell? ⟨vb,vo,none⟩=some (.int .i64 (z0:Nat))):=bz (fun x hx=>by
  have key:∀ {p:Addr} {u:Value},W.cell? p=some u->x.cell? p=some u:=fun h=>(hx.cell (bm (bp _ _ h) cK.size)).trans ((cK.cell (bp _ _ h)).trans h)
  obtain ⟨i0,i1,i2,i3⟩:=kK HW.out.2.2.2.2.1
  exact ⟨⟨key i0,key i1,key i2,key i3⟩,key (kF HW.out.2.2.2.1),(hx.cell (bp _ _ h0)).trans h0⟩)
 have Ai:∀ (F:Nat->Prop) (x:World),Rep F x (numD []) (.slice none 0 0):=fun F x=>qu.2 ⟨rfl,none,0,rfl,bw _,fun _=>rfl,.inl rfl⟩
 have eO:=kt t
 have h15':=HI.out.2.2.2.1
 have CBG:Hid (∀ x,Below w2.heap.size w2 x->Calls Tryz.prog 128 #[.agg #[str [],.int .i64 0,.slice none 0 0,.slice none 0 0,.slice none 0 0,.slice none 0 0,.int .i64 0],.agg #[str q0,.int .i64 vi,.slice a2 q2 c2,.slice a3 q3 c3],.agg #[.slice ta t.args.length tc],.int .i64 (z0:Nat)] x fun en w'=>∃ ba bc aa ac,en=.returned (.agg #[str q0,.int .i64 vi,.slice a2 q2 c2,.slice a3 q3 c3,.slice ba t.args.length bc,.slice aa t.args.length ac,.int .i64 (z0:Nat)])/\Below x.heap.size x w'/\xT w2.heap.size (List.replicate t.args.length z0) (List.range t.args.length) (.slice ba t.args.length bc) (.slice aa t.args.length ac) w'):=bz (fun x hx=>by
  refine (pE F [] [] [] 0 none 0 0 none 0 0 none 0 none 0 0 q0 vi a2 q2 c2 a3 q3 c3 t (.slice ta t.args.length tc) z0 x (Ai _ _) (Ai _ _) (((HI.out.1.below Aj fun _ h=>h)).below hx fun _ h=>h) (by omega) (by simp) (by simp)).mono ?_
  rintro en w' ⟨ba,bc,aa,ac,rfl,hb,h1,h2⟩
  simp only [List.length_nil,Nat.zero_add,List.nil_append] at h1 h2 ⊢
  have hz:=hx.size
  exact ⟨ba,bc,aa,ac,rfl,hb,⟨(Rep.keep fun i o hi ho=>⟨br hz hi,ho⟩).1 _ _ h1,(Rep.keep fun i o hi ho=>⟨br hz hi,ho⟩).1 _ _ h2⟩⟩)
 have H2:=bz (bj cK (bj fv (bj tF Aj)))
 clear mN cK fv tF c0 c1 CV fp Aj Ai h15' h0
 go_upto_region 2 with (fail)
 refine j9 (X:=Option Addr×Nat×Option Addr×Nat×Nat) (fun zz x=>((((((((zz.put (some 21) (.agg #[str [],.int .i64 0,.slice none 0 0,.slice none 0 0,.slice none 0 0,.slice none 0 0,.int .i64 0])).put (some 22) (.agg #[str q0,.int .i64 vi,.slice a2 q2 c2,.slice a3 q3 c3])).put (some 23) (.agg #[.slice ta t.args.length tc])).put (some 24) (.slice (some ⟨vb,vo,none⟩) vw.length vc)).put (some 25) (.pointer (some ⟨vb,vo,none⟩))).put (some 26) (.int .i64 (z0:Nat))).put (some 27) (.agg #[str q0,.int .i64 vi,.slice a2 q2 c2,.slice a3 q3 c3,.slice x.1 t.args.length x.2.1,.slice x.2.2.1 t.args.length x.2.2.2.1,.int .i64 (z0:Nat)])).put (some 9) (.pointer (some ⟨x.2.2.2.2,0,none⟩)))) (fun x w7=>Below w2.heap.size w2 w7/\w7.heap[x.2.2.2.2]? = some (.cells #[str q0,.int .i64 vi,.slice a2 q2 c2,.slice a3 q3 c3,.slice x.1 t.args.length x.2.1,.slice x.2.2.1 t.args.length x.2.2.2.1,.int .i64 (z0:Nat)] 145 (0,0))/\w2.heap.size<=x.2.2.2.2/\xT w2.heap.size (List.replicate t.args.length z0) (List.range t.args.length) (.slice x.1 t.args.length x.2.1) (.slice x.2.2.1 t.args.length x.2.2.2.1) w7) ?_ ?_
 ·refine wp_region_noPanic ?_
  refine zW (fun w'=>Below w2.heap.size w2 w') (fun _=>false) (by kernel_rfl) ?_
  obtain ⟨y0,dH⟩:=zzN (w2.drew)
  rw [dH]
  have cX:Below w2.heap.size w2 y0:=by rw [<- dH];exact Below.drew (bh _ _)
  obtain ⟨fT,eG⟩:∃ x:Nat->Nat,x=fun _=>0:=⟨_,rfl⟩
  clear dH eG
  refine tk [0,1] cX ?_
  (intro d hd;simp [tkD] at hd;subst hd;simp only [tks,pQ,pZ,pS])
  iterate 2 (refine ⟨?_,?_,?_⟩;rotate_left;· (intro oi ho;simp at ho;subst ho;refine Or.inl ⟨by rfl,fun w' b_=>?_⟩;obtain ⟨⟨e0,e1,e2,e3⟩,_⟩:=lh.out w' b_;go_simp;try with_reducible rfl))
  refine tk [2,3,4] cX ?_
  (intro d hd;simp [tkD] at hd;subst hd;simp only [tks,pQ,pZ,pS])
  iterate 3 (refine ⟨?_,?_,?_⟩;rotate_left;· (intro oi ho;simp at ho;subst ho;refine Or.inl ⟨by rfl,fun w' b_=>?_⟩;have e0:=(lh.out w' b_).2.1;go_simp;try with_reducible rfl))
  refine tk [5] cX ?_
  (intro d hd;simp [tkD] at hd;subst hd;simp only [tks,pQ,pZ,pS])
  (refine ⟨?_,?_,?_⟩;rotate_left;· (intro oi ho;simp at ho;subst ho;refine Or.inl ⟨by rfl,fun w' b_=>?_⟩;have e0:=(lh.out w' b_).2.2;go_simp;try with_reducible rfl))
  refine kH 6 7 (by kernel_rfl) ?_ ?_
  ·(intro o6 ho K' hK;simp at ho;subst ho)
   go_simp
   go_at_call 128
   (with_reducible refine (CBG.out _ cX).mono ?_)
   rintro en y1 ⟨ba,bc,aa,ac,rfl,hb,DX⟩
   have CP:Hid (xT w2.heap.size (List.replicate t.args.length z0) (List.range t.args.length) (.slice ba t.args.length bc) (.slice aa t.args.length ac) y1):=DX
   clear DX
   have cC:Below w2.heap.size w2 y1:=zzT cX hb
   have nZ:=bz hb;clear hb
   (refine hK.out _ _ (fun _=>cC) ?_;clear hK K';try simp only [pQ,pN,pZ,pS])
   (refine on 7 ?_;intro o ho K' hK;simp at ho;subst ho;go_simp)
   (refine hK.out _ _ (fun _=>cC.alloc cC.size _) ?_;clear hK K';try simp only [pQ,pN,pZ,pS])
   obtain ⟨y2,be⟩:=zzN (y1.alloc (.cells #[str [],.int .i64 0,.slice none 0 0,.slice none 0 0,.slice none 0 0,.slice none 0 0,.int .i64 0] 145))
   obtain ⟨gA,dG⟩:=zzN (y1.heap.size)
   rw [be,dG]
   have dZ:Below w2.heap.size w2 y2:=by rw [<- be];exact cC.alloc cC.size _
   obtain ⟨mx,cV⟩:=zzN (zS fT gA 1)
   have CP:Hid (xT w2.heap.size (List.replicate t.args.length z0) (List.range t.args.length) (.slice ba t.args.length bc) (.slice aa t.args.length ac) y2):=by rw [<- be];exact CP.out.below ((bh _ _).alloc (bw _) _)
   have EA:Hid (y2.heap[gA]? = some (.cells #[str [],.int .i64 0,.slice none 0 0,.slice none 0 0,.slice none 0 0,.slice none 0 0,.int .i64 0] 145 (0,0))/\mx gA=1/\w2.heap.size<=gA):=by rw [<- be,<- cV,<- dG];exact ⟨zR _ _,by unfold zS;rw [if_pos rfl],cC.size⟩
   clear be dG cV
   (refine on 8 ?_;intro o ho K' hK;simp at ho;subst ho)
   obtain ⟨uA0,cA0⟩:∃ u,y2.cell? ⟨gA,0,none⟩=some u:=⟨_,by simp [World.cell?,EA.out.1];rfl⟩
   have fA0:y2.frozen? ⟨gA,0,none⟩=false:=by simp [World.frozen?,EA.out.1]
   obtain ⟨uA1,cA1⟩:∃ u,y2.cell? ⟨gA,1,none⟩=some u:=⟨_,by simp [World.cell?,EA.out.1];rfl⟩
   have fA1:y2.frozen? ⟨gA,1,none⟩=false:=by simp [World.frozen?,EA.out.1]
   obtain ⟨uA2,cA2⟩:∃ u,y2.cell? ⟨gA,2,none⟩=some u:=⟨_,by simp [World.cell?,EA.out.1];rfl⟩
   have fA2:y2.frozen? ⟨gA,2,none⟩=false:=by simp [World.frozen?,EA.out.1]
   obtain ⟨uA3,cA3⟩:∃ u,y2.cell? ⟨gA,3,none⟩=some u:=⟨_,by simp [World.cell?,EA.out.1];rfl⟩
   have fA3:y2.frozen? ⟨gA,3,none⟩=false:=by simp [World.frozen?,EA.out.1]
   obtain ⟨uA4,cA4⟩:∃ u,y2.cell? ⟨gA,4,none⟩=some u:=⟨_,by simp [World.cell?,EA.out.1];rfl⟩
   have fA4:y2.frozen? ⟨gA,4,none⟩=false:=by simp [World.frozen?,EA.out.1]
   obtain ⟨uA5,cA5⟩:∃ u,y2.cell? ⟨gA,5,none⟩=some u:=⟨_,by simp [World.cell?,EA.out.1];rfl⟩
   have fA5:y2.frozen? ⟨gA,5,none⟩=false:=by simp [World.frozen?,EA.out.1]
   obtain ⟨uA6,cA6⟩:∃ u,y2.cell? ⟨gA,6,none⟩=some u:=⟨_,by simp [World.cell?,EA.out.1];rfl⟩
   have fA6:y2.frozen? ⟨gA,6,none⟩=false:=by simp [World.frozen?,EA.out.1]
   go_simp
   (refine hK.out _ _ (fun _=>(((((((dZ.setCell (p:=⟨gA,0,none⟩) EA.out.2.2 _).setCell (p:=⟨gA,1,none⟩) EA.out.2.2 _).setCell (p:=⟨gA,2,none⟩) EA.out.2.2 _).setCell (p:=⟨gA,3,none⟩) EA.out.2.2 _).setCell (p:=⟨gA,4,none⟩) EA.out.2.2 _).setCell (p:=⟨gA,5,none⟩) EA.out.2.2 _).setCell (p:=⟨gA,6,none⟩) EA.out.2.2 _)) ?_;clear hK K';try simp only [pQ,pN,pZ,pS])
   obtain ⟨y3,be⟩:=zzN ((((((((y2.setCell ⟨gA,0,none⟩ (str q0)).setCell ⟨gA,1,none⟩ (.int .i64 vi)).setCell ⟨gA,2,none⟩ (.slice a2 q2 c2)).setCell ⟨gA,3,none⟩ (.slice a3 q3 c3)).setCell ⟨gA,4,none⟩ (.slice ba t.args.length bc)).setCell ⟨gA,5,none⟩ (.slice aa t.args.length ac)).setCell ⟨gA,6,none⟩ (.int .i64 (z0:Nat))))
   rw [be]
   have eV:Below w2.heap.size w2 y3:=by rw [<- be];exact (((((((dZ.setCell (p:=⟨gA,0,none⟩) EA.out.2.2 _).setCell (p:=⟨gA,1,none⟩) EA.out.2.2 _).setCell (p:=⟨gA,2,none⟩) EA.out.2.2 _).setCell (p:=⟨gA,3,none⟩) EA.out.2.2 _).setCell (p:=⟨gA,4,none⟩) EA.out.2.2 _).setCell (p:=⟨gA,5,none⟩) EA.out.2.2 _).setCell (p:=⟨gA,6,none⟩) EA.out.2.2 _)
   have cR:But (fun i=>i=gA) y2 y3:=by rw [<- be];exact ((((((((But.refl (fun i=>i=gA) y2).setCell (p:=⟨gA,0,none⟩) (.inl rfl) _).setCell (p:=⟨gA,1,none⟩) (.inl rfl) _).setCell (p:=⟨gA,2,none⟩) (.inl rfl) _).setCell (p:=⟨gA,3,none⟩) (.inl rfl) _).setCell (p:=⟨gA,4,none⟩) (.inl rfl) _).setCell (p:=⟨gA,5,none⟩) (.inl rfl) _).setCell (p:=⟨gA,6,none⟩) (.inl rfl) _)
   have cV:∀ g,g=gA->mx g=1:=fun g e=>by rw [e];exact EA.out.2.1
   have CP:Hid (xT w2.heap.size (List.replicate t.args.length z0) (List.range t.args.length) (.slice ba t.args.length bc) (.slice aa t.args.length ac) y3):=CP.out.but cR (CP.out.notBox EA.out.1 (by decide) (by decide))
   have EA:Hid (y3.heap[gA]? = some (.cells #[str q0,.int .i64 vi,.slice a2 q2 c2,.slice a3 q3 c3,.slice ba t.args.length bc,.slice aa t.args.length ac,.int .i64 (z0:Nat)] 145 (0,0))/\mx gA=1/\w2.heap.size<=gA):=⟨by rw [<- be];exact (zQ (zQ (zQ (zQ (zQ (zQ (zQ EA.out.1))))))),EA.out.2⟩
   clear be cR cV cA0 fA0 cA1 fA1 cA2 fA2 cA3 fA3 cA4 fA4 cA5 fA5 cA6 fA6
   refine zU (by kernel_rfl) (NoPanic.normal ?_) _
   exact ⟨rfl,⟨ba,bc,aa,ac,gA⟩,by rfl,eV,EA.out.1,EA.out.2.2,CP.out⟩
  ·(intro o7 ho K' hK;simp at ho;subst ho)
   go_simp
   (refine hK.out _ _ (fun _=>cX.alloc cX.size _) ?_;clear hK K';try simp only [pQ,pN,pZ,pS])
   obtain ⟨y4,be⟩:=zzN (y0.alloc (.cells #[str [],.int .i64 0,.slice none 0 0,.slice none 0 0,.slice none 0 0,.slice none 0 0,.int .i64 0] 145))
   obtain ⟨gA,dG⟩:=zzN (y0.heap.size)
   rw [be,dG]
   have nV:Below w2.heap.size w2 y4:=by rw [<- be];exact cX.alloc cX.size _
   obtain ⟨tg4,cV⟩:=zzN (zS fT gA 1)
   have EA:Hid (y4.heap[gA]? = some (.cells #[str [],.int .i64 0,.slice none 0 0,.slice none 0 0,.slice none 0 0,.slice none 0 0,.int .i64 0] 145 (0,0))/\tg4 gA=1/\w2.heap.size<=gA):=by rw [<- be,<- cV,<- dG];exact ⟨zR _ _,by unfold zS;rw [if_pos rfl],cX.size⟩
   clear be dG cV
   (refine on 6 ?_;intro o ho K' hK;simp at ho;subst ho;go_simp)
   go_at_call 128
   (with_reducible refine (CBG.out _ nV).mono ?_)
   rintro en y5 ⟨ba,bc,aa,ac,rfl,hb,DX⟩
   have CP:Hid (xT w2.heap.size (List.replicate t.args.length z0) (List.range t.args.length) (.slice ba t.args.length bc) (.slice aa t.args.length ac) y5):=DX
   clear DX
   have eB:Below w2.heap.size w2 y5:=zzT nV hb
   have EA:Hid (y5.heap[gA]? = some (.cells #[str [],.int .i64 0,.slice none 0 0,.slice none 0 0,.slice none 0 0,.slice none 0 0,.int .i64 0] 145 (0,0))/\tg4 gA=1/\w2.heap.size<=gA):=⟨(hb.block _ (zZ EA.out.1)).trans EA.out.1,EA.out.2⟩
   have hby5:=bz hb;clear hb
   (refine hK.out _ _ (fun _=>eB) ?_;clear hK K';try simp only [pQ,pN,pZ,pS])
   (refine on 8 ?_;intro o ho K' hK;simp at ho;subst ho)
   obtain ⟨uA0,cA0⟩:∃ u,y5.cell? ⟨gA,0,none⟩=some u:=⟨_,by simp [World.cell?,EA.out.1];rfl⟩
   have fA0:y5.frozen? ⟨gA,0,none⟩=false:=by simp [World.frozen?,EA.out.1]
   obtain ⟨uA1,cA1⟩:∃ u,y5.cell? ⟨gA,1,none⟩=some u:=⟨_,by simp [World.cell?,EA.out.1];rfl⟩
   have fA1:y5.frozen? ⟨gA,1,none⟩=false:=by simp [World.frozen?,EA.out.1]
   obtain ⟨uA2,cA2⟩:∃ u,y5.cell? ⟨gA,2,none⟩=some u:=⟨_,by simp [World.cell?,EA.out.1];rfl⟩
   have fA2:y5.frozen? ⟨gA,2,none⟩=false:=by simp [World.frozen?,EA.out.1]
   obtain ⟨uA3,cA3⟩:∃ u,y5.cell? ⟨gA,3,none⟩=some u:=⟨_,by simp [World.cell?,EA.out.1];rfl⟩
   have fA3:y5.frozen? ⟨gA,3,none⟩=false:=by simp [World.frozen?,EA.out.1]
   obtain ⟨uA4,cA4⟩:∃ u,y5.cell? ⟨gA,4,none⟩=some u:=⟨_,by simp [World.cell?,EA.out.1];rfl⟩
   have fA4:y5.frozen? ⟨gA,4,none⟩=false:=by simp [World.frozen?,EA.out.1]
   obtain ⟨uA5,cA5⟩:∃ u,y5.cell? ⟨gA,5,none⟩=some u:=⟨_,by simp [World.cell?,EA.out.1];rfl⟩
   have fA5:y5.frozen? ⟨gA,5,none⟩=false:=by simp [World.frozen?,EA.out.1]
   obtain ⟨uA6,cA6⟩:∃ u,y5.cell? ⟨gA,6,none⟩=some u:=⟨_,by simp [World.cell?,EA.out.1];rfl⟩
   have fA6:y5.frozen? ⟨gA,6,none⟩=false:=by simp [World.frozen?,EA.out.1]
   go_simp
   (refine hK.out _ _ (fun _=>(((((((eB.setCell (p:=⟨gA,0,none⟩) EA.out.2.2 _).setCell (p:=⟨gA,1,none⟩) EA.out.2.2 _).setCell (p:=⟨gA,2,none⟩) EA.out.2.2 _).setCell (p:=⟨gA,3,none⟩) EA.out.2.2 _).setCell (p:=⟨gA,4,none⟩) EA.out.2.2 _).setCell (p:=⟨gA,5,none⟩) EA.out.2.2 _).setCell (p:=⟨gA,6,none⟩) EA.out.2.2 _)) ?_;clear hK K';try simp only [pQ,pN,pZ,pS])
   obtain ⟨y6,be⟩:=zzN ((((((((y5.setCell ⟨gA,0,none⟩ (str q0)).setCell ⟨gA,1,none⟩ (.int .i64 vi)).setCell ⟨gA,2,none⟩ (.slice a2 q2 c2)).setCell ⟨gA,3,none⟩ (.slice a3 q3 c3)).setCell ⟨gA,4,none⟩ (.slice ba t.args.length bc)).setCell ⟨gA,5,none⟩ (.slice aa t.args.length ac)).setCell ⟨gA,6,none⟩ (.int .i64 (z0:Nat))))
   rw [be]
   have dW:Below w2.heap.size w2 y6:=by rw [<- be];exact (((((((eB.setCell (p:=⟨gA,0,none⟩) EA.out.2.2 _).setCell (p:=⟨gA,1,none⟩) EA.out.2.2 _).setCell (p:=⟨gA,2,none⟩) EA.out.2.2 _).setCell (p:=⟨gA,3,none⟩) EA.out.2.2 _).setCell (p:=⟨gA,4,none⟩) EA.out.2.2 _).setCell (p:=⟨gA,5,none⟩) EA.out.2.2 _).setCell (p:=⟨gA,6,none⟩) EA.out.2.2 _)
   have cR:But (fun i=>i=gA) y5 y6:=by rw [<- be];exact ((((((((But.refl (fun i=>i=gA) y5).setCell (p:=⟨gA,0,none⟩) (.inl rfl) _).setCell (p:=⟨gA,1,none⟩) (.inl rfl) _).setCell (p:=⟨gA,2,none⟩) (.inl rfl) _).setCell (p:=⟨gA,3,none⟩) (.inl rfl) _).setCell (p:=⟨gA,4,none⟩) (.inl rfl) _).setCell (p:=⟨gA,5,none⟩) (.inl rfl) _).setCell (p:=⟨gA,6,none⟩) (.inl rfl) _)
   have cV:∀ g,g=gA->tg4 g=1:=fun g e=>by rw [e];exact EA.out.2.1
   have CP:Hid (xT w2.heap.size (List.replicate t.args.length z0) (List.range t.args.length) (.slice ba t.args.length bc) (.slice aa t.args.length ac) y6):=CP.out.but cR (CP.out.notBox EA.out.1 (by decide) (by decide))
   have EA:Hid (y6.heap[gA]? = some (.cells #[str q0,.int .i64 vi,.slice a2 q2 c2,.slice a3 q3 c3,.slice ba t.args.length bc,.slice aa t.args.length ac,.int .i64 (z0:Nat)] 145 (0,0))/\tg4 gA=1/\w2.heap.size<=gA):=⟨by rw [<- be];exact (zQ (zQ (zQ (zQ (zQ (zQ (zQ EA.out.1))))))),EA.out.2⟩
   clear be cR cV cA0 fA0 cA1 fA1 cA2 fA2 cA3 fA3 cA4 fA4 cA5 fA5 cA6 fA6
   refine zU (by kernel_rfl) (NoPanic.normal ?_) _
   exact ⟨rfl,⟨ba,bc,aa,ac,gA⟩,by rfl,dW,EA.out.1,EA.out.2.2,CP.out⟩
 rintro ⟨ba,bc,aa,ac,gA⟩ Y ⟨hY,Fs,dG,hNQ⟩
 dsimp only at Fs dG hNQ
 simp only [pQ,pN,pZ,pS]
 clear lh CBG
 have iB:=HW.out.2.2.1
 have rP:=H2.out.1.size
 have n5:=bz (bj iB (bj rP dG))
 have hwY:Below w.heap.size w Y:=zzT H2.out.2.2.2 hY
 have hWY:Below W.heap.size W Y:=zzT H2.out.1 hY
 have nE:v[0]? = some ([113],-1):=by
  obtain ⟨c,p,z,hv,ho⟩:=kQ HI.out.2.2.2.2.1 dX
  obtain ⟨rfl,rfl,rfl⟩:=ho.zero rfl
  exact hv
 have fS:Hid (xZ (fun g=>g≠gA/\g≠w.heap.size+3) Y (vL t b).1 (vL t b).2.1 (vL t b).2.2 v [str q0,.int .i64 vi,.slice a2 q2 c2,.slice a3 q3 c3,.slice ba t.args.length bc,.slice aa t.args.length ac,.int .i64 (z0:Nat)]):=bz (by
  have h0:yO [] (0,[]) v [] [] 0:=⟨rfl,rfl,fun i pl h=>by simp at h,rfl,113,-1,nE⟩
  have h1:=h0.kid t.args.length 0 [] (by have:=HI.out.2.2.2.1;omega) nE
  simp only [List.nil_append] at h1
  have mN:=HZ.out
  subst mN
  refine ⟨_,_,_,h1,AtD_mk (b:=b) ?_ ?_ ?_⟩
  ·exact (Rep.keep fun i o _ ho=>⟨by have:=zZ ho;omega,by rw [hwY.block _ (zZ ho)];exact ho⟩).2 _ _ HI.out.2.1
  ·exact (Rep.keep fun i o hi ho=>⟨⟨hi.2,by have:=hi.1;omega⟩,ho⟩).1 _ _ (gQ hNQ.l Fs int_place)
  ·exact (Rep.keep fun i o hi ho=>⟨⟨hi.2,by have:=hi.1;omega⟩,ho⟩).1 _ _ (gQ hNQ.r Fs int_place))
 have HY:=bz (bj hwY (bj hWY (bj hY Fs)))
 clear hwY hWY hY Fs hNQ iB rP nE dG
 go_wp2_with fail
 go_loopw [10] (fun i wr=>∃ (wz:World) (j e:Nat) (s:St) (hand:List Ty) (x0 x1 x2 x3 x4 x5 x6:Value),wz=wr/\i=.int .i64 ((2*j+2:Nat):Int)/\vw[2*j]? = some e/\kN t b v (e+1)=some s/\ue t hand s (e+1)/\wz.heap[gA]? = some (.cells #[x0,x1,x2,x3,x4,x5,x6] 145 (0,0))/\xZ (fun g=>g≠gA/\g≠w.heap.size+3) wz s.1 s.2.1 s.2.2 v [x0,x1,x2,x3,x4,x5,x6]/\But (fun g=>g=gA) Y wz) (fun i _=>vw.length+2-(intOf i).toNat)
 case atStart =>
  exact ⟨_,0,0,vL t b,t.args,_,_,_,_,_,_,_,rfl,rfl,VC.out.zero,qb t b v,FIT.out,HY.out.2.2.2,fS.out,But.refl _ _⟩
 case round =>
  obtain ⟨wr,j,e,s,hand,x0,x1,x2,x3,x4,x5,x6,rfl,rfl,sC,cG,cd,fF,dw,hB⟩:=hrel
  obtain ⟨lenE,El⟩:e<=k/\2*j<vw.length:=⟨VC.out.all _ _ sC,(List.getElem?_eq_some_iff.1 sC).1⟩
  have oH:=VC.out.len
  have Dm:=HK.out
  have hAY:gA<Y.heap.size:=zZ HY.out.2.2.2
  obtain ⟨i2,rV⟩:=zzM (2*j+2)
  rw [<- rV]
  have i8:Below w.heap.size w wr:=HY.out.1.trans (hB.toBelow (by have:=HY.out.1.size;omega) fun i hi e1=>by have h1:=n5.out;omega)
  have HB:=bz (bj hB i8)
  have eg:=bz (bj dw (bj fF (bj cd cG)))
  have hWr:∀ i o,W.heap[i]? = some o->i≠gA->wr.heap[i]? = some o:=fun i o h cE=>by
   have hl:=zZ h
   rw [HB.out.1.block i (by have:=HY.out.2.1.size;omega) cE,HY.out.2.1.block i hl];exact h
  have g0:w.heap.size≠gA:=by have:=n5.out;omega
  have g2:w.heap.size+1+1≠gA:=by have:=n5.out;omega
  have g3:w.heap.size+3≠gA:=by have:=n5.out;omega
  have R0:=hWr _ _ HW.out.2.2.2.1 g0
  have R2:=hWr _ _ HW.out.2.2.2.2.2.1 g2
  have R3:=hWr _ _ HW.out.2.2.2.2.2.2 g3
  have HR:=bz (bj R0 (bj R2 R3))
  clear hB i8 dw fF hWr g0 g2 g3 R0 R2 R3
  by_cases cQ:i2<vw.length
  ·have dU:(i2:Int)<(vw.length:Int):=by omega
   obtain ⟨e1,e',c,p,h1,h2,h3,h4,h5,h6,h7⟩:=VC.out.step j (by omega)
   obtain rfl:e1=e:=Option.some.inj (h1.symm.trans sC)
   have hr:=FO.out.1 (e1+1) (by have:=h6.lt;omega) h6.odd
   obtain ⟨x,hx,rZ⟩:=h6.en
   unfold z_ at hr
   rw [cG,Option.bind_some,hx] at hr
   obtain ⟨l,ss,y,nn,a,pl,hd⟩:=yu HI.out.2.2.2.1 cd h7 h4 rZ hr
   obtain ⟨s',dy,dQ,dt⟩:=hd.next (k:=e') cd (by have:=h6.lt;omega) (by omega) HI.out.2.2.2.1
   have ml:kN t b v (e'+1)=some s':=by rw [jP HI.out.2.2.2.2.1 b (by omega) h4 h6,cG,Option.bind_some,dQ]
   have he'v:(e':Int)<(v.length:Int):=by omega
   obtain ⟨mb,mo,rfl,_,dD,dC⟩:=HI.out.2.2.1 e' _ h6.at'
   have mY:vw[i2]? = some e':=by rw [rV];exact h2
   obtain ⟨begun,args,opens,rG,hat⟩:=eg.out.1
   obtain ⟨b',lv,bg⟩:=s
   have eI:b'=.ask l ss y nn:=hd.body
   subst eI
   obtain ⟨n2,d2,n3,d3,na,da,nb,db,ex,oz,i6,E8,Fi⟩:=AtD_openU hat
   simp only [List.cons.injEq,and_true] at ex
   obtain ⟨rfl,rfl,rfl,rfl,rfl,rfl,rfl⟩:=ex
   have HN:=bz (bj ml (bj dt (bj (show vw[2*(j+1)]? = some e' from h2) (show i2+2=2*(j+1)+2 by omega))))
   have HD:=bz (bj hd (bj dQ (bj h6 (bj h7 mY))))
   have HT:=bz (bj rG (bj oz (bj i6 (bj E8 Fi))))
   have cU:=hd.len
   have iq:=qH _ _ _ hd.hat
   have aO:=kt a
   have eC:=cd.ll
   have aJ:lv.length<=8*(e1+1):=eC
   have Cu:=bz (bj cU (bj iq (bj aO aJ)))
   obtain ⟨M,hM⟩:=zzM (c::p)
   rw [<- hM] at dC
   have KEY:=bz (fun (y:World) (hy:Below wr.heap.size wr y)=>(show (y.cell? ⟨gA,0,none⟩=some (str [])/\y.cell? ⟨gA,1,none⟩=some (.int .i64 (l:Nat))/\y.cell? ⟨gA,2,none⟩=some (.slice n2 ss.length d2)/\y.cell? ⟨gA,3,none⟩=some (.slice n3 2 d3)/\y.cell? ⟨gA,4,none⟩=some (.slice na begun.length da)/\y.cell? ⟨gA,5,none⟩=some (.slice nb args.length db)/\y.cell? ⟨gA,6,none⟩=some (.int .i64 (opens:Nat)))/\y.cell? ⟨w.heap.size+2,0,none⟩=some (.slice (some ⟨mb,mo,none⟩) v.length mc)/\y.cell? ⟨vb,vo+i2,none⟩=some (.int .i64 (e':Nat))/\y.cell? ⟨mb,mo+e',none⟩=some (str M)/\y.cell? ⟨w.heap.size,0,none⟩=some (.slice ta t.args.length tc) from by
    have hk:∀ (a:Addr) (u:Value),wr.cell? a=some u->y.cell? a=some u:=fun a u h=>(hy.cell (bp _ _ h)).trans h
    have oP:∀ (a:Addr) (u:Value),w.cell? a=some u->y.cell? a=some u:=fun a u h=>hk a u ((HB.out.2.cell (bp _ _ h)).trans h)
    obtain ⟨q0,q1,q2,q3,q4,q5,q6⟩:=qc eg.out.2.1
    obtain ⟨k0,_⟩:=zJ HR.out.2.1
    refine ⟨⟨hk _ _ q0,hk _ _ q1,hk _ _ q2,hk _ _ q3,hk _ _ q4,hk _ _ q5,hk _ _ q6⟩,hk _ _ k0,?_,oP _ _ dC,hk _ _ (kF HR.out.1)⟩
    have Ej:=H2.out.2.1
    refine hk _ _ ((HB.out.1.cell (p:=⟨vb,vo+i2,none⟩) (by show vb<_;have:=HY.out.2.2.1.size;omega) (by show vb≠gA;have:=n5.out;omega)).trans ?_)
    exact (HY.out.2.2.1.cell (p:=⟨vb,vo+i2,none⟩) Ej).trans (H2.out.2.2.1 i2 e' mY)))
   have rh:IntKind.i64.wrap ((i2:Int)+2)=((i2+2:Nat):Int):=by rw [qV _ (by omega) (by omega)];omega
   have d_:0<M.length:=by rw [hM];simp
   have nc:(0:Int)<(M.length:Int):=by omega
   have B0:((((⟨M.toArray⟩:ByteArray)[0]'(kP d_)).toNat:Int))=(c.toNat:Int):=by rw [kr d_];subst hM;rfl
   obtain ⟨q0,_⟩:=(KEY.out wr (bh _ _)).1
   have HM:=bz hM
   clear hr hx rZ hd dQ dt ml h1 h2 h3 h4 h5 h6 h7 dD dC sC cG cd rV hM lenE El oH Dm mY rG hat oz i6 E8 Fi cU iq aO eC aJ hAY
   go_upto_region 8 with (fail)
   refine wp_region_noPanic ?_
   refine zW (fun w'=>Below wr.heap.size wr w') (fun _=>false) (by kernel_rfl) ?_
   have cZ:(fun w'=>Below wr.heap.size wr w') wr.drew:=Below.drew (bh _ _)
   refine tk [0,1,2,3,4] cZ ?_
   (intro d hd;simp [tkD] at hd;subst hd;simp only [tks,pQ,pZ,pS])
   iterate 5 (refine ⟨?_,?_,?_⟩;rotate_left;· (intro oi ho;simp at ho;subst ho;refine Or.inl ⟨by rfl,fun w' b_=>?_⟩;have e0:=(KEY.out w' b_).2.1;go_simp;try with_reducible rfl))
   refine tk [5,6] cZ ?_
   (intro d hd;simp [tkD] at hd;subst hd;simp only [tks,pQ,pZ,pS])
   iterate 2 (refine ⟨?_,?_,?_⟩;rotate_left;· (intro oi ho;simp at ho;subst ho;refine Or.inl ⟨by rfl,fun w' b_=>?_⟩;have e0:=(KEY.out w' b_).2.2.1;go_simp;try with_reducible rfl))
   refine tk [7,8] cZ ?_
   (intro d hd;simp [tkD] at hd;subst hd;simp only [tks,pQ,pZ,pS])
   iterate 2 (refine ⟨?_,?_,?_⟩;rotate_left;· (intro oi ho;simp at ho;subst ho;refine Or.inl ⟨by rfl,fun w' b_=>?_⟩;have e0:=(KEY.out w' b_).2.2.2.1;go_simp;try with_reducible rfl))
   refine zU (by kernel_rfl) (NoPanic.normal ?_) _
   obtain ⟨W8,rq⟩:=zzN (wr.drew)
   rw [rq]
   have em:Below wr.heap.size wr W8:=by rw [<- rq];exact Below.drew (bh _ _)
   have H8:=bz (bj em (bj ((em.block _ (zZ eg.out.2.1)).trans eg.out.2.1) (bj (HB.out.1.trans (But.ofBelow em)) (zzT HB.out.2 em))))
   have tV:∀ (a:Addr) (u:Value),wr.cell? a=some u->W8.cell? a=some u:=fun a u h=>(H8.out.1.cell (bp _ _ h)).trans h
   clear em rq cZ q0
   rcases HD.out.1.mv with ⟨hc,jj,aj,sb,hp,hj10,og,mW,hat,oI⟩ | ⟨hc,hp⟩
   ·subst hc
    have dQ:=HD.out.2.1
    unfold vr at dQ
    simp only [if_true] at dQ
    rw [oI,mW] at dQ
    have ea:jV t p=aj.args.length:=by unfold jV;rw [hat]
    rw [ea] at dQ
    obtain rfl:s'=(sb,lv++zh aj.args.length e' p,(e',p)):=(Option.some.inj dQ).symm
    have hjs:=(List.getElem?_eq_some_iff.1 mW).1
    have hjsI:(jj:Int)<(ss.length:Int):=by omega
    obtain ⟨_,_,ex,cO⟩:=bO.of (bs:=ss) HT.out.2.1
    simp only [Value.slice.injEq] at ex
    obtain ⟨rfl,_,rfl⟩:=ex
    obtain ⟨kb,ko,s1,v1,mw,sY,sW,sP,sU,sX,sd,ex,aX,tT,y0,y1,y2,y3,rg⟩:=cO jj hjs
    subst ex
    obtain rfl:sb=sd:=Option.some.inj (mW.symm.trans tT)
    have eM:=HM.out
    obtain ⟨m1,mn⟩:=zzM (p.length)
    have nh:M.length=m1+1:=by rw [eM,mn];rfl
    have Fj:=qH _ _ _ hat
    have az:=kt aj
    have hp60:p.length<=100:=by have:=HI.out.2.2.2.1;omega
    have hpm:IntKind.i64.wrap ((M.length:Int)-1)=(m1:Int):=by rw [nh,show ((m1+1:Nat):Int)-1=(m1:Int) from by omega];exact k_ _ (by omega)
    have oF:m1<M.length:=by omega
    have Eb:(m1:Int)<(M.length:Int):=by omega
    have iA:M[m1]=qo jj:=by
     have h9:M[m1]? = some (qo jj):=by
      rw [eM,mn]
      show (113::p)[p.length]? = _
      rw [hp,List.length_append];simp
     exact (List.getElem?_eq_some_iff.1 h9).2
    have B1:((((⟨M.toArray⟩:ByteArray)[m1]'(kP oF)).toNat:Int))=48+(jj:Int):=by rw [kr oF,iA,uC hj10];omega
    have hj8:IntKind.u8.wrap (48+(jj:Int)-48)=(jj:Int):=by simp [IntKind.wrap,IntKind.bits,IntKind.signed];omega
    have iF:((((113:UInt8).toNat:Nat):Int) != 113)=false:=rfl
    have exx:(⟨M.toArray⟩:ByteArray).extract 1 M.length=⟨p.toArray⟩:=by rw [nh,eM,mn];exact bX 113 p
    have h1M:(1:Int)<=(M.length:Int):=by omega
    have CAT:=bz (fun x (hx:Below wr.heap.size wr x)=>l1At_ago F t aj p (.slice ta t.args.length tc) w x HI.out.1 HI.out.2.2.2.1 (show _<=_ by omega) hat (zzT HB.out.2 hx))
    have iY:=bz (bj (bj y0 (bj y1 (bj y2 y3))) rg)
    have oZ:=bz (bj az (bj Fj hat))
    have hkk8:=bz tV
    clear hp og mW hat oI dQ ea cO aX tT y0 y1 y2 y3 rg eM mn iA az Fj tV hjs nh
    go_upto_region 15 with (fail)
    have FW:=bz (fun (y:World) (hy:Below W8.heap.size W8 y)=>KEY.out y (zzT H8.out.1 hy))
    have BE:=bz (fun (y:World) (hy:Below W8.heap.size W8 y)=>CAT.out y (zzT H8.out.1 hy))
    clear CAT
    refine j9 (X:=Option Addr×Nat×Nat) (fun zz x=>(((((((((zz.put (some 68) (.agg #[.slice ta t.args.length tc])).put (some 69) (str M)).put (some 70) (str p)).put (some 71) (.tuple #[.agg #[.slice x.1 aj.args.length x.2.1],.bool true])).put (some 67) (.tuple #[.agg #[.slice x.1 aj.args.length x.2.1],.bool true])).put (some 72) (.agg #[.slice x.1 aj.args.length x.2.1])).put (some 73) (.bool true)).put (some 14) (.pointer (some ⟨x.2.2,0,none⟩))).put (some 15) (.bool true))) (fun x w7=>Below W8.heap.size W8 w7/\w7.heap[x.2.2]? = some (.cells #[.slice x.1 aj.args.length x.2.1] 61 (0,0))/\W8.heap.size<=x.2.2/\Rep F w (qP aj) (.slice x.1 aj.args.length x.2.1)) ?_ ?_
    ·refine wp_region_noPanic ?_
     refine zW (fun w'=>Below W8.heap.size W8 w') (fun _=>false) (by kernel_rfl) ?_
     obtain ⟨z0,mN⟩:=zzN (W8.drew)
     rw [mN]
     have nJ:Below W8.heap.size W8 z0:=by rw [<- mN];exact Below.drew (bh _ _)
     obtain ⟨fT,eG⟩:∃ x:Nat->Nat,x=fun _=>0:=⟨_,rfl⟩
     clear mN eG
     refine tk [0,1,2] nJ ?_
     (intro d hd;simp [tkD] at hd;subst hd;simp only [tks,pQ,pZ,pS])
     iterate 3 (refine ⟨?_,?_,?_⟩;rotate_left;· (intro oi ho;simp at ho;subst ho;refine Or.inl ⟨by rfl,fun w' b_=>?_⟩;have e0:=(FW.out w' b_).2.2.2.2;go_simp;try with_reducible rfl))
     refine kH 3 7 (by kernel_rfl) ?_ ?_
     ·(intro o3 ho K' hK;simp at ho;subst ho)
      go_simp
      go_at_call 129
      (with_reducible refine (BE.out _ nJ).mono ?_)
      rintro en z1 ⟨ka,kc,rfl,hb,aY⟩
      have HKR:=bz aY
      clear aY
      have rj:Below W8.heap.size W8 z1:=zzT nJ hb
      have hbz1:=bz hb;clear hb
      (refine hK.out _ _ (fun _=>rj) ?_;clear hK K';try simp only [pQ,pN,pZ,pS])
      refine tk [4,5,6] rj ?_
      (intro d hd;simp [tkD] at hd;subst hd;simp only [tks,pQ,pZ,pS])
      iterate 3 (refine ⟨?_,?_,?_⟩;rotate_left;· (intro oi ho;simp at ho;subst ho;refine Or.inl ⟨by rfl,fun w' b_=>?_⟩;go_simp;try with_reducible rfl))
      (refine on 7 ?_;intro o ho K' hK;simp at ho;subst ho;go_simp)
      (refine hK.out _ _ (fun _=>rj.alloc rj.size _) ?_;clear hK K';try simp only [pQ,pN,pZ,pS])
      obtain ⟨z2,be⟩:=zzN (z1.alloc (.cells #[.slice none 0 0] 61))
      obtain ⟨gK,nG⟩:=zzN (z1.heap.size)
      rw [be,nG]
      have FF:Below W8.heap.size W8 z2:=by rw [<- be];exact rj.alloc rj.size _
      obtain ⟨mx,cV⟩:=zzN (zS fT gK 4)
      have EK:Hid (z2.heap[gK]? = some (.cells #[.slice none 0 0] 61 (0,0))/\mx gK=4/\W8.heap.size<=gK):=by rw [<- be,<- cV,<- nG];exact ⟨zR _ _,by unfold zS;rw [if_pos rfl],rj.size⟩
      clear be nG cV
      (refine on 8 ?_;intro o ho K' hK;simp at ho;subst ho)
      obtain ⟨uK0,Bv⟩:∃ u,z2.cell? ⟨gK,0,none⟩=some u:=⟨_,by simp [World.cell?,EK.out.1];rfl⟩
      have Br:z2.frozen? ⟨gK,0,none⟩=false:=by simp [World.frozen?,EK.out.1]
      go_simp
      (refine hK.out _ _ (fun _=>(FF.setCell (p:=⟨gK,0,none⟩) EK.out.2.2 _)) ?_;clear hK K';try simp only [pQ,pN,pZ,pS])
      obtain ⟨z3,be⟩:=zzN ((z2.setCell ⟨gK,0,none⟩ (.slice ka aj.args.length kc)))
      rw [be]
      have FE:Below W8.heap.size W8 z3:=by rw [<- be];exact (FF.setCell (p:=⟨gK,0,none⟩) EK.out.2.2 _)
      have cR:But (fun i=>i=gK) z2 z3:=by rw [<- be];exact ((But.refl (fun i=>i=gK) z2).setCell (p:=⟨gK,0,none⟩) (.inl rfl) _)
      have cV:∀ g,g=gK->mx g=4:=fun g e=>by rw [e];exact EK.out.2.1
      have EK:Hid (z3.heap[gK]? = some (.cells #[.slice ka aj.args.length kc] 61 (0,0))/\mx gK=4/\W8.heap.size<=gK):=⟨by rw [<- be];exact (zQ EK.out.1),EK.out.2⟩
      clear be cR cV Bv Br
      (refine on 9 ?_;intro o ho K' hK;simp at ho;subst ho;go_simp)
      (refine hK.out _ _ (fun _=>FE) ?_;clear hK K';try simp only [pQ,pN,pZ,pS])
      refine zU (by kernel_rfl) (NoPanic.normal ?_) _
      exact ⟨rfl,⟨ka,kc,gK⟩,by rfl,FE,EK.out.1,EK.out.2.2,HKR.out⟩
     ·(intro o7 ho K' hK;simp at ho;subst ho)
      go_simp
      (refine hK.out _ _ (fun _=>nJ.alloc nJ.size _) ?_;clear hK K';try simp only [pQ,pN,pZ,pS])
      obtain ⟨z5,be⟩:=zzN (z0.alloc (.cells #[.slice none 0 0] 61))
      obtain ⟨gK,nG⟩:=zzN (z0.heap.size)
      rw [be,nG]
      have Bl:Below W8.heap.size W8 z5:=by rw [<- be];exact nJ.alloc nJ.size _
      obtain ⟨mu,cV⟩:=zzN (zS fT gK 4)
      have EK:Hid (z5.heap[gK]? = some (.cells #[.slice none 0 0] 61 (0,0))/\mu gK=4/\W8.heap.size<=gK):=by rw [<- be,<- cV,<- nG];exact ⟨zR _ _,by unfold zS;rw [if_pos rfl],nJ.size⟩
      clear be nG cV
      (refine on 3 ?_;intro o ho K' hK;simp at ho;subst ho;go_simp)
      go_at_call 129
      (with_reducible refine (BE.out _ Bl).mono ?_)
      rintro en z6 ⟨ka,kc,rfl,hb,aY⟩
      have HKR:=bz aY
      clear aY
      have ly:Below W8.heap.size W8 z6:=zzT Bl hb
      have EK:Hid (z6.heap[gK]? = some (.cells #[.slice none 0 0] 61 (0,0))/\mu gK=4/\W8.heap.size<=gK):=⟨(hb.block _ (zZ EK.out.1)).trans EK.out.1,EK.out.2⟩
      have hbz6:=bz hb;clear hb
      (refine hK.out _ _ (fun _=>ly) ?_;clear hK K';try simp only [pQ,pN,pZ,pS])
      refine tk [4,5,6] ly ?_
      (intro d hd;simp [tkD] at hd;subst hd;simp only [tks,pQ,pZ,pS])
      iterate 3 (refine ⟨?_,?_,?_⟩;rotate_left;· (intro oi ho;simp at ho;subst ho;refine Or.inl ⟨by rfl,fun w' b_=>?_⟩;go_simp;try with_reducible rfl))
      (refine on 8 ?_;intro o ho K' hK;simp at ho;subst ho)
      obtain ⟨uK0,Bv⟩:∃ u,z6.cell? ⟨gK,0,none⟩=some u:=⟨_,by simp [World.cell?,EK.out.1];rfl⟩
      have Br:z6.frozen? ⟨gK,0,none⟩=false:=by simp [World.frozen?,EK.out.1]
      go_simp
      (refine hK.out _ _ (fun _=>(ly.setCell (p:=⟨gK,0,none⟩) EK.out.2.2 _)) ?_;clear hK K';try simp only [pQ,pN,pZ,pS])
      obtain ⟨z7,be⟩:=zzN ((z6.setCell ⟨gK,0,none⟩ (.slice ka aj.args.length kc)))
      rw [be]
      have FD:Below W8.heap.size W8 z7:=by rw [<- be];exact (ly.setCell (p:=⟨gK,0,none⟩) EK.out.2.2 _)
      have cR:But (fun i=>i=gK) z6 z7:=by rw [<- be];exact ((But.refl (fun i=>i=gK) z6).setCell (p:=⟨gK,0,none⟩) (.inl rfl) _)
      have cV:∀ g,g=gK->mu g=4:=fun g e=>by rw [e];exact EK.out.2.1
      have EK:Hid (z7.heap[gK]? = some (.cells #[.slice ka aj.args.length kc] 61 (0,0))/\mu gK=4/\W8.heap.size<=gK):=⟨by rw [<- be];exact (zQ EK.out.1),EK.out.2⟩
      clear be cR cV Bv Br
      (refine on 9 ?_;intro o ho K' hK;simp at ho;subst ho;go_simp)
      (refine hK.out _ _ (fun _=>FD) ?_;clear hK K';try simp only [pQ,pN,pZ,pS])
      refine zU (by kernel_rfl) (NoPanic.normal ?_) _
      exact ⟨rfl,⟨ka,kc,gK⟩,by rfl,FD,EK.out.1,EK.out.2.2,HKR.out⟩
    rintro ⟨ka,kc,gK⟩ W9 ⟨FI,hK9,nG,aY⟩
    dsimp only at hK9 nG aY
    simp only [pQ,pN,pZ,pS]
    have lJ:Below wr.heap.size wr W9:=zzT H8.out.1 FI
    have sw:=bz (fun (y:World) (hy:Below W9.heap.size W9 y)=>(show _/\_/\y.cell? ⟨gK,0,none⟩=some (.slice ka aj.args.length kc)/\(y.cell? ⟨kb,ko+jj*4,none⟩=some (str s1)/\y.cell? ⟨kb,ko+jj*4+1,none⟩=some (.int .i64 v1)/\y.cell? ⟨kb,ko+jj*4+2,none⟩=some (.slice mw sY sW)/\y.cell? ⟨kb,ko+jj*4+3,none⟩=some (.slice sP sU sX)) from by
     have rc:=zzT lJ hy
     have key:∀ {p:Addr} {u:Value},wr.cell? p=some u->y.cell? p=some u:=fun h=>(rc.cell (bp _ _ h)).trans h
     have k9:=kF hK9
     exact ⟨(KEY.out y rc).1,(KEY.out y rc).2.2.1,(hy.cell (bp _ _ k9)).trans k9,key iY.out.1.1,key iY.out.1.2.1,key iY.out.1.2.2.1,key iY.out.1.2.2.2⟩))
    have Ga:=bz (fun (y:World) (hy:Below W9.heap.size W9 y)=>by
     have rc:=zzT lJ hy
     have h1:begun.length=lv.length:=HT.out.1.lb
     have h2:args.length=lv.length:=HT.out.1.la
     have h3:=Cu.out.2.2.2
     have h4:=oZ.out.1
     have h5:=oZ.out.2.1
     have h6:=HD.out.2.2.1.lt
     have h7:=HI.out.2.2.2.1
     have kp:∀ {d:DV} {u:Value},Rep (fun g=>g≠gA/\g≠w.heap.size+3) wr d u->Rep (fun _=>True) y d u:=fun h=>(Rep.keep fun i o _ ho=>⟨trivial,by rw [rc.block i (zZ ho)];exact ho⟩).1 _ _ h
     exact pE (fun _=>True) begun args [] (l:Nat) (some ⟨kb,ko,none⟩) ss.length d2 n3 2 d3 na da nb db (opens:Nat) s1 v1 mw sY sW sP sU sX aj (.slice ka aj.args.length kc) e' y (kp HT.out.2.2.2.1) (kp HT.out.2.2.2.2)
      ((Rep.keep fun i o _ ho=>⟨trivial,by rw [rc.block i (by have:=zZ ho;have:=HB.out.2.size;omega),HB.out.2.block i (zZ ho)];exact ho⟩).1 _ _ aY) (by omega) (by omega) (by omega))
    have EV:=(lJ.block _ (zZ eg.out.2.1)).trans eg.out.2.1
    have H9:=bz (bj lJ (bj (HB.out.1.trans (But.ofBelow lJ)) (bj (zzT HB.out.2 lJ) EV)))
    clear FI hK9 nG aY lJ EV KEY FW BE
    go_upto_region 16 with (fail)
    refine wp_region_noPanic ?_
    refine zW (fun w'=>Below W9.heap.size W9 w') (fun i=>i=13) (by kernel_rfl) ?_
    have cZ:(fun w'=>Below W9.heap.size W9 w') W9.drew:=Below.drew (bh _ _)
    refine tk [0,1,2] cZ ?_
    (intro d hd;simp [tkD] at hd;subst hd;simp only [tks,pQ,pZ,pS])
    iterate 3 (refine ⟨?_,?_,?_⟩;rotate_left;· (intro oi ho;simp at ho;subst ho;refine Or.inl ⟨by rfl,fun w' b_=>?_⟩;obtain ⟨e0,e1,e2,e3,e4,e5,e6⟩:=(sw.out w' b_).1;go_simp;try with_reducible rfl))
    refine tk [3,4,5] cZ ?_
    (intro d hd;simp [tkD] at hd;subst hd;simp only [tks,pQ,pZ,pS])
    iterate 3 (refine ⟨?_,?_,?_⟩;rotate_left;· (intro oi ho;simp at ho;subst ho;refine Or.inl ⟨by rfl,fun w' b_=>?_⟩;have e0:=(sw.out w' b_).1.2.2.1;go_simp;try with_reducible rfl))
    refine tk [6] cZ ?_
    (intro d hd;simp [tkD] at hd;subst hd;simp only [tks,pQ,pZ,pS])
    (refine ⟨?_,?_,?_⟩;rotate_left;· (intro oi ho;simp at ho;subst ho;refine Or.inl ⟨by rfl,fun w' b_=>?_⟩;obtain ⟨e0,e1,e2,e3⟩:=(sw.out w' b_).2.2.2;go_simp;try with_reducible rfl))
    refine tk [7,8,9,10] cZ ?_
    (intro d hd;simp [tkD] at hd;subst hd;simp only [tks,pQ,pZ,pS])
    iterate 4 (refine ⟨?_,?_,?_⟩;rotate_left;· (intro oi ho;simp at ho;subst ho;refine Or.inl ⟨by rfl,fun w' b_=>?_⟩;have e0:=(sw.out w' b_).2.2.1;go_simp;try with_reducible rfl))
    refine tk [11] cZ ?_
    (intro d hd;simp [tkD] at hd;subst hd;simp only [tks,pQ,pZ,pS])
    (refine ⟨?_,?_,?_⟩;rotate_left;· (intro oi ho;simp at ho;subst ho;refine Or.inl ⟨by rfl,fun w' b_=>?_⟩;have e0:=(sw.out w' b_).2.1;go_simp;try with_reducible rfl))
    (refine on 12 ?_;intro o ho K' hK;simp at ho;subst ho;go_simp)
    go_at_call 128
    (with_reducible refine (Ga.out _ cZ).mono ?_)
    rintro en iw ⟨b12,Bw,a12,Bx,rfl,cT,dj,de⟩
    have ce:Below W9.heap.size W9 iw:=zzT cZ cT
    have xx:=(ce.block _ (zZ H9.out.2.2.2)).trans H9.out.2.2.2
    (refine hK.out _ _ (fun _=>ce) ?_;clear hK K';try simp only [pQ,pN,pZ,pS])
    have Fu:=ce
    (refine on 13 ?_;intro o ho K' hK;simp at ho;subst ho)
    have f0:=zB xx 0;have f1:=zB xx 1;have f2:=zB xx 2;have f3:=zB xx 3;have f4:=zB xx 4;have f5:=zB xx 5;have f6:=zB xx 6
    obtain ⟨e0,e1,e2,e3,e4,e5,e6⟩:=qc xx
    go_simp
    (refine hK.out _ _ (fun h=>by simp at h) ?_;clear hK K';try simp only [pQ,pN,pZ,pS])
    refine zU (by kernel_rfl) (NoPanic.normal ?_) _
    obtain ⟨dA,dV⟩:=zzN ((((((((iw.setCell ⟨gA,0,none⟩ (str s1)).setCell ⟨gA,1,none⟩ (.int .i64 v1)).setCell ⟨gA,2,none⟩ (.slice mw sY sW)).setCell ⟨gA,3,none⟩ (.slice sP sU sX)).setCell ⟨gA,4,none⟩ (.slice b12 (begun.length+aj.args.length) Bw)).setCell ⟨gA,5,none⟩ (.slice a12 (args.length+aj.args.length) Bx)).setCell ⟨gA,6,none⟩ (.int .i64 (e':Nat))))
    rw [dV]
    have nr:dA.heap[gA]? = some (.cells #[str s1,.int .i64 v1,.slice mw sY sW,.slice sP sU sX,.slice b12 (begun.length+aj.args.length) Bw,.slice a12 (args.length+aj.args.length) Bx,.int .i64 (e':Nat)] 145 (0,0)):=by rw [<- dV];exact wA xx _ _ _ _ _ _ _
    have cf:∀ g,g≠gA->dA.heap[g]? = iw.heap[g]?:=fun g hg=>by
     rw [<- dV,bf _ _ _ _ (by show g≠gA;exact hg),bf _ _ _ _ (by show g≠gA;exact hg),bf _ _ _ _ (by show g≠gA;exact hg),bf _ _ _ _ (by show g≠gA;exact hg),bf _ _ _ _ (by show g≠gA;exact hg),bf _ _ _ _ (by show g≠gA;exact hg),bf _ _ _ _ (by show g≠gA;exact hg)]
    have mK:But (fun g=>g=gA) Y dA:=by
     rw [<- dV]
     exact (((((((H9.out.2.1.trans (But.ofBelow ce)).setCell (p:=⟨gA,0,none⟩) (.inl rfl) _).setCell (p:=⟨gA,1,none⟩) (.inl rfl) _).setCell (p:=⟨gA,2,none⟩) (.inl rfl) _).setCell (p:=⟨gA,3,none⟩) (.inl rfl) _).setCell (p:=⟨gA,4,none⟩) (.inl rfl) _).setCell (p:=⟨gA,5,none⟩) (.inl rfl) _).setCell (p:=⟨gA,6,none⟩) (.inl rfl) _
    have kp:∀ i o,(i≠gA/\i≠w.heap.size+3)->wr.heap[i]? = some o->(i≠gA/\i≠w.heap.size+3)/\dA.heap[i]? = some o:=fun i o hi ho=>⟨hi,by rw [cf i hi.1,ce.block i (by have:=zZ ho;have:=H9.out.1.size;omega),H9.out.1.block i (zZ ho)];exact ho⟩
    have kn:∀ i o,W9.heap.size<=i->iw.heap[i]? = some o->(i≠gA/\i≠w.heap.size+3)/\dA.heap[i]? = some o:=fun i o hi ho=>by
     have h1:=n5.out;have h2:=zZ H9.out.2.2.2;have h3:=HY.out.1.size;have h4:=H9.out.2.1.size;have h5:=HY.out.2.1.size
     exact ⟨⟨by omega,by omega⟩,by rw [cf i (by omega)];exact ho⟩
    have Dt:=HT.out.1.kid aj.args.length e' p (by have h4:=oZ.out.1;have h5:=oZ.out.2.1;have h7:=HI.out.2.2.2.1;omega) HD.out.2.2.1.at'
    have ru:=bz (bj nr (bj mK (show xZ (fun g=>g≠gA/\g≠w.heap.size+3) dA sb (lv++zh aj.args.length e' p) (e',p) v [str s1,.int .i64 v1,.slice mw sY sW,.slice sP sU sX,.slice b12 (begun.length+aj.args.length) Bw,.slice a12 (args.length+aj.args.length) Bx,.int .i64 (e':Nat)] from ⟨_,_,e',Dt,AtD_mk ((Rep.keep kp).2 _ _ iY.out.2) ((Rep.keep kn).1 _ _ dj) ((Rep.keep kn).1 _ _ de)⟩)))
    clear nr cf mK kp kn Dt dV xx dj de ce cT Fu cZ sw Ga
    go_wp2_with fail
    go_roundw
    case rel=>exact ⟨_,j+1,e',_,dy,_,_,_,_,_,_,_,rfl,by rw [<- HN.out.2.2.2];rfl,HN.out.2.2.1,HN.out.1,HN.out.2.1,ru.out.1,ru.out.2.2,ru.out.2.1⟩
    case measure=>simp [intOf];omega
   ·clear hp
    rcases hc with rfl | rfl
    ·obtain ⟨_,_,ex,cO⟩:=bO.of (bs:=[y,nn]) HT.out.2.2.1
     simp only [Value.slice.injEq] at ex
     obtain ⟨rfl,_,rfl⟩:=ex
     obtain ⟨kb,ko,s1,v1,mw,sY,sW,sP,sU,sX,sd,ex,aX,tT,y0,y1,y2,y3,rg⟩:=cO 0 (by simp)
     subst ex
     obtain rfl:y=sd:=Option.some.inj tT
     have dQ:=HD.out.2.1
     obtain rfl:s'=(y,lv,bg):=(Option.some.inj dQ).symm
     have CJ:=tV _ _ y0
     have oJ:=tV _ _ y1
     have Cy:=tV _ _ y2
     have Cx:=tV _ _ y3
     have HYK:=bz rg
     obtain ⟨⟨q0,q1,q2,q3,_⟩,_⟩:=KEY.out W8 H8.out.1
     have iF:((((116:UInt8).toNat:Nat):Int) != 113)=true:=rfl
     have hqf:((((116:UInt8).toNat:Nat):Int) == 102)=false:=rfl
     have f0:=zB H8.out.2.1 0;have f1:=zB H8.out.2.1 1;have f2:=zB H8.out.2.1 2;have f3:=zB H8.out.2.1 3
     clear cO aX tT y0 y1 y2 y3 rg dQ tV
     simp only [Nat.zero_mul,Nat.one_mul,Nat.add_zero] at CJ oJ Cy Cx
     go_upto_region 5 with (fail)
     obtain ⟨dA,dV⟩:=zzN ((((W8.setCell ⟨gA,0,none⟩ (str s1)).setCell ⟨gA,1,none⟩ (.int .i64 v1)).setCell ⟨gA,2,none⟩ (.slice mw sY sW)).setCell ⟨gA,3,none⟩ (.slice sP sU sX))
     rw [dV]
     have nr:dA.heap[gA]? = some (.cells #[str s1,.int .i64 v1,.slice mw sY sW,.slice sP sU sX,.slice na begun.length da,.slice nb args.length db,.int .i64 (opens:Nat)] 145 (0,0)):=by
      rw [<- dV,zQ (zQ (zQ (zQ H8.out.2.1)))];rfl
     have cf:∀ g,g≠gA->dA.heap[g]? = W8.heap[g]?:=fun g hg=>by
      rw [<- dV,bf _ _ _ _ (by show g≠gA;exact hg),bf _ _ _ _ (by show g≠gA;exact hg),bf _ _ _ _ (by show g≠gA;exact hg),bf _ _ _ _ (by show g≠gA;exact hg)]
     have mK:But (fun g=>g=gA) Y dA:=by
      rw [<- dV]
      exact (((H8.out.2.2.1.setCell (p:=⟨gA,0,none⟩) (.inl rfl) _).setCell (p:=⟨gA,1,none⟩) (.inl rfl) _).setCell (p:=⟨gA,2,none⟩) (.inl rfl) _).setCell (p:=⟨gA,3,none⟩) (.inl rfl) _
     have kp:∀ i o,(i≠gA/\i≠w.heap.size+3)->wr.heap[i]? = some o->(i≠gA/\i≠w.heap.size+3)/\dA.heap[i]? = some o:=fun i o hi ho=>⟨hi,by rw [cf i hi.1,H8.out.1.block i (zZ ho)];exact ho⟩
     have ru:=bz (bj nr (bj mK (show xZ (fun g=>g≠gA/\g≠w.heap.size+3) dA y lv bg v [str s1,.int .i64 v1,.slice mw sY sW,.slice sP sU sX,.slice na begun.length da,.slice nb args.length db,.int .i64 (opens:Nat)] from ⟨begun,args,opens,HT.out.1,AtD_mk ((Rep.keep kp).2 _ _ HYK.out) ((Rep.keep kp).1 _ _ HT.out.2.2.2.1) ((Rep.keep kp).1 _ _ HT.out.2.2.2.2)⟩)))
     clear nr cf mK kp dV q0 q1 q2 q3 f0 f1 f2 f3 CJ oJ Cy Cx
     go_wp2_with fail
     go_roundw
     case rel=>exact ⟨_,j+1,e',_,dy,_,_,_,_,_,_,_,rfl,by rw [<- HN.out.2.2.2];rfl,HN.out.2.2.1,HN.out.1,HN.out.2.1,ru.out.1,ru.out.2.2,ru.out.2.1⟩
     case measure=>simp [intOf];omega
    ·obtain ⟨_,_,ex,cO⟩:=bO.of (bs:=[y,nn]) HT.out.2.2.1
     simp only [Value.slice.injEq] at ex
     obtain ⟨rfl,_,rfl⟩:=ex
     obtain ⟨kb,ko,s1,v1,mw,sY,sW,sP,sU,sX,sd,ex,aX,tT,y0,y1,y2,y3,rg⟩:=cO 1 (by simp)
     subst ex
     obtain rfl:nn=sd:=Option.some.inj tT
     have dQ:=HD.out.2.1
     obtain rfl:s'=(nn,lv,bg):=(Option.some.inj dQ).symm
     have CJ:=tV _ _ y0
     have oJ:=tV _ _ y1
     have Cy:=tV _ _ y2
     have Cx:=tV _ _ y3
     have HYK:=bz rg
     obtain ⟨⟨q0,q1,q2,q3,_⟩,_⟩:=KEY.out W8 H8.out.1
     have iF:((((102:UInt8).toNat:Nat):Int) != 113)=true:=rfl
     have hqf:((((102:UInt8).toNat:Nat):Int) == 102)=true:=rfl
     have f0:=zB H8.out.2.1 0;have f1:=zB H8.out.2.1 1;have f2:=zB H8.out.2.1 2;have f3:=zB H8.out.2.1 3
     clear cO aX tT y0 y1 y2 y3 rg dQ tV
     simp only [Nat.zero_mul,Nat.one_mul,Nat.add_zero] at CJ oJ Cy Cx
     go_upto_region 5 with (fail)
     obtain ⟨dA,dV⟩:=zzN ((((W8.setCell ⟨gA,0,none⟩ (str s1)).setCell ⟨gA,1,none⟩ (.int .i64 v1)).setCell ⟨gA,2,none⟩ (.slice mw sY sW)).setCell ⟨gA,3,none⟩ (.slice sP sU sX))
     rw [dV]
     have nr:dA.heap[gA]? = some (.cells #[str s1,.int .i64 v1,.slice mw sY sW,.slice sP sU sX,.slice na begun.length da,.slice nb args.length db,.int .i64 (opens:Nat)] 145 (0,0)):=by
      rw [<- dV,zQ (zQ (zQ (zQ H8.out.2.1)))];rfl
     have cf:∀ g,g≠gA->dA.heap[g]? = W8.heap[g]?:=fun g hg=>by
      rw [<- dV,bf _ _ _ _ (by show g≠gA;exact hg),bf _ _ _ _ (by show g≠gA;exact hg),bf _ _ _ _ (by show g≠gA;exact hg),bf _ _ _ _ (by show g≠gA;exact hg)]
     have mK:But (fun g=>g=gA) Y dA:=by
      rw [<- dV]
      exact (((H8.out.2.2.1.setCell (p:=⟨gA,0,none⟩) (.inl rfl) _).setCell (p:=⟨gA,1,none⟩) (.inl rfl) _).setCell (p:=⟨gA,2,none⟩) (.inl rfl) _).setCell (p:=⟨gA,3,none⟩) (.inl rfl) _
     have kp:∀ i o,(i≠gA/\i≠w.heap.size+3)->wr.heap[i]? = some o->(i≠gA/\i≠w.heap.size+3)/\dA.heap[i]? = some o:=fun i o hi ho=>⟨hi,by rw [cf i hi.1,H8.out.1.block i (zZ ho)];exact ho⟩
     have ru:=bz (bj nr (bj mK (show xZ (fun g=>g≠gA/\g≠w.heap.size+3) dA nn lv bg v [str s1,.int .i64 v1,.slice mw sY sW,.slice sP sU sX,.slice na begun.length da,.slice nb args.length db,.int .i64 (opens:Nat)] from ⟨begun,args,opens,HT.out.1,AtD_mk ((Rep.keep kp).2 _ _ HYK.out) ((Rep.keep kp).1 _ _ HT.out.2.2.2.1) ((Rep.keep kp).1 _ _ HT.out.2.2.2.2)⟩)))
     clear nr cf mK kp dV q0 q1 q2 q3 f0 f1 f2 f3 CJ oJ Cy Cx
     go_wp2_with fail
     go_roundw
     case rel=>exact ⟨_,j+1,e',_,dy,_,_,_,_,_,_,_,rfl,by rw [<- HN.out.2.2.2];rfl,HN.out.2.2.1,HN.out.1,HN.out.2.1,ru.out.1,ru.out.2.2,ru.out.2.1⟩
     case measure=>simp [intOf];omega
  ·have dU:¬ (i2:Int)<(vw.length:Int):=by omega
   have eN:=VC.out.odd
   have eY:=VC.out.last
   have h1:=n5.out
   rw [show vw.length-1=2*j from by omega,sC] at eY
   obtain rfl:=Option.some.inj eY
   obtain rfl:s=s0:=Option.some.inj (eg.out.2.2.2.symm.trans FO.out.2)
   obtain ⟨begun,args,opens,rG,hat⟩:=eg.out.1
   obtain ⟨n2,d2,n3,d3,na,da,nb,db,ex,_⟩:=uR hat
   generalize jm s.1=u0 at ex
   generalize lvOf s.1=u1 at ex
   generalize (qh s.1).length=u2 at ex
   generalize (jg s.1).length=u3 at ex
   simp only [List.cons.injEq,and_true] at ex
   obtain ⟨rfl,rfl,rfl,rfl,rfl,rfl,rfl⟩:=ex
   obtain ⟨q0,q1,q2,q3,q4,q5,q6⟩:=qc eg.out.2.1
   obtain ⟨z0',z1',z2',z3',z4',z5',z6'⟩:=qc HR.out.2.2
   have f0:=zB HR.out.2.2 0;have f1:=zB HR.out.2.2 1;have f2:=zB HR.out.2.2 2;have f3:=zB HR.out.2.2 3;have f4:=zB HR.out.2.2 4;have f5:=zB HR.out.2.2 5;have f6:=zB HR.out.2.2 6
   have Cw:=bz (bj rG hat)
   clear sC lenE El oH Dm eY eN h1 rG hat rV hAY
   go_wp2_with fail
   have hV:=wA HR.out.2.2 (str u0) (.int .i64 (u1:Nat)) (.slice n2 u2 d2) (.slice n3 u3 d3) (.slice na begun.length da) (.slice nb args.length db) (.int .i64 (opens:Nat))
   obtain ⟨nD,nC,C9,C0,s4',s5',s6'⟩:=qc hV
   have cf:∀ g,g≠w.heap.size+3->(((((((wr.setCell ⟨w.heap.size+3,0,none⟩ (str u0)).setCell ⟨w.heap.size+3,1,none⟩ (.int .i64 (u1:Nat))).setCell ⟨w.heap.size+3,2,none⟩ (.slice n2 u2 d2)).setCell ⟨w.heap.size+3,3,none⟩ (.slice n3 u3 d3)).setCell ⟨w.heap.size+3,4,none⟩ (.slice na begun.length da)).setCell ⟨w.heap.size+3,5,none⟩ (.slice nb args.length db)).setCell ⟨w.heap.size+3,6,none⟩ (.int .i64 (opens:Nat))).heap[g]? = wr.heap[g]?:=fun g hg=>by
    rw [bf _ _ _ _ (by show g≠w.heap.size+3;exact hg),bf _ _ _ _ (by show g≠w.heap.size+3;exact hg),bf _ _ _ _ (by show g≠w.heap.size+3;exact hg),bf _ _ _ _ (by show g≠w.heap.size+3;exact hg),bf _ _ _ _ (by show g≠w.heap.size+3;exact hg),bf _ _ _ _ (by show g≠w.heap.size+3;exact hg),bf _ _ _ _ (by show g≠w.heap.size+3;exact hg)]
   have ef:=((((((HB.out.2.setCell (p:=⟨w.heap.size+3,0,none⟩) (Nat.le_add_right _ _) (str u0)).setCell (p:=⟨w.heap.size+3,1,none⟩) (Nat.le_add_right _ _) (.int .i64 (u1:Nat))).setCell (p:=⟨w.heap.size+3,2,none⟩) (Nat.le_add_right _ _) (.slice n2 u2 d2)).setCell (p:=⟨w.heap.size+3,3,none⟩) (Nat.le_add_right _ _) (.slice n3 u3 d3)).setCell (p:=⟨w.heap.size+3,4,none⟩) (Nat.le_add_right _ _) (.slice na begun.length da)).setCell (p:=⟨w.heap.size+3,5,none⟩) (Nat.le_add_right _ _) (.slice nb args.length db)).setCell (p:=⟨w.heap.size+3,6,none⟩) (Nat.le_add_right _ _) (.int .i64 (opens:Nat))
   refine bodyPost_ret (v:=.tuple #[.agg #[str u0,.int .i64 (u1:Nat),.slice n2 u2 d2,.slice n3 u3 d3,.slice na begun.length da,.slice nb args.length db,.int .i64 (opens:Nat)],.bool true]) (by simp [results,Tryz.results90,go_sem,nD,nC,C9,C0,s4',s5',s6']) rfl ?_
   exact ⟨_,_,_,_,_,_,_,rfl,ef,begun,args,opens,Cw.out.1,(Rep.keep fun i o hi ho=>⟨trivial,by rw [cf i hi.2];exact ho⟩).2 _ _ Cw.out.2⟩
theorem Tryz.infoPlay:(Tryz.prog.info? 33).map (fun i=>(i.zero,i.size,i.bytes))=some (some (.agg #[.slice none 0 0,.slice none 0 0]),2,48):=by kernel_rfl
section
variable {P:Program} {ops:Array Oper} {Q:Exit->Act->World->Prop} {md:Region.Mode} {S:World->Prop} {T:Nat->Bool}
theorem wpAnyS_firstD {i:Nat} {oi:Oper} {v:Value} {D:List Nat} (hi:ops[i]? = some oi) (tS:∀ (j:Nat) (o:Oper) cs b,ops[j]? = some o->o.op≠.select cs b)
 (hQ:∀ c a w,Q (.panic c) (a.put oi.dst v) w->Q (.panic c) a w)
 (hT:∀ j oj,ops[j]? = some oj->T j=true->j∈D) (hD:∀ j∈D,∀ oj,ops[j]? = some oj->∃ e∈oj.after,Region.binds md e=true/\(e.on=i\/e.on∈D)) (hTi:T i=false) :
 ∀ (fuel:Nat) (listed:Array Bool) (a:Act) (w:World),(∀ j∈D,listed.getD j false=false) ->
   (∀ j oj,ops[j]? = some oj->j≠i->listed.getD j true=false->(∀ e∈oj.after,Region.binds md e=true->e.on≠i)->oi.apart ops oj=true) ->
   i∈Region.ready md ops listed->YieldsIf P ops S oi v a->S w ->
   kI P md ops Q S T fuel (listed.setIfInBounds i true) (a.put oi.dst v) w->kI P md ops Q S T (fuel+1) listed a w:=by
 intro fuel
 induction fuel with
 | zero =>
   intro listed a w _ _ hr hy hS H
   refine ⟨fun h=>(by rw [h] at hr;cases hr),fun j hj=>?_⟩
   by_cases m8:j=i
   ·subst m8;exact hy.wpOp hi hS ⟨fun _=>hS,H⟩
   ·have:=js hj m8
    rw [H.1] at this
    cases this
 | succ fuel ih =>
   intro listed a w hDl eX hr hy hS H
   refine ⟨fun h=>(by rw [h] at hr;cases hr),fun j hj=>?_⟩
   by_cases m8:j=i
   ·subst m8;exact hy.wpOp hi hS ⟨fun _=>hS,H⟩
   ·have h1:=H.2 j (js hj m8)
    obtain ⟨aW,oj,iN,cF⟩:=qw hj
    have th:∀ e∈oj.after,Region.binds md e=true->e.on≠i:=fun e he hb aH=>by
     have h1:=cF e he hb
     have h0:=(qw hr).1
     rw [aH] at h1
     simp only [Array.getD_eq_getD_getElem?] at h0 h1
     rcases Nat.lt_or_ge i listed.size with h' | h'
     ·simp [h'] at h0 h1;rw [h0] at h1;cases h1
     ·simp [Array.getElem?_eq_none h'] at h1
    have hDj:j ∉ D:=fun hd=>by
     obtain ⟨e,he,hb,aH⟩:=hD j hd oj iN
     rcases aH with aH | aH
     ·exact th e he hb aH
     ·have h1:=cF e he hb
      rw [hDl _ aH] at h1;cases h1
    have hTj:T j=false:=by
     cases hT':T j with
     | false=>rfl
     | true=>exact absurd (hT j oj iN hT') hDj
    have h2:=wpOp_putIf iN (eX j oj iN m8 aW th) (fun cs b=>tS i oi cs b hi) (fun cs b=>tS j oj cs b iN) hQ hy h1
    have hDl':∀ k∈D,(listed.setIfInBounds j true).getD k false=false:=fun k hk=>by
     have hkj:j≠k:=fun e=>hDj (e ▸ hk)
     have:=hDl k hk
     simp only [Array.getD_eq_getD_getElem?] at this ⊢
     rw [Array.getElem?_setIfInBounds_ne hkj];exact this
    have rR:∀ k ok,ops[k]? = some ok->k≠i->(listed.setIfInBounds j true).getD k true=false ->
     (∀ e∈ok.after,Region.binds md e=true->e.on≠i)->oi.apart ops ok=true:=fun k ok hk hki iD du=>by
     refine eX k ok hk hki ?_ du
     by_cases AQ:j=k
     ·subst AQ;exact aW
     ·simp only [Array.getD_eq_getD_getElem?] at iD ⊢
      rw [Array.getElem?_setIfInBounds_ne AQ] at iD;exact iD
    refine wpOp_mono (fun a' w' h3=>⟨h3.2.1,ih (listed.setIfInBounds j true) a' w' hDl' rR (js hr (Ne.symm m8)) h3.1 (h3.2.1 hTj) ?_⟩) h2
    rw [Array.setIfInBounds_comm _ _ m8]
    exact h3.2.2
def waitD (md:Region.Mode) (ops:Array Oper) (T:Nat->Bool) (D:List Nat) (listed:Array Bool) (i:Nat):Bool :=
 !T i && ((List.range ops.size).all (fun j=>!T j || D.contains j) && D.all fun j=>!listed.getD j false && ((ops[j]?).map fun o=>o.after.any fun e=>Region.binds md e && (e.on == i || D.contains e.on)).getD true)
theorem ze (i:Nat) (D:List Nat) {v:Value} {fuel:Nat} {listed:Array Bool} {a:Act} {w:World}
 (hs:Region.noSelect ops=true) (hf:Region.free md ops listed i=true) (hr:(Region.ready md ops listed).contains i=true) (ht:waitD md ops T D listed i=true)
 (hQ:∀ d c a w,Q (.panic c) (a.put d v) w->Q (.panic c) a w) (hS:S w)
 (hy:∀ oi,ops[i]? = some oi->YieldsIf P ops S oi v a)
 (h:∀ d,(ops[i]?).bind (·.dst)=d->kI P md ops Q S T fuel (listed.setIfInBounds i true) (a.put d v) w):kI P md ops Q S T (fuel+1) listed a w:=by
 have hm:i∈Region.ready md ops listed:=by simpa using hr
 obtain ⟨_,oi,hi,_⟩:=qw hm
 unfold waitD at ht
 rw [Bool.and_eq_true,Bool.and_eq_true] at ht
 obtain ⟨h1,h2,h3⟩:=ht
 rw [List.all_eq_true] at h2 h3
 refine wpAnyS_firstD (D:=D) hi (Region.noSelect_spec hs) (fun c a w=>hQ _ c a w) (fun j oj hj hT=>?_) (fun j hj oj ho=>?_) (by simpa using h1) fuel listed a w (fun j hj=>?_) (Region.free_spec hi hf) hm (hy oi hi) hS (h _ (by rw [hi];rfl))
 ·have:=h2 j (List.mem_range.2 (Array.getElem?_eq_some_iff.1 hj).1)
  rw [hT] at this;simpa using this
 ·have:=h3 j hj
  rw [Bool.and_eq_true,ho] at this
  have:=this.2
  simp only [Option.map_some,Option.getD_some] at this
  rw [Array.any_eq_true'] at this
  obtain ⟨e,he,h4⟩:=this
  rw [Bool.and_eq_true,Bool.or_eq_true,beq_iff_eq,List.contains_iff_mem] at h4
  exact ⟨e,he,h4⟩
 ·have:=h3 j hj
  rw [Bool.and_eq_true] at this
  simpa using this.1
end
structure Kv (va:Nat) (vw:Value) (w:World) (vw':Value) (w':World):Prop where
 but:But (Mv va vw) w w'
 row:∀ g,vw'.ownBlock=some g->vw.ownBlock=some g\/w.heap.size<=g
theorem Kv.obj {va:Nat} {vw vw':Value} {w w':World} (h:Kv va vw w vw' w') {b:Nat} {o:Obj} (hF:Fv va vw b) (ho:w.heap[b]? = some o):Fv va vw' b/\w'.heap[b]? = some o :=
 ⟨⟨hF.1,fun e=>by
   rcases h.row b e with h1 | h1
   ·exact hF.2 h1
   ·have:=zZ ho;omega⟩,by rw [h.but.block b (zZ ho) (fun e=>e.elim hF.1 hF.2)];exact ho⟩
theorem Kv.rep {va:Nat} {vw vw':Value} {w w':World} (h:Kv va vw w vw' w') {d:DV} {x:Value} (hr:Rep (Fv va vw) w d x):Rep (Fv va vw') w' d x:=Fv.keep h.but h.row hr
theorem Kv.trans {va:Nat} {vw vw' vw'':Value} {w w' w'':World} (h:Kv va vw w vw' w') (k:Kv va vw' w' vw'' w''):Kv va vw w vw'' w'' :=
 ⟨h.but.trans' k.but (fun i hi hm=>hm.imp id (fun e=>(h.row i e).resolve_right (by omega))),fun g hg=>(k.row g hg).elim (fun e=>h.row g e) (fun e=>.inr (br h.but.size e))⟩
theorem Kv.below {va:Nat} {vw:Value} {w w':World} (hb:Below w.heap.size w w'):Kv va vw w vw w':=⟨But.ofBelow hb,fun _ hg=>.inl hg⟩
structure AskV (t:Ty) (l:Nat) (ss:List Bd) (y n:Bd) (lv:List zc) (bg:zc) (asked:Pl) (kv bv lsl mv pt:Value) (B0 B1:Nat) (va:Nat) (vw:Value) (w:World):Prop where
 g:jD w
 ng:∀ g,Mv va vw g->NotG g
 rk:Rep (Fv va vw) w (jA t) kv
 rb:Rep (Fv va vw) w (qa (.ask l ss y n)) bv
 rl:jO (Fv va vw) w lv lsl
 rm:qC (Fv va vw) w asked mv
 rp:qB (Fv va vw) w asked pt
 f0:Fv va vw B0
 b0:w.heap[B0]? = some (.cells #[bv,lsl,.int .i64 (bg.1:Nat),str bg.2] 117 (0,0))
 f1:Fv va vw B1
 b1:w.heap[B1]? = some (.cells #[mv,pt] 33 (0,0))
theorem AskV.keep {t:Ty} {l:Nat} {ss:List Bd} {y n:Bd} {lv:List zc} {bg:zc} {asked:Pl} {kv bv lsl mv pt:Value} {B0 B1:Nat} {va:Nat} {vw vw':Value} {w w':World}
 (h:AskV t l ss y n lv bg asked kv bv lsl mv pt B0 B1 va vw w) (k:Kv va vw w vw' w'):AskV t l ss y n lv bg asked kv bv lsl mv pt B0 B1 va vw' w' :=
 ⟨h.g.but k.but h.ng,fun g hg=>hg.elim (fun e=>h.ng g (.inl e)) (fun e=>(k.row g e).elim (fun e=>h.ng g (.inr e)) (fun e=>h.g.new e)),k.rep h.rk,k.rep h.rb,k.rep h.rl,k.rep h.rm,k.rep h.rp,
  (k.obj h.f0 h.b0).1,(k.obj h.f0 h.b0).2,(k.obj h.f1 h.b1).1,(k.obj h.f1 h.b1).2⟩
structure Ko (vw:Value) (w:World) (vw':Value) (w':World):Prop where
 but:But (fun i=>vw.ownBlock=some i) w w'
 row:∀ g,vw'.ownBlock=some g->vw.ownBlock=some g\/w.heap.size<=g
abbrev Fo (vw:Value) (i:Nat):Prop:=¬ vw.ownBlock=some i
theorem Ko.obj {vw vw':Value} {w w':World} (h:Ko vw w vw' w') {b:Nat} {o:Obj} (hF:Fo vw b) (ho:w.heap[b]? = some o):Fo vw' b/\w'.heap[b]? = some o :=
 ⟨fun e=>by
  rcases h.row b e with h1 | h1
  ·exact hF h1
  ·have:=zZ ho;omega,by rw [h.but.block b (zZ ho) hF];exact ho⟩
theorem Ko.rep {vw vw':Value} {w w':World} (h:Ko vw w vw' w') {d:DV} {x:Value} (hr:Rep (Fo vw) w d x):Rep (Fo vw') w' d x:=(Rep.keep fun _ _ hF ho=>h.obj hF ho).1 _ _ hr
theorem Ko.reps {vw vw':Value} {w w':World} (h:Ko vw w vw' w') {d:List DV} {x:List Value} (hr:zv (Fo vw) w d x):zv (Fo vw') w' d x:=(Rep.keep fun _ _ hF ho=>h.obj hF ho).2 _ _ hr
theorem Ko.trans {vw vw' vw'':Value} {w w' w'':World} (h:Ko vw w vw' w') (k:Ko vw' w' vw'' w''):Ko vw w vw'' w'' :=
 ⟨h.but.trans' k.but (fun i hi hm=>(h.row i hm).resolve_right (by omega)),fun g hg=>(k.row g hg).elim (fun e=>h.row g e) (fun e=>.inr (br h.but.size e))⟩
theorem Ko.below {vw:Value} {w w':World} (hb:Below w.heap.size w w'):Ko vw w vw w':=⟨But.ofBelow hb,fun _ hg=>.inl hg⟩
theorem xZ.ko {vw vw':Value} {w w':World} (h:Ko vw w vw' w') {b:Bd} {lv:List zc} {bg:zc} {v:Pl} {vs:List Value} (hr:xZ (Fo vw) w b lv bg v vs):xZ (Fo vw') w' b lv bg v vs:=by
 obtain ⟨begun,args,opens,h1,h2⟩:=hr
 exact ⟨begun,args,opens,h1,h.reps h2⟩
theorem xZ.below {F:Nat->Prop} {w w':World} (hb:Below w.heap.size w w') {b:Bd} {lv:List zc} {bg:zc} {v:Pl} {vs:List Value} (hr:xZ F w b lv bg v vs):xZ F w' b lv bg v vs:=by
 obtain ⟨begun,args,opens,h1,h2⟩:=hr
 exact ⟨begun,args,opens,h1,h2.below hb (fun _ h=>h)⟩
def TvOut (o:Option (List Pl)) (vw:Value) (us:List (Value×Value)) (L:List Pl) (w:World) (en:Ending) (w':World):Prop :=
 ∃ a n c,en=.returned (.tuple #[.slice a n c,.bool o.isSome])/\But (fun i=>vw.ownBlock=some i) w w'/\∀ out,o=some out->∃ us',yz w' (L++out) (.slice a n c) (us++us')/\(∀ g,(Value.slice a n c).ownBlock=some g->vw.ownBlock=some g\/w.heap.size<=g)/\∀ u∈us',∀ g,u.1.ownBlock=some g\/u.2.ownBlock=some g->w.heap.size<=g
theorem TvOut.no {t:Ty} {b:Bd} {lv:List zc} {bg:zc} {v:Pl} {vw:Value} {us:List (Value×Value)} {L:List Pl} {w w':World} {a:Option Addr} {n c:Nat} (hb:But (fun i=>vw.ownBlock=some i) w w') (e:vR t b lv bg v=none) :
 TvOut (vR t b lv bg v) vw us L w (.returned (.tuple #[.slice a n c,.bool false])) w':=by
 rw [e]
 exact ⟨a,n,c,rfl,hb,fun out h=>by simp at h⟩
theorem boxes_3 (w:World) (A B C:Obj):∃ W,((w.alloc A).alloc B).alloc C=W/\Below w.heap.size w W/\W.heap.size=w.heap.size+3/\W.heap[w.heap.size]? = some A/\W.heap[w.heap.size+1]? = some B/\W.heap[w.heap.size+2]? = some C:=by
 obtain ⟨X,hX,eW,hz,x0,x1⟩:=kD w A B
 obtain ⟨Y,hY,mU,mp,y0⟩:=kV X C
 rw [hX,hY]
 exact ⟨Y,rfl,zzT eW mU,by omega,(mU.block _ (zZ x0)).trans x0,(mU.block _ (zZ x1)).trans x1,by rw [<- hz];exact y0⟩
theorem xn (v:Pl) (mv pt:Value) (s:Bs) (p:Int) (w:World) (h1:zM 1 mv v.length (qg v) w) (h2:zM 1 pt v.length (qy v) w) (hl:v.length<=1000) :
 Calls Tryz.prog 92 #[.agg #[mv,pt],str s,.int .i64 p] w (CopyP (v++[(s,p)]) w):=by
 refine (l2With_any v.length v.length mv pt (qg v) (qy v) s p w h1 h2 (by omega) (by omega)).mono ?_
 rintro en w' ⟨a1,c1,a2,c2,rfl,hb,oR,lX,hf1,hf2⟩
 refine ⟨_,_,rfl,⟨?_,?_⟩,hb,fun g hg=>hg.elim (hf1 g) (hf2 g)⟩
 ·rw [show qg (v++[(s,p)])=qg v++[str s] from by simp [qg],List.length_append];exact oR
 ·rw [show qy (v++[(s,p)])=qy v++[.int .i64 p] from by simp [qy],List.length_append];exact lX
theorem pls_add {w W:World} {vw:Value} {us:List (Value×Value)} {L:List Pl} {l:Pl} {mv pt:Value} (hp:yz w L vw us) (hB:Below w.heap.size w W) (hl:zE W l mv pt) (hn:∀ g,mv.ownBlock=some g\/pt.ownBlock=some g->w.heap.size<=g)
 {v':Value} {w5:World} (AB:Own w5 33 2 v' (us.length+1) (plC us++[mv,pt])) (cz:But (fun b=>vw.ownBlock=some b) W w5):yz w5 (L++[l]) v' (us++[(mv,pt)]):=by
 have B8:yz W L vw us:=jL.below hp hB
 have lM:(plX l).1.length=l.length:=by simp [plX,qg]
 have lP:(plX l).2.length=l.length:=by simp [plX,qy]
 unfold yz
 rw [List.map_append,List.map_singleton]
 exact jL.snoc (u:=(mv,pt)) (x:=plX l) B8 AB cz (by rw [lM];exact hl.1) (by rw [lP];exact hl.2) (fun g hg hP=>by
  have h1:=hn g hg
  have h2:=hp.lt hP
  omega)
def ud (s:St):Bs×Nat×Bool:=match qM s with
 | none=>([],0,false)
 | some x=>(x.1,x.2.toNat,true)
theorem l3Tell_any {t:Ty} {hand:List Ty} {s:St} {n:Nat} (v:Pl) (mv pt x0 x1 x2 x3 x4 x5 x6:Value) (w:World) (hs:ue t hand s n) (cJ:zP t<=15) (hn:n<=100) (hv:v.length<=1000)
 (hr:xZ (fun _=>True) w s.1 s.2.1 s.2.2 v [x0,x1,x2,x3,x4,x5,x6]) (hm:qC (fun _=>True) w v mv) (hp:qB (fun _=>True) w v pt) :
 Calls Tryz.prog 91 #[.agg #[mv,pt],.agg #[x0,x1,x2,x3,x4,x5,x6]] w (STellP (ud s).1 (ud s).2.1 (ud s).2.2 w):=by
 obtain ⟨ta,BZ⟩:=hs.bgt
 have eD:=qH _ _ _ BZ
 have eC:=hs.ll
 have hwf:=hs.wf
 obtain ⟨b,lv,bg⟩:=s
 have lL:bg.2.length<=1000:=by
  have:((b,lv,bg):St).2.2.2.length<=100:=by omega
  have h2:bg.2.length<=100:=this
  omega
 cases b with
 | leaf c =>
   rw [show ((Bd.leaf c,lv,bg):St).1=.leaf c from rfl,wfB] at hwf
   by_cases hc:c=117
   ·subst hc
    have e:ud (Bd.leaf 117,lv,bg)=([],0,false):=rfl
    rw [e]
    exact l3Tell_u (fun _=>True) lv bg v mv pt x0 x1 x2 x3 x4 x5 x6 w hr hm hp
   ·have fQ:c=116\/c=102:=by
     rcases hwf with h | h | h
     ·exact .inl h
     ·exact .inr h
     ·exact absurd h hc
    have e:ud (Bd.leaf c,lv,bg)=(c::bg.2,bg.1,true):=by unfold ud qM;simp only [if_neg hc,Int.toNat_natCast]
    rw [e]
    exact l3Tell_leaf (fun _=>True) c fQ lv bg v mv pt x0 x1 x2 x3 x4 x5 x6 w hr hm hp lL hv
 | ask l ss y nn =>
   have hf:=hs.fit
   rw [show ((Bd.ask l ss y nn,lv,bg):St).1=.ask l ss y nn from rfl,kE] at hf
   obtain ⟨a,h1,_⟩:=hf
   obtain ⟨pl,hl,hat,_⟩:=hs.pf.each l a h1
   have dd:lv[l]? = some pl:=hl
   have cG:=qH _ _ _ hat
   have aJ:lv.length<=8*n:=eC
   have e:ud (Bd.ask l ss y nn,lv,bg)=(113::pl.2,pl.1,true):=by unfold ud qM;simp only [dd,Option.map_some,Int.toNat_natCast]
   rw [e]
   exact l3Tell_ask (fun _=>True) l ss y nn lv bg pl v mv pt x0 x1 x2 x3 x4 x5 x6 w hr hm hp dd (by omega) hv (by omega)
def ReplyQ (s:St) (v:Pl) (mv pt:Value) (w:World) (en:Ending) (w':World):Prop :=
 ∃ a1 n1 c1 a2 n2 c2,en=.returned (.tuple #[.agg #[.slice a1 n1 c1,.slice a2 n2 c2],.bool (qM s).isSome])/\Below w.heap.size w w'/\(qM s=none->.slice a1 n1 c1=mv/\.slice a2 n2 c2=pt) /\
   ∀ x,qM s=some x->zE w' (v++[x]) (.slice a1 n1 c1) (.slice a2 n2 c2)/\∀ g,(Value.slice a1 n1 c1).ownBlock=some g\/(Value.slice a2 n2 c2).ownBlock=some g->w.heap.size<=g
theorem told_nat {s:St} {x:Bs×Int} (h:qM s=some x):x.2=((x.2.toNat:Nat):Int):=by
 unfold qM at h
 split at h
 ·split at h
  ·simp at h
  ·obtain rfl:=Option.some.inj h;simp
 ·rw [Option.map_eq_some_iff] at h
  obtain ⟨pl,_,rfl⟩:=h
  simp
theorem kR {w:World} {b:Nat} {x y:Value} {T:TypeId} (h:w.heap[b]? = some (.cells #[x,y] T (0,0))) (u v:Value):((w.setCell ⟨b,0,none⟩ u).setCell ⟨b,1,none⟩ v).heap[b]? = some (.cells #[u,v] T (0,0)):=by
 rw [zQ (zQ h)];rfl
set_option maxRecDepth 100000 in
theorem yF (F:Nat->Prop) (t:Ty) (b:Bd) (v:Pl) (k:Nat) (s0:St) (tv mv pt:Value) (nv:List Value) (w:World) (hk:Rep F w (qP t) tv) (hb:zv F w (qZ b) nv) (hm:vK F t v mv pt w)
 (cJ:zP t<=15) (hf:kE t.args b) (hw:wfB b) (cS:v.length=k+1) (fH:k % 2=0) (dF:zj t b v k) (dz:kN t b v (k+1)=some s0) :
 Calls Tryz.prog 51 #[.agg #[tv],.agg nv.toArray,.agg #[mv,pt]] w (ReplyQ s0 v mv pt w):=by
 have dE:=za hm.ok
 obtain ⟨s1,hand,dQ,cd⟩:=jq cJ hf hw hm.ok k (by omega) fH dF
 obtain rfl:s0=s1:=Option.some.inj (dz.symm.trans dQ)
 obtain ⟨vi,a2,c2,a3,c3,rfl,_,_⟩:=jx hb
 obtain ⟨ta,tc,rfl⟩:=zp hk
 obtain ⟨ma,mc,rfl,_⟩:=hm.m.cells
 obtain ⟨pa,pc,rfl,_⟩:=hm.p.cells
 generalize hq0:jm b=q0 at *
 generalize rQ:(qh b).length=q2 at *
 generalize hq3:(jg b).length=q3 at *
 obtain ⟨W,hW,b9,hz,b0,b1,b2,b3⟩:=boxes_4 w (.cells #[.slice ta t.args.length tc] 61) (.cells #[str q0,.int .i64 vi,.slice a2 q2 c2,.slice a3 q3 c3] 64) (.cells #[.slice ma v.length mc,.slice pa v.length pc] 33) (.cells #[.slice none 0 0,.slice none 0 0] 33)
 have CW:Hid (Calls Tryz.prog 90 #[.agg #[.slice ta t.args.length tc],.agg #[str q0,.int .i64 vi,.slice a2 q2 c2,.slice a3 q3 c3],.agg #[.slice ma v.length mc,.slice pa v.length pc]] W (WalkQ s0 v W)) :=
  bz (l3Walk_any F t b v k s0 (.slice ta t.args.length tc) (.slice ma v.length mc) (.slice pa v.length pc) [str q0,.int .i64 vi,.slice a2 q2 c2,.slice a3 q3 c3] W (hk.below b9 fun _ h=>h) ((Rep.keep fun i o hi ho=>⟨hi,by rw [b9.block i (zZ ho)];exact ho⟩).2 _ _ hb) (hm.below b9) cJ hf hw cS fH dF dz)
 have HI:=bz (bj hm (bj cJ cd))
 have HW:=bz (bj hW (bj b9 (bj hz (bj b2 b3))))
 have tM:v.length<=1000:=by omega
 have HK:=bz (show k+1<=100 by omega)
 have g0:=kF b0
 obtain ⟨n0,n1,n2,n3⟩:=kK b1
 obtain ⟨c0,c1,_,_⟩:=zJ b2
 clear hk hb hm cJ hf hw cS fH dF dz dQ cd hW b9 hz b0 b1 b2 b3
 go_enter Tryz.func51,Tryz.ntmps51
 go_upto_region 1 with (fail)
 rw [HW.out.1]
 go_wp2_with fail
 (with_reducible refine CW.out.mono ?_)
 rintro en w1 ⟨x0,x1,x2,x3,x4,x5,x6,rfl,bi,rG⟩
 obtain ⟨begun,args,opens,Ds,hat⟩:=rG
 obtain ⟨n2',d2,n3',d3,na,da,nb,db,ex,_⟩:=uR hat
 generalize jm s0.1=u0 at ex
 generalize lvOf s0.1=u1 at ex
 generalize (qh s0.1).length=u2 at ex
 generalize (jg s0.1).length=u3 at ex
 simp only [List.cons.injEq,and_true] at ex
 obtain ⟨rfl,rfl,rfl,rfl,rfl,rfl,rfl⟩:=ex
 obtain ⟨X,hX,eW,tH,x0⟩:=kV w1 (.cells #[str u0,.int .i64 (u1:Nat),.slice n2' u2 d2,.slice n3' u3 d3,.slice na begun.length da,.slice nb args.length db,.int .i64 (opens:Nat)] 145)
 have tX:Below W.heap.size W X:=zzT bi eW
 have BW:Below w.heap.size w X:=zzT HW.out.2.1 tX
 have hmX:=HI.out.1.below BW
 have hmT:qC (fun _=>True) X v (.slice ma v.length mc):=(Rep.keep fun i o _ ho=>⟨trivial,ho⟩).1 _ _ hmX.m
 have hpT:qB (fun _=>True) X v (.slice pa v.length pc):=(Rep.keep fun i o _ ho=>⟨trivial,ho⟩).1 _ _ hmX.p
 have CT:=l3Tell_any v (.slice ma v.length mc) (.slice pa v.length pc) _ _ _ _ _ _ _ X HI.out.2.2 HI.out.2.1 HK.out tM ⟨begun,args,opens,Ds,(Rep.keep fun i o _ ho=>⟨trivial,by rw [eW.block i (zZ ho)];exact ho⟩).2 _ _ hat⟩ hmT hpT
 have CWT:=bz (fun (y:World) (hy:Below X.heap.size X y) (m:Bs) (z:Int)=>xn v (.slice ma v.length mc) (.slice pa v.length pc) m z y (qC.src (Rep.below hy (fun _ h=>h) hmT)) (qB.src (Rep.below hy (fun _ h=>h) hpT)) tM)
 have p0:=(tX.cell (bp _ _ c0)).trans c0
 have p1:=(tX.cell (bp _ _ c1)).trans c1
 have b3:=(tX.block _ (zZ HW.out.2.2.2.2)).trans HW.out.2.2.2.2
 obtain ⟨e0,e1,e2,e3,e4,e5,e6⟩:=qc x0
 have HX:=bz (bj hX (bj BW b3))
 have iB:=bz HW.out.2.2.1
 clear hX eW tH x0 tX BW hmX hmT hpT b3 bi Ds hat c0 c1 g0 n0 n1 n2 n3 CW
 obtain ⟨o,ho⟩:=zzN (qM s0)
 cases o with
 | none =>
   have et:ud s0=([],0,false):=by unfold ud;rw [ho]
   rw [et] at CT
   have CT:=bz CT
   have HO:=bz ho
   clear et ho CWT
   go_upto_region 2 with (fail)
   rw [HX.out.1]
   go_wp2_with fail
   (with_reducible refine CT.out.mono ?_)
   rintro en w2 ⟨rfl,cK⟩
   have p0':=(cK.cell (bp _ _ p0)).trans p0
   have p1':=(cK.cell (bp _ _ p1)).trans p1
   have b3:=(cK.block _ (zZ HX.out.2.2)).trans HX.out.2.2
   obtain ⟨z0,z1,f0,f1⟩:=zJ b3
   have HB:=bz (bj (zzT HX.out.2.1 cK) b3)
   clear cK p0 p1 e0 e1 e2 e3 e4 e5 e6 b3 CT
   go_wp2_with fail
   have hV:=kR HB.out.2 (.slice ma v.length mc) (.slice pa v.length pc)
   obtain ⟨nD,nC,_,_⟩:=zJ hV
   refine bodyPost_ret (v:=.tuple #[.agg #[.slice ma v.length mc,.slice pa v.length pc],.bool false]) (by simp [results,Tryz.results51,go_sem,nD,nC]) rfl ?_
   refine ⟨_,_,_,_,_,_,by rw [HO.out];rfl,(HB.out.1.setCell (p:=⟨w.heap.size+3,0,none⟩) (Nat.le_add_right _ _) _).setCell (p:=⟨w.heap.size+3,1,none⟩) (Nat.le_add_right _ _) _,fun _=>⟨rfl,rfl⟩,fun x h=>?_⟩
   rw [HO.out] at h;simp at h
 | some x =>
   have et:ud s0=(x.1,x.2.toNat,true):=by unfold ud;rw [ho]
   rw [et] at CT
   have hxn:=told_nat ho
   obtain ⟨m,z⟩:=x
   simp only at CT hxn
   obtain ⟨zn,io⟩:∃ zn:Nat,z.toNat=zn:=⟨_,rfl⟩
   rw [io] at CT hxn
   subst hxn
   have CT:=bz CT
   have HO:=bz ho
   clear et ho io
   go_upto_region 2 with (fail)
   rw [HX.out.1]
   go_wp2_with fail
   (with_reducible refine CT.out.mono ?_)
   rintro en w2 ⟨rfl,cK⟩
   have p0':=(cK.cell (bp _ _ p0)).trans p0
   have p1':=(cK.cell (bp _ _ p1)).trans p1
   have b3:=(cK.block _ (zZ HX.out.2.2)).trans HX.out.2.2
   have si:=bz (CWT.out w2 cK m (zn:Int))
   have HB:=bz (bj (zzT HX.out.2.1 cK) b3)
   clear cK p0 p1 e0 e1 e2 e3 e4 e5 e6 b3 CT CWT
   go_wp2_with fail
   (with_reducible refine si.out.mono ?_)
   rintro en w3 ⟨mvn,ptn,rfl,c_,cH,fD⟩
   obtain ⟨a8,c8,e8⟩:=c_.1.slice
   obtain ⟨a9,c9,e9⟩:=c_.2.slice
   subst e8;subst e9
   have b3:=(cH.block _ (zZ HB.out.2)).trans HB.out.2
   obtain ⟨z0,z1,f0,f1⟩:=zJ b3
   have dY:=bz (bj (zzT HB.out.1 cH) (bj b3 (bj c_ (bj fD (show w.heap.size+3<w2.heap.size from zZ HB.out.2)))))
   clear cH p0' p1' b3 c_ fD si
   generalize hL:(v++[(m,(zn:Int))]).length=L at *
   go_wp2_with fail
   have hV:=kR dY.out.2.1 (.slice a8 L c8) (.slice a9 L c9)
   obtain ⟨nD,nC,_,_⟩:=zJ hV
   have cf:∀ g,g≠w.heap.size+3->((w3.setCell ⟨w.heap.size+3,0,none⟩ (.slice a8 L c8)).setCell ⟨w.heap.size+3,1,none⟩ (.slice a9 L c9)).heap[g]? = w3.heap[g]?:=fun g hg=>by
    rw [bf _ _ _ _ (by show g≠w.heap.size+3;exact hg),bf _ _ _ _ (by show g≠w.heap.size+3;exact hg)]
   refine bodyPost_ret (v:=.tuple #[.agg #[.slice a8 L c8,.slice a9 L c9],.bool true]) (by simp [results,Tryz.results51,go_sem,nD,nC]) rfl ?_
   refine ⟨_,_,_,_,_,_,by rw [HO.out];rfl,(dY.out.1.setCell (p:=⟨w.heap.size+3,0,none⟩) (Nat.le_add_right _ _) _).setCell (p:=⟨w.heap.size+3,1,none⟩) (Nat.le_add_right _ _) _,fun h=>?_,fun x h=>?_⟩
   ·rw [HO.out] at h;simp at h
   ·rw [HO.out] at h
    obtain rfl:=Option.some.inj h
    have cQ:=dY.out.2.2.2.2
    refine ⟨⟨dY.out.2.2.1.1.keep fun g o hg ho=>?_,dY.out.2.2.1.2.keep fun g o hg ho=>?_⟩,fun g hg=>?_⟩
    ·have:=dY.out.2.2.2.1 g (.inl hg)
     rw [cf g (by omega)];exact ho
    ·have:=dY.out.2.2.2.1 g (.inr hg)
     rw [cf g (by omega)];exact ho
    ·have:=dY.out.2.2.2.1 g hg;omega
theorem p7 (v:Pl) {n i:Nat} (h:i<n):(v.take n)[i]? = v[i]?:=by rw [List.getElem?_take,if_pos h]
theorem okAt_take (t:Ty) (v:Pl) {n i:Nat} (h:i<n):q_ t (v.take n) i=q_ t v i:=by
 unfold q_
 rw [p7 v h]
 cases hv:v[i]? with
 | none=>rfl
 | some x =>
   simp only
   by_cases hi:i=0
   ·rw [if_pos hi,if_pos hi]
   ·rw [if_neg hi,if_neg hi]
    by_cases hz:0<=x.2/\x.2<(i:Int)
    ·rw [p7 v (show x.2.toNat<n by omega)]
    ·have:(decide (0<=x.2) && decide (x.2<(i:Int)))=false:=by
      rw [Bool.and_eq_false_iff,decide_eq_false_iff_not,decide_eq_false_iff_not]
      by_cases h0:0<=x.2
      ·exact .inr fun h1=>hz ⟨h0,h1⟩
      ·exact .inl h0
     rw [this,Bool.false_and,Bool.false_and,Bool.false_and]
theorem bN (t:Ty) (v:Pl) {n:Nat}:∀ m,m<=n->qQ t (v.take n) m=qQ t v m
 | 0,_=>rfl
 | m+1,h=>by rw [qQ,qQ,bN t v m (by omega),okAt_take t v (by omega)]
theorem bR {t:Ty} {v:Pl}:∀ {m:Nat},(∀ i,i<m->q_ t v i=true)->qQ t v m=true
 | 0,_=>rfl
 | m+1,h=>by rw [qQ,bR (fun i hi=>h i (by omega)),h m (by omega)];rfl
theorem valid_take {t:Ty} {v:Pl} (h:zO t v=true) (n:Nat):zO t (v.take n)=true:=by
 have dE:=za h
 unfold zO at h ⊢
 rw [Bool.and_eq_true] at h ⊢
 refine ⟨by rw [decide_eq_true_eq,List.length_take];omega,?_⟩
 rw [bN t v _ (by rw [List.length_take];omega)]
 exact bR fun i hi=>yI h.2 (by rw [List.length_take] at hi;omega)
theorem pC {t:Ty} {v:Pl} (h:zO t v=true) (b:Bd) {n:Nat}:∀ f m,m<=n->m<=v.length->vV t b (v.take n) f m=vV t b v f m
 | 0,_,_,_=>rfl
 | f+1,m,hm,hl=>by
   rw [vV,vV]
   by_cases h1:m<=1
   ·rw [if_pos h1,if_pos h1]
   ·rw [if_neg h1,if_neg h1,p7 v (show m-1<n by omega)]
    obtain ⟨c,p,z,hv,ho⟩:=kQ h (show m-1<v.length by omega)
    rw [hv]
    have:=(ho.pos (by omega)).2.1
    simp only
    rw [pC h b f z.toNat (by omega) (by omega)]
theorem jc {t:Ty} {v:Pl} (h:zO t v=true) (b:Bd) {n m:Nat} (hm:m<=n) (hl:m<=v.length):kN t b (v.take n) m=kN t b v m:=pC h b _ m hm hl
theorem follows_take {t:Ty} {v:Pl} (h:zO t v=true) (b:Bd) {n m:Nat} (hm:m<=n) (hl:m<=v.length) (hf:zj t b v m):zj t b (v.take n) m:=fun i hi ho=>by
 unfold z_
 rw [jc h b (by omega) (by omega),p7 v (by omega)]
 exact hf i hi ho
theorem vK.take {F:Nat->Prop} {t:Ty} {v:Pl} {mv pt:Value} {w:World} (h:vK F t v mv pt w) {n:Nat} {mv' pt':Value} (hm:qC F w (v.take n) mv') (hp:qB F w (v.take n) pt'):vK F t (v.take n) mv' pt' w :=
 ⟨hm,hp,valid_take h.ok n,fun x hx=>h.l x (List.mem_of_mem_take hx)⟩
theorem Rep_take {F:Nat->Prop} {w:World} {e:TypeId} {n k:Nat} {cs:List DV} {a:Option Addr} {c:Nat} (h:Rep F w (.sl e 1 n cs) (.slice a n c)) (hk:k<=n) (ha:a≠none):Rep F w (.sl e 1 k (cs.take k)) (.slice a k c):=by
 rw [qu] at h ⊢
 obtain ⟨hl,a',cap,hv,hn,hz,h⟩:=h
 simp only [Value.slice.injEq,true_and] at hv
 obtain ⟨rfl,rfl⟩:=hv
 rw [Nat.mul_one] at hl
 refine ⟨by rw [List.length_take];omega,a,c,rfl,by omega,fun h=>absurd h ha,?_⟩
 rcases h with h | ⟨b,o,xs,fr,ea,hb,hc,hr⟩
 ·exact .inl (by omega)
 ·refine .inr ⟨b,o,xs,fr,ea,hb,hc,?_⟩
  rw [Nat.mul_one] at hr ⊢
  have h2:=zv.split (ds:=cs.take k) (es:=cs.drop k) (by rw [List.take_append_drop];exact hr)
  have h3:=h2.1
  rw [List.length_take,show min k cs.length=k from by omega,List.take_take,show min k n=k from by omega] at h3
  exact h3
theorem Own.notBox {w:World} {e T:TypeId} {sz n:Nat} {v:Value} {xs:List Value} (h:Own w e sz v n xs) {g:Nat} {c:Array Value} {fr:Nat×Nat} (hb:w.heap[g]? = some (.cells c T fr)) (he:e≠T):v.ownBlock≠some g:=by
 intro hg
 rcases h.2 with ⟨rfl,_⟩ | ⟨b,cap,cur,rfl,_,bi,_⟩
 ·simp [Value.ownBlock] at hg
 ·simp [Value.ownBlock] at hg
  subst hg
  rw [bi] at hb
  simp at hb
  exact he hb.2.1
theorem zE.notBox {w:World} {l:Pl} {mv pt:Value} (h:zE w l mv pt) {T:TypeId} {g:Nat} {c:Array Value} {fr:Nat×Nat} (hb:w.heap[g]? = some (.cells c T fr)) (h1:9≠T) (h2:3≠T):∀ i,mv.ownBlock=some i\/pt.ownBlock=some i->¬ i=g:=by
 intro i hi e
 subst e
 exact hi.elim (h.1.notBox hb h1) (h.2.notBox hb h2)
set_option maxRecDepth 100000 in
theorem l3Cut_at (b1 o1 c1 b2 o2 c2 L L2 n:Nat) (w:World) (h1:n<=c1) (h2:n<=c2) :
 Calls Tryz.prog 89 #[.agg #[.slice (some ⟨b1,o1,none⟩) L c1,.slice (some ⟨b2,o2,none⟩) L2 c2],.int .i64 (n:Nat)] w fun en w'=>en=.returned (.agg #[.slice (some ⟨b1,o1,none⟩) n c1,.slice (some ⟨b2,o2,none⟩) n c2])/\Below w.heap.size w w':=by
 obtain ⟨W,hW,b9,hz,p0,p1⟩:=kD w (.cells #[.slice (some ⟨b1,o1,none⟩) L c1,.slice (some ⟨b2,o2,none⟩) L2 c2] 33) (.cells #[.slice none 0 0,.slice none 0 0] 33)
 have h1I:(n:Int)<=(c1:Int):=by omega
 have h2I:(n:Int)<=(c2:Int):=by omega
 have HW:=bz (bj hW (bj b9 (bj hz (bj p0 p1))))
 have KEY:=bz (fun (y:World) (hy:Below W.heap.size W y)=>(show y.cell? ⟨w.heap.size,0,none⟩=some (.slice (some ⟨b1,o1,none⟩) L c1)/\y.cell? ⟨w.heap.size,1,none⟩=some (.slice (some ⟨b2,o2,none⟩) L2 c2) from by
  obtain ⟨c0,c1,_,_⟩:=zJ p0
  exact ⟨(hy.cell (bp _ _ c0)).trans c0,(hy.cell (bp _ _ c1)).trans c1⟩))
 clear hW b9 hz p0 p1 h1 h2
 go_enter Tryz.func89,Tryz.ntmps89
 go_upto_region 1 with (fail)
 rw [HW.out.1]
 refine wp_region_noPanic ?_
 refine zW (fun w'=>Below W.heap.size W w') (fun i=>i=9) (by kernel_rfl) ?_
 have cZ:(fun w'=>Below W.heap.size W w') W.drew:=Below.drew (bh _ _)
 refine tk [0,1,2,3,4] cZ ?_
 (intro d hd;simp [tkD] at hd;subst hd;simp only [tks,pQ,pZ,pS])
 iterate 5 (refine ⟨?_,?_,?_⟩;rotate_left;· (intro oi ho;simp at ho;subst ho;refine Or.inl ⟨by rfl,fun w' b_=>?_⟩;have e0:=(KEY.out w' b_).1;go_simp;try with_reducible rfl))
 refine tk [5,6,7,8] cZ ?_
 (intro d hd;simp [tkD] at hd;subst hd;simp only [tks,pQ,pZ,pS])
 iterate 4 (refine ⟨?_,?_,?_⟩;rotate_left;· (intro oi ho;simp at ho;subst ho;refine Or.inl ⟨by rfl,fun w' b_=>?_⟩;have e0:=(KEY.out w' b_).2;go_simp;try with_reducible rfl))
 (refine on 9 ?_;intro o ho K' hK;simp at ho;subst ho)
 have xx:=HW.out.2.2.2.2
 obtain ⟨e0,e1,f0,f1⟩:=zJ (w:=W.drew) xx
 obtain ⟨e0',e1',f0',f1'⟩:=zJ xx
 go_simp
 (refine hK.out _ _ (fun h=>by simp at h) ?_;clear hK K';try simp only [pQ,pN,pZ,pS])
 refine zU (by kernel_rfl) (NoPanic.normal ?_) _
 have xx:=HW.out.2.2.2.2
 have hV:=kR (w:=W.drew) xx (.slice (some ⟨b1,o1,none⟩) n c1) (.slice (some ⟨b2,o2,none⟩) n c2)
 obtain ⟨nD,nC,_,_⟩:=zJ hV
 have hV1:(W.setCell ⟨w.heap.size+1,0,none⟩ (.slice (some ⟨b1,o1,none⟩) n c1)).heap[w.heap.size+1]? = some (.cells #[.slice (some ⟨b1,o1,none⟩) n c1,.slice none 0 0] 33 (0,0)):=by rw [zQ xx];rfl
 obtain ⟨t0,_,_,_⟩:=zJ hV1
 have hV2:=kR xx (.slice (some ⟨b1,o1,none⟩) n c1) (.slice (some ⟨b2,o2,none⟩) n c2)
 obtain ⟨r0,r1,_,_⟩:=zJ hV2
 go_wp2_with fail
 have ef:=((HW.out.2.1.drew).setCell (p:=⟨w.heap.size+1,0,none⟩) (Nat.le_succ _) (.slice (some ⟨b1,o1,none⟩) n c1)).setCell (p:=⟨w.heap.size+1,1,none⟩) (Nat.le_succ _) (.slice (some ⟨b2,o2,none⟩) n c2)
 refine bodyPost_ret (v:=.agg #[.slice (some ⟨b1,o1,none⟩) n c1,.slice (some ⟨b2,o2,none⟩) n c2]) (by simp [results,Tryz.results89,go_sem,nD,nC,t0,r0,r1]) rfl ?_
 exact ⟨rfl,ef⟩
def qAt (v:Pl) (i:Nat):Prop:=∃ m z,v[i]? = some (m,z)/\isQ m=true
def pr (v:Pl) (k:Nat) (ans:List Int) (q:Nat):Prop:=(q:Int)∈ans\/∃ j m,q<j/\j<k/\v[j]? = some (m,(q:Int))/\isQ m=false
structure yk (v:Pl) (k:Nat) (ans:List Int) (z:Nat):Prop where
 lt:z<k
 q:qAt v z
 free:¬ pr v k ans z
 all:∀ i,z<i->i<k->qAt v i->pr v k ans i
theorem gZ (v:Pl):∀ (k:Nat) (ans:List Int),k<=v.length->(∃ z:Nat,kj v k ans=(z:Int)/\yk v k ans z)\/(kj v k ans = -1/\∀ i,i<k->qAt v i->pr v k ans i)
 | 0,ans,_=>.inr ⟨rfl,fun i hi=>absurd hi (by omega)⟩
 | k+1,ans,hk=>by
   have hv:v[k]? = some v[k]:=List.getElem?_eq_getElem (by omega)
   obtain ⟨m,y⟩:Bs×Int:=v[k]
   obtain ⟨m,y,hv⟩:∃ m y,v[k]? = some (m,y):=⟨_,_,hv⟩
   cases hq:isQ m with
   | true =>
     have mO:∀ i,pr v k ans i->pr v (k+1) ans i:=fun i h=>h.imp id fun ⟨j,m',h1,h2,h3⟩=>⟨j,m',h1,by omega,h3⟩
     have sV:∀ i,pr v (k+1) ans i->pr v k ans i:=fun i h=>h.imp id fun ⟨j,m',h1,h2,h3,h4⟩=>⟨j,m',h1,by
      rcases Nat.lt_or_ge j k with h | h
      ·exact h
      ·obtain rfl:j=k:=by omega
       rw [hv] at h3
       simp only [Option.some.injEq,Prod.mk.injEq] at h3
       rw [<- h3.1,hq] at h4;simp at h4,h3,h4⟩
     rw [vj hv,hq,if_pos rfl]
     by_cases hc:ans.contains (k:Int)=true
     ·rw [if_pos hc]
      have cr:(k:Int)∈ans:=by simpa using hc
      rcases gZ v k ans (by omega) with ⟨z,h1,h2⟩ | ⟨h1,h2⟩
      ·refine .inl ⟨z,h1,by have:=h2.lt;omega,h2.q,fun h=>h2.free (sV _ h),fun i hi rV sN=>?_⟩
       rcases Nat.lt_or_ge i k with h | h
       ·exact mO _ (h2.all i hi h sN)
       ·obtain rfl:i=k:=by omega
        exact .inl cr
      ·refine .inr ⟨h1,fun i hi sN=>?_⟩
       rcases Nat.lt_or_ge i k with h | h
       ·exact mO _ (h2 i h sN)
       ·obtain rfl:i=k:=by omega
        exact .inl cr
     ·rw [if_neg hc]
      refine .inl ⟨k,rfl,by omega,⟨m,y,hv,hq⟩,fun h=>?_,fun i hi rV=>absurd rV (by omega)⟩
      rcases h with h | ⟨j,_,h1,h2,_⟩
      ·exact hc (by simpa using h)
      ·omega
   | false =>
     rw [vj hv,hq,if_neg (by simp)]
     have hto:∀ i,i<k->(pr v k (ans++[y]) i↔pr v (k+1) ans i):=fun i hi=>by
      unfold pr
      constructor
      ·rintro (h | ⟨j,m',h1,h2,h3,h4⟩)
       ·rw [List.mem_append,List.mem_singleton] at h
        rcases h with h | h
        ·exact .inl h
        ·exact .inr ⟨k,m,hi,by omega,by rw [hv,h],hq⟩
       ·exact .inr ⟨j,m',h1,by omega,h3,h4⟩
      ·rintro (h | ⟨j,m',h1,h2,h3,h4⟩)
       ·exact .inl (List.mem_append_left _ h)
       ·rcases Nat.lt_or_ge j k with h | h
        ·exact .inr ⟨j,m',h1,h,h3,h4⟩
        ·obtain rfl:j=k:=by omega
         rw [hv] at h3
         simp only [Option.some.injEq,Prod.mk.injEq] at h3
         exact .inl (List.mem_append_right _ (by rw [List.mem_singleton];exact h3.2.symm))
     have AF:¬ qAt v k:=fun ⟨m',y',h1,h2⟩=>by
      rw [hv] at h1
      simp only [Option.some.injEq,Prod.mk.injEq] at h1
      rw [<- h1.1,hq] at h2;simp at h2
     rcases gZ v k (ans++[y]) (by omega) with ⟨z,h1,h2⟩ | ⟨h1,h2⟩
     ·refine .inl ⟨z,h1,by have:=h2.lt;omega,h2.q,fun h=>h2.free ((hto z h2.lt).2 h),fun i hi rV sN=>?_⟩
      rcases Nat.lt_or_ge i k with h | h
      ·exact (hto i h).1 (h2.all i hi h sN)
      ·obtain rfl:i=k:=by omega
       exact absurd sN AF
     ·refine .inr ⟨h1,fun i hi sN=>?_⟩
      rcases Nat.lt_or_ge i k with h | h
      ·exact (hto i h).1 (h2 i h sN)
      ·obtain rfl:i=k:=by omega
       exact absurd sN AF
theorem yk.eq {v:Pl} {k z:Nat} {ans:List Int} (hk:k<=v.length) (h:yk v k ans z):kj v k ans=(z:Int):=by
 rcases gZ v k ans hk with ⟨y,h1,h2⟩ | ⟨_,h2⟩
 ·rw [h1]
  rcases Nat.lt_trichotomy y z with h3 | h3 | h3
  ·exact absurd (h2.all z h3 h.lt h.q) h.free
  ·rw [h3]
  ·exact absurd (h.all y h3 h2.lt h2.q) h2.free
 ·exact absurd (h2 z h.lt h.q) h.free
theorem pend_of {v:Pl} {k z:Nat} {ans:List Int} (hk:k<=v.length) (h:kj v k ans=(z:Int)):yk v k ans z:=by
 rcases gZ v k ans hk with ⟨y,h1,h2⟩ | ⟨h1,_⟩
 ·rw [h1] at h
  obtain rfl:y=z:=by omega
  exact h2
 ·rw [h1] at h;omega
def brTo (v:Pl) (n:Nat):Prop:=∀ i m z,i<n->v[i]? = some (m,z)->isQ m=false->z=kj v i []
theorem brP_to {v:Pl} (h:qO v=true):brTo v v.length:=fun i m z hi hv hq=>by
 unfold qO brP at h
 rw [Bool.and_eq_true] at h
 have h1:=up h.2 hi
 rw [yh hv,hq,Bool.false_or] at h1
 simpa using h1
theorem visP_at {v:Pl} (h:qO v=true) {i:Nat} (hi:i<v.length):vN v i=true:=by
 unfold qO ym at h
 rw [Bool.and_eq_true] at h
 exact up h.1 hi
theorem pend_back {v:Pl} {k z g:Nat} {m mq:Bs} {y:Int} (hk:k<v.length) (hb:brTo v v.length) (hv:v[k]? = some (m,(z:Int))) (hq:isQ m=false) (hz:v[z]? = some (mq,y)) (hzq:isQ mq=true) (cQ:z<k) (hg:kj v z []=(g:Int)):kj v (k+1) []=(g:Int):=by
 have hP:yk v k [] z:=pend_of (by omega) (hb k m _ hk hv hq).symm
 have hG:yk v z [] g:=pend_of (by omega) hg
 have hgz:=hG.lt
 have mO:∀ a c i,a<=c->pr v a [] i->pr v c [] i:=fun a c i hac h=>h.imp id fun ⟨j,m',h1,h2,h3⟩=>⟨j,m',h1,by omega,h3⟩
 refine yk.eq (by omega) ⟨by omega,hG.q,fun h=>?_,fun i hi rV sN=>?_⟩
 ·rcases h with h | ⟨j,m',h1,h2,h3,h4⟩
  ·simp at h
  ·rcases Nat.lt_trichotomy j z with hj | hj | hj
   ·exact hG.free (.inr ⟨j,m',h1,hj,h3,h4⟩)
   ·subst hj
    rw [hz] at h3
    simp only [Option.some.injEq,Prod.mk.injEq] at h3
    rw [<- h3.1,hzq] at h4;simp at h4
   ·rcases Nat.lt_or_ge j k with AQ | AQ
    ·have h5:yk v j [] g:=pend_of (by omega) (hb j m' _ (by omega) h3 h4).symm
     have h6:=h5.all z hgz hj ⟨mq,y,hz,hzq⟩
     exact hP.free (mO j k z (by omega) h6)
    ·obtain rfl:j=k:=by omega
     rw [hv] at h3
     simp only [Option.some.injEq,Prod.mk.injEq] at h3
     have:=h3.2;omega
 ·rcases Nat.lt_trichotomy i z with h | h | h
  ·exact mO z (k+1) i (by omega) (hG.all i hi h sN)
  ·subst h
   exact .inr ⟨k,m,cQ,by omega,hv,hq⟩
  ·rcases Nat.lt_or_ge i k with hik | hik
   ·exact mO k (k+1) i (by omega) (hP.all i h hik sN)
   ·obtain rfl:i=k:=by omega
    obtain ⟨m',y',h1,h2⟩:=sN
    rw [hv] at h1
    simp only [Option.some.injEq,Prod.mk.injEq] at h1
    rw [<- h1.1,hq] at h2;simp at h2
structure StIn (v:Pl) (s:St) (n:Nat):Prop where
 lv:∀ (l:Nat) (pl:zc),s.2.1[l]? = some pl->pl.1 % 2=0/\pl.1<n/\pl.1∈zd v false n/\∃ z j q,j<10/\pl.2=q++[qo j]/\v[pl.1]? = some (113::q,z)
 bg:s.2.2.1 % 2=0/\s.2.2.1<n/\s.2.2.1∈zd v false n/\∃ z,v[s.2.2.1]? = some (113::s.2.2.2,z)
 pend:kj v n []=(s.2.2.1:Int)
theorem gc {t:Ty} {b:Bd} {v:Pl} (cJ:zP t<=15) (hf:kE t.args b) (hw:wfB b) (hv:zO t v=true) (hl:qO v=true) (k:Nat):k<v.length->k % 2=0->zj t b v k->∃ s hand,kN t b v (k+1)=some s/\ue t hand s (k+1)/\StIn v s (k+1):=by
 have hbr:=brP_to hl
 induction k using Nat.strongRecOn with
 | _ k ih =>
   intro hk he dF
   rcases Nat.eq_zero_or_pos k with h0 | h0
   ·subst h0
    obtain ⟨c,p,z,nE,ho⟩:=kQ hv hk
    obtain ⟨rfl,rfl,rfl⟩:=ho.zero rfl
    have fp:=yZ hv hk
    refine ⟨_,_,qb t b v,uA cJ hf hw,fun l pl h=>?_,⟨rfl,by show 0<0+1;omega,by rw [fp];exact List.mem_singleton.2 rfl,-1,nE⟩,?_⟩
    ·have cU:=(List.getElem?_eq_some_iff.1 h).1
     have oL:l<(zh t.args.length 0 []).length:=cU
     rw [zl] at oL
     have h':(zh t.args.length 0 [])[l]? = some pl:=h
     rw [ve oL] at h'
     obtain rfl:=Option.some.inj h'
     have:=kt t
     exact ⟨rfl,by show 0<0+1;omega,by rw [fp];exact List.mem_singleton.2 rfl,-1,l,[],by omega,by show []++dec l=_;rw [qD (by omega)],nE⟩
    ·rw [vj nE];rfl
   ·obtain ⟨c,p,z,ho,cD⟩:=opp_mv hv hk he h0
    have cQ:=ho.lt
    have eN:=ho.odd
    obtain ⟨z',rfl⟩:∃ z',z=z'+1:=⟨z-1,by omega⟩
    obtain ⟨s,hand,hp,hs,cr⟩:=ih z' (by omega) (by omega) (by omega) (fun i hi h=>dF i (by omega) h)
    obtain ⟨x,hx,rZ⟩:=ho.en
    have hr:=dF (z'+1) (by omega) eN
    unfold z_ at hr
    rw [hp,Option.bind_some,hx] at hr
    obtain ⟨l,ss,y,n,a,pl,hd⟩:=yu cJ hs cD h0 rZ hr
    obtain ⟨s',dy,h1,h2⟩:=hd.next (k:=k) hs (by omega) (by omega) cJ
    have fp:=xW hv hk ho (by rw [cD.opp];simp [he])
    have rM:∀ i,i∈zd v false (z'+1)->i∈zd v false (k+1):=fun i h=>by rw [fp];exact List.mem_append_left _ h
    have hkm:k∈zd v false (k+1):=by rw [fp];exact List.mem_append_right _ (by simp)
    refine ⟨s',dy,by rw [jP hv b hk h0 ho,hp,Option.bind_some,h1],h2,?_⟩
    have dL:=h1
    unfold vr at dL
    rw [hd.body] at dL
    simp only at dL
    rcases hd.mv with ⟨rfl,j,aj,sb,hpp,hj,og,mW,hat,oI⟩ | ⟨hc,hpp⟩
    ·rw [if_pos rfl,oI,mW] at dL
     obtain rfl:=Option.some.inj dL
     refine ⟨fun i pl' hi=>?_,⟨he,by show k<k+1;omega,hkm,_,ho.at'⟩,?_⟩
     ·have tU:(s.2.1++zh (jV t p) k p)[i]? = some pl':=hi
      rcases Nat.lt_or_ge i s.2.1.length with h | h
      ·rw [List.getElem?_append_left h] at tU
       obtain ⟨q1,q2,q3,q4⟩:=cr.lv i pl' tU
       exact ⟨q1,by omega,rM _ q3,q4⟩
      ·rw [List.getElem?_append_right h] at tU
       have cU:=(List.getElem?_eq_some_iff.1 tU).1
       rw [zl] at cU
       rw [ve cU] at tU
       obtain rfl:=Option.some.inj tU
       have e0:jV t p=aj.args.length:=by unfold jV;rw [hat]
       have e1:=qH _ _ _ hat
       have e2:=kt aj
       exact ⟨he,by show k<k+1;omega,hkm,_,i-s.2.1.length,p,by omega,by show p++dec _=_;rw [qD (by omega)],ho.at'⟩
     ·rw [vj ho.at',kf];rfl
    ·have sJ:¬ c=113:=by rcases hc with h | h <;> rw [h] <;> decide
     rw [if_neg sJ] at dL
     obtain rfl:=Option.some.inj dL
     refine ⟨fun i pl' hi=>?_,⟨cr.bg.1,by have:=cr.bg.2.1;show s.2.2.1<k+1;omega,rM _ cr.bg.2.2.1,cr.bg.2.2.2⟩,?_⟩
     ·obtain ⟨q1,q2,q3,q4⟩:=cr.lv i pl' hi
      exact ⟨q1,by omega,rM _ q3,q4⟩
     ·obtain ⟨mq,yq⟩:=x
      have AF:isQ (c::p)=false:=by rw [kf];simp [sJ]
      refine pend_back hk hbr ho.at' AF hx ?_ cQ cr.pend
      have hxe':mq=qt (c::p):=rZ
      rw [hxe']
      unfold qt
      rw [if_neg (fun e=>sJ (by simp only [List.cons.injEq] at e;exact e.1)),AF,if_neg (by simp)]
      rfl
theorem vt {v:Pl} {x:Bs×Int} {i:Nat} (h:i<v.length):(v++[x])[i]? = v[i]?:=List.getElem?_append_left h
theorem uX (v:Pl) (x:Bs×Int):(v++[x])[v.length]? = some x:=by rw [List.getElem?_append_right (bw _),Nat.sub_self];rfl
theorem gM {t:Ty} {v:Pl} (hv:zO t v=true) (x:Bs×Int) (o:Bool):∀ f n,n<=v.length->qS (v++[x]) o f n=qS v o f n
 | 0,_,_=>by rw [qS,qS]
 | f+1,0,_=>by rw [jK,jK]
 | f+1,n+1,hn=>by
   have e:jv (v++[x]) o n=jv v o n:=by unfold jv;rw [vt (by omega)]
   have h1:=wo hv o (n:=n) (by omega)
   rw [kB,kB,e,gM hv x o f _ (by omega)]
theorem uS {t:Ty} {v:Pl} (hv:zO t v=true) (x:Bs×Int) (o:Bool) {n:Nat} (hn:n<=v.length):zd (v++[x]) o n=zd v o n:=by
 unfold zd;rw [gM hv x o n n hn]
theorem jb (v:Pl) (x:Bs×Int):∀ (n:Nat) (ans:List Int),n<=v.length->kj (v++[x]) n ans=kj v n ans
 | 0,_,_=>rfl
 | n+1,ans,h=>by
   rw [kj,kj,vt (show n<v.length by omega),jb v x n ans (by omega)]
   cases v[n]? with
   | none=>rfl
   | some y=>simp only [jb v x n _ (by omega)]
theorem okAt_snoc (t:Ty) (v:Pl) (x:Bs×Int) {i:Nat} (h:i<v.length):q_ t (v++[x]) i=q_ t v i:=by
 have:=okAt_take t (v++[x]) h
 rw [List.take_left' rfl] at this
 exact this.symm
theorem xP {t:Ty} {v:Pl} (hv:zO t v=true) (x:Bs×Int):zO t (v++[x])=(decide (v.length<60) && q_ t (v++[x]) v.length):=by
 unfold zO at hv
 rw [Bool.and_eq_true] at hv
 have h1:qQ t (v++[x]) v.length=true:=bR fun i hi=>by rw [okAt_snoc t v x hi];exact yI hv.2 hi
 unfold zO
 rw [List.length_append,List.length_singleton,qQ,h1,Bool.true_and]
 congr 1
theorem visAt_snoc {t:Ty} {v:Pl} (hv:zO t v=true) (x:Bs×Int) {i:Nat} (h:i<v.length):vN (v++[x]) i=vN v i:=by
 unfold vN
 rw [vt h]
 cases v[i]? with
 | none=>rfl
 | some y=>simp only [uS hv x _ (Nat.le_of_lt h)]
theorem brAt_snoc (v:Pl) (x:Bs×Int) {i:Nat} (h:i<v.length):y_ (v++[x]) i=y_ v i:=by
 unfold y_
 rw [vt h]
 cases v[i]? with
 | none=>rfl
 | some y=>simp only [jb v x i _ (Nat.le_of_lt h)]
theorem xE {t:Ty} {v:Pl} (hv:zO t v=true) (hl:qO v=true) (x:Bs×Int):qO (v++[x])=(vN (v++[x]) v.length && y_ (v++[x]) v.length):=by
 unfold qO ym brP at hl ⊢
 rw [Bool.and_eq_true] at hl
 have h1:ju (vN (v++[x])) v.length=true:=gV fun i hi=>by rw [visAt_snoc hv x hi];exact up hl.1 hi
 have h2:ju (y_ (v++[x])) v.length=true:=gV fun i hi=>by rw [brAt_snoc v x hi];exact up hl.2 hi
 rw [List.length_append,List.length_singleton,ju,ju,h1,h2,Bool.true_and,Bool.true_and]
def qR (t:Ty) (b:Bd) (v:Pl):Option Pl:=if v.length=60 then none else (z_ t b v v.length).map fun x=>v++[x]
structure uN (t:Ty) (b:Bd) (v:Pl):Prop where
 ok:zO t v=true
 lg:qO v=true
 fo:zj t b v v.length
theorem uv {t:Ty} {b:Bd} {v:Pl} {x:Bs×Int} (hv:zO t (v++[x])=true) (n:Nat) (hn:n<=v.length) (hf:zj t b v n):zj t b (v++[x]) n:=fun i hi ho=>by
 have h1:=jc hv b (n:=v.length) (m:=i) (by omega) (by rw [List.length_append];omega)
 rw [List.take_left' rfl] at h1
 unfold z_
 rw [<- h1,vt (by omega)]
 exact hf i hi ho
theorem j7 {t:Ty} {b:Bd} {v:Pl} (cJ:zP t<=15) (hf:kE t.args b) (hw:wfB b) (h:uN t b v) (ho:v.length % 2=1) (dE:v.length<60) {x:Bs×Int} (hx:z_ t b v v.length=some x):uN t b (v++[x]):=by
 obtain ⟨k,hk⟩:∃ k,v.length=k+1:=⟨v.length-1,by omega⟩
 obtain ⟨s,hand,hp,hs,cr⟩:=gc cJ hf hw h.ok h.lg k (by omega) (by omega) (fun i hi ho=>h.fo i (by omega) ho)
 have fj:=hx
 unfold z_ at fj
 rw [hk,hp,Option.bind_some] at fj
 rw [<- hk] at cr hs
 have be:=uX v x
 have key:∃ (c:UInt8) (p:Bs) (i:Nat),x=(c::p,(i:Int))/\(c=113\/c=116\/c=102)/\(∃ a,atT t p=some a)/\kG (c::p)=false/\i<v.length/\¬ (c::p)=[113]/\(∃ z,v[i]? = some (qt (c::p),z))/\i∈zd v false v.length/\(isQ (c::p)=true\/(i:Int)=kj v v.length []):=by
  have tw:∀ (i:Nat) (m:Bs) (z:Int),i % 2=0->i<v.length->v[i]? = some (m,z)->kG m=true:=fun i m z h1 h2 h3=>by
   obtain ⟨c',p',z',mr,mA⟩:=kQ h.ok h2
   rw [mr] at h3
   simp only [Option.some.injEq,Prod.mk.injEq] at h3
   rw [<- h3.1,mA.opp];simp [h1]
  obtain ⟨bd,lv,bg⟩:=s
  cases bd with
  | leaf c =>
    have b_:=hs.wf
    rw [show ((Bd.leaf c,lv,bg):St).1=.leaf c from rfl,wfB] at b_
    unfold qM at fj
    simp only at fj
    split at fj
    ·simp at fj
    ·rename_i hc
     obtain rfl:=Option.some.inj fj
     have fQ:c=116\/c=102:=by
      rcases b_ with h | h | h
      ·exact .inl h
      ·exact .inr h
      ·exact absurd h hc
     have aD:¬ c=113:=by rcases fQ with h | h <;> rw [h] <;> decide
     have cE:¬ (c::bg.2)=[113]:=fun e=>aD (by simp only [List.cons.injEq] at e;exact e.1)
     have AF:isQ (c::bg.2)=false:=by rw [kf];simp [aD]
     have tY:qt (c::bg.2)=113::bg.2:=by unfold qt;rw [if_neg cE,AF,if_neg (by simp)];rfl
     obtain ⟨q1,q2,q3,z,q4⟩:=cr.bg
     refine ⟨c,bg.2,bg.1,rfl,.inr fQ,hs.bgt,?_,q2,cE,⟨z,by rw [tY];exact q4⟩,q3,.inr cr.pend.symm⟩
     have h1:=xN cE
     rw [tY,tw _ _ _ q1 q2 q4] at h1
     cases hh:kG (c::bg.2) with
     | false=>rfl
     | true=>rw [hh] at h1;simp at h1
  | ask l ss y n =>
    have cd:=hs.fit
    rw [show ((Bd.ask l ss y n,lv,bg):St).1=.ask l ss y n from rfl,kE] at cd
    obtain ⟨a,h1,_⟩:=cd
    obtain ⟨pl,hl,hat,_⟩:=hs.pf.each l a h1
    have dd:lv[l]? = some pl:=hl
    unfold qM at fj
    simp only [dd,Option.map_some] at fj
    obtain rfl:=Option.some.inj fj
    obtain ⟨q1,q2,q3,z,j,q,hj,cG,q4⟩:=cr.lv l pl hl
    have cE:¬ (113::pl.2)=[113]:=fun e=>by rw [cG] at e;simp at e
    have tY:qt (113::pl.2)=113::q:=by
     unfold qt
     rw [if_neg cE,kf,show ((113:UInt8) == 113)=true from rfl,if_pos rfl,cG,<- List.cons_append,List.dropLast_concat]
    refine ⟨113,pl.2,pl.1,rfl,.inl rfl,⟨a,hat⟩,?_,q2,cE,⟨z,by rw [tY];exact q4⟩,q3,.inl rfl⟩
    have h1:=xN cE
    rw [tY,tw _ _ _ q1 q2 q4] at h1
    cases hh:kG (113::pl.2) with
    | false=>rfl
    | true=>rw [hh] at h1;simp at h1
 obtain ⟨c,p,i,rfl,hc,⟨a,hat⟩,nH,hi,cE,⟨z,hz⟩,fp,hbr⟩:=key
 have cD:q_ t (v++[(c::p,(i:Int))]) v.length=true:=by
  unfold q_
  rw [be]
  simp only
  rw [if_neg (by omega),nH,show qm t (c::p)=true from by
   simp only [qm,hat];rcases hc with h | h | h <;> rw [h] <;> rfl,Int.toNat_natCast,vt hi,hz]
  have e1:decide (v.length % 2=0)=false:=decide_eq_false (by omega)
  have e2:((c::p) == [113])=false:=by
   cases hh:((c::p) == [113]) with
   | false=>rfl
   | true=>exact absurd (by simpa using hh) cE
  have e3:decide ((0:Int)<=(i:Int))=true:=decide_eq_true (by omega)
  have e4:decide ((i:Int)<(v.length:Int))=true:=decide_eq_true (by omega)
  rw [e1,e2,e3,e4]
  simp
 have dr:zO t (v++[(c::p,(i:Int))])=true:=by
  rw [xP h.ok,cD,decide_eq_true dE];rfl
 refine ⟨dr,?_,?_⟩
 ·rw [xE h.ok h.lg,uU be (by omega),yh be,uS h.ok _ _ (bw _),jb v _ _ _ (bw _),nH,Bool.and_eq_true]
  refine ⟨?_,?_⟩
  ·rw [List.contains_iff_mem,List.mem_map]
   exact ⟨i,fp,rfl⟩
  ·rcases hbr with h | h
   ·rw [h];rfl
   ·rw [h];simp
 ·rw [List.length_append,List.length_singleton]
  intro j hj Em
  rcases Nat.lt_or_ge j v.length with h' | h'
  ·exact uv dr v.length (bw _) h.fo j h' Em
  ·obtain rfl:j=v.length:=by omega
   have h1:=jc dr b (n:=v.length) (m:=v.length) (bw _) (by rw [List.length_append];omega)
   rw [List.take_left' rfl] at h1
   rw [be]
   unfold z_
   rw [<- h1]
   exact hx
end Go.Proofs.YtfedjhgaeikjmaaGreatDoor

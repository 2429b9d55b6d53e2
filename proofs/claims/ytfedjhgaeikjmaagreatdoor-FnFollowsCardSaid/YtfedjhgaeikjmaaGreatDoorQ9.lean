/- Walks of functions that the statement reaches, and plain words. No conditions. -/
import Derived.Test.YtfedjhgaeikjmaaGreatDoorQ8
set_option linter.unusedVariables false
set_option linter.unusedSimpArgs false
set_option maxHeartbeats 8000000
namespace Go.Proofs.YtfedjhgaeikjmaaGreatDoor
open Go.RowKit
theorem AtD_openU {F:Nat->Prop} {w:World} {l:Nat} {ss:List Bd} {y n:Bd} {begun args:List Nat} {opens:Nat} {vs:List Value} (h:zq F w (AtD (.ask l ss y n) begun args opens) vs) :
 ∃ a2 c2 a3 c3 ba bc aa ac,vs=[str [],.int .i64 (l:Nat),.slice a2 ss.length c2,.slice a3 2 c3,.slice ba begun.length bc,.slice aa args.length ac,.int .i64 (opens:Nat)] /\
   Rep F w (.sl 64 4 ss.length (kF ss)) (.slice a2 ss.length c2)/\Rep F w (.sl 64 4 2 (kF [y,n])) (.slice a3 2 c3)/\Rep F w (numD begun) (.slice ba begun.length bc)/\Rep F w (numD args) (.slice aa args.length ac):=by
 obtain ⟨a2,c2,a3,c3,ba,bc,aa,ac,e,h1,h5,h6⟩:=uW h
 obtain ⟨v,Bu,Br,a3',c3',e',h2,h3⟩:=jI h1
 simp only [List.cons.injEq,and_true,Value.slice.injEq] at e'
 obtain ⟨_,_,⟨rfl,_,rfl⟩,⟨rfl,_,rfl⟩⟩:=e'
 exact ⟨a2,c2,a3,c3,ba,bc,aa,ac,e,h2,h3,h5,h6⟩
theorem l1At_ago (F:Nat->Prop) (t a:Ty) (p:Bs) (tv:Value) (w x:World) (h:Rep F w (qZ t) tv) (ht:zW t<=15) (hp:Lim p.length) (hat:atT t p=some a) (hx:Below w.heap.size w x) :
 Calls Tryz.prog 129 #[.agg #[tv],str p] x fun en w'=>∃ ka kc,en=.returned (.tuple #[.agg #[.slice ka a.args.length kc],.bool true])/\Below x.heap.size x w'/\Rep F w (qZ a) (.slice ka a.args.length kc):=by
 have h1:Rep (fun b=>F b/\b<w.heap.size) x (qZ t) tv:=(Rep.keep fun b o hf ho=>⟨⟨hf,zZ ho⟩,by rw [hx.block _ (zZ ho)];exact ho⟩).1 _ _ h
 refine (l1At_any _ t p tv x h1 ht hp).mono ?_
 rintro en w' ⟨va,vn,vc,rfl,hb,hv⟩
 have h2:=hv a hat
 obtain ⟨ka,kc,e⟩:=zu h2
 simp only [Value.slice.injEq] at e
 obtain ⟨rfl,rfl,rfl⟩:=e
 refine ⟨va,vc,by rw [hat];rfl,hb,(Rep.keep fun b o hf ho=>⟨hf.1,by rw [<- hx.block _ hf.2];exact ho⟩).1 _ _ h2⟩
theorem pO {F:Nat->Prop} {w:World} {ns:List Nat} {x:Value} (h:Rep F w (numD ns) x) {g:Nat} {c:Array Value} {T:TypeId} {fr:Nat×Nat} (hb:w.heap[g]? = some (.cells c T fr)) (hT:3≠T):Rep (fun i=>F i/\i≠g) w (numD ns) x:=by
 unfold numD at *
 rw [qk] at *
 obtain ⟨hl,a,cap,hv,hn,hz,h⟩:=h
 refine ⟨hl,a,cap,hv,hn,hz,?_⟩
 rcases h with h | ⟨b,o,cs,fr',ha,hF,hc,hr⟩
 ·exact .inl h
 ·refine .inr ⟨b,o,cs,fr',ha,⟨hF,?_⟩,hc,?_⟩
  ·rintro rfl
   rw [hc] at hb;simp at hb;exact hT hb.2.1
  ·rw [show (ns.map fun n=>DV.val (.int .i64 (n:Nat)))=(ns.map fun n=>Value.int .i64 (n:Nat)).map DV.val from by simp [Function.comp_def]] at *
   exact (qK _ _).2 ((qK _ _).1 hr)
structure xQ (B:Nat) (xs ys:List Nat) (u v:Value) (w:World):Prop where
 l:Rep (B<=·) w (numD xs) u
 r:Rep (B<=·) w (numD ys) v
theorem xQ.below {B:Nat} {xs ys:List Nat} {u v:Value} {w w':World} (h:xQ B xs ys u v w) (hb:Below w.heap.size w w'):xQ B xs ys u v w':=⟨h.l.below hb (fun _ h=>h),h.r.below hb (fun _ h=>h)⟩
theorem xQ.notBox {B:Nat} {xs ys:List Nat} {u v:Value} {w:World} (h:xQ B xs ys u v w) {g:Nat} {c:Array Value} {T:TypeId} {fr:Nat×Nat} (hb:w.heap[g]? = some (.cells c T fr)) (h1:3≠T) (_:3≠T) :
 Rep (fun i=>B<=i/\i≠g) w (numD xs) u/\Rep (fun i=>B<=i/\i≠g) w (numD ys) v:=⟨pO h.l hb h1,pO h.r hb h1⟩
theorem xQ.but {B:Nat} {xs ys:List Nat} {u v:Value} {w w':World} {g:Nat} (_:xQ B xs ys u v w) (hb:But (fun i=>i=g) w w') (hn:Rep (fun i=>B<=i/\i≠g) w (numD xs) u/\Rep (fun i=>B<=i/\i≠g) w (numD ys) v):xQ B xs ys u v w' :=
 ⟨(Rep.keep fun i o hi ho=>⟨hi.1,by rw [hb.block i (zZ ho) hi.2];exact ho⟩).1 _ _ hn.1,(Rep.keep fun i o hi ho=>⟨hi.1,by rw [hb.block i (zZ ho) hi.2];exact ho⟩).1 _ _ hn.2⟩
theorem int_place:3≠145:=by decide
theorem AtD_mk {F:Nat->Prop} {w:World} {b:Bd} {begun args:List Nat} {opens:Nat} {y0 y1 y2 y3 u v:Value} (h1:zq F w (ke b) [y0,y1,y2,y3]) (h2:Rep F w (numD begun) u) (h3:Rep F w (numD args) v):zq F w (AtD b begun args opens) [y0,y1,y2,y3,u,v,.int .i64 (opens:Nat)]:=by
 show zq F w (ke b++[numD begun,numD args,.val (.int .i64 (opens:Nat))]) ([y0,y1,y2,y3]++[u,v,.int .i64 (opens:Nat)])
 exact zq.append h1 (zP.2 ⟨_,_,rfl,h2,zP.2 ⟨_,_,rfl,h3,zP.2 ⟨_,_,rfl,zo.2 rfl,zd.2 rfl⟩⟩⟩)
def WalkQ (s:St) (v:Pl) (w:World) (en:Ending) (w':World):Prop :=
 ∃ x0 x1 x2 x3 x4 x5 x6,en=.returned (.tuple #[.agg #[x0,x1,x2,x3,x4,x5,x6],.bool true])/\Below w.heap.size w w'/\yj (fun _=>True) w' s.1 s.2.1 s.2.2 v [x0,x1,x2,x3,x4,x5,x6]
set_option maxRecDepth 100000 in
theorem l3Walk_any (F:Nat->Prop) (t:Ty) (b:Bd) (v:Pl) (k:Nat) (s0:St) (tv mv pt:Value) (nv:List Value) (w:World) (hk:Rep F w (qZ t) tv) (hb:zq F w (ke b) nv) (hm:vU F t v mv pt w)
 (bL:zW t<=15) (hf:kB t.args b) (hw:wfB b) (bi:v.length=k+1) (eT:k % 2=0) (dY:zI t b v k) (c_:k7 t b v (k+1)=some s0) :
 Calls Tryz.prog 90 #[.agg #[tv],.agg nv.toArray,.agg #[mv,pt]] w (WalkQ s0 v w):=by
 have ci:=ze hm.ok
 have VC:=bU (pr hm.ok k (by omega) eT)
 have FO:=bU (bY dY c_)
 have FIT:=bU (uG (b:=b) bL hf hw)
 have cS:0<v.length:=by omega
 obtain ⟨vi,a2,c2,a3,c3,rfl,_,_⟩:=jI hb
 obtain ⟨ta,tc,rfl⟩:=zu hk
 obtain ⟨ma,mc,rfl,cH⟩:=hm.m.cells
 obtain ⟨pa,pc,rfl,cw⟩:=hm.p.cells
 generalize hq0:jx b=q0 at *
 generalize nC:(qg b).length=q2 at *
 generalize hq3:(jk b).length=q3 at *
 obtain ⟨W,hW,bM,hz,b0,b1,b2,b3⟩:=boxes_4 w (.cells #[.slice ta t.args.length tc] 61) (.cells #[str q0,.int .i64 vi,.slice a2 q2 c2,.slice a3 q3 c3] 64) (.cells #[.slice ma v.length mc,.slice pa v.length pc] 33) (.cells #[str [],.int .i64 0,.slice none 0 0,.slice none 0 0,.slice none 0 0,.slice none 0 0,.int .i64 0] 145)
 obtain ⟨c0,c1,_,_⟩:=zJ b2
 have CV:=yi F t v false v.length _ _ W (hm.below bM).m (hm.below bM).p hm.ok cS (bX _) hm.l
 rw [show ((pX false:Nat):Int)=1 from rfl] at CV
 have CV:=bU CV
 have HI:=bU (bY hk (bY hb (bY cH (bY bL (bY hm.ok hm)))))
 have HW:=bU (bY hW (bY bM (bY hz (bY b0 (bY b1 (bY b2 b3))))))
 have HK:=bU bi
 clear hW bM hz b0 b1 b2 b3 hk hb hm bL cH cw hf hw dY c_ bi
 go_enter Tryz.func90,Tryz.ntmps90
 go_upto_region 1 with (fail)
 rw [HW.out.1]
 go_wp2_with fail
 (with_reducible refine CV.out.mono ?_)
 rintro en w2 ⟨vv,rfl,bN,lw⟩
 rw [HK.out] at lw
 generalize nR:kW v false (k+1)=vw at *
 obtain ⟨vb,vo,vc,rfl,mS,sO⟩:=lw
 obtain ⟨z0,fq⟩:∃ z0:Nat,z0=0:=⟨_,rfl⟩
 have h0:w2.cell? ⟨vb,vo,none⟩=some (.int .i64 (z0:Nat)):=by rw [fq];exact sO 0 0 VC.out.zero
 have HZ:=bU fq
 have hvp:0<vw.length:=(List.getElem?_eq_some_iff.1 VC.out.zero).1
 have hvpI:(0:Int)<(vw.length:Int):=by omega
 have oX:Below w.heap.size w w2:=zzT HW.out.2.1 bN
 have ip:Hid (∀ x,Below w2.heap.size w2 x->(x.cell? ⟨w.heap.size+1,0,none⟩=some (str q0)/\x.cell? ⟨w.heap.size+1,1,none⟩=some (.int .i64 vi)/\x.cell? ⟨w.heap.size+1,2,none⟩=some (.slice a2 q2 c2)/\x.cell? ⟨w.heap.size+1,3,none⟩=some (.slice a3 q3 c3))/\x.cell? ⟨w.heap.size,0,none⟩=some (.slice ta t.args.length tc)/\x.cell? ⟨vb,vo,none⟩=some (.int .i64 (z0:Nat))):=bU (fun x hx=>by
  have key:∀ {p:Addr} {u:Value},W.cell? p=some u->x.cell? p=some u:=fun h=>(hx.cell (bH (bW _ _ h) bN.size)).trans ((bN.cell (bW _ _ h)).trans h)
  obtain ⟨i0,i1,i2,i3⟩:=zl HW.out.2.2.2.2.1
  exact ⟨⟨key i0,key i1,key i2,key i3⟩,key (kP HW.out.2.2.2.1),(hx.cell (bW _ _ h0)).trans h0⟩)
 have oU:∀ (F:Nat->Prop) (x:World),Rep F x (numD []) (.slice none 0 0):=fun F x=>qk.2 ⟨rfl,none,0,rfl,bX _,fun _=>rfl,.inl rfl⟩
 have d_:=kd t
 have h15':=HI.out.2.2.2.1
 have CBG:Hid (∀ x,Below w2.heap.size w2 x->Calls Tryz.prog 128 #[.agg #[str [],.int .i64 0,.slice none 0 0,.slice none 0 0,.slice none 0 0,.slice none 0 0,.int .i64 0],.agg #[str q0,.int .i64 vi,.slice a2 q2 c2,.slice a3 q3 c3],.agg #[.slice ta t.args.length tc],.int .i64 (z0:Nat)] x fun en w'=>∃ ba bc aa ac,en=.returned (.agg #[str q0,.int .i64 vi,.slice a2 q2 c2,.slice a3 q3 c3,.slice ba t.args.length bc,.slice aa t.args.length ac,.int .i64 (z0:Nat)])/\Below x.heap.size x w'/\xQ w2.heap.size (List.replicate t.args.length z0) (List.range t.args.length) (.slice ba t.args.length bc) (.slice aa t.args.length ac) w'):=bU (fun x hx=>by
  refine (wl F [] [] [] 0 none 0 0 none 0 0 none 0 none 0 0 q0 vi a2 q2 c2 a3 q3 c3 t (.slice ta t.args.length tc) z0 x (oU _ _) (oU _ _) (((HI.out.1.below oX fun _ h=>h)).below hx fun _ h=>h) (by omega) (by simp) (by simp)).mono ?_
  rintro en w' ⟨ba,bc,aa,ac,rfl,hb,h1,h2⟩
  simp only [List.length_nil,Nat.zero_add,List.nil_append] at h1 h2 ⊢
  have hz:=hx.size
  exact ⟨ba,bc,aa,ac,rfl,hb,⟨(Rep.keep fun i o hi ho=>⟨bC hz hi,ho⟩).1 _ _ h1,(Rep.keep fun i o hi ho=>⟨bC hz hi,ho⟩).1 _ _ h2⟩⟩)
 have H2:=bU (bY bN (bY mS (bY sO oX)))
 clear fq bN mS sO c0 c1 CV nR oX oU h15' h0
 go_upto_region 2 with (fail)
 refine ji (X:=Option Addr×Nat×Option Addr×Nat×Nat) (fun zz x=>((((((((zz.put (some 21) (.agg #[str [],.int .i64 0,.slice none 0 0,.slice none 0 0,.slice none 0 0,.slice none 0 0,.int .i64 0])).put (some 22) (.agg #[str q0,.int .i64 vi,.slice a2 q2 c2,.slice a3 q3 c3])).put (some 23) (.agg #[.slice ta t.args.length tc])).put (some 24) (.slice (some ⟨vb,vo,none⟩) vw.length vc)).put (some 25) (.pointer (some ⟨vb,vo,none⟩))).put (some 26) (.int .i64 (z0:Nat))).put (some 27) (.agg #[str q0,.int .i64 vi,.slice a2 q2 c2,.slice a3 q3 c3,.slice x.1 t.args.length x.2.1,.slice x.2.2.1 t.args.length x.2.2.2.1,.int .i64 (z0:Nat)])).put (some 9) (.pointer (some ⟨x.2.2.2.2,0,none⟩)))) (fun x w7=>Below w2.heap.size w2 w7/\w7.heap[x.2.2.2.2]? = some (.cells #[str q0,.int .i64 vi,.slice a2 q2 c2,.slice a3 q3 c3,.slice x.1 t.args.length x.2.1,.slice x.2.2.1 t.args.length x.2.2.2.1,.int .i64 (z0:Nat)] 145 (0,0))/\w2.heap.size<=x.2.2.2.2/\xQ w2.heap.size (List.replicate t.args.length z0) (List.range t.args.length) (.slice x.1 t.args.length x.2.1) (.slice x.2.2.1 t.args.length x.2.2.2.1) w7) ?_ ?_
 ·refine wp_region_noPanic ?_
  refine zX (fun w'=>Below w2.heap.size w2 w') (fun _=>false) (by kernel_rfl) ?_
  obtain ⟨y0,cM⟩:=zzN (w2.drew)
  rw [cM]
  have bO:Below w2.heap.size w2 y0:=by rw [<- cM];exact Below.drew (bP _ _)
  obtain ⟨dr,dH⟩:∃ x:Nat->Nat,x=fun _=>0:=⟨_,rfl⟩
  clear cM dH
  refine tk [0,1] bO ?_
  (intro d hd;simp [tkD] at hd;subst hd;simp only [tks,pQ,pZ,pS])
  iterate 2 (refine ⟨?_,?_,?_⟩;rotate_left;· (intro oi ho;simp at ho;subst ho;refine Or.inl ⟨by rfl,fun w' bR=>?_⟩;obtain ⟨⟨e0,e1,e2,e3⟩,_⟩:=ip.out w' bR;go_simp;try with_reducible rfl))
  refine tk [2,3,4] bO ?_
  (intro d hd;simp [tkD] at hd;subst hd;simp only [tks,pQ,pZ,pS])
  iterate 3 (refine ⟨?_,?_,?_⟩;rotate_left;· (intro oi ho;simp at ho;subst ho;refine Or.inl ⟨by rfl,fun w' bR=>?_⟩;have e0:=(ip.out w' bR).2.1;go_simp;try with_reducible rfl))
  refine tk [5] bO ?_
  (intro d hd;simp [tkD] at hd;subst hd;simp only [tks,pQ,pZ,pS])
  (refine ⟨?_,?_,?_⟩;rotate_left;· (intro oi ho;simp at ho;subst ho;refine Or.inl ⟨by rfl,fun w' bR=>?_⟩;have e0:=(ip.out w' bR).2.2;go_simp;try with_reducible rfl))
  refine kK 6 7 (by kernel_rfl) ?_ ?_
  ·(intro o6 ho K' hK;simp at ho;subst ho)
   go_simp
   go_at_call 128
   (with_reducible refine (CBG.out _ bO).mono ?_)
   rintro en y1 ⟨ba,bc,aa,ac,rfl,hb,Cv⟩
   have CP:Hid (xQ w2.heap.size (List.replicate t.args.length z0) (List.range t.args.length) (.slice ba t.args.length bc) (.slice aa t.args.length ac) y1):=Cv
   clear Cv
   have bj:Below w2.heap.size w2 y1:=zzT bO hb
   have tC:=bU hb;clear hb
   (refine hK.out _ _ (fun _=>bj) ?_;clear hK K';try simp only [pQ,pN,pZ,pS])
   (refine on 7 ?_;intro o ho K' hK;simp at ho;subst ho;go_simp)
   (refine hK.out _ _ (fun _=>bj.alloc bj.size _) ?_;clear hK K';try simp only [pQ,pN,pZ,pS])
   obtain ⟨y2,bD⟩:=zzN (y1.alloc (.cells #[str [],.int .i64 0,.slice none 0 0,.slice none 0 0,.slice none 0 0,.slice none 0 0,.int .i64 0] 145))
   obtain ⟨gA,cQ⟩:=zzN (y1.heap.size)
   rw [bD,cQ]
   have cK:Below w2.heap.size w2 y2:=by rw [<- bD];exact bj.alloc bj.size _
   obtain ⟨fZ,bT⟩:=zzN (zF dr gA 1)
   have CP:Hid (xQ w2.heap.size (List.replicate t.args.length z0) (List.range t.args.length) (.slice ba t.args.length bc) (.slice aa t.args.length ac) y2):=by rw [<- bD];exact CP.out.below ((bP _ _).alloc (bX _) _)
   have EA:Hid (y2.heap[gA]? = some (.cells #[str [],.int .i64 0,.slice none 0 0,.slice none 0 0,.slice none 0 0,.slice none 0 0,.int .i64 0] 145 (0,0))/\fZ gA=1/\w2.heap.size<=gA):=by rw [<- bD,<- bT,<- cQ];exact ⟨zS _ _,by unfold zF;rw [if_pos rfl],bj.size⟩
   clear bD cQ bT
   (refine on 8 ?_;intro o ho K' hK;simp at ho;subst ho)
   obtain ⟨uA0,cA0⟩:∃ u,y2.cell? ⟨gA,0,none⟩=some u:=⟨_,by simp [World.cell?,EA.out.1];rfl⟩
   have fA0:y2.frozen? ⟨gA,0,none⟩=false:=by simp [World.frozen?,EA.out.1]
   obtain ⟨uA1,cA1⟩:∃ u,y2.cell? ⟨gA,1,none⟩=some u:=⟨_,by simp [World.cell?,EA.out.1];rfl⟩
   have fA1:y2.frozen? ⟨gA,1,none⟩=false:=by simp [World.frozen?,EA.out.1]
   obtain ⟨uA2,cA2⟩:∃ u,y2.cell? ⟨gA,2,none⟩=some u:=⟨_,by simp [World.cell?,EA.out.1];rfl⟩
   have fA2:y2.frozen? ⟨gA,2,none⟩=false:=by simp [World.frozen?,EA.out.1]
   obtain ⟨uA3,cA3⟩:∃ u,y2.cell? ⟨gA,3,none⟩=some u:=⟨_,by simp [World.cell?,EA.out.1];rfl⟩
   have fA3:y2.frozen? ⟨gA,3,none⟩=false:=by simp [World.frozen?,EA.out.1]
   obtain ⟨uA4,cA4⟩:∃ u,y2.cell? ⟨gA,4,none⟩=some u:=⟨_,by simp [World.cell?,EA.out.1];rfl⟩
   have fA4:y2.frozen? ⟨gA,4,none⟩=false:=by simp [World.frozen?,EA.out.1]
   obtain ⟨uA5,cA5⟩:∃ u,y2.cell? ⟨gA,5,none⟩=some u:=⟨_,by simp [World.cell?,EA.out.1];rfl⟩
   have fA5:y2.frozen? ⟨gA,5,none⟩=false:=by simp [World.frozen?,EA.out.1]
   obtain ⟨uA6,cA6⟩:∃ u,y2.cell? ⟨gA,6,none⟩=some u:=⟨_,by simp [World.cell?,EA.out.1];rfl⟩
   have fA6:y2.frozen? ⟨gA,6,none⟩=false:=by simp [World.frozen?,EA.out.1]
   go_simp
   (refine hK.out _ _ (fun _=>(((((((cK.setCell (p:=⟨gA,0,none⟩) EA.out.2.2 _).setCell (p:=⟨gA,1,none⟩) EA.out.2.2 _).setCell (p:=⟨gA,2,none⟩) EA.out.2.2 _).setCell (p:=⟨gA,3,none⟩) EA.out.2.2 _).setCell (p:=⟨gA,4,none⟩) EA.out.2.2 _).setCell (p:=⟨gA,5,none⟩) EA.out.2.2 _).setCell (p:=⟨gA,6,none⟩) EA.out.2.2 _)) ?_;clear hK K';try simp only [pQ,pN,pZ,pS])
   obtain ⟨y3,bD⟩:=zzN ((((((((y2.setCell ⟨gA,0,none⟩ (str q0)).setCell ⟨gA,1,none⟩ (.int .i64 vi)).setCell ⟨gA,2,none⟩ (.slice a2 q2 c2)).setCell ⟨gA,3,none⟩ (.slice a3 q3 c3)).setCell ⟨gA,4,none⟩ (.slice ba t.args.length bc)).setCell ⟨gA,5,none⟩ (.slice aa t.args.length ac)).setCell ⟨gA,6,none⟩ (.int .i64 (z0:Nat))))
   rw [bD]
   have ce:Below w2.heap.size w2 y3:=by rw [<- bD];exact (((((((cK.setCell (p:=⟨gA,0,none⟩) EA.out.2.2 _).setCell (p:=⟨gA,1,none⟩) EA.out.2.2 _).setCell (p:=⟨gA,2,none⟩) EA.out.2.2 _).setCell (p:=⟨gA,3,none⟩) EA.out.2.2 _).setCell (p:=⟨gA,4,none⟩) EA.out.2.2 _).setCell (p:=⟨gA,5,none⟩) EA.out.2.2 _).setCell (p:=⟨gA,6,none⟩) EA.out.2.2 _)
   have bf:But (fun i=>i=gA) y2 y3:=by rw [<- bD];exact ((((((((But.refl (fun i=>i=gA) y2).setCell (p:=⟨gA,0,none⟩) (.inl rfl) _).setCell (p:=⟨gA,1,none⟩) (.inl rfl) _).setCell (p:=⟨gA,2,none⟩) (.inl rfl) _).setCell (p:=⟨gA,3,none⟩) (.inl rfl) _).setCell (p:=⟨gA,4,none⟩) (.inl rfl) _).setCell (p:=⟨gA,5,none⟩) (.inl rfl) _).setCell (p:=⟨gA,6,none⟩) (.inl rfl) _)
   have bT:∀ g,g=gA->fZ g=1:=fun g e=>by rw [e];exact EA.out.2.1
   have CP:Hid (xQ w2.heap.size (List.replicate t.args.length z0) (List.range t.args.length) (.slice ba t.args.length bc) (.slice aa t.args.length ac) y3):=CP.out.but bf (CP.out.notBox EA.out.1 (by decide) (by decide))
   have EA:Hid (y3.heap[gA]? = some (.cells #[str q0,.int .i64 vi,.slice a2 q2 c2,.slice a3 q3 c3,.slice ba t.args.length bc,.slice aa t.args.length ac,.int .i64 (z0:Nat)] 145 (0,0))/\fZ gA=1/\w2.heap.size<=gA):=⟨by rw [<- bD];exact (zK (zK (zK (zK (zK (zK (zK EA.out.1))))))),EA.out.2⟩
   clear bD bf bT cA0 fA0 cA1 fA1 cA2 fA2 cA3 fA3 cA4 fA4 cA5 fA5 cA6 fA6
   refine zU (by kernel_rfl) (NoPanic.normal ?_) _
   exact ⟨rfl,⟨ba,bc,aa,ac,gA⟩,by rfl,ce,EA.out.1,EA.out.2.2,CP.out⟩
  ·(intro o7 ho K' hK;simp at ho;subst ho)
   go_simp
   (refine hK.out _ _ (fun _=>bO.alloc bO.size _) ?_;clear hK K';try simp only [pQ,pN,pZ,pS])
   obtain ⟨y4,bD⟩:=zzN (y0.alloc (.cells #[str [],.int .i64 0,.slice none 0 0,.slice none 0 0,.slice none 0 0,.slice none 0 0,.int .i64 0] 145))
   obtain ⟨gA,cQ⟩:=zzN (y0.heap.size)
   rw [bD,cQ]
   have dj:Below w2.heap.size w2 y4:=by rw [<- bD];exact bO.alloc bO.size _
   obtain ⟨oQ,bT⟩:=zzN (zF dr gA 1)
   have EA:Hid (y4.heap[gA]? = some (.cells #[str [],.int .i64 0,.slice none 0 0,.slice none 0 0,.slice none 0 0,.slice none 0 0,.int .i64 0] 145 (0,0))/\oQ gA=1/\w2.heap.size<=gA):=by rw [<- bD,<- bT,<- cQ];exact ⟨zS _ _,by unfold zF;rw [if_pos rfl],bO.size⟩
   clear bD cQ bT
   (refine on 6 ?_;intro o ho K' hK;simp at ho;subst ho;go_simp)
   go_at_call 128
   (with_reducible refine (CBG.out _ dj).mono ?_)
   rintro en y5 ⟨ba,bc,aa,ac,rfl,hb,Cv⟩
   have CP:Hid (xQ w2.heap.size (List.replicate t.args.length z0) (List.range t.args.length) (.slice ba t.args.length bc) (.slice aa t.args.length ac) y5):=Cv
   clear Cv
   have dT:Below w2.heap.size w2 y5:=zzT dj hb
   have EA:Hid (y5.heap[gA]? = some (.cells #[str [],.int .i64 0,.slice none 0 0,.slice none 0 0,.slice none 0 0,.slice none 0 0,.int .i64 0] 145 (0,0))/\oQ gA=1/\w2.heap.size<=gA):=⟨(hb.block _ (zZ EA.out.1)).trans EA.out.1,EA.out.2⟩
   have hby5:=bU hb;clear hb
   (refine hK.out _ _ (fun _=>dT) ?_;clear hK K';try simp only [pQ,pN,pZ,pS])
   (refine on 8 ?_;intro o ho K' hK;simp at ho;subst ho)
   obtain ⟨uA0,cA0⟩:∃ u,y5.cell? ⟨gA,0,none⟩=some u:=⟨_,by simp [World.cell?,EA.out.1];rfl⟩
   have fA0:y5.frozen? ⟨gA,0,none⟩=false:=by simp [World.frozen?,EA.out.1]
   obtain ⟨uA1,cA1⟩:∃ u,y5.cell? ⟨gA,1,none⟩=some u:=⟨_,by simp [World.cell?,EA.out.1];rfl⟩
   have fA1:y5.frozen? ⟨gA,1,none⟩=false:=by simp [World.frozen?,EA.out.1]
   obtain ⟨uA2,cA2⟩:∃ u,y5.cell? ⟨gA,2,none⟩=some u:=⟨_,by simp [World.cell?,EA.out.1];rfl⟩
   have fA2:y5.frozen? ⟨gA,2,none⟩=false:=by simp [World.frozen?,EA.out.1]
   obtain ⟨uA3,cA3⟩:∃ u,y5.cell? ⟨gA,3,none⟩=some u:=⟨_,by simp [World.cell?,EA.out.1];rfl⟩
   have fA3:y5.frozen? ⟨gA,3,none⟩=false:=by simp [World.frozen?,EA.out.1]
   obtain ⟨uA4,cA4⟩:∃ u,y5.cell? ⟨gA,4,none⟩=some u:=⟨_,by simp [World.cell?,EA.out.1];rfl⟩
   have fA4:y5.frozen? ⟨gA,4,none⟩=false:=by simp [World.frozen?,EA.out.1]
   obtain ⟨uA5,cA5⟩:∃ u,y5.cell? ⟨gA,5,none⟩=some u:=⟨_,by simp [World.cell?,EA.out.1];rfl⟩
   have fA5:y5.frozen? ⟨gA,5,none⟩=false:=by simp [World.frozen?,EA.out.1]
   obtain ⟨uA6,cA6⟩:∃ u,y5.cell? ⟨gA,6,none⟩=some u:=⟨_,by simp [World.cell?,EA.out.1];rfl⟩
   have fA6:y5.frozen? ⟨gA,6,none⟩=false:=by simp [World.frozen?,EA.out.1]
   go_simp
   (refine hK.out _ _ (fun _=>(((((((dT.setCell (p:=⟨gA,0,none⟩) EA.out.2.2 _).setCell (p:=⟨gA,1,none⟩) EA.out.2.2 _).setCell (p:=⟨gA,2,none⟩) EA.out.2.2 _).setCell (p:=⟨gA,3,none⟩) EA.out.2.2 _).setCell (p:=⟨gA,4,none⟩) EA.out.2.2 _).setCell (p:=⟨gA,5,none⟩) EA.out.2.2 _).setCell (p:=⟨gA,6,none⟩) EA.out.2.2 _)) ?_;clear hK K';try simp only [pQ,pN,pZ,pS])
   obtain ⟨y6,bD⟩:=zzN ((((((((y5.setCell ⟨gA,0,none⟩ (str q0)).setCell ⟨gA,1,none⟩ (.int .i64 vi)).setCell ⟨gA,2,none⟩ (.slice a2 q2 c2)).setCell ⟨gA,3,none⟩ (.slice a3 q3 c3)).setCell ⟨gA,4,none⟩ (.slice ba t.args.length bc)).setCell ⟨gA,5,none⟩ (.slice aa t.args.length ac)).setCell ⟨gA,6,none⟩ (.int .i64 (z0:Nat))))
   rw [bD]
   have cP:Below w2.heap.size w2 y6:=by rw [<- bD];exact (((((((dT.setCell (p:=⟨gA,0,none⟩) EA.out.2.2 _).setCell (p:=⟨gA,1,none⟩) EA.out.2.2 _).setCell (p:=⟨gA,2,none⟩) EA.out.2.2 _).setCell (p:=⟨gA,3,none⟩) EA.out.2.2 _).setCell (p:=⟨gA,4,none⟩) EA.out.2.2 _).setCell (p:=⟨gA,5,none⟩) EA.out.2.2 _).setCell (p:=⟨gA,6,none⟩) EA.out.2.2 _)
   have bf:But (fun i=>i=gA) y5 y6:=by rw [<- bD];exact ((((((((But.refl (fun i=>i=gA) y5).setCell (p:=⟨gA,0,none⟩) (.inl rfl) _).setCell (p:=⟨gA,1,none⟩) (.inl rfl) _).setCell (p:=⟨gA,2,none⟩) (.inl rfl) _).setCell (p:=⟨gA,3,none⟩) (.inl rfl) _).setCell (p:=⟨gA,4,none⟩) (.inl rfl) _).setCell (p:=⟨gA,5,none⟩) (.inl rfl) _).setCell (p:=⟨gA,6,none⟩) (.inl rfl) _)
   have bT:∀ g,g=gA->oQ g=1:=fun g e=>by rw [e];exact EA.out.2.1
   have CP:Hid (xQ w2.heap.size (List.replicate t.args.length z0) (List.range t.args.length) (.slice ba t.args.length bc) (.slice aa t.args.length ac) y6):=CP.out.but bf (CP.out.notBox EA.out.1 (by decide) (by decide))
   have EA:Hid (y6.heap[gA]? = some (.cells #[str q0,.int .i64 vi,.slice a2 q2 c2,.slice a3 q3 c3,.slice ba t.args.length bc,.slice aa t.args.length ac,.int .i64 (z0:Nat)] 145 (0,0))/\oQ gA=1/\w2.heap.size<=gA):=⟨by rw [<- bD];exact (zK (zK (zK (zK (zK (zK (zK EA.out.1))))))),EA.out.2⟩
   clear bD bf bT cA0 fA0 cA1 fA1 cA2 fA2 cA3 fA3 cA4 fA4 cA5 fA5 cA6 fA6
   refine zU (by kernel_rfl) (NoPanic.normal ?_) _
   exact ⟨rfl,⟨ba,bc,aa,ac,gA⟩,by rfl,cP,EA.out.1,EA.out.2.2,CP.out⟩
 rintro ⟨ba,bc,aa,ac,gA⟩ Y ⟨hY,Eh,cQ,hNQ⟩
 dsimp only at Eh cQ hNQ
 simp only [pQ,pN,pZ,pS]
 clear ip CBG
 have i6:=HW.out.2.2.1
 have nT:=H2.out.1.size
 have nX:=bU (bY i6 (bY nT cQ))
 have hwY:Below w.heap.size w Y:=zzT H2.out.2.2.2 hY
 have hWY:Below W.heap.size W Y:=zzT H2.out.1 hY
 have nS:v[0]? = some ([113],-1):=by
  obtain ⟨c,p,z,hv,ho⟩:=kV HI.out.2.2.2.2.1 cS
  obtain ⟨rfl,rfl,rfl⟩:=ho.zero rfl
  exact hv
 have eh:Hid (yj (fun g=>g≠gA/\g≠w.heap.size+3) Y (uH t b).1 (uH t b).2.1 (uH t b).2.2 v [str q0,.int .i64 vi,.slice a2 q2 c2,.slice a3 q3 c3,.slice ba t.args.length bc,.slice aa t.args.length ac,.int .i64 (z0:Nat)]):=bU (by
  have h0:yH [] (0,[]) v [] [] 0:=⟨rfl,rfl,fun i pl h=>by simp at h,rfl,113,-1,nS⟩
  have h1:=h0.kid t.args.length 0 [] (by have:=HI.out.2.2.2.1;omega) nS
  simp only [List.nil_append] at h1
  have fq:=HZ.out
  subst fq
  refine ⟨_,_,_,h1,AtD_mk (b:=b) ?_ ?_ ?_⟩
  ·exact (Rep.keep fun i o _ ho=>⟨by have:=zZ ho;omega,by rw [hwY.block _ (zZ ho)];exact ho⟩).2 _ _ HI.out.2.1
  ·exact (Rep.keep fun i o hi ho=>⟨⟨hi.2,by have:=hi.1;omega⟩,ho⟩).1 _ _ (pO hNQ.l Eh int_place)
  ·exact (Rep.keep fun i o hi ho=>⟨⟨hi.2,by have:=hi.1;omega⟩,ho⟩).1 _ _ (pO hNQ.r Eh int_place))
 have HY:=bU (bY hwY (bY hWY (bY hY Eh)))
 clear hwY hWY hY Eh hNQ i6 nT nS cQ
 go_wp2_with fail
 go_loopw [10] (fun i wr=>∃ (wz:World) (j e:Nat) (s:St) (hand:List Ty) (x0 x1 x2 x3 x4 x5 x6:Value),wz=wr/\i=.int .i64 ((2*j+2:Nat):Int)/\vw[2*j]? = some e/\k7 t b v (e+1)=some s/\uv t hand s (e+1)/\wz.heap[gA]? = some (.cells #[x0,x1,x2,x3,x4,x5,x6] 145 (0,0))/\yj (fun g=>g≠gA/\g≠w.heap.size+3) wz s.1 s.2.1 s.2.2 v [x0,x1,x2,x3,x4,x5,x6]/\But (fun g=>g=gA) Y wz) (fun i _=>vw.length+2-(intOf i).toNat)
 case atStart =>
  exact ⟨_,0,0,uH t b,t.args,_,_,_,_,_,_,_,rfl,rfl,VC.out.zero,jr t b v,FIT.out,HY.out.2.2.2,eh.out,But.refl _ _⟩
 case round =>
  obtain ⟨wr,j,e,s,hand,x0,x1,x2,x3,x4,x5,x6,rfl,rfl,rA,bw,cJ,mY,dB,hB⟩:=hrel
  obtain ⟨lenE,Dk⟩:e<=k/\2*j<vw.length:=⟨VC.out.all _ _ rA,(List.getElem?_eq_some_iff.1 rA).1⟩
  have lK:=VC.out.len
  have BU:=HK.out
  have hAY:gA<Y.heap.size:=zZ HY.out.2.2.2
  obtain ⟨i2,nE⟩:=zzM (2*j+2)
  rw [<- nE]
  have iQ:Below w.heap.size w wr:=HY.out.1.trans (hB.toBelow (by have:=HY.out.1.size;omega) fun i hi e1=>by have h1:=nX.out;omega)
  have HB:=bU (bY hB iQ)
  have eZ:=bU (bY dB (bY mY (bY cJ bw)))
  have hWr:∀ i o,W.heap[i]? = some o->i≠gA->wr.heap[i]? = some o:=fun i o h bm=>by
   have hl:=zZ h
   rw [HB.out.1.block i (by have:=HY.out.2.1.size;omega) bm,HY.out.2.1.block i hl];exact h
  have g0:w.heap.size≠gA:=by have:=nX.out;omega
  have g2:w.heap.size+1+1≠gA:=by have:=nX.out;omega
  have g3:w.heap.size+3≠gA:=by have:=nX.out;omega
  have R0:=hWr _ _ HW.out.2.2.2.1 g0
  have R2:=hWr _ _ HW.out.2.2.2.2.2.1 g2
  have R3:=hWr _ _ HW.out.2.2.2.2.2.2 g3
  have HR:=bU (bY R0 (bY R2 R3))
  clear hB iQ dB mY hWr g0 g2 g3 R0 R2 R3
  by_cases bA:i2<vw.length
  ·have cT:(i2:Int)<(vw.length:Int):=by omega
   obtain ⟨e1,e',c,p,h1,h2,h3,h4,h5,h6,h7⟩:=VC.out.step j (by omega)
   obtain rfl:e1=e:=Option.some.inj (h1.symm.trans rA)
   have hr:=FO.out.1 (e1+1) (by have:=h6.lt;omega) h6.odd
   obtain ⟨x,hx,rS⟩:=h6.en
   unfold kZ at hr
   rw [bw,Option.bind_some,hx] at hr
   obtain ⟨l,ss,y,nn,a,pl,hd⟩:=yF HI.out.2.2.2.1 cJ h7 h4 rS hr
   obtain ⟨s',dR,cD,dC⟩:=hd.next (k:=e') cJ (by have:=h6.lt;omega) (by omega) HI.out.2.2.2.1
   have mZ:k7 t b v (e'+1)=some s':=by rw [j9 HI.out.2.2.2.2.1 b (by omega) h4 h6,bw,Option.bind_some,cD]
   have he'v:(e':Int)<(v.length:Int):=by omega
   obtain ⟨mb,mo,rfl,_,cr,cf⟩:=HI.out.2.2.1 e' _ h6.at'
   have sU:vw[i2]? = some e':=by rw [nE];exact h2
   obtain ⟨begun,args,opens,nA,hat⟩:=eZ.out.1
   obtain ⟨b',lv,bg⟩:=s
   have d9:b'=.ask l ss y nn:=hd.body
   subst d9
   obtain ⟨n2,d2,n3,d3,na,da,nb,db,ex,lT,iZ,DW,D_⟩:=AtD_openU hat
   simp only [List.cons.injEq,and_true] at ex
   obtain ⟨rfl,rfl,rfl,rfl,rfl,rfl,rfl⟩:=ex
   have HN:=bU (bY mZ (bY dC (bY (show vw[2*(j+1)]? = some e' from h2) (show i2+2=2*(j+1)+2 by omega))))
   have HD:=bU (bY hd (bY cD (bY h6 (bY h7 sU))))
   have HT:=bU (bY nA (bY lT (bY iZ (bY DW D_))))
   have bI:=hd.len
   have aN:=qP _ _ _ hd.hat
   have tR:=kd a
   have dm:=cJ.ll
   have tJ:lv.length<=8*(e1+1):=dm
   have Bv:=bU (bY bI (bY aN (bY tR tJ)))
   obtain ⟨M,hM⟩:=zzM (c::p)
   rw [<- hM] at cf
   have KEY:=bU (fun (y:World) (hy:Below wr.heap.size wr y)=>(show (y.cell? ⟨gA,0,none⟩=some (str [])/\y.cell? ⟨gA,1,none⟩=some (.int .i64 (l:Nat))/\y.cell? ⟨gA,2,none⟩=some (.slice n2 ss.length d2)/\y.cell? ⟨gA,3,none⟩=some (.slice n3 2 d3)/\y.cell? ⟨gA,4,none⟩=some (.slice na begun.length da)/\y.cell? ⟨gA,5,none⟩=some (.slice nb args.length db)/\y.cell? ⟨gA,6,none⟩=some (.int .i64 (opens:Nat)))/\y.cell? ⟨w.heap.size+2,0,none⟩=some (.slice (some ⟨mb,mo,none⟩) v.length mc)/\y.cell? ⟨vb,vo+i2,none⟩=some (.int .i64 (e':Nat))/\y.cell? ⟨mb,mo+e',none⟩=some (str M)/\y.cell? ⟨w.heap.size,0,none⟩=some (.slice ta t.args.length tc) from by
    have hk:∀ (a:Addr) (u:Value),wr.cell? a=some u->y.cell? a=some u:=fun a u h=>(hy.cell (bW _ _ h)).trans h
    have i_:∀ (a:Addr) (u:Value),w.cell? a=some u->y.cell? a=some u:=fun a u h=>hk a u ((HB.out.2.cell (bW _ _ h)).trans h)
    obtain ⟨q0,q1,q2,q3,q4,q5,q6⟩:=qh eZ.out.2.1
    obtain ⟨k0,_⟩:=zJ HR.out.2.1
    refine ⟨⟨hk _ _ q0,hk _ _ q1,hk _ _ q2,hk _ _ q3,hk _ _ q4,hk _ _ q5,hk _ _ q6⟩,hk _ _ k0,?_,i_ _ _ cf,hk _ _ (kP HR.out.1)⟩
    have Di:=H2.out.2.1
    refine hk _ _ ((HB.out.1.cell (p:=⟨vb,vo+i2,none⟩) (by show vb<_;have:=HY.out.2.2.1.size;omega) (by show vb≠gA;have:=nX.out;omega)).trans ?_)
    exact (HY.out.2.2.1.cell (p:=⟨vb,vo+i2,none⟩) Di).trans (H2.out.2.2.1 i2 e' sU)))
   have rQ:IntKind.i64.wrap ((i2:Int)+2)=((i2+2:Nat):Int):=by rw [qD _ (by omega) (by omega)];omega
   have dS:0<M.length:=by rw [hM];simp
   have nJ:(0:Int)<(M.length:Int):=by omega
   have B0:((((⟨M.toArray⟩:ByteArray)[0]'(kY dS)).toNat:Int))=(c.toNat:Int):=by rw [kh dS];subst hM;rfl
   obtain ⟨q0,_⟩:=(KEY.out wr (bP _ _)).1
   have HM:=bU hM
   clear hr hx rS hd cD dC mZ h1 h2 h3 h4 h5 h6 h7 cr cf rA bw cJ nE hM lenE Dk lK BU sU nA hat lT iZ DW D_ bI aN tR dm tJ hAY
   go_upto_region 8 with (fail)
   refine wp_region_noPanic ?_
   refine zX (fun w'=>Below wr.heap.size wr w') (fun _=>false) (by kernel_rfl) ?_
   have bS:(fun w'=>Below wr.heap.size wr w') wr.drew:=Below.drew (bP _ _)
   refine tk [0,1,2,3,4] bS ?_
   (intro d hd;simp [tkD] at hd;subst hd;simp only [tks,pQ,pZ,pS])
   iterate 5 (refine ⟨?_,?_,?_⟩;rotate_left;· (intro oi ho;simp at ho;subst ho;refine Or.inl ⟨by rfl,fun w' bR=>?_⟩;have e0:=(KEY.out w' bR).2.1;go_simp;try with_reducible rfl))
   refine tk [5,6] bS ?_
   (intro d hd;simp [tkD] at hd;subst hd;simp only [tks,pQ,pZ,pS])
   iterate 2 (refine ⟨?_,?_,?_⟩;rotate_left;· (intro oi ho;simp at ho;subst ho;refine Or.inl ⟨by rfl,fun w' bR=>?_⟩;have e0:=(KEY.out w' bR).2.2.1;go_simp;try with_reducible rfl))
   refine tk [7,8] bS ?_
   (intro d hd;simp [tkD] at hd;subst hd;simp only [tks,pQ,pZ,pS])
   iterate 2 (refine ⟨?_,?_,?_⟩;rotate_left;· (intro oi ho;simp at ho;subst ho;refine Or.inl ⟨by rfl,fun w' bR=>?_⟩;have e0:=(KEY.out w' bR).2.2.2.1;go_simp;try with_reducible rfl))
   refine zU (by kernel_rfl) (NoPanic.normal ?_) _
   obtain ⟨W8,ik⟩:=zzN (wr.drew)
   rw [ik]
   have dg:Below wr.heap.size wr W8:=by rw [<- ik];exact Below.drew (bP _ _)
   have H8:=bU (bY dg (bY ((dg.block _ (zZ eZ.out.2.1)).trans eZ.out.2.1) (bY (HB.out.1.trans (But.ofBelow dg)) (zzT HB.out.2 dg))))
   have sH:∀ (a:Addr) (u:Value),wr.cell? a=some u->W8.cell? a=some u:=fun a u h=>(H8.out.1.cell (bW _ _ h)).trans h
   clear dg ik bS q0
   rcases HD.out.1.mv with ⟨hc,jj,aj,sb,hp,hj10,lq,fM,hat,lR⟩ | ⟨hc,hp⟩
   ·subst hc
    have cD:=HD.out.2.1
    unfold xH at cD
    simp only [if_true] at cD
    rw [lR,fM] at cD
    have ea:qo t p=aj.args.length:=by unfold qo;rw [hat]
    rw [ea] at cD
    obtain rfl:s'=(sb,lv++zh aj.args.length e' p,(e',p)):=(Option.some.inj cD).symm
    have hjs:=(List.getElem?_eq_some_iff.1 fM).1
    have hjsI:(jj:Int)<(ss.length:Int):=by omega
    obtain ⟨_,_,ex,b8⟩:=bJ.of (bs:=ss) HT.out.2.1
    simp only [Value.slice.injEq] at ex
    obtain ⟨rfl,_,rfl⟩:=ex
    obtain ⟨kb,ko,s1,v1,fm,rE,rM,rN,rD,rF,sd,ex,tX,sw,y0,y1,y2,y3,rZ⟩:=b8 jj hjs
    subst ex
    obtain rfl:sb=sd:=Option.some.inj (fM.symm.trans sw)
    have eM:=HM.out
    obtain ⟨m1,mQ⟩:=zzM (p.length)
    have nQ:M.length=m1+1:=by rw [eM,mQ];rfl
    have Ea:=qP _ _ _ hat
    have tS:=kd aj
    have hp60:p.length<=100:=by have:=HI.out.2.2.2.1;omega
    have hpm:IntKind.i64.wrap ((M.length:Int)-1)=(m1:Int):=by rw [nQ,show ((m1+1:Nat):Int)-1=(m1:Int) from by omega];exact ki _ (by omega)
    have lW:m1<M.length:=by omega
    have C8:(m1:Int)<(M.length:Int):=by omega
    have aH:M[m1]=qa jj:=by
     have h9:M[m1]? = some (qa jj):=by
      rw [eM,mQ]
      show (113::p)[p.length]? = _
      rw [hp,List.length_append];simp
     exact (List.getElem?_eq_some_iff.1 h9).2
    have B1:((((⟨M.toArray⟩:ByteArray)[m1]'(kY lW)).toNat:Int))=48+(jj:Int):=by rw [kh lW,aH,uQ hj10];omega
    have hj8:IntKind.u8.wrap (48+(jj:Int)-48)=(jj:Int):=by simp [IntKind.wrap,IntKind.bits,IntKind.signed];omega
    have aX:((((113:UInt8).toNat:Nat):Int) != 113)=false:=rfl
    have exx:(⟨M.toArray⟩:ByteArray).extract 1 M.length=⟨p.toArray⟩:=by rw [nQ,eM,mQ];exact gr 113 p
    have h1M:(1:Int)<=(M.length:Int):=by omega
    have CAT:=bU (fun x (hx:Below wr.heap.size wr x)=>l1At_ago F t aj p (.slice ta t.args.length tc) w x HI.out.1 HI.out.2.2.2.1 (show _<=_ by omega) hat (zzT HB.out.2 hx))
    have t5:=bU (bY (bY y0 (bY y1 (bY y2 y3))) rZ)
    have ie:=bU (bY tS (bY Ea hat))
    have hkk8:=bU sH
    clear hp lq fM hat lR cD ea b8 tX sw y0 y1 y2 y3 rZ eM mQ aH tS Ea sH hjs nQ
    go_upto_region 15 with (fail)
    have EI:=bU (fun (y:World) (hy:Below W8.heap.size W8 y)=>KEY.out y (zzT H8.out.1 hy))
    have AR:=bU (fun (y:World) (hy:Below W8.heap.size W8 y)=>CAT.out y (zzT H8.out.1 hy))
    clear CAT
    refine ji (X:=Option Addr×Nat×Nat) (fun zz x=>(((((((((zz.put (some 68) (.agg #[.slice ta t.args.length tc])).put (some 69) (str M)).put (some 70) (str p)).put (some 71) (.tuple #[.agg #[.slice x.1 aj.args.length x.2.1],.bool true])).put (some 67) (.tuple #[.agg #[.slice x.1 aj.args.length x.2.1],.bool true])).put (some 72) (.agg #[.slice x.1 aj.args.length x.2.1])).put (some 73) (.bool true)).put (some 14) (.pointer (some ⟨x.2.2,0,none⟩))).put (some 15) (.bool true))) (fun x w7=>Below W8.heap.size W8 w7/\w7.heap[x.2.2]? = some (.cells #[.slice x.1 aj.args.length x.2.1] 61 (0,0))/\W8.heap.size<=x.2.2/\Rep F w (qZ aj) (.slice x.1 aj.args.length x.2.1)) ?_ ?_
    ·refine wp_region_noPanic ?_
     refine zX (fun w'=>Below W8.heap.size W8 w') (fun _=>false) (by kernel_rfl) ?_
     obtain ⟨z0,fq⟩:=zzN (W8.drew)
     rw [fq]
     have mW:Below W8.heap.size W8 z0:=by rw [<- fq];exact Below.drew (bP _ _)
     obtain ⟨dr,dH⟩:∃ x:Nat->Nat,x=fun _=>0:=⟨_,rfl⟩
     clear fq dH
     refine tk [0,1,2] mW ?_
     (intro d hd;simp [tkD] at hd;subst hd;simp only [tks,pQ,pZ,pS])
     iterate 3 (refine ⟨?_,?_,?_⟩;rotate_left;· (intro oi ho;simp at ho;subst ho;refine Or.inl ⟨by rfl,fun w' bR=>?_⟩;have e0:=(EI.out w' bR).2.2.2.2;go_simp;try with_reducible rfl))
     refine kK 3 7 (by kernel_rfl) ?_ ?_
     ·(intro o3 ho K' hK;simp at ho;subst ho)
      go_simp
      go_at_call 129
      (with_reducible refine (AR.out _ mW).mono ?_)
      rintro en z1 ⟨ka,kc,rfl,hb,tY⟩
      have HKR:=bU tY
      clear tY
      have nf:Below W8.heap.size W8 z1:=zzT mW hb
      have hbz1:=bU hb;clear hb
      (refine hK.out _ _ (fun _=>nf) ?_;clear hK K';try simp only [pQ,pN,pZ,pS])
      refine tk [4,5,6] nf ?_
      (intro d hd;simp [tkD] at hd;subst hd;simp only [tks,pQ,pZ,pS])
      iterate 3 (refine ⟨?_,?_,?_⟩;rotate_left;· (intro oi ho;simp at ho;subst ho;refine Or.inl ⟨by rfl,fun w' bR=>?_⟩;go_simp;try with_reducible rfl))
      (refine on 7 ?_;intro o ho K' hK;simp at ho;subst ho;go_simp)
      (refine hK.out _ _ (fun _=>nf.alloc nf.size _) ?_;clear hK K';try simp only [pQ,pN,pZ,pS])
      obtain ⟨z2,bD⟩:=zzN (z1.alloc (.cells #[.slice none 0 0] 61))
      obtain ⟨gK,mE⟩:=zzN (z1.heap.size)
      rw [bD,mE]
      have Es:Below W8.heap.size W8 z2:=by rw [<- bD];exact nf.alloc nf.size _
      obtain ⟨fZ,bT⟩:=zzN (zF dr gK 4)
      have EK:Hid (z2.heap[gK]? = some (.cells #[.slice none 0 0] 61 (0,0))/\fZ gK=4/\W8.heap.size<=gK):=by rw [<- bD,<- bT,<- mE];exact ⟨zS _ _,by unfold zF;rw [if_pos rfl],nf.size⟩
      clear bD mE bT
      (refine on 8 ?_;intro o ho K' hK;simp at ho;subst ho)
      obtain ⟨uK0,AJ⟩:∃ u,z2.cell? ⟨gK,0,none⟩=some u:=⟨_,by simp [World.cell?,EK.out.1];rfl⟩
      have AG:z2.frozen? ⟨gK,0,none⟩=false:=by simp [World.frozen?,EK.out.1]
      go_simp
      (refine hK.out _ _ (fun _=>(Es.setCell (p:=⟨gK,0,none⟩) EK.out.2.2 _)) ?_;clear hK K';try simp only [pQ,pN,pZ,pS])
      obtain ⟨z3,bD⟩:=zzN ((z2.setCell ⟨gK,0,none⟩ (.slice ka aj.args.length kc)))
      rw [bD]
      have Er:Below W8.heap.size W8 z3:=by rw [<- bD];exact (Es.setCell (p:=⟨gK,0,none⟩) EK.out.2.2 _)
      have bf:But (fun i=>i=gK) z2 z3:=by rw [<- bD];exact ((But.refl (fun i=>i=gK) z2).setCell (p:=⟨gK,0,none⟩) (.inl rfl) _)
      have bT:∀ g,g=gK->fZ g=4:=fun g e=>by rw [e];exact EK.out.2.1
      have EK:Hid (z3.heap[gK]? = some (.cells #[.slice ka aj.args.length kc] 61 (0,0))/\fZ gK=4/\W8.heap.size<=gK):=⟨by rw [<- bD];exact (zK EK.out.1),EK.out.2⟩
      clear bD bf bT AJ AG
      (refine on 9 ?_;intro o ho K' hK;simp at ho;subst ho;go_simp)
      (refine hK.out _ _ (fun _=>Er) ?_;clear hK K';try simp only [pQ,pN,pZ,pS])
      refine zU (by kernel_rfl) (NoPanic.normal ?_) _
      exact ⟨rfl,⟨ka,kc,gK⟩,by rfl,Er,EK.out.1,EK.out.2.2,HKR.out⟩
     ·(intro o7 ho K' hK;simp at ho;subst ho)
      go_simp
      (refine hK.out _ _ (fun _=>mW.alloc mW.size _) ?_;clear hK K';try simp only [pQ,pN,pZ,pS])
      obtain ⟨z5,bD⟩:=zzN (z0.alloc (.cells #[.slice none 0 0] 61))
      obtain ⟨gK,mE⟩:=zzN (z0.heap.size)
      rw [bD,mE]
      have AB:Below W8.heap.size W8 z5:=by rw [<- bD];exact mW.alloc mW.size _
      obtain ⟨ff,bT⟩:=zzN (zF dr gK 4)
      have EK:Hid (z5.heap[gK]? = some (.cells #[.slice none 0 0] 61 (0,0))/\ff gK=4/\W8.heap.size<=gK):=by rw [<- bD,<- bT,<- mE];exact ⟨zS _ _,by unfold zF;rw [if_pos rfl],mW.size⟩
      clear bD mE bT
      (refine on 3 ?_;intro o ho K' hK;simp at ho;subst ho;go_simp)
      go_at_call 129
      (with_reducible refine (AR.out _ AB).mono ?_)
      rintro en z6 ⟨ka,kc,rfl,hb,tY⟩
      have HKR:=bU tY
      clear tY
      have iv:Below W8.heap.size W8 z6:=zzT AB hb
      have EK:Hid (z6.heap[gK]? = some (.cells #[.slice none 0 0] 61 (0,0))/\ff gK=4/\W8.heap.size<=gK):=⟨(hb.block _ (zZ EK.out.1)).trans EK.out.1,EK.out.2⟩
      have hbz6:=bU hb;clear hb
      (refine hK.out _ _ (fun _=>iv) ?_;clear hK K';try simp only [pQ,pN,pZ,pS])
      refine tk [4,5,6] iv ?_
      (intro d hd;simp [tkD] at hd;subst hd;simp only [tks,pQ,pZ,pS])
      iterate 3 (refine ⟨?_,?_,?_⟩;rotate_left;· (intro oi ho;simp at ho;subst ho;refine Or.inl ⟨by rfl,fun w' bR=>?_⟩;go_simp;try with_reducible rfl))
      (refine on 8 ?_;intro o ho K' hK;simp at ho;subst ho)
      obtain ⟨uK0,AJ⟩:∃ u,z6.cell? ⟨gK,0,none⟩=some u:=⟨_,by simp [World.cell?,EK.out.1];rfl⟩
      have AG:z6.frozen? ⟨gK,0,none⟩=false:=by simp [World.frozen?,EK.out.1]
      go_simp
      (refine hK.out _ _ (fun _=>(iv.setCell (p:=⟨gK,0,none⟩) EK.out.2.2 _)) ?_;clear hK K';try simp only [pQ,pN,pZ,pS])
      obtain ⟨z7,bD⟩:=zzN ((z6.setCell ⟨gK,0,none⟩ (.slice ka aj.args.length kc)))
      rw [bD]
      have Eq:Below W8.heap.size W8 z7:=by rw [<- bD];exact (iv.setCell (p:=⟨gK,0,none⟩) EK.out.2.2 _)
      have bf:But (fun i=>i=gK) z6 z7:=by rw [<- bD];exact ((But.refl (fun i=>i=gK) z6).setCell (p:=⟨gK,0,none⟩) (.inl rfl) _)
      have bT:∀ g,g=gK->ff g=4:=fun g e=>by rw [e];exact EK.out.2.1
      have EK:Hid (z7.heap[gK]? = some (.cells #[.slice ka aj.args.length kc] 61 (0,0))/\ff gK=4/\W8.heap.size<=gK):=⟨by rw [<- bD];exact (zK EK.out.1),EK.out.2⟩
      clear bD bf bT AJ AG
      (refine on 9 ?_;intro o ho K' hK;simp at ho;subst ho;go_simp)
      (refine hK.out _ _ (fun _=>Eq) ?_;clear hK K';try simp only [pQ,pN,pZ,pS])
      refine zU (by kernel_rfl) (NoPanic.normal ?_) _
      exact ⟨rfl,⟨ka,kc,gK⟩,by rfl,Eq,EK.out.1,EK.out.2.2,HKR.out⟩
    rintro ⟨ka,kc,gK⟩ W9 ⟨lr,hK9,mE,tY⟩
    dsimp only at hK9 mE tY
    simp only [pQ,pN,pZ,pS]
    have iW:Below wr.heap.size wr W9:=zzT H8.out.1 lr
    have sZ:=bU (fun (y:World) (hy:Below W9.heap.size W9 y)=>(show _/\_/\y.cell? ⟨gK,0,none⟩=some (.slice ka aj.args.length kc)/\(y.cell? ⟨kb,ko+jj*4,none⟩=some (str s1)/\y.cell? ⟨kb,ko+jj*4+1,none⟩=some (.int .i64 v1)/\y.cell? ⟨kb,ko+jj*4+2,none⟩=some (.slice fm rE rM)/\y.cell? ⟨kb,ko+jj*4+3,none⟩=some (.slice rN rD rF)) from by
     have rJ:=zzT iW hy
     have key:∀ {p:Addr} {u:Value},wr.cell? p=some u->y.cell? p=some u:=fun h=>(rJ.cell (bW _ _ h)).trans h
     have k9:=kP hK9
     exact ⟨(KEY.out y rJ).1,(KEY.out y rJ).2.2.1,(hy.cell (bW _ _ k9)).trans k9,key t5.out.1.1,key t5.out.1.2.1,key t5.out.1.2.2.1,key t5.out.1.2.2.2⟩))
    have EZ:=bU (fun (y:World) (hy:Below W9.heap.size W9 y)=>by
     have rJ:=zzT iW hy
     have h1:begun.length=lv.length:=HT.out.1.lb
     have h2:args.length=lv.length:=HT.out.1.la
     have h3:=Bv.out.2.2.2
     have h4:=ie.out.1
     have h5:=ie.out.2.1
     have h6:=HD.out.2.2.1.lt
     have h7:=HI.out.2.2.2.1
     have kp:∀ {d:DV} {u:Value},Rep (fun g=>g≠gA/\g≠w.heap.size+3) wr d u->Rep (fun _=>True) y d u:=fun h=>(Rep.keep fun i o _ ho=>⟨trivial,by rw [rJ.block i (zZ ho)];exact ho⟩).1 _ _ h
     exact wl (fun _=>True) begun args [] (l:Nat) (some ⟨kb,ko,none⟩) ss.length d2 n3 2 d3 na da nb db (opens:Nat) s1 v1 fm rE rM rN rD rF aj (.slice ka aj.args.length kc) e' y (kp HT.out.2.2.2.1) (kp HT.out.2.2.2.2)
      ((Rep.keep fun i o _ ho=>⟨trivial,by rw [rJ.block i (by have:=zZ ho;have:=HB.out.2.size;omega),HB.out.2.block i (zZ ho)];exact ho⟩).1 _ _ tY) (by omega) (by omega) (by omega))
    have DJ:=(iW.block _ (zZ eZ.out.2.1)).trans eZ.out.2.1
    have H9:=bU (bY iW (bY (HB.out.1.trans (But.ofBelow iW)) (bY (zzT HB.out.2 iW) DJ)))
    clear lr hK9 mE tY iW DJ KEY EI AR
    go_upto_region 16 with (fail)
    refine wp_region_noPanic ?_
    refine zX (fun w'=>Below W9.heap.size W9 w') (fun i=>i=13) (by kernel_rfl) ?_
    have bS:(fun w'=>Below W9.heap.size W9 w') W9.drew:=Below.drew (bP _ _)
    refine tk [0,1,2] bS ?_
    (intro d hd;simp [tkD] at hd;subst hd;simp only [tks,pQ,pZ,pS])
    iterate 3 (refine ⟨?_,?_,?_⟩;rotate_left;· (intro oi ho;simp at ho;subst ho;refine Or.inl ⟨by rfl,fun w' bR=>?_⟩;obtain ⟨e0,e1,e2,e3,e4,e5,e6⟩:=(sZ.out w' bR).1;go_simp;try with_reducible rfl))
    refine tk [3,4,5] bS ?_
    (intro d hd;simp [tkD] at hd;subst hd;simp only [tks,pQ,pZ,pS])
    iterate 3 (refine ⟨?_,?_,?_⟩;rotate_left;· (intro oi ho;simp at ho;subst ho;refine Or.inl ⟨by rfl,fun w' bR=>?_⟩;have e0:=(sZ.out w' bR).1.2.2.1;go_simp;try with_reducible rfl))
    refine tk [6] bS ?_
    (intro d hd;simp [tkD] at hd;subst hd;simp only [tks,pQ,pZ,pS])
    (refine ⟨?_,?_,?_⟩;rotate_left;· (intro oi ho;simp at ho;subst ho;refine Or.inl ⟨by rfl,fun w' bR=>?_⟩;obtain ⟨e0,e1,e2,e3⟩:=(sZ.out w' bR).2.2.2;go_simp;try with_reducible rfl))
    refine tk [7,8,9,10] bS ?_
    (intro d hd;simp [tkD] at hd;subst hd;simp only [tks,pQ,pZ,pS])
    iterate 4 (refine ⟨?_,?_,?_⟩;rotate_left;· (intro oi ho;simp at ho;subst ho;refine Or.inl ⟨by rfl,fun w' bR=>?_⟩;have e0:=(sZ.out w' bR).2.2.1;go_simp;try with_reducible rfl))
    refine tk [11] bS ?_
    (intro d hd;simp [tkD] at hd;subst hd;simp only [tks,pQ,pZ,pS])
    (refine ⟨?_,?_,?_⟩;rotate_left;· (intro oi ho;simp at ho;subst ho;refine Or.inl ⟨by rfl,fun w' bR=>?_⟩;have e0:=(sZ.out w' bR).2.1;go_simp;try with_reducible rfl))
    (refine on 12 ?_;intro o ho K' hK;simp at ho;subst ho;go_simp)
    go_at_call 128
    (with_reducible refine (EZ.out _ bS).mono ?_)
    rintro en aI ⟨b12,AK,a12,AL,rfl,b7,dV,dJ⟩
    have cu:Below W9.heap.size W9 aI:=zzT bS b7
    have xx:=(cu.block _ (zZ H9.out.2.2.2)).trans H9.out.2.2.2
    (refine hK.out _ _ (fun _=>cu) ?_;clear hK K';try simp only [pQ,pN,pZ,pS])
    have Ej:=cu
    (refine on 13 ?_;intro o ho K' hK;simp at ho;subst ho)
    have f0:=zH xx 0;have f1:=zH xx 1;have f2:=zH xx 2;have f3:=zH xx 3;have f4:=zH xx 4;have f5:=zH xx 5;have f6:=zH xx 6
    obtain ⟨e0,e1,e2,e3,e4,e5,e6⟩:=qh xx
    go_simp
    (refine hK.out _ _ (fun h=>by simp at h) ?_;clear hK K';try simp only [pQ,pN,pZ,pS])
    refine zU (by kernel_rfl) (NoPanic.normal ?_) _
    obtain ⟨fC,cj⟩:=zzN ((((((((aI.setCell ⟨gA,0,none⟩ (str s1)).setCell ⟨gA,1,none⟩ (.int .i64 v1)).setCell ⟨gA,2,none⟩ (.slice fm rE rM)).setCell ⟨gA,3,none⟩ (.slice rN rD rF)).setCell ⟨gA,4,none⟩ (.slice b12 (begun.length+aj.args.length) AK)).setCell ⟨gA,5,none⟩ (.slice a12 (args.length+aj.args.length) AL)).setCell ⟨gA,6,none⟩ (.int .i64 (e':Nat))))
    rw [cj]
    have nV:fC.heap[gA]? = some (.cells #[str s1,.int .i64 v1,.slice fm rE rM,.slice rN rD rF,.slice b12 (begun.length+aj.args.length) AK,.slice a12 (args.length+aj.args.length) AL,.int .i64 (e':Nat)] 145 (0,0)):=by rw [<- cj];exact wY xx _ _ _ _ _ _ _
    have cG:∀ g,g≠gA->fC.heap[g]? = aI.heap[g]?:=fun g hg=>by
     rw [<- cj,bG _ _ _ _ (by show g≠gA;exact hg),bG _ _ _ _ (by show g≠gA;exact hg),bG _ _ _ _ (by show g≠gA;exact hg),bG _ _ _ _ (by show g≠gA;exact hg),bG _ _ _ _ (by show g≠gA;exact hg),bG _ _ _ _ (by show g≠gA;exact hg),bG _ _ _ _ (by show g≠gA;exact hg)]
    have fB:But (fun g=>g=gA) Y fC:=by
     rw [<- cj]
     exact (((((((H9.out.2.1.trans (But.ofBelow cu)).setCell (p:=⟨gA,0,none⟩) (.inl rfl) _).setCell (p:=⟨gA,1,none⟩) (.inl rfl) _).setCell (p:=⟨gA,2,none⟩) (.inl rfl) _).setCell (p:=⟨gA,3,none⟩) (.inl rfl) _).setCell (p:=⟨gA,4,none⟩) (.inl rfl) _).setCell (p:=⟨gA,5,none⟩) (.inl rfl) _).setCell (p:=⟨gA,6,none⟩) (.inl rfl) _
    have kp:∀ i o,(i≠gA/\i≠w.heap.size+3)->wr.heap[i]? = some o->(i≠gA/\i≠w.heap.size+3)/\fC.heap[i]? = some o:=fun i o hi ho=>⟨hi,by rw [cG i hi.1,cu.block i (by have:=zZ ho;have:=H9.out.1.size;omega),H9.out.1.block i (zZ ho)];exact ho⟩
    have kn:∀ i o,W9.heap.size<=i->aI.heap[i]? = some o->(i≠gA/\i≠w.heap.size+3)/\fC.heap[i]? = some o:=fun i o hi ho=>by
     have h1:=nX.out;have h2:=zZ H9.out.2.2.2;have h3:=HY.out.1.size;have h4:=H9.out.2.1.size;have h5:=HY.out.2.1.size
     exact ⟨⟨by omega,by omega⟩,by rw [cG i (by omega)];exact ho⟩
    have B3:=HT.out.1.kid aj.args.length e' p (by have h4:=ie.out.1;have h5:=ie.out.2.1;have h7:=HI.out.2.2.2.1;omega) HD.out.2.2.1.at'
    have n6:=bU (bY nV (bY fB (show yj (fun g=>g≠gA/\g≠w.heap.size+3) fC sb (lv++zh aj.args.length e' p) (e',p) v [str s1,.int .i64 v1,.slice fm rE rM,.slice rN rD rF,.slice b12 (begun.length+aj.args.length) AK,.slice a12 (args.length+aj.args.length) AL,.int .i64 (e':Nat)] from ⟨_,_,e',B3,AtD_mk ((Rep.keep kp).2 _ _ t5.out.2) ((Rep.keep kn).1 _ _ dV) ((Rep.keep kn).1 _ _ dJ)⟩)))
    clear nV cG fB kp kn B3 cj xx dV dJ cu b7 Ej bS sZ EZ
    go_wp2_with fail
    go_roundw
    case rel=>exact ⟨_,j+1,e',_,dR,_,_,_,_,_,_,_,rfl,by rw [<- HN.out.2.2.2];rfl,HN.out.2.2.1,HN.out.1,HN.out.2.1,n6.out.1,n6.out.2.2,n6.out.2.1⟩
    case measure=>simp [intOf];omega
   ·clear hp
    rcases hc with rfl | rfl
    ·obtain ⟨_,_,ex,b8⟩:=bJ.of (bs:=[y,nn]) HT.out.2.2.1
     simp only [Value.slice.injEq] at ex
     obtain ⟨rfl,_,rfl⟩:=ex
     obtain ⟨kb,ko,s1,v1,fm,rE,rM,rN,rD,rF,sd,ex,tX,sw,y0,y1,y2,y3,rZ⟩:=b8 0 (by simp)
     subst ex
     obtain rfl:y=sd:=Option.some.inj sw
     have cD:=HD.out.2.1
     obtain rfl:s'=(y,lv,bg):=(Option.some.inj cD).symm
     have BA:=sH _ _ y0
     have ii:=sH _ _ y1
     have Bz:=sH _ _ y2
     have By:=sH _ _ y3
     have HYK:=bU rZ
     obtain ⟨⟨q0,q1,q2,q3,_⟩,_⟩:=KEY.out W8 H8.out.1
     have aX:((((116:UInt8).toNat:Nat):Int) != 113)=true:=rfl
     have hqf:((((116:UInt8).toNat:Nat):Int) == 102)=false:=rfl
     have f0:=zH H8.out.2.1 0;have f1:=zH H8.out.2.1 1;have f2:=zH H8.out.2.1 2;have f3:=zH H8.out.2.1 3
     clear b8 tX sw y0 y1 y2 y3 rZ cD sH
     simp only [Nat.zero_mul,Nat.one_mul,Nat.add_zero] at BA ii Bz By
     go_upto_region 5 with (fail)
     obtain ⟨fC,cj⟩:=zzN ((((W8.setCell ⟨gA,0,none⟩ (str s1)).setCell ⟨gA,1,none⟩ (.int .i64 v1)).setCell ⟨gA,2,none⟩ (.slice fm rE rM)).setCell ⟨gA,3,none⟩ (.slice rN rD rF))
     rw [cj]
     have nV:fC.heap[gA]? = some (.cells #[str s1,.int .i64 v1,.slice fm rE rM,.slice rN rD rF,.slice na begun.length da,.slice nb args.length db,.int .i64 (opens:Nat)] 145 (0,0)):=by
      rw [<- cj,zK (zK (zK (zK H8.out.2.1)))];rfl
     have cG:∀ g,g≠gA->fC.heap[g]? = W8.heap[g]?:=fun g hg=>by
      rw [<- cj,bG _ _ _ _ (by show g≠gA;exact hg),bG _ _ _ _ (by show g≠gA;exact hg),bG _ _ _ _ (by show g≠gA;exact hg),bG _ _ _ _ (by show g≠gA;exact hg)]
     have fB:But (fun g=>g=gA) Y fC:=by
      rw [<- cj]
      exact (((H8.out.2.2.1.setCell (p:=⟨gA,0,none⟩) (.inl rfl) _).setCell (p:=⟨gA,1,none⟩) (.inl rfl) _).setCell (p:=⟨gA,2,none⟩) (.inl rfl) _).setCell (p:=⟨gA,3,none⟩) (.inl rfl) _
     have kp:∀ i o,(i≠gA/\i≠w.heap.size+3)->wr.heap[i]? = some o->(i≠gA/\i≠w.heap.size+3)/\fC.heap[i]? = some o:=fun i o hi ho=>⟨hi,by rw [cG i hi.1,H8.out.1.block i (zZ ho)];exact ho⟩
     have n6:=bU (bY nV (bY fB (show yj (fun g=>g≠gA/\g≠w.heap.size+3) fC y lv bg v [str s1,.int .i64 v1,.slice fm rE rM,.slice rN rD rF,.slice na begun.length da,.slice nb args.length db,.int .i64 (opens:Nat)] from ⟨begun,args,opens,HT.out.1,AtD_mk ((Rep.keep kp).2 _ _ HYK.out) ((Rep.keep kp).1 _ _ HT.out.2.2.2.1) ((Rep.keep kp).1 _ _ HT.out.2.2.2.2)⟩)))
     clear nV cG fB kp cj q0 q1 q2 q3 f0 f1 f2 f3 BA ii Bz By
     go_wp2_with fail
     go_roundw
     case rel=>exact ⟨_,j+1,e',_,dR,_,_,_,_,_,_,_,rfl,by rw [<- HN.out.2.2.2];rfl,HN.out.2.2.1,HN.out.1,HN.out.2.1,n6.out.1,n6.out.2.2,n6.out.2.1⟩
     case measure=>simp [intOf];omega
    ·obtain ⟨_,_,ex,b8⟩:=bJ.of (bs:=[y,nn]) HT.out.2.2.1
     simp only [Value.slice.injEq] at ex
     obtain ⟨rfl,_,rfl⟩:=ex
     obtain ⟨kb,ko,s1,v1,fm,rE,rM,rN,rD,rF,sd,ex,tX,sw,y0,y1,y2,y3,rZ⟩:=b8 1 (by simp)
     subst ex
     obtain rfl:nn=sd:=Option.some.inj sw
     have cD:=HD.out.2.1
     obtain rfl:s'=(nn,lv,bg):=(Option.some.inj cD).symm
     have BA:=sH _ _ y0
     have ii:=sH _ _ y1
     have Bz:=sH _ _ y2
     have By:=sH _ _ y3
     have HYK:=bU rZ
     obtain ⟨⟨q0,q1,q2,q3,_⟩,_⟩:=KEY.out W8 H8.out.1
     have aX:((((102:UInt8).toNat:Nat):Int) != 113)=true:=rfl
     have hqf:((((102:UInt8).toNat:Nat):Int) == 102)=true:=rfl
     have f0:=zH H8.out.2.1 0;have f1:=zH H8.out.2.1 1;have f2:=zH H8.out.2.1 2;have f3:=zH H8.out.2.1 3
     clear b8 tX sw y0 y1 y2 y3 rZ cD sH
     simp only [Nat.zero_mul,Nat.one_mul,Nat.add_zero] at BA ii Bz By
     go_upto_region 5 with (fail)
     obtain ⟨fC,cj⟩:=zzN ((((W8.setCell ⟨gA,0,none⟩ (str s1)).setCell ⟨gA,1,none⟩ (.int .i64 v1)).setCell ⟨gA,2,none⟩ (.slice fm rE rM)).setCell ⟨gA,3,none⟩ (.slice rN rD rF))
     rw [cj]
     have nV:fC.heap[gA]? = some (.cells #[str s1,.int .i64 v1,.slice fm rE rM,.slice rN rD rF,.slice na begun.length da,.slice nb args.length db,.int .i64 (opens:Nat)] 145 (0,0)):=by
      rw [<- cj,zK (zK (zK (zK H8.out.2.1)))];rfl
     have cG:∀ g,g≠gA->fC.heap[g]? = W8.heap[g]?:=fun g hg=>by
      rw [<- cj,bG _ _ _ _ (by show g≠gA;exact hg),bG _ _ _ _ (by show g≠gA;exact hg),bG _ _ _ _ (by show g≠gA;exact hg),bG _ _ _ _ (by show g≠gA;exact hg)]
     have fB:But (fun g=>g=gA) Y fC:=by
      rw [<- cj]
      exact (((H8.out.2.2.1.setCell (p:=⟨gA,0,none⟩) (.inl rfl) _).setCell (p:=⟨gA,1,none⟩) (.inl rfl) _).setCell (p:=⟨gA,2,none⟩) (.inl rfl) _).setCell (p:=⟨gA,3,none⟩) (.inl rfl) _
     have kp:∀ i o,(i≠gA/\i≠w.heap.size+3)->wr.heap[i]? = some o->(i≠gA/\i≠w.heap.size+3)/\fC.heap[i]? = some o:=fun i o hi ho=>⟨hi,by rw [cG i hi.1,H8.out.1.block i (zZ ho)];exact ho⟩
     have n6:=bU (bY nV (bY fB (show yj (fun g=>g≠gA/\g≠w.heap.size+3) fC nn lv bg v [str s1,.int .i64 v1,.slice fm rE rM,.slice rN rD rF,.slice na begun.length da,.slice nb args.length db,.int .i64 (opens:Nat)] from ⟨begun,args,opens,HT.out.1,AtD_mk ((Rep.keep kp).2 _ _ HYK.out) ((Rep.keep kp).1 _ _ HT.out.2.2.2.1) ((Rep.keep kp).1 _ _ HT.out.2.2.2.2)⟩)))
     clear nV cG fB kp cj q0 q1 q2 q3 f0 f1 f2 f3 BA ii Bz By
     go_wp2_with fail
     go_roundw
     case rel=>exact ⟨_,j+1,e',_,dR,_,_,_,_,_,_,_,rfl,by rw [<- HN.out.2.2.2];rfl,HN.out.2.2.1,HN.out.1,HN.out.2.1,n6.out.1,n6.out.2.2,n6.out.2.1⟩
     case measure=>simp [intOf];omega
  ·have cT:¬ (i2:Int)<(vw.length:Int):=by omega
   have mx:=VC.out.odd
   have dx:=VC.out.last
   have h1:=nX.out
   rw [show vw.length-1=2*j from by omega,rA] at dx
   obtain rfl:=Option.some.inj dx
   obtain rfl:s=s0:=Option.some.inj (eZ.out.2.2.2.symm.trans FO.out.2)
   obtain ⟨begun,args,opens,nA,hat⟩:=eZ.out.1
   obtain ⟨n2,d2,n3,d3,na,da,nb,db,ex,_⟩:=uW hat
   generalize jx s.1=u0 at ex
   generalize lvOf s.1=u1 at ex
   generalize (qg s.1).length=u2 at ex
   generalize (jk s.1).length=u3 at ex
   simp only [List.cons.injEq,and_true] at ex
   obtain ⟨rfl,rfl,rfl,rfl,rfl,rfl,rfl⟩:=ex
   obtain ⟨q0,q1,q2,q3,q4,q5,q6⟩:=qh eZ.out.2.1
   obtain ⟨z0',z1',z2',z3',z4',z5',z6'⟩:=qh HR.out.2.2
   have f0:=zH HR.out.2.2 0;have f1:=zH HR.out.2.2 1;have f2:=zH HR.out.2.2 2;have f3:=zH HR.out.2.2 3;have f4:=zH HR.out.2.2 4;have f5:=zH HR.out.2.2 5;have f6:=zH HR.out.2.2 6
   have Bx:=bU (bY nA hat)
   clear rA lenE Dk lK BU dx mx h1 nA hat nE hAY
   go_wp2_with fail
   have hV:=wY HR.out.2.2 (str u0) (.int .i64 (u1:Nat)) (.slice n2 u2 d2) (.slice n3 u3 d3) (.slice na begun.length da) (.slice nb args.length db) (.int .i64 (opens:Nat))
   obtain ⟨mR,mN,BI,BH,s4',s5',s6'⟩:=qh hV
   have cG:∀ g,g≠w.heap.size+3->(((((((wr.setCell ⟨w.heap.size+3,0,none⟩ (str u0)).setCell ⟨w.heap.size+3,1,none⟩ (.int .i64 (u1:Nat))).setCell ⟨w.heap.size+3,2,none⟩ (.slice n2 u2 d2)).setCell ⟨w.heap.size+3,3,none⟩ (.slice n3 u3 d3)).setCell ⟨w.heap.size+3,4,none⟩ (.slice na begun.length da)).setCell ⟨w.heap.size+3,5,none⟩ (.slice nb args.length db)).setCell ⟨w.heap.size+3,6,none⟩ (.int .i64 (opens:Nat))).heap[g]? = wr.heap[g]?:=fun g hg=>by
    rw [bG _ _ _ _ (by show g≠w.heap.size+3;exact hg),bG _ _ _ _ (by show g≠w.heap.size+3;exact hg),bG _ _ _ _ (by show g≠w.heap.size+3;exact hg),bG _ _ _ _ (by show g≠w.heap.size+3;exact hg),bG _ _ _ _ (by show g≠w.heap.size+3;exact hg),bG _ _ _ _ (by show g≠w.heap.size+3;exact hg),bG _ _ _ _ (by show g≠w.heap.size+3;exact hg)]
   have eQ:=((((((HB.out.2.setCell (p:=⟨w.heap.size+3,0,none⟩) (Nat.le_add_right _ _) (str u0)).setCell (p:=⟨w.heap.size+3,1,none⟩) (Nat.le_add_right _ _) (.int .i64 (u1:Nat))).setCell (p:=⟨w.heap.size+3,2,none⟩) (Nat.le_add_right _ _) (.slice n2 u2 d2)).setCell (p:=⟨w.heap.size+3,3,none⟩) (Nat.le_add_right _ _) (.slice n3 u3 d3)).setCell (p:=⟨w.heap.size+3,4,none⟩) (Nat.le_add_right _ _) (.slice na begun.length da)).setCell (p:=⟨w.heap.size+3,5,none⟩) (Nat.le_add_right _ _) (.slice nb args.length db)).setCell (p:=⟨w.heap.size+3,6,none⟩) (Nat.le_add_right _ _) (.int .i64 (opens:Nat))
   refine bodyPost_ret (v:=.tuple #[.agg #[str u0,.int .i64 (u1:Nat),.slice n2 u2 d2,.slice n3 u3 d3,.slice na begun.length da,.slice nb args.length db,.int .i64 (opens:Nat)],.bool true]) (by simp [results,Tryz.results90,go_sem,mR,mN,BI,BH,s4',s5',s6']) rfl ?_
   exact ⟨_,_,_,_,_,_,_,rfl,eQ,begun,args,opens,Bx.out.1,(Rep.keep fun i o hi ho=>⟨trivial,by rw [cG i hi.2];exact ho⟩).2 _ _ Bx.out.2⟩
theorem Tryz.infoPlay:(Tryz.prog.info? 33).map (fun i=>(i.zero,i.size,i.bytes))=some (some (.agg #[.slice none 0 0,.slice none 0 0]),2,48):=by kernel_rfl
section
variable {P:Program} {ops:Array Oper} {Q:Exit->Act->World->Prop} {md:Region.Mode} {S:World->Prop} {T:Nat->Bool}
theorem wpAnyS_firstD {i:Nat} {oi:Oper} {v:Value} {D:List Nat} (hi:ops[i]? = some oi) (sx:∀ (j:Nat) (o:Oper) cs b,ops[j]? = some o->o.op≠.select cs b)
 (hQ:∀ c a w,Q (.panic c) (a.put oi.dst v) w->Q (.panic c) a w)
 (hT:∀ j oj,ops[j]? = some oj->T j=true->j∈D) (hD:∀ j∈D,∀ oj,ops[j]? = some oj->∃ e∈oj.after,Region.binds md e=true/\(e.on=i\/e.on∈D)) (hTi:T i=false) :
 ∀ (fuel:Nat) (listed:Array Bool) (a:Act) (w:World),(∀ j∈D,listed.getD j false=false) ->
   (∀ j oj,ops[j]? = some oj->j≠i->listed.getD j true=false->(∀ e∈oj.after,Region.binds md e=true->e.on≠i)->oi.apart ops oj=true) ->
   i∈Region.ready md ops listed->YieldsIf P ops S oi v a->S w ->
   kR P md ops Q S T fuel (listed.setIfInBounds i true) (a.put oi.dst v) w->kR P md ops Q S T (fuel+1) listed a w:=by
 intro fuel
 induction fuel with
 | zero =>
   intro listed a w _ _ hr hy hS H
   refine ⟨fun h=>(by rw [h] at hr;cases hr),fun j hj=>?_⟩
   by_cases mJ:j=i
   ·subst mJ;exact hy.wpOp hi hS ⟨fun _=>hS,H⟩
   ·have:=jp hj mJ
    rw [H.1] at this
    cases this
 | succ fuel ih =>
   intro listed a w hDl dw hr hy hS H
   refine ⟨fun h=>(by rw [h] at hr;cases hr),fun j hj=>?_⟩
   by_cases mJ:j=i
   ·subst mJ;exact hy.wpOp hi hS ⟨fun _=>hS,H⟩
   ·have h1:=H.2 j (jp hj mJ)
    obtain ⟨tW,oj,aW,be⟩:=qw hj
    have s5:∀ e∈oj.after,Region.binds md e=true->e.on≠i:=fun e he hb tG=>by
     have h1:=be e he hb
     have h0:=(qw hr).1
     rw [tG] at h1
     simp only [Array.getD_eq_getD_getElem?] at h0 h1
     rcases Nat.lt_or_ge i listed.size with h' | h'
     ·simp [h'] at h0 h1;rw [h0] at h1;cases h1
     ·simp [Array.getElem?_eq_none h'] at h1
    have hDj:j ∉ D:=fun hd=>by
     obtain ⟨e,he,hb,tG⟩:=hD j hd oj aW
     rcases tG with tG | tG
     ·exact s5 e he hb tG
     ·have h1:=be e he hb
      rw [hDl _ tG] at h1;cases h1
    have hTj:T j=false:=by
     cases hT':T j with
     | false=>rfl
     | true=>exact absurd (hT j oj aW hT') hDj
    have h2:=wpOp_putIf aW (dw j oj aW mJ tW s5) (fun cs b=>sx i oi cs b hi) (fun cs b=>sx j oj cs b aW) hQ hy h1
    have hDl':∀ k∈D,(listed.setIfInBounds j true).getD k false=false:=fun k hk=>by
     have hkj:j≠k:=fun e=>hDj (e ▸ hk)
     have:=hDl k hk
     simp only [Array.getD_eq_getD_getElem?] at this ⊢
     rw [Array.getElem?_setIfInBounds_ne hkj];exact this
    have nj:∀ k ok,ops[k]? = some ok->k≠i->(listed.setIfInBounds j true).getD k true=false ->
     (∀ e∈ok.after,Region.binds md e=true->e.on≠i)->oi.apart ops ok=true:=fun k ok hk hki aY dU=>by
     refine dw k ok hk hki ?_ dU
     by_cases oe:j=k
     ·subst oe;exact tW
     ·simp only [Array.getD_eq_getD_getElem?] at aY ⊢
      rw [Array.getElem?_setIfInBounds_ne oe] at aY;exact aY
    refine wpOp_mono (fun a' w' h3=>⟨h3.2.1,ih (listed.setIfInBounds j true) a' w' hDl' nj (jp hr (Ne.symm mJ)) h3.1 (h3.2.1 hTj) ?_⟩) h2
    rw [Array.setIfInBounds_comm _ _ mJ]
    exact h3.2.2
def waitD (md:Region.Mode) (ops:Array Oper) (T:Nat->Bool) (D:List Nat) (listed:Array Bool) (i:Nat):Bool :=
 !T i && ((List.range ops.size).all (fun j=>!T j || D.contains j) && D.all fun j=>!listed.getD j false && ((ops[j]?).map fun o=>o.after.any fun e=>Region.binds md e && (e.on == i || D.contains e.on)).getD true)
theorem zm (i:Nat) (D:List Nat) {v:Value} {fuel:Nat} {listed:Array Bool} {a:Act} {w:World}
 (hs:Region.noSelect ops=true) (hf:Region.free md ops listed i=true) (hr:(Region.ready md ops listed).contains i=true) (ht:waitD md ops T D listed i=true)
 (hQ:∀ d c a w,Q (.panic c) (a.put d v) w->Q (.panic c) a w) (hS:S w)
 (hy:∀ oi,ops[i]? = some oi->YieldsIf P ops S oi v a)
 (h:∀ d,(ops[i]?).bind (·.dst)=d->kR P md ops Q S T fuel (listed.setIfInBounds i true) (a.put d v) w):kR P md ops Q S T (fuel+1) listed a w:=by
 have hm:i∈Region.ready md ops listed:=by simpa using hr
 obtain ⟨_,oi,hi,_⟩:=qw hm
 unfold waitD at ht
 rw [Bool.and_eq_true,Bool.and_eq_true] at ht
 obtain ⟨h1,h2,h3⟩:=ht
 rw [List.all_eq_true] at h2 h3
 refine wpAnyS_firstD (D:=D) hi (Region.noSelect_spec hs) (fun c a w=>hQ _ c a w) (fun j oj hj hT=>?_) (fun j hj oj ho=>?_) (by simpa using h1) fuel listed a w (fun j hj=>?_) (Region.free_spec hi hf) hm (hy oi hi) hS (h _ (by rw [hi];rfl))
 ·have:=h2 j (List.mem_range.2 (Array.getElem?_eq_some_iff.1 hj).1)
  rw [hT] at this;simpa using this
 ·have:=h3 j hj
  rw [Bool.and_eq_true,ho] at this
  have:=this.2
  simp only [Option.map_some,Option.getD_some] at this
  rw [Array.any_eq_true'] at this
  obtain ⟨e,he,h4⟩:=this
  rw [Bool.and_eq_true,Bool.or_eq_true,beq_iff_eq,List.contains_iff_mem] at h4
  exact ⟨e,he,h4⟩
 ·have:=h3 j hj
  rw [Bool.and_eq_true] at this
  simpa using this.1
end
structure Kv (va:Nat) (vw:Value) (w:World) (vw':Value) (w':World):Prop where
 but:But (Mv va vw) w w'
 row:∀ g,vw'.ownBlock=some g->vw.ownBlock=some g\/w.heap.size<=g
theorem Kv.obj {va:Nat} {vw vw':Value} {w w':World} (h:Kv va vw w vw' w') {b:Nat} {o:Obj} (hF:Fv va vw b) (ho:w.heap[b]? = some o):Fv va vw' b/\w'.heap[b]? = some o :=
 ⟨⟨hF.1,fun e=>by
   rcases h.row b e with h1 | h1
   ·exact hF.2 h1
   ·have:=zZ ho;omega⟩,by rw [h.but.block b (zZ ho) (fun e=>e.elim hF.1 hF.2)];exact ho⟩
theorem Kv.rep {va:Nat} {vw vw':Value} {w w':World} (h:Kv va vw w vw' w') {d:DV} {x:Value} (hr:Rep (Fv va vw) w d x):Rep (Fv va vw') w' d x:=Fv.keep h.but h.row hr
theorem Kv.trans {va:Nat} {vw vw' vw'':Value} {w w' w'':World} (h:Kv va vw w vw' w') (k:Kv va vw' w' vw'' w''):Kv va vw w vw'' w'' :=
 ⟨h.but.trans' k.but (fun i hi hm=>hm.imp id (fun e=>(h.row i e).resolve_right (by omega))),fun g hg=>(k.row g hg).elim (fun e=>h.row g e) (fun e=>.inr (bC h.but.size e))⟩
theorem Kv.below {va:Nat} {vw:Value} {w w':World} (hb:Below w.heap.size w w'):Kv va vw w vw w':=⟨But.ofBelow hb,fun _ hg=>.inl hg⟩
structure AskV (t:Ty) (l:Nat) (ss:List Bd) (y n:Bd) (lv:List zg) (bg:zg) (asked:Pl) (kv bv lsl mv pt:Value) (B0 B1:Nat) (va:Nat) (vw:Value) (w:World):Prop where
 g:qr w
 ng:∀ g,Mv va vw g->NotG g
 rk:Rep (Fv va vw) w (jD t) kv
 rb:Rep (Fv va vw) w (qm (.ask l ss y n)) bv
 rl:jM (Fv va vw) w lv lsl
 rm:qH (Fv va vw) w asked mv
 rp:qG (Fv va vw) w asked pt
 f0:Fv va vw B0
 b0:w.heap[B0]? = some (.cells #[bv,lsl,.int .i64 (bg.1:Nat),str bg.2] 117 (0,0))
 f1:Fv va vw B1
 b1:w.heap[B1]? = some (.cells #[mv,pt] 33 (0,0))
theorem AskV.keep {t:Ty} {l:Nat} {ss:List Bd} {y n:Bd} {lv:List zg} {bg:zg} {asked:Pl} {kv bv lsl mv pt:Value} {B0 B1:Nat} {va:Nat} {vw vw':Value} {w w':World}
 (h:AskV t l ss y n lv bg asked kv bv lsl mv pt B0 B1 va vw w) (k:Kv va vw w vw' w'):AskV t l ss y n lv bg asked kv bv lsl mv pt B0 B1 va vw' w' :=
 ⟨h.g.but k.but h.ng,fun g hg=>hg.elim (fun e=>h.ng g (.inl e)) (fun e=>(k.row g e).elim (fun e=>h.ng g (.inr e)) (fun e=>h.g.new e)),k.rep h.rk,k.rep h.rb,k.rep h.rl,k.rep h.rm,k.rep h.rp,
  (k.obj h.f0 h.b0).1,(k.obj h.f0 h.b0).2,(k.obj h.f1 h.b1).1,(k.obj h.f1 h.b1).2⟩
structure Ko (vw:Value) (w:World) (vw':Value) (w':World):Prop where
 but:But (fun i=>vw.ownBlock=some i) w w'
 row:∀ g,vw'.ownBlock=some g->vw.ownBlock=some g\/w.heap.size<=g
abbrev Fo (vw:Value) (i:Nat):Prop:=¬ vw.ownBlock=some i
theorem Ko.obj {vw vw':Value} {w w':World} (h:Ko vw w vw' w') {b:Nat} {o:Obj} (hF:Fo vw b) (ho:w.heap[b]? = some o):Fo vw' b/\w'.heap[b]? = some o :=
 ⟨fun e=>by
  rcases h.row b e with h1 | h1
  ·exact hF h1
  ·have:=zZ ho;omega,by rw [h.but.block b (zZ ho) hF];exact ho⟩
theorem Ko.rep {vw vw':Value} {w w':World} (h:Ko vw w vw' w') {d:DV} {x:Value} (hr:Rep (Fo vw) w d x):Rep (Fo vw') w' d x:=(Rep.keep fun _ _ hF ho=>h.obj hF ho).1 _ _ hr
theorem Ko.reps {vw vw':Value} {w w':World} (h:Ko vw w vw' w') {d:List DV} {x:List Value} (hr:zq (Fo vw) w d x):zq (Fo vw') w' d x:=(Rep.keep fun _ _ hF ho=>h.obj hF ho).2 _ _ hr
theorem Ko.trans {vw vw' vw'':Value} {w w' w'':World} (h:Ko vw w vw' w') (k:Ko vw' w' vw'' w''):Ko vw w vw'' w'' :=
 ⟨h.but.trans' k.but (fun i hi hm=>(h.row i hm).resolve_right (by omega)),fun g hg=>(k.row g hg).elim (fun e=>h.row g e) (fun e=>.inr (bC h.but.size e))⟩
theorem Ko.below {vw:Value} {w w':World} (hb:Below w.heap.size w w'):Ko vw w vw w':=⟨But.ofBelow hb,fun _ hg=>.inl hg⟩
theorem yj.ko {vw vw':Value} {w w':World} (h:Ko vw w vw' w') {b:Bd} {lv:List zg} {bg:zg} {v:Pl} {vs:List Value} (hr:yj (Fo vw) w b lv bg v vs):yj (Fo vw') w' b lv bg v vs:=by
 obtain ⟨begun,args,opens,h1,h2⟩:=hr
 exact ⟨begun,args,opens,h1,h.reps h2⟩
theorem yj.below {F:Nat->Prop} {w w':World} (hb:Below w.heap.size w w') {b:Bd} {lv:List zg} {bg:zg} {v:Pl} {vs:List Value} (hr:yj F w b lv bg v vs):yj F w' b lv bg v vs:=by
 obtain ⟨begun,args,opens,h1,h2⟩:=hr
 exact ⟨begun,args,opens,h1,h2.below hb (fun _ h=>h)⟩
def TvOut (o:Option (List Pl)) (vw:Value) (us:List (Value×Value)) (L:List Pl) (w:World) (en:Ending) (w':World):Prop :=
 ∃ a n c,en=.returned (.tuple #[.slice a n c,.bool o.isSome])/\But (fun i=>vw.ownBlock=some i) w w'/\∀ out,o=some out->∃ us',yB w' (L++out) (.slice a n c) (us++us')/\(∀ g,(Value.slice a n c).ownBlock=some g->vw.ownBlock=some g\/w.heap.size<=g)/\∀ u∈us',∀ g,u.1.ownBlock=some g\/u.2.ownBlock=some g->w.heap.size<=g
theorem TvOut.no {t:Ty} {b:Bd} {lv:List zg} {bg:zg} {v:Pl} {vw:Value} {us:List (Value×Value)} {L:List Pl} {w w':World} {a:Option Addr} {n c:Nat} (hb:But (fun i=>vw.ownBlock=some i) w w') (e:vX t b lv bg v=none) :
 TvOut (vX t b lv bg v) vw us L w (.returned (.tuple #[.slice a n c,.bool false])) w':=by
 rw [e]
 exact ⟨a,n,c,rfl,hb,fun out h=>by simp at h⟩
theorem boxes_3 (w:World) (A B C:Obj):∃ W,((w.alloc A).alloc B).alloc C=W/\Below w.heap.size w W/\W.heap.size=w.heap.size+3/\W.heap[w.heap.size]? = some A/\W.heap[w.heap.size+1]? = some B/\W.heap[w.heap.size+2]? = some C:=by
 obtain ⟨X,hX,dp,hz,x0,x1⟩:=kH w A B
 obtain ⟨Y,hY,fF,mG,y0⟩:=kJ X C
 rw [hX,hY]
 exact ⟨Y,rfl,zzT dp fF,by omega,(fF.block _ (zZ x0)).trans x0,(fF.block _ (zZ x1)).trans x1,by rw [<- hz];exact y0⟩
theorem xk (v:Pl) (mv pt:Value) (s:Bs) (p:Int) (w:World) (h1:zR 1 mv v.length (k_ v) w) (h2:zR 1 pt v.length (qM v) w) (hl:v.length<=1000) :
 Calls Tryz.prog 92 #[.agg #[mv,pt],str s,.int .i64 p] w (CopyP (v++[(s,p)]) w):=by
 refine (l2With_any v.length v.length mv pt (k_ v) (qM v) s p w h1 h2 (by omega) (by omega)).mono ?_
 rintro en w' ⟨a1,c1,a2,c2,rfl,hb,Cs,oO,hf1,hf2⟩
 refine ⟨_,_,rfl,⟨?_,?_⟩,hb,fun g hg=>hg.elim (hf1 g) (hf2 g)⟩
 ·rw [show k_ (v++[(s,p)])=k_ v++[str s] from by simp [k_],List.length_append];exact Cs
 ·rw [show qM (v++[(s,p)])=qM v++[.int .i64 p] from by simp [qM],List.length_append];exact oO
theorem pls_add {w W:World} {vw:Value} {us:List (Value×Value)} {L:List Pl} {l:Pl} {mv pt:Value} (hp:yB w L vw us) (hB:Below w.heap.size w W) (hl:zC W l mv pt) (hn:∀ g,mv.ownBlock=some g\/pt.ownBlock=some g->w.heap.size<=g)
 {v':Value} {w5:World} (oL:Own w5 33 2 v' (us.length+1) (plC us++[mv,pt])) (b_:But (fun b=>vw.ownBlock=some b) W w5):yB w5 (L++[l]) v' (us++[(mv,pt)]):=by
 have A7:yB W L vw us:=jE.below hp hB
 have lM:(plX l).1.length=l.length:=by simp [plX,k_]
 have lP:(plX l).2.length=l.length:=by simp [plX,qM]
 unfold yB
 rw [List.map_append,List.map_singleton]
 exact jE.snoc (u:=(mv,pt)) (x:=plX l) A7 oL b_ (by rw [lM];exact hl.1) (by rw [lP];exact hl.2) (fun g hg hP=>by
  have h1:=hn g hg
  have h2:=hp.lt hP
  omega)
def uL (s:St):Bs×Nat×Bool:=match qj s with
 | none=>([],0,false)
 | some x=>(x.1,x.2.toNat,true)
theorem l3Tell_any {t:Ty} {hand:List Ty} {s:St} {n:Nat} (v:Pl) (mv pt x0 x1 x2 x3 x4 x5 x6:Value) (w:World) (hs:uv t hand s n) (bL:zW t<=15) (hn:n<=100) (hv:v.length<=1000)
 (hr:yj (fun _=>True) w s.1 s.2.1 s.2.2 v [x0,x1,x2,x3,x4,x5,x6]) (hm:qH (fun _=>True) w v mv) (hp:qG (fun _=>True) w v pt) :
 Calls Tryz.prog 91 #[.agg #[mv,pt],.agg #[x0,x1,x2,x3,x4,x5,x6]] w (STellP (uL s).1 (uL s).2.1 (uL s).2.2 w):=by
 obtain ⟨ta,A4⟩:=hs.bgt
 have fT:=qP _ _ _ A4
 have dm:=hs.ll
 have hwf:=hs.wf
 obtain ⟨b,lv,bg⟩:=s
 have iI:bg.2.length<=1000:=by
  have:((b,lv,bg):St).2.2.2.length<=100:=by omega
  have h2:bg.2.length<=100:=this
  omega
 cases b with
 | leaf c =>
   rw [show ((Bd.leaf c,lv,bg):St).1=.leaf c from rfl,wfB] at hwf
   by_cases hc:c=117
   ·subst hc
    have e:uL (Bd.leaf 117,lv,bg)=([],0,false):=rfl
    rw [e]
    exact l3Tell_u (fun _=>True) lv bg v mv pt x0 x1 x2 x3 x4 x5 x6 w hr hm hp
   ·have eB:c=116\/c=102:=by
     rcases hwf with h | h | h
     ·exact .inl h
     ·exact .inr h
     ·exact absurd h hc
    have e:uL (Bd.leaf c,lv,bg)=(c::bg.2,bg.1,true):=by unfold uL qj;simp only [if_neg hc,Int.toNat_natCast]
    rw [e]
    exact l3Tell_leaf (fun _=>True) c eB lv bg v mv pt x0 x1 x2 x3 x4 x5 x6 w hr hm hp iI hv
 | ask l ss y nn =>
   have hf:=hs.fit
   rw [show ((Bd.ask l ss y nn,lv,bg):St).1=.ask l ss y nn from rfl,kB] at hf
   obtain ⟨a,h1,_⟩:=hf
   obtain ⟨pl,hl,hat,_⟩:=hs.pf.each l a h1
   have dz:lv[l]? = some pl:=hl
   have bw:=qP _ _ _ hat
   have tJ:lv.length<=8*n:=dm
   have e:uL (Bd.ask l ss y nn,lv,bg)=(113::pl.2,pl.1,true):=by unfold uL qj;simp only [dz,Option.map_some,Int.toNat_natCast]
   rw [e]
   exact l3Tell_ask (fun _=>True) l ss y nn lv bg pl v mv pt x0 x1 x2 x3 x4 x5 x6 w hr hm hp dz (by omega) hv (by omega)
def ReplyQ (s:St) (v:Pl) (mv pt:Value) (w:World) (en:Ending) (w':World):Prop :=
 ∃ a1 n1 c1 a2 n2 c2,en=.returned (.tuple #[.agg #[.slice a1 n1 c1,.slice a2 n2 c2],.bool (qj s).isSome])/\Below w.heap.size w w'/\(qj s=none->.slice a1 n1 c1=mv/\.slice a2 n2 c2=pt) /\
   ∀ x,qj s=some x->zC w' (v++[x]) (.slice a1 n1 c1) (.slice a2 n2 c2)/\∀ g,(Value.slice a1 n1 c1).ownBlock=some g\/(Value.slice a2 n2 c2).ownBlock=some g->w.heap.size<=g
theorem told_nat {s:St} {x:Bs×Int} (h:qj s=some x):x.2=((x.2.toNat:Nat):Int):=by
 unfold qj at h
 split at h
 ·split at h
  ·simp at h
  ·obtain rfl:=Option.some.inj h;simp
 ·rw [Option.map_eq_some_iff] at h
  obtain ⟨pl,_,rfl⟩:=h
  simp
theorem kE {w:World} {b:Nat} {x y:Value} {T:TypeId} (h:w.heap[b]? = some (.cells #[x,y] T (0,0))) (u v:Value):((w.setCell ⟨b,0,none⟩ u).setCell ⟨b,1,none⟩ v).heap[b]? = some (.cells #[u,v] T (0,0)):=by
 rw [zK (zK h)];rfl
set_option maxRecDepth 100000 in
theorem yJ (F:Nat->Prop) (t:Ty) (b:Bd) (v:Pl) (k:Nat) (s0:St) (tv mv pt:Value) (nv:List Value) (w:World) (hk:Rep F w (qZ t) tv) (hb:zq F w (ke b) nv) (hm:vU F t v mv pt w)
 (bL:zW t<=15) (hf:kB t.args b) (hw:wfB b) (bi:v.length=k+1) (eT:k % 2=0) (dY:zI t b v k) (c_:k7 t b v (k+1)=some s0) :
 Calls Tryz.prog 51 #[.agg #[tv],.agg nv.toArray,.agg #[mv,pt]] w (ReplyQ s0 v mv pt w):=by
 have ci:=ze hm.ok
 obtain ⟨s1,hand,cD,cJ⟩:=jS bL hf hw hm.ok k (by omega) eT dY
 obtain rfl:s0=s1:=Option.some.inj (c_.symm.trans cD)
 obtain ⟨vi,a2,c2,a3,c3,rfl,_,_⟩:=jI hb
 obtain ⟨ta,tc,rfl⟩:=zu hk
 obtain ⟨ma,mc,rfl,_⟩:=hm.m.cells
 obtain ⟨pa,pc,rfl,_⟩:=hm.p.cells
 generalize hq0:jx b=q0 at *
 generalize nC:(qg b).length=q2 at *
 generalize hq3:(jk b).length=q3 at *
 obtain ⟨W,hW,bM,hz,b0,b1,b2,b3⟩:=boxes_4 w (.cells #[.slice ta t.args.length tc] 61) (.cells #[str q0,.int .i64 vi,.slice a2 q2 c2,.slice a3 q3 c3] 64) (.cells #[.slice ma v.length mc,.slice pa v.length pc] 33) (.cells #[.slice none 0 0,.slice none 0 0] 33)
 have CW:Hid (Calls Tryz.prog 90 #[.agg #[.slice ta t.args.length tc],.agg #[str q0,.int .i64 vi,.slice a2 q2 c2,.slice a3 q3 c3],.agg #[.slice ma v.length mc,.slice pa v.length pc]] W (WalkQ s0 v W)) :=
  bU (l3Walk_any F t b v k s0 (.slice ta t.args.length tc) (.slice ma v.length mc) (.slice pa v.length pc) [str q0,.int .i64 vi,.slice a2 q2 c2,.slice a3 q3 c3] W (hk.below bM fun _ h=>h) ((Rep.keep fun i o hi ho=>⟨hi,by rw [bM.block i (zZ ho)];exact ho⟩).2 _ _ hb) (hm.below bM) bL hf hw bi eT dY c_)
 have HI:=bU (bY hm (bY bL cJ))
 have HW:=bU (bY hW (bY bM (bY hz (bY b2 b3))))
 have sq:v.length<=1000:=by omega
 have HK:=bU (show k+1<=100 by omega)
 have g0:=kP b0
 obtain ⟨n0,n1,n2,n3⟩:=zl b1
 obtain ⟨c0,c1,_,_⟩:=zJ b2
 clear hk hb hm bL hf hw bi eT dY c_ cD cJ hW bM hz b0 b1 b2 b3
 go_enter Tryz.func51,Tryz.ntmps51
 go_upto_region 1 with (fail)
 rw [HW.out.1]
 go_wp2_with fail
 (with_reducible refine CW.out.mono ?_)
 rintro en w1 ⟨x0,x1,x2,x3,x4,x5,x6,rfl,bE,nA⟩
 obtain ⟨begun,args,opens,BZ,hat⟩:=nA
 obtain ⟨i4,d2,io,d3,na,da,nb,db,ex,_⟩:=uW hat
 generalize jx s0.1=u0 at ex
 generalize lvOf s0.1=u1 at ex
 generalize (qg s0.1).length=u2 at ex
 generalize (jk s0.1).length=u3 at ex
 simp only [List.cons.injEq,and_true] at ex
 obtain ⟨rfl,rfl,rfl,rfl,rfl,rfl,rfl⟩:=ex
 obtain ⟨X,hX,dp,ai,x0⟩:=kJ w1 (.cells #[str u0,.int .i64 (u1:Nat),.slice i4 u2 d2,.slice io u3 d3,.slice na begun.length da,.slice nb args.length db,.int .i64 (opens:Nat)] 145)
 have mM:Below W.heap.size W X:=zzT bE dp
 have A1:Below w.heap.size w X:=zzT HW.out.2.1 mM
 have hmX:=HI.out.1.below A1
 have hmT:qH (fun _=>True) X v (.slice ma v.length mc):=(Rep.keep fun i o _ ho=>⟨trivial,ho⟩).1 _ _ hmX.m
 have hpT:qG (fun _=>True) X v (.slice pa v.length pc):=(Rep.keep fun i o _ ho=>⟨trivial,ho⟩).1 _ _ hmX.p
 have CT:=l3Tell_any v (.slice ma v.length mc) (.slice pa v.length pc) _ _ _ _ _ _ _ X HI.out.2.2 HI.out.2.1 HK.out sq ⟨begun,args,opens,BZ,(Rep.keep fun i o _ ho=>⟨trivial,by rw [dp.block i (zZ ho)];exact ho⟩).2 _ _ hat⟩ hmT hpT
 have CWT:=bU (fun (y:World) (hy:Below X.heap.size X y) (m:Bs) (z:Int)=>xk v (.slice ma v.length mc) (.slice pa v.length pc) m z y (qH.src (Rep.below hy (fun _ h=>h) hmT)) (qG.src (Rep.below hy (fun _ h=>h) hpT)) sq)
 have p0:=(mM.cell (bW _ _ c0)).trans c0
 have p1:=(mM.cell (bW _ _ c1)).trans c1
 have b3:=(mM.block _ (zZ HW.out.2.2.2.2)).trans HW.out.2.2.2.2
 obtain ⟨e0,e1,e2,e3,e4,e5,e6⟩:=qh x0
 have HX:=bU (bY hX (bY A1 b3))
 have i6:=bU HW.out.2.2.1
 clear hX dp ai x0 mM A1 hmX hmT hpT b3 bE BZ hat c0 c1 g0 n0 n1 n2 n3 CW
 obtain ⟨o,ho⟩:=zzN (qj s0)
 cases o with
 | none =>
   have et:uL s0=([],0,false):=by unfold uL;rw [ho]
   rw [et] at CT
   have CT:=bU CT
   have HO:=bU ho
   clear et ho CWT
   go_upto_region 2 with (fail)
   rw [HX.out.1]
   go_wp2_with fail
   (with_reducible refine CT.out.mono ?_)
   rintro en w2 ⟨rfl,bN⟩
   have p0':=(bN.cell (bW _ _ p0)).trans p0
   have p1':=(bN.cell (bW _ _ p1)).trans p1
   have b3:=(bN.block _ (zZ HX.out.2.2)).trans HX.out.2.2
   obtain ⟨z0,z1,f0,f1⟩:=zJ b3
   have HB:=bU (bY (zzT HX.out.2.1 bN) b3)
   clear bN p0 p1 e0 e1 e2 e3 e4 e5 e6 b3 CT
   go_wp2_with fail
   have hV:=kE HB.out.2 (.slice ma v.length mc) (.slice pa v.length pc)
   obtain ⟨mR,mN,_,_⟩:=zJ hV
   refine bodyPost_ret (v:=.tuple #[.agg #[.slice ma v.length mc,.slice pa v.length pc],.bool false]) (by simp [results,Tryz.results51,go_sem,mR,mN]) rfl ?_
   refine ⟨_,_,_,_,_,_,by rw [HO.out];rfl,(HB.out.1.setCell (p:=⟨w.heap.size+3,0,none⟩) (Nat.le_add_right _ _) _).setCell (p:=⟨w.heap.size+3,1,none⟩) (Nat.le_add_right _ _) _,fun _=>⟨rfl,rfl⟩,fun x h=>?_⟩
   rw [HO.out] at h;simp at h
 | some x =>
   have et:uL s0=(x.1,x.2.toNat,true):=by unfold uL;rw [ho]
   rw [et] at CT
   have hxn:=told_nat ho
   obtain ⟨m,z⟩:=x
   simp only at CT hxn
   obtain ⟨zn,ae⟩:∃ zn:Nat,z.toNat=zn:=⟨_,rfl⟩
   rw [ae] at CT hxn
   subst hxn
   have CT:=bU CT
   have HO:=bU ho
   clear et ho ae
   go_upto_region 2 with (fail)
   rw [HX.out.1]
   go_wp2_with fail
   (with_reducible refine CT.out.mono ?_)
   rintro en w2 ⟨rfl,bN⟩
   have p0':=(bN.cell (bW _ _ p0)).trans p0
   have p1':=(bN.cell (bW _ _ p1)).trans p1
   have b3:=(bN.block _ (zZ HX.out.2.2)).trans HX.out.2.2
   have sJ:=bU (CWT.out w2 bN m (zn:Int))
   have HB:=bU (bY (zzT HX.out.2.1 bN) b3)
   clear bN p0 p1 e0 e1 e2 e3 e4 e5 e6 b3 CT CWT
   go_wp2_with fail
   (with_reducible refine sJ.out.mono ?_)
   rintro en w3 ⟨mvn,ptn,rfl,cR,bp,eI⟩
   obtain ⟨a8,c8,e8⟩:=cR.1.slice
   obtain ⟨a9,c9,e9⟩:=cR.2.slice
   subst e8;subst e9
   have b3:=(bp.block _ (zZ HB.out.2)).trans HB.out.2
   obtain ⟨z0,z1,f0,f1⟩:=zJ b3
   have cF:=bU (bY (zzT HB.out.1 bp) (bY b3 (bY cR (bY eI (show w.heap.size+3<w2.heap.size from zZ HB.out.2)))))
   clear bp p0' p1' b3 cR eI sJ
   generalize hL:(v++[(m,(zn:Int))]).length=L at *
   go_wp2_with fail
   have hV:=kE cF.out.2.1 (.slice a8 L c8) (.slice a9 L c9)
   obtain ⟨mR,mN,_,_⟩:=zJ hV
   have cG:∀ g,g≠w.heap.size+3->((w3.setCell ⟨w.heap.size+3,0,none⟩ (.slice a8 L c8)).setCell ⟨w.heap.size+3,1,none⟩ (.slice a9 L c9)).heap[g]? = w3.heap[g]?:=fun g hg=>by
    rw [bG _ _ _ _ (by show g≠w.heap.size+3;exact hg),bG _ _ _ _ (by show g≠w.heap.size+3;exact hg)]
   refine bodyPost_ret (v:=.tuple #[.agg #[.slice a8 L c8,.slice a9 L c9],.bool true]) (by simp [results,Tryz.results51,go_sem,mR,mN]) rfl ?_
   refine ⟨_,_,_,_,_,_,by rw [HO.out];rfl,(cF.out.1.setCell (p:=⟨w.heap.size+3,0,none⟩) (Nat.le_add_right _ _) _).setCell (p:=⟨w.heap.size+3,1,none⟩) (Nat.le_add_right _ _) _,fun h=>?_,fun x h=>?_⟩
   ·rw [HO.out] at h;simp at h
   ·rw [HO.out] at h
    obtain rfl:=Option.some.inj h
    have bA:=cF.out.2.2.2.2
    refine ⟨⟨cF.out.2.2.1.1.keep fun g o hg ho=>?_,cF.out.2.2.1.2.keep fun g o hg ho=>?_⟩,fun g hg=>?_⟩
    ·have:=cF.out.2.2.2.1 g (.inl hg)
     rw [cG g (by omega)];exact ho
    ·have:=cF.out.2.2.2.1 g (.inr hg)
     rw [cG g (by omega)];exact ho
    ·have:=cF.out.2.2.2.1 g hg;omega
theorem pR (v:Pl) {n i:Nat} (h:i<n):(v.take n)[i]? = v[i]?:=by rw [List.getElem?_take,if_pos h]
theorem okAt_take (t:Ty) (v:Pl) {n i:Nat} (h:i<n):jT t (v.take n) i=jT t v i:=by
 unfold jT
 rw [pR v h]
 cases hv:v[i]? with
 | none=>rfl
 | some x =>
   simp only
   by_cases hi:i=0
   ·rw [if_pos hi,if_pos hi]
   ·rw [if_neg hi,if_neg hi]
    by_cases hz:0<=x.2/\x.2<(i:Int)
    ·rw [pR v (show x.2.toNat<n by omega)]
    ·have:(decide (0<=x.2) && decide (x.2<(i:Int)))=false:=by
      rw [Bool.and_eq_false_iff,decide_eq_false_iff_not,decide_eq_false_iff_not]
      by_cases h0:0<=x.2
      ·exact .inr fun h1=>hz ⟨h0,h1⟩
      ·exact .inl h0
     rw [this,Bool.false_and,Bool.false_and,Bool.false_and]
theorem hU (t:Ty) (v:Pl) {n:Nat}:∀ m,m<=n->qW t (v.take n) m=qW t v m
 | 0,_=>rfl
 | m+1,h=>by rw [qW,qW,hU t v m (by omega),okAt_take t v (by omega)]
theorem xn {t:Ty} {v:Pl}:∀ {m:Nat},(∀ i,i<m->jT t v i=true)->qW t v m=true
 | 0,_=>rfl
 | m+1,h=>by rw [qW,xn (fun i hi=>h i (by omega)),h m (by omega)];rfl
theorem valid_take {t:Ty} {v:Pl} (h:zv t v=true) (n:Nat):zv t (v.take n)=true:=by
 have ci:=ze h
 unfold zv at h ⊢
 rw [Bool.and_eq_true] at h ⊢
 refine ⟨by rw [decide_eq_true_eq,List.length_take];omega,?_⟩
 rw [hU t v _ (by rw [List.length_take];omega)]
 exact xn fun i hi=>uY h.2 (by rw [List.length_take] at hi;omega)
theorem we {t:Ty} {v:Pl} (h:zv t v=true) (b:Bd) {n:Nat}:∀ f m,m<=n->m<=v.length->j1 t b (v.take n) f m=j1 t b v f m
 | 0,_,_,_=>rfl
 | f+1,m,hm,hl=>by
   rw [j1,j1]
   by_cases h1:m<=1
   ·rw [if_pos h1,if_pos h1]
   ·rw [if_neg h1,if_neg h1,pR v (show m-1<n by omega)]
    obtain ⟨c,p,z,hv,ho⟩:=kV h (show m-1<v.length by omega)
    rw [hv]
    have:=(ho.pos (by omega)).2.1
    simp only
    rw [we h b f z.toNat (by omega) (by omega)]
theorem jv {t:Ty} {v:Pl} (h:zv t v=true) (b:Bd) {n m:Nat} (hm:m<=n) (hl:m<=v.length):k7 t b (v.take n) m=k7 t b v m:=we h b _ m hm hl
theorem follows_take {t:Ty} {v:Pl} (h:zv t v=true) (b:Bd) {n m:Nat} (hm:m<=n) (hl:m<=v.length) (hf:zI t b v m):zI t b (v.take n) m:=fun i hi ho=>by
 unfold kZ
 rw [jv h b (by omega) (by omega),pR v (by omega)]
 exact hf i hi ho
theorem vU.take {F:Nat->Prop} {t:Ty} {v:Pl} {mv pt:Value} {w:World} (h:vU F t v mv pt w) {n:Nat} {mv' pt':Value} (hm:qH F w (v.take n) mv') (hp:qG F w (v.take n) pt'):vU F t (v.take n) mv' pt' w :=
 ⟨hm,hp,valid_take h.ok n,fun x hx=>h.l x (List.mem_of_mem_take hx)⟩
theorem Rep_take {F:Nat->Prop} {w:World} {e:TypeId} {n k:Nat} {cs:List DV} {a:Option Addr} {c:Nat} (h:Rep F w (.sl e 1 n cs) (.slice a n c)) (hk:k<=n) (ha:a≠none):Rep F w (.sl e 1 k (cs.take k)) (.slice a k c):=by
 rw [qk] at h ⊢
 obtain ⟨hl,a',cap,hv,hn,hz,h⟩:=h
 simp only [Value.slice.injEq,true_and] at hv
 obtain ⟨rfl,rfl⟩:=hv
 rw [Nat.mul_one] at hl
 refine ⟨by rw [List.length_take];omega,a,c,rfl,by omega,fun h=>absurd h ha,?_⟩
 rcases h with h | ⟨b,o,xs,fr,ea,hb,hc,hr⟩
 ·exact .inl (by omega)
 ·refine .inr ⟨b,o,xs,fr,ea,hb,hc,?_⟩
  rw [Nat.mul_one] at hr ⊢
  have h2:=zq.split (ds:=cs.take k) (es:=cs.drop k) (by rw [List.take_append_drop];exact hr)
  have h3:=h2.1
  rw [List.length_take,show min k cs.length=k from by omega,List.take_take,show min k n=k from by omega] at h3
  exact h3
theorem Own.notBox {w:World} {e T:TypeId} {sz n:Nat} {v:Value} {xs:List Value} (h:Own w e sz v n xs) {g:Nat} {c:Array Value} {fr:Nat×Nat} (hb:w.heap[g]? = some (.cells c T fr)) (he:e≠T):v.ownBlock≠some g:=by
 intro hg
 rcases h.2 with ⟨rfl,_⟩ | ⟨b,cap,cur,rfl,_,bE,_⟩
 ·simp [Value.ownBlock] at hg
 ·simp [Value.ownBlock] at hg
  subst hg
  rw [bE] at hb
  simp at hb
  exact he hb.2.1
theorem zC.notBox {w:World} {l:Pl} {mv pt:Value} (h:zC w l mv pt) {T:TypeId} {g:Nat} {c:Array Value} {fr:Nat×Nat} (hb:w.heap[g]? = some (.cells c T fr)) (h1:9≠T) (h2:3≠T):∀ i,mv.ownBlock=some i\/pt.ownBlock=some i->¬ i=g:=by
 intro i hi e
 subst e
 exact hi.elim (h.1.notBox hb h1) (h.2.notBox hb h2)
set_option maxRecDepth 100000 in
theorem l3Cut_at (b1 o1 c1 b2 o2 c2 L L2 n:Nat) (w:World) (h1:n<=c1) (h2:n<=c2) :
 Calls Tryz.prog 89 #[.agg #[.slice (some ⟨b1,o1,none⟩) L c1,.slice (some ⟨b2,o2,none⟩) L2 c2],.int .i64 (n:Nat)] w fun en w'=>en=.returned (.agg #[.slice (some ⟨b1,o1,none⟩) n c1,.slice (some ⟨b2,o2,none⟩) n c2])/\Below w.heap.size w w':=by
 obtain ⟨W,hW,bM,hz,p0,p1⟩:=kH w (.cells #[.slice (some ⟨b1,o1,none⟩) L c1,.slice (some ⟨b2,o2,none⟩) L2 c2] 33) (.cells #[.slice none 0 0,.slice none 0 0] 33)
 have h1I:(n:Int)<=(c1:Int):=by omega
 have h2I:(n:Int)<=(c2:Int):=by omega
 have HW:=bU (bY hW (bY bM (bY hz (bY p0 p1))))
 have KEY:=bU (fun (y:World) (hy:Below W.heap.size W y)=>(show y.cell? ⟨w.heap.size,0,none⟩=some (.slice (some ⟨b1,o1,none⟩) L c1)/\y.cell? ⟨w.heap.size,1,none⟩=some (.slice (some ⟨b2,o2,none⟩) L2 c2) from by
  obtain ⟨c0,c1,_,_⟩:=zJ p0
  exact ⟨(hy.cell (bW _ _ c0)).trans c0,(hy.cell (bW _ _ c1)).trans c1⟩))
 clear hW bM hz p0 p1 h1 h2
 go_enter Tryz.func89,Tryz.ntmps89
 go_upto_region 1 with (fail)
 rw [HW.out.1]
 refine wp_region_noPanic ?_
 refine zX (fun w'=>Below W.heap.size W w') (fun i=>i=9) (by kernel_rfl) ?_
 have bS:(fun w'=>Below W.heap.size W w') W.drew:=Below.drew (bP _ _)
 refine tk [0,1,2,3,4] bS ?_
 (intro d hd;simp [tkD] at hd;subst hd;simp only [tks,pQ,pZ,pS])
 iterate 5 (refine ⟨?_,?_,?_⟩;rotate_left;· (intro oi ho;simp at ho;subst ho;refine Or.inl ⟨by rfl,fun w' bR=>?_⟩;have e0:=(KEY.out w' bR).1;go_simp;try with_reducible rfl))
 refine tk [5,6,7,8] bS ?_
 (intro d hd;simp [tkD] at hd;subst hd;simp only [tks,pQ,pZ,pS])
 iterate 4 (refine ⟨?_,?_,?_⟩;rotate_left;· (intro oi ho;simp at ho;subst ho;refine Or.inl ⟨by rfl,fun w' bR=>?_⟩;have e0:=(KEY.out w' bR).2;go_simp;try with_reducible rfl))
 (refine on 9 ?_;intro o ho K' hK;simp at ho;subst ho)
 have xx:=HW.out.2.2.2.2
 obtain ⟨e0,e1,f0,f1⟩:=zJ (w:=W.drew) xx
 obtain ⟨e0',e1',f0',f1'⟩:=zJ xx
 go_simp
 (refine hK.out _ _ (fun h=>by simp at h) ?_;clear hK K';try simp only [pQ,pN,pZ,pS])
 refine zU (by kernel_rfl) (NoPanic.normal ?_) _
 have xx:=HW.out.2.2.2.2
 have hV:=kE (w:=W.drew) xx (.slice (some ⟨b1,o1,none⟩) n c1) (.slice (some ⟨b2,o2,none⟩) n c2)
 obtain ⟨mR,mN,_,_⟩:=zJ hV
 have hV1:(W.setCell ⟨w.heap.size+1,0,none⟩ (.slice (some ⟨b1,o1,none⟩) n c1)).heap[w.heap.size+1]? = some (.cells #[.slice (some ⟨b1,o1,none⟩) n c1,.slice none 0 0] 33 (0,0)):=by rw [zK xx];rfl
 obtain ⟨t0,_,_,_⟩:=zJ hV1
 have hV2:=kE xx (.slice (some ⟨b1,o1,none⟩) n c1) (.slice (some ⟨b2,o2,none⟩) n c2)
 obtain ⟨r0,r1,_,_⟩:=zJ hV2
 go_wp2_with fail
 have eQ:=((HW.out.2.1.drew).setCell (p:=⟨w.heap.size+1,0,none⟩) (Nat.le_succ _) (.slice (some ⟨b1,o1,none⟩) n c1)).setCell (p:=⟨w.heap.size+1,1,none⟩) (Nat.le_succ _) (.slice (some ⟨b2,o2,none⟩) n c2)
 refine bodyPost_ret (v:=.agg #[.slice (some ⟨b1,o1,none⟩) n c1,.slice (some ⟨b2,o2,none⟩) n c2]) (by simp [results,Tryz.results89,go_sem,mR,mN,t0,r0,r1]) rfl ?_
 exact ⟨rfl,eQ⟩
def qAt (v:Pl) (i:Nat):Prop:=∃ m z,v[i]? = some (m,z)/\isQ m=true
def pM (v:Pl) (k:Nat) (ans:List Int) (q:Nat):Prop:=(q:Int)∈ans\/∃ j m,q<j/\j<k/\v[j]? = some (m,(q:Int))/\isQ m=false
structure yC (v:Pl) (k:Nat) (ans:List Int) (z:Nat):Prop where
 lt:z<k
 q:qAt v z
 free:¬ pM v k ans z
 all:∀ i,z<i->i<k->qAt v i->pM v k ans i
theorem pI (v:Pl):∀ (k:Nat) (ans:List Int),k<=v.length->(∃ z:Nat,kL v k ans=(z:Int)/\yC v k ans z)\/(kL v k ans = -1/\∀ i,i<k->qAt v i->pM v k ans i)
 | 0,ans,_=>.inr ⟨rfl,fun i hi=>absurd hi (by omega)⟩
 | k+1,ans,hk=>by
   have hv:v[k]? = some v[k]:=List.getElem?_eq_getElem (by omega)
   obtain ⟨m,y⟩:Bs×Int:=v[k]
   obtain ⟨m,y,hv⟩:∃ m y,v[k]? = some (m,y):=⟨_,_,hv⟩
   cases hq:isQ m with
   | true =>
     have fh:∀ i,pM v k ans i->pM v (k+1) ans i:=fun i h=>h.imp id fun ⟨j,m',h1,h2,h3⟩=>⟨j,m',h1,by omega,h3⟩
     have rB:∀ i,pM v (k+1) ans i->pM v k ans i:=fun i h=>h.imp id fun ⟨j,m',h1,h2,h3,h4⟩=>⟨j,m',h1,by
      rcases Nat.lt_or_ge j k with h | h
      ·exact h
      ·obtain rfl:j=k:=by omega
       rw [hv] at h3
       simp only [Option.some.injEq,Prod.mk.injEq] at h3
       rw [<- h3.1,hq] at h4;simp at h4,h3,h4⟩
     rw [v9 hv,hq,if_pos rfl]
     by_cases hc:ans.contains (k:Int)=true
     ·rw [if_pos hc]
      have cC:(k:Int)∈ans:=by simpa using hc
      rcases pI v k ans (by omega) with ⟨z,h1,h2⟩ | ⟨h1,h2⟩
      ·refine .inl ⟨z,h1,by have:=h2.lt;omega,h2.q,fun h=>h2.free (rB _ h),fun i hi nE rj=>?_⟩
       rcases Nat.lt_or_ge i k with h | h
       ·exact fh _ (h2.all i hi h rj)
       ·obtain rfl:i=k:=by omega
        exact .inl cC
      ·refine .inr ⟨h1,fun i hi rj=>?_⟩
       rcases Nat.lt_or_ge i k with h | h
       ·exact fh _ (h2 i h rj)
       ·obtain rfl:i=k:=by omega
        exact .inl cC
     ·rw [if_neg hc]
      refine .inl ⟨k,rfl,by omega,⟨m,y,hv,hq⟩,fun h=>?_,fun i hi nE=>absurd nE (by omega)⟩
      rcases h with h | ⟨j,_,h1,h2,_⟩
      ·exact hc (by simpa using h)
      ·omega
   | false =>
     rw [v9 hv,hq,if_neg (by simp)]
     have hto:∀ i,i<k->(pM v k (ans++[y]) i↔pM v (k+1) ans i):=fun i hi=>by
      unfold pM
      constructor
      ·rintro (h | ⟨j,m',h1,h2,h3,h4⟩)
       ·rw [List.mem_append,List.mem_singleton] at h
        rcases h with h | h
        ·exact .inl h
        ·exact .inr ⟨k,m,hi,by omega,by rw [hv,h],hq⟩
       ·exact .inr ⟨j,m',h1,by omega,h3,h4⟩
      ·rintro (h | ⟨j,m',h1,h2,h3,h4⟩)
       ·exact .inl (List.mem_append_left _ h)
       ·rcases Nat.lt_or_ge j k with h | h
        ·exact .inr ⟨j,m',h1,h,h3,h4⟩
        ·obtain rfl:j=k:=by omega
         rw [hv] at h3
         simp only [Option.some.injEq,Prod.mk.injEq] at h3
         exact .inl (List.mem_append_right _ (by rw [List.mem_singleton];exact h3.2.symm))
     have oq:¬ qAt v k:=fun ⟨m',y',h1,h2⟩=>by
      rw [hv] at h1
      simp only [Option.some.injEq,Prod.mk.injEq] at h1
      rw [<- h1.1,hq] at h2;simp at h2
     rcases pI v k (ans++[y]) (by omega) with ⟨z,h1,h2⟩ | ⟨h1,h2⟩
     ·refine .inl ⟨z,h1,by have:=h2.lt;omega,h2.q,fun h=>h2.free ((hto z h2.lt).2 h),fun i hi nE rj=>?_⟩
      rcases Nat.lt_or_ge i k with h | h
      ·exact (hto i h).1 (h2.all i hi h rj)
      ·obtain rfl:i=k:=by omega
       exact absurd rj oq
     ·refine .inr ⟨h1,fun i hi rj=>?_⟩
      rcases Nat.lt_or_ge i k with h | h
      ·exact (hto i h).1 (h2 i h rj)
      ·obtain rfl:i=k:=by omega
       exact absurd rj oq
theorem yC.eq {v:Pl} {k z:Nat} {ans:List Int} (hk:k<=v.length) (h:yC v k ans z):kL v k ans=(z:Int):=by
 rcases pI v k ans hk with ⟨y,h1,h2⟩ | ⟨_,h2⟩
 ·rw [h1]
  rcases Nat.lt_trichotomy y z with h3 | h3 | h3
  ·exact absurd (h2.all z h3 h.lt h.q) h.free
  ·rw [h3]
  ·exact absurd (h.all y h3 h2.lt h2.q) h2.free
 ·exact absurd (h2 z h.lt h.q) h.free
theorem pend_of {v:Pl} {k z:Nat} {ans:List Int} (hk:k<=v.length) (h:kL v k ans=(z:Int)):yC v k ans z:=by
 rcases pI v k ans hk with ⟨y,h1,h2⟩ | ⟨h1,_⟩
 ·rw [h1] at h
  obtain rfl:y=z:=by omega
  exact h2
 ·rw [h1] at h;omega
def brTo (v:Pl) (n:Nat):Prop:=∀ i m z,i<n->v[i]? = some (m,z)->isQ m=false->z=kL v i []
theorem brP_to {v:Pl} (h:qd v=true):brTo v v.length:=fun i m z hi hv hq=>by
 unfold qd brP at h
 rw [Bool.and_eq_true] at h
 have h1:=vh h.2 hi
 rw [xt hv,hq,Bool.false_or] at h1
 simpa using h1
theorem pend_back {v:Pl} {k z g:Nat} {m mq:Bs} {y:Int} (hk:k<v.length) (hb:brTo v v.length) (hv:v[k]? = some (m,(z:Int))) (hq:isQ m=false) (hz:v[z]? = some (mq,y)) (hzq:isQ mq=true) (bA:z<k) (hg:kL v z []=(g:Int)):kL v (k+1) []=(g:Int):=by
 have hP:yC v k [] z:=pend_of (by omega) (hb k m _ hk hv hq).symm
 have hG:yC v z [] g:=pend_of (by omega) hg
 have hgz:=hG.lt
 have fh:∀ a c i,a<=c->pM v a [] i->pM v c [] i:=fun a c i hac h=>h.imp id fun ⟨j,m',h1,h2,h3⟩=>⟨j,m',h1,by omega,h3⟩
 refine yC.eq (by omega) ⟨by omega,hG.q,fun h=>?_,fun i hi nE rj=>?_⟩
 ·rcases h with h | ⟨j,m',h1,h2,h3,h4⟩
  ·simp at h
  ·rcases Nat.lt_trichotomy j z with hj | hj | hj
   ·exact hG.free (.inr ⟨j,m',h1,hj,h3,h4⟩)
   ·subst hj
    rw [hz] at h3
    simp only [Option.some.injEq,Prod.mk.injEq] at h3
    rw [<- h3.1,hzq] at h4;simp at h4
   ·rcases Nat.lt_or_ge j k with oe | oe
    ·have h5:yC v j [] g:=pend_of (by omega) (hb j m' _ (by omega) h3 h4).symm
     have h6:=h5.all z hgz hj ⟨mq,y,hz,hzq⟩
     exact hP.free (fh j k z (by omega) h6)
    ·obtain rfl:j=k:=by omega
     rw [hv] at h3
     simp only [Option.some.injEq,Prod.mk.injEq] at h3
     have:=h3.2;omega
 ·rcases Nat.lt_trichotomy i z with h | h | h
  ·exact fh z (k+1) i (by omega) (hG.all i hi h rj)
  ·subst h
   exact .inr ⟨k,m,bA,by omega,hv,hq⟩
  ·rcases Nat.lt_or_ge i k with hik | hik
   ·exact fh k (k+1) i (by omega) (hP.all i h hik rj)
   ·obtain rfl:i=k:=by omega
    obtain ⟨m',y',h1,h2⟩:=rj
    rw [hv] at h1
    simp only [Option.some.injEq,Prod.mk.injEq] at h1
    rw [<- h1.1,hq] at h2;simp at h2
structure StIn (v:Pl) (s:St) (n:Nat):Prop where
 lv:∀ (l:Nat) (pl:zg),s.2.1[l]? = some pl->pl.1 % 2=0/\pl.1<n/\pl.1∈kW v false n/\∃ z j q,j<10/\pl.2=q++[qa j]/\v[pl.1]? = some (113::q,z)
 bg:s.2.2.1 % 2=0/\s.2.2.1<n/\s.2.2.1∈kW v false n/\∃ z,v[s.2.2.1]? = some (113::s.2.2.2,z)
 pend:kL v n []=(s.2.2.1:Int)
theorem place_in {t:Ty} {b:Bd} {v:Pl} (bL:zW t<=15) (hf:kB t.args b) (hw:wfB b) (hv:zv t v=true) (hl:qd v=true) (k:Nat):k<v.length->k % 2=0->zI t b v k->∃ s hand,k7 t b v (k+1)=some s/\uv t hand s (k+1)/\StIn v s (k+1):=by
 have hbr:=brP_to hl
 induction k using Nat.strongRecOn with
 | _ k ih =>
   intro hk he dY
   rcases Nat.eq_zero_or_pos k with h0 | h0
   ·subst h0
    obtain ⟨c,p,z,nS,ho⟩:=kV hv hk
    obtain ⟨rfl,rfl,rfl⟩:=ho.zero rfl
    have nR:=wh hv hk
    refine ⟨_,_,jr t b v,uG bL hf hw,fun l pl h=>?_,⟨rfl,by show 0<0+1;omega,by rw [nR];exact List.mem_singleton.2 rfl,-1,nS⟩,?_⟩
    ·have bI:=(List.getElem?_eq_some_iff.1 h).1
     have lN:l<(zh t.args.length 0 []).length:=bI
     rw [zt] at lN
     have h':(zh t.args.length 0 [])[l]? = some pl:=h
     rw [vy lN] at h'
     obtain rfl:=Option.some.inj h'
     have:=kd t
     exact ⟨rfl,by show 0<0+1;omega,by rw [nR];exact List.mem_singleton.2 rfl,-1,l,[],by omega,by show []++dec l=_;rw [qB (by omega)],nS⟩
    ·rw [v9 nS];rfl
   ·obtain ⟨c,p,z,ho,b4⟩:=opp_mv hv hk he h0
    have bA:=ho.lt
    have mx:=ho.odd
    obtain ⟨z',rfl⟩:∃ z',z=z'+1:=⟨z-1,by omega⟩
    obtain ⟨s,hand,hp,hs,cC⟩:=ih z' (by omega) (by omega) (by omega) (fun i hi h=>dY i (by omega) h)
    obtain ⟨x,hx,rS⟩:=ho.en
    have hr:=dY (z'+1) (by omega) mx
    unfold kZ at hr
    rw [hp,Option.bind_some,hx] at hr
    obtain ⟨l,ss,y,n,a,pl,hd⟩:=yF bL hs b4 h0 rS hr
    obtain ⟨s',dR,h1,h2⟩:=hd.next (k:=k) hs (by omega) (by omega) bL
    have nR:=pi hv hk ho (by rw [b4.opp];simp [he])
    have ow:∀ i,i∈kW v false (z'+1)->i∈kW v false (k+1):=fun i h=>by rw [nR];exact List.mem_append_left _ h
    have hkm:k∈kW v false (k+1):=by rw [nR];exact List.mem_append_right _ (by simp)
    refine ⟨s',dR,by rw [j9 hv b hk h0 ho,hp,Option.bind_some,h1],h2,?_⟩
    have fQ:=h1
    unfold xH at fQ
    rw [hd.body] at fQ
    simp only at fQ
    rcases hd.mv with ⟨rfl,j,aj,sb,hpp,hj,lq,fM,hat,lR⟩ | ⟨hc,hpp⟩
    ·rw [if_pos rfl,lR,fM] at fQ
     obtain rfl:=Option.some.inj fQ
     refine ⟨fun i pl' hi=>?_,⟨he,by show k<k+1;omega,hkm,_,ho.at'⟩,?_⟩
     ·have sC:(s.2.1++zh (qo t p) k p)[i]? = some pl':=hi
      rcases Nat.lt_or_ge i s.2.1.length with h | h
      ·rw [List.getElem?_append_left h] at sC
       obtain ⟨q1,q2,q3,q4⟩:=cC.lv i pl' sC
       exact ⟨q1,by omega,ow _ q3,q4⟩
      ·rw [List.getElem?_append_right h] at sC
       have bI:=(List.getElem?_eq_some_iff.1 sC).1
       rw [zt] at bI
       rw [vy bI] at sC
       obtain rfl:=Option.some.inj sC
       have e0:qo t p=aj.args.length:=by unfold qo;rw [hat]
       have e1:=qP _ _ _ hat
       have e2:=kd aj
       exact ⟨he,by show k<k+1;omega,hkm,_,i-s.2.1.length,p,by omega,by show p++dec _=_;rw [qB (by omega)],ho.at'⟩
     ·rw [v9 ho.at',kw];rfl
    ·have rG:¬ c=113:=by rcases hc with h | h <;> rw [h] <;> decide
     rw [if_neg rG] at fQ
     obtain rfl:=Option.some.inj fQ
     refine ⟨fun i pl' hi=>?_,⟨cC.bg.1,by have:=cC.bg.2.1;show s.2.2.1<k+1;omega,ow _ cC.bg.2.2.1,cC.bg.2.2.2⟩,?_⟩
     ·obtain ⟨q1,q2,q3,q4⟩:=cC.lv i pl' hi
      exact ⟨q1,by omega,ow _ q3,q4⟩
     ·obtain ⟨mq,yq⟩:=x
      have oq:isQ (c::p)=false:=by rw [kw];simp [rG]
      refine pend_back hk hbr ho.at' oq hx ?_ bA cC.pend
      have hxe':mq=qe (c::p):=rS
      rw [hxe']
      unfold qe
      rw [if_neg (fun e=>rG (by simp only [List.cons.injEq] at e;exact e.1)),oq,if_neg (by simp)]
      rfl
theorem vu {v:Pl} {x:Bs×Int} {i:Nat} (h:i<v.length):(v++[x])[i]? = v[i]?:=List.getElem?_append_left h
theorem snoc_new (v:Pl) (x:Bs×Int):(v++[x])[v.length]? = some x:=by rw [List.getElem?_append_right (bX _),Nat.sub_self];rfl
theorem p7 {t:Ty} {v:Pl} (hv:zv t v=true) (x:Bs×Int) (o:Bool):∀ f n,n<=v.length->qv (v++[x]) o f n=qv v o f n
 | 0,_,_=>by rw [qv,qv]
 | f+1,0,_=>by rw [jR,jR]
 | f+1,n+1,hn=>by
   have e:jA (v++[x]) o n=jA v o n:=by unfold jA;rw [vu (by omega)]
   have h1:=backTo_le hv o (n:=n) (by omega)
   rw [kS,kS,e,p7 hv x o f _ (by omega)]
theorem yh {t:Ty} {v:Pl} (hv:zv t v=true) (x:Bs×Int) (o:Bool) {n:Nat} (hn:n<=v.length):kW (v++[x]) o n=kW v o n:=by
 unfold kW;rw [p7 hv x o n n hn]
theorem vM (v:Pl) (x:Bs×Int):∀ (n:Nat) (ans:List Int),n<=v.length->kL (v++[x]) n ans=kL v n ans
 | 0,_,_=>rfl
 | n+1,ans,h=>by
   rw [kL,kL,vu (show n<v.length by omega),vM v x n ans (by omega)]
   cases v[n]? with
   | none=>rfl
   | some y=>simp only [vM v x n _ (by omega)]
theorem okAt_snoc (t:Ty) (v:Pl) (x:Bs×Int) {i:Nat} (h:i<v.length):jT t (v++[x]) i=jT t v i:=by
 have:=okAt_take t (v++[x]) h
 rw [List.take_left' rfl] at this
 exact this.symm
theorem p9 {t:Ty} {v:Pl} (hv:zv t v=true) (x:Bs×Int):zv t (v++[x])=(decide (v.length<60) && jT t (v++[x]) v.length):=by
 unfold zv at hv
 rw [Bool.and_eq_true] at hv
 have h1:qW t (v++[x]) v.length=true:=xn fun i hi=>by rw [okAt_snoc t v x hi];exact uY hv.2 hi
 unfold zv
 rw [List.length_append,List.length_singleton,qW,h1,Bool.true_and]
 congr 1
theorem pm {t:Ty} {v:Pl} (hv:zv t v=true) (x:Bs×Int) {i:Nat} (h:i<v.length):vk (v++[x]) i=vk v i:=by
 unfold vk
 rw [vu h]
 cases v[i]? with
 | none=>rfl
 | some y=>simp only [yh hv x _ (Nat.le_of_lt h)]
theorem brAt_snoc (v:Pl) (x:Bs×Int) {i:Nat} (h:i<v.length):yk (v++[x]) i=yk v i:=by
 unfold yk
 rw [vu h]
 cases v[i]? with
 | none=>rfl
 | some y=>simp only [vM v x i _ (Nat.le_of_lt h)]
theorem gz {t:Ty} {v:Pl} (hv:zv t v=true) (hl:qd v=true) (x:Bs×Int):qd (v++[x])=(vk (v++[x]) v.length && yk (v++[x]) v.length):=by
 unfold qd xY brP at hl ⊢
 rw [Bool.and_eq_true] at hl
 have h1:jL (vk (v++[x])) v.length=true:=yI fun i hi=>by rw [pm hv x hi];exact vh hl.1 hi
 have h2:jL (yk (v++[x])) v.length=true:=yI fun i hi=>by rw [brAt_snoc v x hi];exact vh hl.2 hi
 rw [List.length_append,List.length_singleton,jL,jL,h1,h2,Bool.true_and,Bool.true_and]
def qN (t:Ty) (b:Bd) (v:Pl):Option Pl:=if v.length=60 then none else (kZ t b v v.length).map fun x=>v++[x]
structure yD (t:Ty) (b:Bd) (v:Pl):Prop where
 ok:zv t v=true
 lg:qd v=true
 fo:zI t b v v.length
theorem xh {t:Ty} {b:Bd} {v:Pl} {x:Bs×Int} (hv:zv t (v++[x])=true) (n:Nat) (hn:n<=v.length) (hf:zI t b v n):zI t b (v++[x]) n:=fun i hi ho=>by
 have h1:=jv hv b (n:=v.length) (m:=i) (by omega) (by rw [List.length_append];omega)
 rw [List.take_left' rfl] at h1
 unfold kZ
 rw [<- h1,vu (by omega)]
 exact hf i hi ho
theorem ue {t:Ty} {b:Bd} {v:Pl} (bL:zW t<=15) (hf:kB t.args b) (hw:wfB b) (h:yD t b v) (ho:v.length % 2=1) (ci:v.length<60) {x:Bs×Int} (hx:kZ t b v v.length=some x):yD t b (v++[x]):=by
 obtain ⟨k,hk⟩:∃ k,v.length=k+1:=⟨v.length-1,by omega⟩
 obtain ⟨s,hand,hp,hs,cC⟩:=place_in bL hf hw h.ok h.lg k (by omega) (by omega) (fun i hi ho=>h.fo i (by omega) ho)
 have ei:=hx
 unfold kZ at ei
 rw [hk,hp,Option.bind_some] at ei
 rw [<- hk] at cC hs
 have bD:=snoc_new v x
 have key:∃ (c:UInt8) (p:Bs) (i:Nat),x=(c::p,(i:Int))/\(c=113\/c=116\/c=102)/\(∃ a,atT t p=some a)/\kC (c::p)=false/\i<v.length/\¬ (c::p)=[113]/\(∃ z,v[i]? = some (qe (c::p),z))/\i∈kW v false v.length/\(isQ (c::p)=true\/(i:Int)=kL v v.length []):=by
  have Cl:∀ (i:Nat) (m:Bs) (z:Int),i % 2=0->i<v.length->v[i]? = some (m,z)->kC m=true:=fun i m z h1 h2 h3=>by
   obtain ⟨c',p',z',fb,fw⟩:=kV h.ok h2
   rw [fb] at h3
   simp only [Option.some.injEq,Prod.mk.injEq] at h3
   rw [<- h3.1,fw.opp];simp [h1]
  obtain ⟨bd,lv,bg⟩:=s
  cases bd with
  | leaf c =>
    have bR:=hs.wf
    rw [show ((Bd.leaf c,lv,bg):St).1=.leaf c from rfl,wfB] at bR
    unfold qj at ei
    simp only at ei
    split at ei
    ·simp at ei
    ·rename_i hc
     obtain rfl:=Option.some.inj ei
     have eB:c=116\/c=102:=by
      rcases bR with h | h | h
      ·exact .inl h
      ·exact .inr h
      ·exact absurd h hc
     have tB:¬ c=113:=by rcases eB with h | h <;> rw [h] <;> decide
     have bm:¬ (c::bg.2)=[113]:=fun e=>tB (by simp only [List.cons.injEq] at e;exact e.1)
     have oq:isQ (c::bg.2)=false:=by rw [kw];simp [tB]
     have sD:qe (c::bg.2)=113::bg.2:=by unfold qe;rw [if_neg bm,oq,if_neg (by simp)];rfl
     obtain ⟨q1,q2,q3,z,q4⟩:=cC.bg
     refine ⟨c,bg.2,bg.1,rfl,.inr eB,hs.bgt,?_,q2,bm,⟨z,by rw [sD];exact q4⟩,q3,.inr cC.pend.symm⟩
     have h1:=y_ bm
     rw [sD,Cl _ _ _ q1 q2 q4] at h1
     cases hh:kC (c::bg.2) with
     | false=>rfl
     | true=>rw [hh] at h1;simp at h1
  | ask l ss y n =>
    have cJ:=hs.fit
    rw [show ((Bd.ask l ss y n,lv,bg):St).1=.ask l ss y n from rfl,kB] at cJ
    obtain ⟨a,h1,_⟩:=cJ
    obtain ⟨pl,hl,hat,_⟩:=hs.pf.each l a h1
    have dz:lv[l]? = some pl:=hl
    unfold qj at ei
    simp only [dz,Option.map_some] at ei
    obtain rfl:=Option.some.inj ei
    obtain ⟨q1,q2,q3,z,j,q,hj,bw,q4⟩:=cC.lv l pl hl
    have bm:¬ (113::pl.2)=[113]:=fun e=>by rw [bw] at e;simp at e
    have sD:qe (113::pl.2)=113::q:=by
     unfold qe
     rw [if_neg bm,kw,show ((113:UInt8) == 113)=true from rfl,if_pos rfl,bw,<- List.cons_append,List.dropLast_concat]
    refine ⟨113,pl.2,pl.1,rfl,.inl rfl,⟨a,hat⟩,?_,q2,bm,⟨z,by rw [sD];exact q4⟩,q3,.inl rfl⟩
    have h1:=y_ bm
    rw [sD,Cl _ _ _ q1 q2 q4] at h1
    cases hh:kC (113::pl.2) with
    | false=>rfl
    | true=>rw [hh] at h1;simp at h1
 obtain ⟨c,p,i,rfl,hc,⟨a,hat⟩,mF,hi,bm,⟨z,hz⟩,nR,hbr⟩:=key
 have b4:jT t (v++[(c::p,(i:Int))]) v.length=true:=by
  unfold jT
  rw [bD]
  simp only
  rw [if_neg (by omega),mF,show jH t (c::p)=true from by
   simp only [jH,hat];rcases hc with h | h | h <;> rw [h] <;> rfl,Int.toNat_natCast,vu hi,hz]
  have e1:decide (v.length % 2=0)=false:=decide_eq_false (by omega)
  have e2:((c::p) == [113])=false:=by
   cases hh:((c::p) == [113]) with
   | false=>rfl
   | true=>exact absurd (by simpa using hh) bm
  have e3:decide ((0:Int)<=(i:Int))=true:=decide_eq_true (by omega)
  have e4:decide ((i:Int)<(v.length:Int))=true:=decide_eq_true (by omega)
  rw [e1,e2,e3,e4]
  simp
 have rL:zv t (v++[(c::p,(i:Int))])=true:=by
  rw [p9 h.ok,b4,decide_eq_true ci];rfl
 refine ⟨rL,?_,?_⟩
 ·rw [gz h.ok h.lg,xX bD (by omega),xt bD,yh h.ok _ _ (bX _),vM v _ _ _ (bX _),mF,Bool.and_eq_true]
  refine ⟨?_,?_⟩
  ·rw [List.contains_iff_mem,List.mem_map]
   exact ⟨i,nR,rfl⟩
  ·rcases hbr with h | h
   ·rw [h];rfl
   ·rw [h];simp
 ·rw [List.length_append,List.length_singleton]
  intro j hj hjo
  rcases Nat.lt_or_ge j v.length with h' | h'
  ·exact xh rL v.length (bX _) h.fo j h' hjo
  ·obtain rfl:j=v.length:=by omega
   have h1:=jv rL b (n:=v.length) (m:=v.length) (bX _) (by rw [List.length_append];omega)
   rw [List.take_left' rfl] at h1
   rw [bD]
   unfold kZ
   rw [<- h1]
   exact hx
end Go.Proofs.YtfedjhgaeikjmaaGreatDoor

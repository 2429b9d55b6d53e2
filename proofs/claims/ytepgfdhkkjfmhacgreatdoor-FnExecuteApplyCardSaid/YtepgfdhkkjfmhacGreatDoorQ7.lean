/- Walks of functions that the statement reaches, and plain words. No conditions. -/
import Derived.Deep.Cut
import Derived.Test.YtepgfdhkkjfmhacGreatDoorQ6
set_option linter.unusedVariables false
set_option linter.unusedSimpArgs false
set_option maxHeartbeats 8000000
namespace Go.Proofs.YtepgfdhkkjfmhacGreatDoor
open Go.RowKit
theorem ev_zero (d:Nat) (b:Bd) (env:List Mn) (n:Nat) (st:List Gf):Go.Proofs.YtepgfdhkkjfmhacGreatDoor.ev d 0 b env n st=none:=by
 cases d with
 | zero=>rw [ev.eq_def]
 | succ d=>rw [ev.eq_def]
theorem owns_take {env:List Mn}:∀ (ts:List Ty) (ss:List Bd) (k:Nat) (t:Ty) (s:Bd),ts[k]? = some t->ss[k]? = some s->kL env (ts.take (k+1)) (ss.take (k+1))=kL env (ts.take k) (ss.take k)++[.bd t s env]
 | [],ss,k,t,s,h,_=>by simp at h
 | t'::ts,[],k,t,s,_,h=>by simp at h
 | t'::ts,s'::ss,k,t,s,h1,h2=>by
   cases k with
   | zero =>
     simp at h1 h2;subst h1;subst h2
     simp only [List.take_succ_cons,List.take_zero,kL]
     rfl
   | succ k =>
     simp only [List.getElem?_cons_succ] at h1 h2
     rw [List.take_succ_cons,List.take_succ_cons,List.take_succ_cons,List.take_succ_cons,kL,kL,owns_take ts ss k t s h1 h2];rfl
theorem jC.form {F:Nat->Prop} {w:World} {aa n:Nat}:∀ {st:List Gf} {on:Value},jC F w aa n st on->on=.nilFunc\/∃ cs,on=.func (.func 151) #[] cs
 | [],on,h=>.inl h
 | f::st,on,h=>by
   obtain ⟨b1,b2,b3,b4,b5,bp,ev,o5,vv,ss,e,_⟩:=h
   exact .inr ⟨_,e⟩
theorem Tryz.goesNil (w:World):Sem.run Tryz.prog (binOp .eql 221 .nilFunc .nilFunc) w=.ok (.bool true) w:=by kernel_rfl
theorem Tryz.goesFn (f:Fn) (a b:Array Value) (w:World):Sem.run Tryz.prog (binOp .eql 221 (.func f a b) .nilFunc) w=.ok (.bool false) w:=by kernel_rfl
theorem boxes5 (w:World) (p b e l o:Value) (T1 T2 T3 T4 T5:TypeId):∃ W,((((w.alloc (.cells #[p] T1)).alloc (.cells #[b] T2)).alloc (.cells #[e] T3)).alloc (.cells #[l] T4)).alloc (.cells #[o] T5)=W/\Below w.heap.size w W/\w.heap.size+5<=W.heap.size /\
 W.cell? ⟨w.heap.size,0,none⟩=some p/\W.cell? ⟨w.heap.size+1,0,none⟩=some b/\W.cell? ⟨w.heap.size+1+1,0,none⟩=some e/\W.cell? ⟨w.heap.size+1+1+1,0,none⟩=some l/\W.cell? ⟨w.heap.size+1+1+1+1,0,none⟩=some o:=by
 have key:∀ (w:World) (v:Value) (T:TypeId),(w.alloc (.cells #[v] T)).cell? ⟨w.heap.size,0,none⟩=some v:=fun w v T=>by simp
 have k1:=key w p T1
 have k2:=key (w.alloc (.cells #[p] T1)) b T2
 have k3:=key ((w.alloc (.cells #[p] T1)).alloc (.cells #[b] T2)) e T3
 have k4:=key (((w.alloc (.cells #[p] T1)).alloc (.cells #[b] T2)).alloc (.cells #[e] T3)) l T4
 have k5:=key ((((w.alloc (.cells #[p] T1)).alloc (.cells #[b] T2)).alloc (.cells #[e] T3)).alloc (.cells #[l] T4)) o T5
 simp only [zK] at k2 k3 k4 k5
 refine ⟨_,rfl,?_,by simp only [zK];omega,zJ (zJ (zJ (zJ k1))),zJ (zJ (zJ k2)),zJ (zJ k3),zJ k4,k5⟩
 exact (((((hG w.heap.size w).alloc (g_ _) _).alloc (by simp only [zK];omega) _).alloc (by simp only [zK];omega) _).alloc (by simp only [zK];omega) _).alloc (by simp only [zK];omega) _
set_option maxRecDepth 100000 in
theorem eval_out (F:Nat->Prop) (aa d n bb:Nat) (ea:Option Addr) (el ec:Nat) (b:Bd) (env:List Mn) (st:List Gf) (on:Value) (w:World) (AS:on=.nilFunc\/∃ cs,on=.func (.func 151) #[] cs) (hg:ju w) (hng:aa≠0) (ha:Apl w aa 0) :
 Calls Tryz.prog 117 #[.pointer (some ⟨aa,0,none⟩),.pointer (some ⟨bb,0,none⟩),.slice ea el ec,.int .i64 (n:Nat),on] w (zx F aa (Go.Proofs.YtepgfdhkkjfmhacGreatDoor.ev d 0 b env n st) w):=by
 rw [ev_zero]
 obtain ⟨W,hW,bE,dL,q1,q2,q3,q4,q5⟩:=boxes5 w (.pointer (some ⟨aa,0,none⟩)) (.pointer (some ⟨bb,0,none⟩)) (.slice ea el ec) (.int .i64 (n:Nat)) on 176 79 145 3 221
 obtain ⟨c0,f0,lt0⟩:=(ha.below bE).cell
 have c0':W.cell? ⟨aa,0,none⟩=some (.int .i64 0):=c0
 obtain ⟨a0,ce⟩:=hg
 have ca:=(bE.cell (hU w _ ce)).trans ce
 have HG:=gl (go ce (go hW bE))
 clear ha c0 ce hW bE
 rcases AS with rfl | ⟨cs,rfl⟩
 all_goals
  go_enter Tryz.func117,Tryz.ntmps117
  go_upto_region 1 with (fail)
  rw [HG.out.2.1]
  go_wp2_with fail
  go_quiet (fail)
  go_wp2_with fail
  go_ret2
  refine zx.none rfl ?_ HG.out.1
  exact But.ofBelow (qk HG.out.2.2 _)
theorem um {w:World} {aa l n bb:Nat} {ea:Option Addr} {el ec:Nat} {on:Value} {T1 T2 T3 T4 T5:TypeId} (ha:Apl w aa (l+1)) :
 ∃ W W2,((((w.alloc (.cells #[.pointer (some ⟨aa,0,none⟩)] T1)).alloc (.cells #[.pointer (some ⟨bb,0,none⟩)] T2)).alloc (.cells #[.slice ea el ec] T3)).alloc (.cells #[.int .i64 (n:Nat)] T4)).alloc (.cells #[on] T5)=W/\W.setCell ⟨aa,0,none⟩ (.int .i64 (l:Nat))=W2 /\
   W.cell? ⟨w.heap.size,0,none⟩=some (.pointer (some ⟨aa,0,none⟩))/\W.cell? ⟨aa,0,none⟩=some (.int .i64 ((l+1:Nat):Int))/\W.frozen? ⟨aa,0,none⟩=false /\
   But (· = aa) w W2/\Apl W2 aa l/\w.heap.size+5<=W2.heap.size /\
   W2.cell? ⟨w.heap.size,0,none⟩=some (.pointer (some ⟨aa,0,none⟩))/\W2.cell? ⟨w.heap.size+1,0,none⟩=some (.pointer (some ⟨bb,0,none⟩))/\W2.cell? ⟨w.heap.size+1+1,0,none⟩=some (.slice ea el ec)/\W2.cell? ⟨w.heap.size+1+1+1,0,none⟩=some (.int .i64 (n:Nat))/\W2.cell? ⟨w.heap.size+1+1+1+1,0,none⟩=some on:=by
 obtain ⟨W,hW,bE,dL,q1,q2,q3,q4,q5⟩:=boxes5 w (.pointer (some ⟨aa,0,none⟩)) (.pointer (some ⟨bb,0,none⟩)) (.slice ea el ec) (.int .i64 (n:Nat)) on T1 T2 T3 T4 T5
 have haW:=ha.below bE
 obtain ⟨c0,f0,lt0⟩:=haW.cell
 have bY:=ha.cell.2.2
 have bZ:But (· = aa) W (W.setCell ⟨aa,0,none⟩ (.int .i64 (l:Nat))):=(But.refl (· = aa) W).setCell (p:=⟨aa,0,none⟩) (.inl rfl) _
 have past:∀ (b:Nat) (v:Value),w.heap.size<=b->W.cell? ⟨b,0,none⟩=some v->(W.setCell ⟨aa,0,none⟩ (.int .i64 (l:Nat))).cell? ⟨b,0,none⟩=some v:=fun b v hb hc=>(bZ.cell (hU W _ hc) (fun e=>by have e:b=aa:=e;omega)).trans hc
 refine ⟨W,_,hW,rfl,q1,c0,f0,(But.ofBelow bE).trans bZ,?_,by simpa [World.setCell] using dL,past _ _ (by omega) q1,past _ _ (by omega) q2,past _ _ (by omega) q3,past _ _ (by omega) q4,past _ _ (by omega) q5⟩
 unfold Apl at *
 rw [zI haW];rfl
set_option maxRecDepth 100000 in
theorem eval_end (F:Nat->Prop) (aa d l n bb:Nat) (ea:Option Addr) (el ec:Nat) (c:UInt8) (env:List Mn) (st:List Gf) (on:Value) (w:World) (hF:∀ i,F i->i≠aa) (ha:Apl w aa (l+1)) (hl:l<=20000) (rb:Rep F w (kD (.leaf c)) (.pointer (some ⟨bb,0,none⟩)))
 (h:(c=117/\(on=.nilFunc\/∃ cs,on=.func (.func 151) #[] cs))\/(c≠117/\on=.nilFunc/\st=[])) :
 Calls Tryz.prog 117 #[.pointer (some ⟨aa,0,none⟩),.pointer (some ⟨bb,0,none⟩),.slice ea el ec,.int .i64 (n:Nat),on] w (zx F aa (Go.Proofs.YtepgfdhkkjfmhacGreatDoor.ev (d+1) (l+1) (.leaf c) env n st) w):=by
 have hev:Go.Proofs.YtepgfdhkkjfmhacGreatDoor.ev (d+1) (l+1) (.leaf c) env n st=some (.leaf c,l):=by
  rcases h with ⟨rfl,_⟩ | ⟨hc,_,rfl⟩
  ·rw [ev_u]
  ·rw [ev_end]
 rw [hev]
 clear hev
 obtain ⟨W,W2,hW,cC,q0,q1,f1,bZ,nU,cG,p0,p1,p2,p3,p4⟩:=um (n:=n) (bb:=bb) (ea:=ea) (el:=el) (ec:=ec) (on:=on) (T1:=176) (T2:=79) (T3:=145) (T4:=3) (T5:=221) ha
 have dA:Rep F W2 (kD (.leaf c)) (.pointer (some ⟨bb,0,none⟩)):=rb.but bZ (fun b hb=>⟨hF b hb,hb⟩)
 obtain ⟨b',sl,e,_,bD,_⟩:=yu dA
 cases e
 have r0:W2.cell? ⟨bb,0,none⟩=some (str [c]):=by simp [World.cell?,bD]
 have q1':W.cell? ⟨aa,0,none⟩=some (.int .i64 ((l:Int)+1)):=q1
 have rq:((l:Int)+1 == 0)=false:=by rw [beq_eq_false_iff_ne];omega
 have HW:=gl (go hW (go cC (go bZ (go nU dA))))
 have CL:=gl (vg F W2 c (.pointer (some ⟨bb,0,none⟩)) dA)
 clear hW cC bZ nU dA rb ha q1 bD
 rcases h with ⟨rfl,rfl | ⟨cs,rfl⟩⟩ | ⟨hc,rfl,rfl⟩
 ·go_enter Tryz.func117,Tryz.ntmps117
  go_upto_region 1 with (fail)
  rw [HW.out.1]
  go_upto_region 4 with (fail)
  rw [HW.out.2.1]
  go_wp2_with fail
  go_ret2
  exact zx.some rfl HW.out.2.2.1 HW.out.2.2.2.1 (HW.out.2.2.2.2.weak fun i h=>.inl h)
 ·go_enter Tryz.func117,Tryz.ntmps117
  go_upto_region 1 with (fail)
  rw [HW.out.1]
  go_upto_region 4 with (fail)
  rw [HW.out.2.1]
  go_wp2_with fail
  go_ret2
  exact zx.some rfl HW.out.2.2.1 HW.out.2.2.2.1 (HW.out.2.2.2.2.weak fun i h=>.inl h)
 ·have hcc:([c] == [117])=false:=by simpa using hc
  have hgn:=Tryz.goesNil
  go_enter Tryz.func117,Tryz.ntmps117
  go_upto_region 1 with (fail)
  rw [HW.out.1]
  go_upto_region 4 with (fail)
  rw [HW.out.2.1]
  go_wp2_with fail
  (with_reducible refine CL.out.mono ?_)
  rintro en w3 ⟨rfl,rfl⟩
  go_wp2_with fail
  go_ret2
  exact zx.some rfl HW.out.2.2.1 HW.out.2.2.2.1 (HW.out.2.2.2.2.weak fun i h=>.inl h)
theorem xO {F:Nat->Prop} {aa:Nat} {o:Option (Bd×Nat)} {w:World} {a0:Addr} (hc:w.cell? ⟨0,0,none⟩=some (.iface 315 (.pointer (some a0)))) {P:Program} {f:FuncId} {args:Array Value} (h:Calls P f args w (zx F aa o w)) :
 (o=none->Calls P f args w fun en w'=>en=.returned (.tuple #[.pointer none,.iface 315 (.pointer (some a0))])/\But (· = aa) w w') /\
 (∀ x,o=some x->Calls P f args w fun en w'=>∃ vb,en=.returned (.tuple #[.pointer (some ⟨vb,0,none⟩),.nilIface])/\But (· = aa) w w'/\Apl w' aa x.2/\Rep (fun i=>F i\/w.heap.size<=i) w' (kD x.1) (.pointer (some ⟨vb,0,none⟩))):=by
 refine ⟨fun ho=>h.mono ?_,fun x ho=>h.mono ?_⟩
 ·rintro en w' ⟨hb,hn,_⟩
  obtain ⟨a,rfl,ha⟩:=hn ho
  rw [hc] at ha
  simp at ha;subst ha
  exact ⟨rfl,hb⟩
 ·rintro en w' ⟨hb,_,hy⟩
  obtain ⟨v,rfl,ha,hr⟩:=hy x.1 x.2 ho
  obtain ⟨vb,rfl⟩:=zy hr
  exact ⟨vb,rfl,hb,ha,hr⟩
set_option maxRecDepth 100000 in
theorem eval_back (d:Nat) (ih:uT d) (F:Nat->Prop) (aa l n bb:Nat) (H:List Ty) (ea:Option Addr) (el ec:Nat) (c:UInt8) (env:List Mn) (f:Gf) (st:List Gf) (on:Value) (w:World) (hc:c≠117)
 (h:ui F aa (l+1) (d+1) n H (.leaf c) env (f::st) (.pointer (some ⟨bb,0,none⟩)) (.slice ea el ec) on w) :
 Calls Tryz.prog 117 #[.pointer (some ⟨aa,0,none⟩),.pointer (some ⟨bb,0,none⟩),.slice ea el ec,.int .i64 (n:Nat),on] w (zx F aa (Go.Proofs.YtepgfdhkkjfmhacGreatDoor.ev (d+1) (l+1) (.leaf c) env n (f::st)) w):=by
 rw [ev_back hc]
 obtain ⟨b1,b2,b3,b4,b5,bp,ev5,on5,vv5,ss5,e,⟨n1,n2,n3,n4,n5⟩,c1,r1,c2,c3,r3,c4,c5,r5⟩:=h.ro
 subst e
 have mu:=h.ld
 have t8:=h.d20
 have ez:=h.okg.1
 have fb:=h.nl
 obtain ⟨W,W2,hW,cC,q0,q1,f1,bZ,nU,cG,p0,p1,p2,p3,p4⟩:=um (n:=n) (bb:=bb) (ea:=ea) (el:=el) (ec:=ec) (on:=.func (.func 151) #[] #[.pointer (some ⟨b1,0,none⟩),.pointer (some ⟨b2,0,none⟩),.pointer (some ⟨b3,0,none⟩),.pointer (some ⟨b4,0,none⟩),.pointer (some ⟨b5,0,none⟩)]) (T1:=176) (T2:=79) (T3:=145) (T4:=3) (T5:=221) h.apl
 have hF:∀ b,F b->¬ (b=aa)/\F b:=fun b hb=>⟨h.hF b hb,hb⟩
 have dA:Rep F W2 (kD (.leaf c)) (.pointer (some ⟨bb,0,none⟩)):=h.rb.but bZ hF
 obtain ⟨b',sl,e,sR,bD,_⟩:=yu dA
 cases e
 have r0:W2.cell? ⟨bb,0,none⟩=some (str [c]):=by simp [World.cell?,bD]
 have q1':W.cell? ⟨aa,0,none⟩=some (.int .i64 ((l:Int)+1)):=q1
 have rq:((l:Int)+1 == 0)=false:=by rw [beq_eq_false_iff_ne];omega
 have CL:=gl (vg F W2 c (.pointer (some ⟨bb,0,none⟩)) dA)
 have bU:But (· = aa) w W2.drew:=bZ.drew
 have kX:∀ {b:Nat} {x:Value},F b->w.cell? ⟨b,0,none⟩=some x->W2.drew.cell? ⟨b,0,none⟩=some x:=fun hb hc=>(bU.cell (hU w _ hc) (h.hF _ hb)).trans hc
 have Bz:=h.glob.but bU (fun e=>h.ng e.symm)
 obtain ⟨a0,ce⟩:=Bz
 have C:=after_any d ih F aa l n H f st b1 b2 b3 b4 b5 bp ev5 on5 vv5 ss5 W2.drew c ⟨a0,ce⟩ h.hF h.ng nU (by omega) (by omega) (h.fit.back c) h.hn (by omega) (by omega) (ze (by omega) _ h.okg.2.1) (qt (by omega) _ h.okg.2.2)
  (kX n1 c1) (r1.but bU hF) (kX n2 c2) (kX n3 c3) (r3.but bU hF) (kX n4 c4) (kX n5 c5) (jC.but bU hF _ _ r5)
 have sH:w.cell? ⟨0,0,none⟩=some (.iface 315 (.pointer (some a0))):=by
  obtain ⟨a1,h1⟩:=h.glob
  have:=(bU.cell (hU w _ h1) (fun e=>h.ng e.symm)).trans h1
  rw [this] at ce
  rw [h1];exact ce
 have CT:=xO ce C
 have hcc:([c] == [117])=false:=by simpa using hc
 have hgn:=Tryz.goesFn
 have oC:w.heap.size<=W2.drew.heap.size:=bU.size
 have haw:=h.apl.cell.2.2
 have sN:=h.hF _ sR
 have KS:Hid (∀ w',But (· = aa) W2.drew w'->w'.cell? ⟨w.heap.size+1+1+1+1,0,none⟩=some (.func (.func 151) #[] #[.pointer (some ⟨b1,0,none⟩),.pointer (some ⟨b2,0,none⟩),.pointer (some ⟨b3,0,none⟩),.pointer (some ⟨b4,0,none⟩),.pointer (some ⟨b5,0,none⟩)])/\w'.cell? ⟨w.heap.size+1,0,none⟩=some (.pointer (some ⟨bb,0,none⟩))/\w'.cell? ⟨bb,0,none⟩=some (str [c])):=by
  show ∀ w',_->_
  intro w' hb
  have k:∀ (b:Nat) (v:Value),b≠aa->W2.cell? ⟨b,0,none⟩=some v->w'.cell? ⟨b,0,none⟩=some v:=fun b v hn hc=>(hb.cell (hU W2 _ hc) hn).trans hc
  exact ⟨k _ _ (by omega) p4,k _ _ (by omega) p1,k _ _ sN r0⟩
 have HW:=gl (go hW (go cC (go bU sH)))
 clear hW cC bZ bU nU dA q1 bD C ce sH kX hF c1 r1 c2 c3 r3 c4 c5 r5 n1 n2 n3 n4 n5 h ih
 generalize iF:decide (c=116)=bo at *
 have oy:([c] == [116])=bo:=by rw [<- iF,Bool.eq_iff_iff];simp
 clear iF
 generalize Go.Proofs.YtepgfdhkkjfmhacGreatDoor.ev d l (if c=116 then f.yes else f.no) f.env n st=o at *
 cases o with
 | none =>
   have C:=gl (CT.1 rfl);clear CT
   have HBO:=gl oy;clear oy
   go_enter Tryz.func117,Tryz.ntmps117
   go_upto_region 1 with (fail)
   rw [HW.out.1]
   go_upto_region 4 with (fail)
   rw [HW.out.2.1]
   go_wp2_with fail
   (with_reducible refine CL.out.mono ?_)
   rintro en w3 ⟨rfl,rfl⟩
   go_wp2_with fail
   (with_reducible refine CL.out.mono ?_)
   rintro en w4 ⟨rfl,rfl⟩
   have oy:=HBO.out
   go_wp2_with fail
   go_region_held3 (fun w'=>w'.cell? ⟨w.heap.size+1+1+1+1,0,none⟩=some (.func (.func 151) #[] #[.pointer (some ⟨b1,0,none⟩),.pointer (some ⟨b2,0,none⟩),.pointer (some ⟨b3,0,none⟩),.pointer (some ⟨b4,0,none⟩),.pointer (some ⟨b5,0,none⟩)])/\w'.cell? ⟨w.heap.size+1,0,none⟩=some (.pointer (some ⟨bb,0,none⟩))/\w'.cell? ⟨bb,0,none⟩=some (str [c]))
    (first
     | exact ⟨p4,p1,r0⟩
     | exact KS.out _ bC
     | go_keep)
    (first
     | (go_at_call 151;(with_reducible refine C.out.mono ?_);rintro en w5 ⟨rfl,bC⟩))
   have HF:=gl (HW.out.2.2.1.trans bC);clear bC
   go_wp2_with fail
   go_ret2
   exact zx.none rfl HF.out HW.out.2.2.2
 | some x =>
   have C:=gl (CT.2 x rfl);clear CT
   have HBO:=gl oy;clear oy
   go_enter Tryz.func117,Tryz.ntmps117
   go_upto_region 1 with (fail)
   rw [HW.out.1]
   go_upto_region 4 with (fail)
   rw [HW.out.2.1]
   go_wp2_with fail
   (with_reducible refine CL.out.mono ?_)
   rintro en w3 ⟨rfl,rfl⟩
   go_wp2_with fail
   (with_reducible refine CL.out.mono ?_)
   rintro en w4 ⟨rfl,rfl⟩
   have oy:=HBO.out
   go_wp2_with fail
   go_region_held3 (fun w'=>w'.cell? ⟨w.heap.size+1+1+1+1,0,none⟩=some (.func (.func 151) #[] #[.pointer (some ⟨b1,0,none⟩),.pointer (some ⟨b2,0,none⟩),.pointer (some ⟨b3,0,none⟩),.pointer (some ⟨b4,0,none⟩),.pointer (some ⟨b5,0,none⟩)])/\w'.cell? ⟨w.heap.size+1,0,none⟩=some (.pointer (some ⟨bb,0,none⟩))/\w'.cell? ⟨bb,0,none⟩=some (str [c]))
    (first
     | exact ⟨p4,p1,r0⟩
     | exact KS.out _ bC
     | go_keep)
    (first
     | (go_at_call 151;(with_reducible refine C.out.mono ?_);rintro en w5 ⟨vb,rfl,bC,ha5,fP⟩))
   have HF:=gl (go (HW.out.2.2.1.trans bC) (go ha5 fP));clear bC ha5 fP
   go_wp2_with fail
   go_ret2
   exact zx.some rfl HF.out.1 HF.out.2.1 (HF.out.2.2.weak fun i h=>h.imp id fun h=>by omega)
structure AskAt (F:Nat->Prop) (aa l n bb v eb eo el ec:Nat) (on x0 x1 x2 x3:Value) (w w':World):Prop where
 p0:w'.cell? ⟨w.heap.size,0,none⟩=some (.pointer (some ⟨aa,0,none⟩))
 p1:w'.cell? ⟨w.heap.size+1,0,none⟩=some (.pointer (some ⟨bb,0,none⟩))
 p2:w'.cell? ⟨w.heap.size+1+1,0,none⟩=some (.slice (some ⟨eb,eo,none⟩) el ec)
 p3:w'.cell? ⟨w.heap.size+1+1+1,0,none⟩=some (.int .i64 (n:Nat))
 p4:w'.cell? ⟨w.heap.size+1+1+1+1,0,none⟩=some on
 q1:w'.cell? ⟨bb,1,none⟩=some (.int .i64 (v:Nat))
 m0:w'.cell? ⟨eb,eo+v*4,none⟩=some x0
 m1:w'.cell? ⟨eb,eo+v*4+1,none⟩=some x1
 m2:w'.cell? ⟨eb,eo+v*4+2,none⟩=some x2
 m3:w'.cell? ⟨eb,eo+v*4+3,none⟩=some x3
set_option maxRecDepth 100000 in
theorem eval_op (d:Nat) (ih:uT d) (F:Nat->Prop) (aa l n bb v o:Nat) (t:Ty) (H:List Ty) (ea:Option Addr) (el ec:Nat) (ss:List Bd) (y no:Bd) (env:List Mn) (st:List Gf) (on:Value) (w:World) (hv:env[v]? = some (.op o t))
 (h:ui F aa (l+1) (d+1) n H (.ask v ss y no) env st (.pointer (some ⟨bb,0,none⟩)) (.slice ea el ec) on w) :
 Calls Tryz.prog 117 #[.pointer (some ⟨aa,0,none⟩),.pointer (some ⟨bb,0,none⟩),.slice ea el ec,.int .i64 (n:Nat),on] w (zx F aa (Go.Proofs.YtepgfdhkkjfmhacGreatDoor.ev (d+1) (l+1) (.ask v ss y no) env n st) w):=by
 obtain ⟨eb,eo,ecap,x0,x1,x2,x3,e,lA,hew,m0,m1,m2,m3,nN⟩:=mean_at h.re hv
 simp only [Value.slice.injEq] at e
 obtain ⟨rfl,rfl,rfl⟩:=e
 simp only [xu,zQ,zB,zF] at nN
 obtain ⟨_,_,e,rfl,kv,_,rfl,hk,_,_,rfl,rfl,_,_,rfl,rfl,rfl⟩:=nN
 simp only [List.cons.injEq,and_true] at e
 obtain ⟨rfl,rfl,rfl,rfl⟩:=e
 obtain ⟨kb,rfl⟩:=jh hk
 have hF:∀ b,F b->¬ (b=aa)/\F b:=fun b hb=>⟨h.hF b hb,hb⟩
 obtain ⟨W,W2,hW,cC,q0,q1,f1,bZ,nU,cG,p0,p1,p2,p3,p4⟩:=um (n:=n) (bb:=bb) (ea:=some ⟨eb,eo,none⟩) (el:=env.length) (ec:=ec) (on:=on) (T1:=176) (T2:=79) (T3:=145) (T4:=3) (T5:=221) h.apl
 have dA:Rep F W2 (kD (.ask v ss y no)) (.pointer (some ⟨bb,0,none⟩)):=h.rb.but bZ hF
 obtain ⟨b',sl,yv,nv,e,sR,bD,_,_,_⟩:=vL dA
 cases e
 have haw:=h.apl.cell.2.2
 have mu:=h.ld
 have t8:=h.d20
 have sN:=h.hF _ sR
 have eW:=h.hF _ lA
 have r0:W2.cell? ⟨bb,0,none⟩=some (str []):=by simp [World.cell?,bD]
 have r1:W2.cell? ⟨bb,1,none⟩=some (.int .i64 (v:Nat)):=by simp [World.cell?,bD]
 have q1':W.cell? ⟨aa,0,none⟩=some (.int .i64 ((l:Int)+1)):=q1
 have rq:((l:Int)+1 == 0)=false:=by rw [beq_eq_false_iff_ne];omega
 have CL:=gl (uv F W2 v ss y no (.pointer (some ⟨bb,0,none⟩)) dA)
 have kX:∀ {j:Nat} {x:Value},w.cell? ⟨eb,j,none⟩=some x->W2.cell? ⟨eb,j,none⟩=some x:=fun hc=>(bZ.cell (hU w _ hc) eW).trans hc
 have bJ:AskAt F aa l n bb v eb eo env.length ec on (.int .i64 (o:Nat)) (.pointer (some ⟨kb,0,none⟩)) (.pointer none) (.slice none 0 0) w W2:=⟨p0,p1,p2,p3,p4,r1,kX m0,kX m1,kX m2,kX m3⟩
 have KS:Hid (∀ w',But (· = aa) W2 w'->AskAt F aa l n bb v eb eo env.length ec on (.int .i64 (o:Nat)) (.pointer (some ⟨kb,0,none⟩)) (.pointer none) (.slice none 0 0) w w'):=by
  show ∀ w',_->_
  intro w' hb
  have k:∀ {b j:Nat} {v:Value},b≠aa->W2.cell? ⟨b,j,none⟩=some v->w'.cell? ⟨b,j,none⟩=some v:=fun hn hc=>(hb.cell (hU W2 _ hc) hn).trans hc
  exact ⟨k (by omega) bJ.p0,k (by omega) bJ.p1,k (by omega) bJ.p2,k (by omega) bJ.p3,k (by omega) bJ.p4,k sN bJ.q1,k eW bJ.m0,k eW bJ.m1,k eW bJ.m2,k eW bJ.m3⟩
 have nQ:=(List.getElem?_eq_some_iff.1 hv).1
 have er:(0:Int)<=(v:Int):=by omega
 have co:(v:Int)<(env.length:Int):=by omega
 have AS:=jC.form h.ro
 have HW:=gl (go hW (go cC (go bZ (go nU (go dA (go hk bJ))))))
 have HP:=gl (go h (go hv ih))
 clear hW cC bZ nU dA hk bJ q1 bD m0 m1 m2 m3 kX hF h hv ih p0 p1 p2 p3 p4 r1
 rcases AS with rfl | ⟨cs,rfl⟩
 all_goals
  go_enter Tryz.func117,Tryz.ntmps117
  go_upto_region 1 with (fail)
  rw [HW.out.1]
  go_upto_region 4 with (fail)
  rw [HW.out.2.1]
  have p1:=(KS.out W2 (But.refl _ _)).p1
  go_wp2_with fail
  (with_reducible refine CL.out.mono ?_)
  rintro en w3 ⟨rfl,rfl⟩
  go_wp2_with fail
  (with_reducible refine CL.out.mono ?_)
  rintro en w4 ⟨rfl,rfl⟩
  go_wp2_with fail
  have A4:=KS.out w4 (But.refl _ _)
  have s1:=A4.p1;have s2:=A4.p2;have s3:=A4.q1;have s4:=A4.m0;have s5:=A4.m1;have s6:=A4.m2;have s7:=A4.m3;clear A4
  go_region_held3 (fun w'=>w'.cell? ⟨w.heap.size+1+1,0,none⟩=some (.slice (some ⟨eb,eo,none⟩) env.length ec)/\w'.cell? ⟨w.heap.size+1,0,none⟩=some (.pointer (some ⟨bb,0,none⟩))/\w'.cell? ⟨bb,1,none⟩=some (.int .i64 (v:Nat))/\w'.cell? ⟨eb,eo+v*4,none⟩=some (.int .i64 (o:Nat))/\w'.cell? ⟨eb,eo+v*4+1,none⟩=some (.pointer (some ⟨kb,0,none⟩))/\w'.cell? ⟨eb,eo+v*4+2,none⟩=some (.pointer none)/\w'.cell? ⟨eb,eo+v*4+3,none⟩=some (.slice none 0 0))
   (first
    | exact ⟨s2,s1,s3,s4,s5,s6,s7⟩
    | exact ⟨zJ (w:=w4.drew) s2,zJ (w:=w4.drew) s1,zJ (w:=w4.drew) s3,zJ (w:=w4.drew) s4,zJ (w:=w4.drew) s5,zJ (w:=w4.drew) s6,zJ (w:=w4.drew) s7⟩
    | go_keep)
   (fail)
  obtain ⟨W5,aH⟩:=zzN ((w4.alloc (.cells #[.int .i64 (o:Nat),.pointer (some ⟨kb,0,none⟩),.pointer none,.slice none 0 0] 148)).drew)
  have ej:Below w4.heap.size w4 W5:=by rw [<- aH];exact ((hG _ _).alloc (g_ _) _).drew
  have dB:W5.heap[w4.heap.size]? = some (.cells #[.int .i64 (o:Nat),.pointer (some ⟨kb,0,none⟩),.pointer none,.slice none 0 0] 148 (0,0)):=by rw [<- aH];exact zR w4 _
  rw [aH]
  clear aH s1 s2 s3 s4 s5 s6 s7
  obtain ⟨y0,y1,y2,y3⟩:=qO dB
  have A5:=KS.out W5 (But.ofBelow ej)
  have dd:But (· = aa) w W5:=HW.out.2.2.1.trans (But.ofBelow ej)
  have bG:=HP.out.1
  have mQ:∀ i,F i->¬ (i=aa)/\(F i\/w.heap.size<=i):=fun i hi=>⟨bG.hF i hi,.inl hi⟩
  have ne:=bG.fit.keep HP.out.2.1
  have hK:KeptPre (fun i=>F i\/w.heap.size<=i) aa l d n o v H t ss y no env st (.pointer (some ⟨bb,0,none⟩)) (.pointer (some ⟨kb,0,none⟩)) (.slice (some ⟨eb,eo,none⟩) env.length ec) (.func (.func 151) #[] #[.pointer (some ⟨w.heap.size+1,0,none⟩),.pointer (some ⟨w.heap.size,0,none⟩),.pointer (some ⟨w.heap.size+1+1,0,none⟩),.pointer (some ⟨w.heap.size+1+1+1,0,none⟩),.pointer (some ⟨w.heap.size+1+1+1+1,0,none⟩)]) W5:=by
   have AU:=yj _ bG.ok v _ HP.out.2.1
   rw [okM] at AU
   have dp:=bG.rb.but dd mQ
   have rN:=bG.re.but dd mQ
   have hFF:∀ i,(F i\/w.heap.size<=i)->i≠aa:=by
    intro i hi
    rcases hi with hi | hi
    ·exact bG.hF i hi
    ·omega
   exact { glob:=bG.glob.but dd (fun e=>bG.ng e.symm),hF:=hFF,ng:=bG.ng,apl:=(HW.out.2.2.2.1).below ej,ld:=by omega,d20:=by omega,
           hlen:=ne.1,at15:=AU.1,sub:=ne.2.2.1,fy:=ne.2.2.2.1,fn:=ne.2.2.2.2,hn:=bG.hn,el:=bG.el,nl:=bG.nl,ok:=bG.ok,okg:=bG.okg,rb:=dp,
           rk:=(HW.out.2.2.2.2.2.1).but dd mQ,re:=rN,
           ro:=⟨_,_,_,_,_,_,_,_,v,ss,rfl,⟨.inr (by omega),.inr (by omega),.inr (by omega),.inr (by omega),.inr (by omega)⟩,A5.p1,dp,A5.p0,A5.p2,rN,A5.p3,A5.p4,jC.but dd mQ _ _ bG.ro⟩ }
  have C:=kept_any d HP.out.2.2 _ aa l n o v H t ss y no env st _ _ _ _ W5 hK
  obtain ⟨a0,ce⟩:=bG.glob
  have nV:=(dd.cell (hU w _ ce) (fun e=>bG.ng e.symm)).trans ce
  have CT:=xO nV C
  have hev:Go.Proofs.YtepgfdhkkjfmhacGreatDoor.ev (d+1) (l+1) (.ask v ss y no) env n st=vR d l n o t ss y no env st:=ev_op HP.out.2.1
  clear C hK nV
  generalize vR d l n o t ss y no env st=oo at *
  have s0:=A5.p0;have s1:=A5.p1;have s2:=A5.p2;have s3:=A5.p3
  have HX:=gl (go dd ce);clear dd ce A5 mQ ne bG ej dB
  cases oo with
  | none =>
    have C:=gl (CT.1 rfl);clear CT
    have HE:=gl hev;clear hev
    go_wp2_with fail
    (with_reducible refine C.out.mono ?_)
    rintro en w6 ⟨rfl,bP⟩
    have HF:=gl (HX.out.1.trans bP);clear bP
    go_wp2_with fail
    go_ret2
    exact zx.none HE.out HF.out HX.out.2
  | some x =>
    have C:=gl (CT.2 x rfl);clear CT
    have HE:=gl hev;clear hev
    have hz5:=HX.out.1.size
    go_wp2_with fail
    (with_reducible refine C.out.mono ?_)
    rintro en w6 ⟨vb,rfl,bP,Ca,fW⟩
    have HF:=gl (go (HX.out.1.trans bP) (go Ca fW));clear bP Ca fW
    go_wp2_with fail
    go_ret2
    exact zx.some HE.out HF.out.1 HF.out.2.1 (HF.out.2.2.weak fun i h=>by
     rcases h with (h | h) | h
     ·exact .inl h
     ·exact .inr h
     ·exact .inr (by omega))
structure BInv (G:Nat->Prop) (e env:List Mn) (t:Ty) (ss:List Bd) (W:World) (k:Nat) (a:Option Addr) (c:Nat) (xs:List Value) (wr:World):Prop where
 own:Own wr 148 4 (.slice a (e.length+k) c) (e.length+k) xs
 rep:zH (fun i=>G i/\i<W.heap.size) wr (kM (e++kL env (t.args.take k) (ss.take k))) xs
 bel:Below W.heap.size W wr
 fr:∀ g,(Value.slice a (e.length+k) c).ownBlock=some g->W.heap.size<=g
theorem uW {env:List Mn}:∀ (ts:List Ty) (ss:List Bd),ss.length=ts.length->(kL env ts ss).length=ts.length
 | [],[],_=>by simp [kL]
 | [],s::ss,h=>by simp at h
 | t::ts,[],h=>by simp at h
 | t::ts,s::ss,h=>by rw [kL,List.length_cons,List.length_cons,uW ts ss (by simpa using h)]
set_option maxRecDepth 100000 in
theorem eval_bd (d:Nat) (ih:uT d) (F:Nat->Prop) (aa l n bb v:Nat) (t:Ty) (H:List Ty) (ea:Option Addr) (el ec:Nat) (ss:List Bd) (y no b':Bd) (env e':List Mn) (st:List Gf) (on:Value) (w:World) (hv:env[v]? = some (.bd t b' e'))
 (h:ui F aa (l+1) (d+1) n H (.ask v ss y no) env st (.pointer (some ⟨bb,0,none⟩)) (.slice ea el ec) on w) :
 Calls Tryz.prog 117 #[.pointer (some ⟨aa,0,none⟩),.pointer (some ⟨bb,0,none⟩),.slice ea el ec,.int .i64 (n:Nat),on] w (zx F aa (Go.Proofs.YtepgfdhkkjfmhacGreatDoor.ev (d+1) (l+1) (.ask v ss y no) env n st) w):=by
 obtain ⟨eb,eo,ecap,x0,x1,x2,x3,e,lA,hew,m0,m1,m2,m3,nN⟩:=mean_at h.re hv
 simp only [Value.slice.injEq] at e
 obtain ⟨rfl,rfl,rfl⟩:=e
 simp only [xu,zQ,zB,zF] at nN
 obtain ⟨_,_,e,rfl,_,_,rfl,rfl,bv2,_,rfl,hk,sv2,_,rfl,dO,rfl⟩:=nN
 simp only [List.cons.injEq,and_true] at e
 obtain ⟨rfl,rfl,rfl,rfl⟩:=e
 obtain ⟨kb,rfl⟩:=zy hk
 obtain ⟨news,dZ,cX⟩:=zS.ofRep dO (qr e')
 obtain ⟨a2,c2,e⟩:=cX.slice
 subst e
 have hF:∀ b,F b->¬ (b=aa)/\F b:=fun b hb=>⟨h.hF b hb,hb⟩
 obtain ⟨W,W2,hW,cC,q0,q1,f1,bZ,nU,cG,p0,p1,p2,p3,p4⟩:=um (n:=n) (bb:=bb) (ea:=some ⟨eb,eo,none⟩) (el:=env.length) (ec:=ec) (on:=on) (T1:=176) (T2:=79) (T3:=145) (T4:=3) (T5:=221) h.apl
 have dA:Rep F W2 (kD (.ask v ss y no)) (.pointer (some ⟨bb,0,none⟩)):=h.rb.but bZ hF
 obtain ⟨b9,sl,yv,nv,e,sR,bD,nD,_,_⟩:=vL dA
 cases e
 obtain ⟨sa,sc,e,_,_,rW⟩:=zE nD
 subst e
 have haw:=h.apl.cell.2.2
 have mu:=h.ld
 have t8:=h.d20
 have sN:=h.hF _ sR
 have eW:=h.hF _ lA
 have r0:W2.cell? ⟨bb,0,none⟩=some (str []):=by simp [World.cell?,bD]
 have r1:W2.cell? ⟨bb,1,none⟩=some (.int .i64 (v:Nat)):=by simp [World.cell?,bD]
 have r2:W2.cell? ⟨bb,2,none⟩=some (.slice sa ss.length sc):=by simp [World.cell?,bD]
 have q1':W.cell? ⟨aa,0,none⟩=some (.int .i64 ((l:Int)+1)):=q1
 have rq:((l:Int)+1 == 0)=false:=by rw [beq_eq_false_iff_ne];omega
 have CL:=gl (uv F W2 v ss y no (.pointer (some ⟨bb,0,none⟩)) dA)
 have kX:∀ {j:Nat} {x:Value},w.cell? ⟨eb,j,none⟩=some x->W2.cell? ⟨eb,j,none⟩=some x:=fun hc=>(bZ.cell (hU w _ hc) eW).trans hc
 have bJ:AskAt F aa l n bb v eb eo env.length ec on (.int .i64 0) (.pointer none) (.pointer (some ⟨kb,0,none⟩)) (.slice a2 e'.length c2) w W2:=⟨p0,p1,p2,p3,p4,r1,kX m0,kX m1,kX m2,kX m3⟩
 have KS:Hid (∀ w',But (· = aa) W2 w'->AskAt F aa l n bb v eb eo env.length ec on (.int .i64 0) (.pointer none) (.pointer (some ⟨kb,0,none⟩)) (.slice a2 e'.length c2) w w'):=by
  show ∀ w',_->_
  intro w' hb
  have k:∀ {b j:Nat} {v:Value},b≠aa->W2.cell? ⟨b,j,none⟩=some v->w'.cell? ⟨b,j,none⟩=some v:=fun hn hc=>(hb.cell (hU W2 _ hc) hn).trans hc
  exact ⟨k (by omega) bJ.p0,k (by omega) bJ.p1,k (by omega) bJ.p2,k (by omega) bJ.p3,k (by omega) bJ.p4,k sN bJ.q1,k eW bJ.m0,k eW bJ.m1,k eW bJ.m2,k eW bJ.m3⟩
 have nQ:=(List.getElem?_eq_some_iff.1 hv).1
 have er:(0:Int)<=(v:Int):=by omega
 have co:(v:Int)<(env.length:Int):=by omega
 have AS:=jC.form h.ro
 have HW:=gl (go hW (go cC (go bZ (go nU (go dA (go hk (go bJ (go r2 (go rW (go dO (go dZ cX)))))))))))
 have HP:=gl (go h (go hv ih))
 have sD:=h.fit.call hv
 have bi:=yj _ h.ok v _ hv
 rw [okM] at bi
 have rV:=sD.1
 have hl16:=(zj bi.1).2
 have hl16s:ss.length<=15:=by omega
 have hel2:=bi.2.1
 have ez:=h.el
 have HL:=gl (go sD bi)
 clear hW cC bZ nU dA hk bJ r2 rW dO dZ cX sD bi nD rV q1 bD m0 m1 m2 m3 kX hF h hv ih p0 p1 p2 p3 p4 r1
 rcases AS with rfl | ⟨cs,rfl⟩
 all_goals
  go_enter Tryz.func117,Tryz.ntmps117
  go_upto_region 1 with (fail)
  rw [HW.out.1]
  go_upto_region 4 with (fail)
  rw [HW.out.2.1]
  have p1:=(KS.out W2 (But.refl _ _)).p1
  go_wp2_with fail
  (with_reducible refine CL.out.mono ?_)
  rintro en w3 ⟨rfl,rfl⟩
  go_wp2_with fail
  (with_reducible refine CL.out.mono ?_)
  rintro en w4 ⟨rfl,rfl⟩
  go_wp2_with fail
  have A4:=KS.out w4 (But.refl _ _)
  have s1:=A4.p1;have s2:=A4.p2;have s3:=A4.q1;have s4:=A4.m0;have s5:=A4.m1;have s6:=A4.m2;have s7:=A4.m3;clear A4
  go_region_held3 (fun w'=>w'.cell? ⟨w.heap.size+1+1,0,none⟩=some (.slice (some ⟨eb,eo,none⟩) env.length ec)/\w'.cell? ⟨w.heap.size+1,0,none⟩=some (.pointer (some ⟨bb,0,none⟩))/\w'.cell? ⟨bb,1,none⟩=some (.int .i64 (v:Nat))/\w'.cell? ⟨eb,eo+v*4,none⟩=some (.int .i64 0)/\w'.cell? ⟨eb,eo+v*4+1,none⟩=some (.pointer none)/\w'.cell? ⟨eb,eo+v*4+2,none⟩=some (.pointer (some ⟨kb,0,none⟩))/\w'.cell? ⟨eb,eo+v*4+3,none⟩=some (.slice a2 e'.length c2))
   (first
    | exact ⟨s2,s1,s3,s4,s5,s6,s7⟩
    | exact ⟨zJ (w:=w4.drew) s2,zJ (w:=w4.drew) s1,zJ (w:=w4.drew) s3,zJ (w:=w4.drew) s4,zJ (w:=w4.drew) s5,zJ (w:=w4.drew) s6,zJ (w:=w4.drew) s7⟩
    | go_keep)
   (fail)
  obtain ⟨W5,aH⟩:=zzN ((w4.alloc (.cells #[.int .i64 0,.pointer none,.pointer (some ⟨kb,0,none⟩),.slice a2 e'.length c2] 148)).drew)
  have ej:Below w4.heap.size w4 W5:=by rw [<- aH];exact ((hG _ _).alloc (g_ _) _).drew
  have dB:W5.heap[w4.heap.size]? = some (.cells #[.int .i64 0,.pointer none,.pointer (some ⟨kb,0,none⟩),.slice a2 e'.length c2] 148 (0,0)):=by rw [<- aH];exact zR w4 _
  rw [aH]
  clear aH s1 s2 s3 s4 s5 s6 s7
  have hz45:w4.heap.size<W5.heap.size:=zZ dB
  obtain ⟨y0,y1,y2,y3⟩:=qO dB
  have A5:=KS.out W5 (But.ofBelow ej)
  have dd:But (· = aa) w W5:=HW.out.2.2.1.trans (But.ofBelow ej)
  have bG:=HP.out.1
  have mQ:∀ i,F i->¬ (i=aa)/\(F i\/w.heap.size<=i):=fun i hi=>⟨bG.hF i hi,.inl hi⟩
  have hev:Go.Proofs.YtepgfdhkkjfmhacGreatDoor.ev (d+1) (l+1) (.ask v ss y no) env n st=Go.Proofs.YtepgfdhkkjfmhacGreatDoor.ev d l b' (e'++kL env t.args ss) n (⟨y,no,env⟩::st):=ev_bd HP.out.2.1
  have ad:zS 4 (.slice a2 e'.length c2) e'.length news W5:=yk dd (fun b hb=>bG.hF b hb) HW.out.2.2.2.2.2.2.2.2.2.1 HW.out.2.2.2.2.2.2.2.2.2.2.2
  have z2:W5.cell? ⟨bb,2,none⟩=some (.slice sa ss.length sc):=(ej.cell (hU w4 _ HW.out.2.2.2.2.2.2.2.1)).trans HW.out.2.2.2.2.2.2.2.1
  have HX:=gl (go dd (go ej (go dB (go hev ad))));clear dd ej dB hev ad
  have s1:=A5.p1;have s2:=A5.p2
  have HA5:=gl A5;clear A5
  go_wp2_with (at_builtin;refine zP rfl _ _ 145 rfl 148 (.agg #[.int .i64 0,.pointer none,.pointer none,.slice none 0 0]) 4 48 Tryz.underlying145 Tryz.infoMn rfl (by decide) (.slice none 0 0) 0 [] rfl ?a1 _ e'.length news rfl ?a2 ?a3 ?a4 ?_)
  case a1=>exact World.ownsRow_nil _ _ _ _
  case a2=>exact HX.out.2.2.2.2
  case a3=>unfold maxLen;omega
  case a4=>omega
  intro a6 c6 w6 iY bP iC
  have dN:Below W5.heap.size W5 w6:=bP.toBelow (g_ _) (fun i _ e=>by simp [Value.ownBlock] at e)
  have mG:∀ g,(Value.slice a6 e'.length c6).ownBlock=some g->W5.heap.size<=g:=fun g hg=>by
   rcases iC g hg with h | h
   ·simp [Value.ownBlock] at h
   ·omega
  have fW:zH (fun i=>(F i\/w.heap.size<=i)/\i<W5.heap.size) w6 (kM (e'++kL env (t.args.take 0) (ss.take 0))) news:=by
   have h0:=(zH.low HW.out.2.2.2.2.2.2.2.2.2.2.1).but HX.out.1 (F':=fun i=>(F i\/w.heap.size<=i)/\i<W5.heap.size) (fun b hb=>⟨bG.hF b hb.1,.inl hb.1,by have:=HX.out.1.size;omega⟩)
   rw [List.take_zero,List.take_zero,kL.eq_def,List.append_nil]
   exact (Rep.keep fun b o hf hh=>⟨hf,by rw [dN.block b hf.2];exact hh⟩).2 _ _ h0
  have HI0:=gl (show BInv (fun i=>F i\/w.heap.size<=i) e' env t ss W5 0 a6 c6 news w6 from ⟨iY,fW,dN,mG⟩)
  have z2:=(dN.cell (hU W5 _ z2)).trans z2
  have s1:=(dN.cell (hU W5 _ s1)).trans s1
  clear iY fW dN mG bP iC bG mQ
  go_wp2_with fail
  go_loopw [14,78] (fun o i wr=>∃ k:Nat,k<=ss.length/\i=.int .i64 k/\∃ a c xs,o=.slice a (e'.length+k:Nat) c/\BInv (fun i=>F i\/w.heap.size<=i) e' env t ss W5 k a c xs wr) (fun _ i _=>ss.length-(intOf i).toNat)
  case atStart=>exact ⟨0,Nat.zero_le _,rfl,a6,c6,news,rfl,HI0.out⟩
  case round =>
   rename_i wr
   obtain ⟨k,hk,rfl,a,c,xs,rfl,bw⟩:=hrel
   have HI:=gl bw;clear bw
   have bG:=HP.out.1
   have mm:Below w4.heap.size w4 wr:=HX.out.2.1.trans (HI.out.bel.mono (by omega))
   have eG:But (· = aa) w wr:=HW.out.2.2.1.trans (But.ofBelow mm)
   have hz5:=HX.out.1.size
   have AR:=KS.out wr (But.ofBelow mm)
   by_cases bY:k<ss.length
   ·have cz:(k:Int)<(ss.length:Int):=by omega
    obtain ⟨sb,so,u,d1,e,mQ,aj,fx,ca,be⟩:=HW.out.2.2.2.2.2.2.2.2.1 k bY
    subst e
    rw [yR,Option.map_eq_some_iff] at fx
    obtain ⟨s,hs,rfl⟩:=fx
    obtain ⟨ub,rfl⟩:=zy be
    have hkt:k<t.args.length:=by have:=HL.out.1.1;omega
    obtain ⟨ta,eN⟩:∃ ta,t.args[k]? = some ta:=⟨_,List.getElem?_eq_getElem hkt⟩
    have q0:=(mm.cell (hU w4 _ ca)).trans ca
    have q1:=AR.p2
    have HK:=gl (go hs (go be (go eN (go mm eG))));clear hs be eN mm eG ca bG AR
    go_wp2_with (at_builtin;refine zP rfl _ _ 145 rfl 148 (.agg #[.int .i64 0,.pointer none,.pointer none,.slice none 0 0]) 4 48 Tryz.underlying145 Tryz.infoMn rfl (by decide) (.slice a (e'.length+k) c) (e'.length+k) xs rfl ?c1 _ 1 [.int .i64 0,.pointer none,.pointer (some ⟨ub,0,none⟩),.slice (some ⟨eb,eo,none⟩) env.length ec] rfl ?c2 ?c3 ?c4 ?_)
    case c1=>exact HI.out.own.alloc _
    case c2=>exact zS.lit1 #[.int .i64 0,.pointer none,.pointer (some ⟨ub,0,none⟩),.slice (some ⟨eb,eo,none⟩) env.length ec] rfl (by simp [Value.oneCell']) _ (by simp)
    case c3=>unfold maxLen;omega
    case c4=>omega
    intro a7 c7 w7 bI bV bH
    have ig:=HI.out.bel.size
    have aW:Below W5.heap.size W5 w7:=by
     refine (HI.out.bel.alloc ig _).trans (bV.toBelow (by rw [zK];omega) fun i hi e=>?_)
     have:=HI.out.fr i e;omega
    have cu:∀ g,(Value.slice a7 (e'.length+(k+1)) c7).ownBlock=some g->W5.heap.size<=g:=by
     intro g h
     rcases bH g h with h | h
     ·exact HI.out.fr g h
     ·omega
    have iG:∀ (b:Nat) (o:Obj),b<w4.heap.size->w4.heap[b]? = some o->w7.heap[b]? = some o:=fun b o hb hh=>by
     rw [aW.block b (by omega),HX.out.2.1.block b hb];exact hh
    have dE:zH (fun i=>(F i\/w.heap.size<=i)/\i<W5.heap.size) w7 (kM (e'++kL env (t.args.take (k+1)) (ss.take (k+1)))) (xs++[.int .i64 0,.pointer none,.pointer (some ⟨ub,0,none⟩),.slice (some ⟨eb,eo,none⟩) env.length ec]):=by
     rw [owns_take _ _ _ _ _ HK.out.2.2.1 HK.out.1,<- List.append_assoc,jV,encMs_one]
     refine zH.append ?_ ?_
     ·exact (Rep.keep fun b o hf ho=>⟨hf,by rw [aW.block b hf.2,<- HI.out.bel.block b hf.2];exact ho⟩).2 _ _ HI.out.rep
     ·rw [xu]
      have hre4:=HP.out.1.re.but (F':=F) HW.out.2.2.1 (fun b hb=>⟨HP.out.1.hF b hb,hb⟩)
      have kk:=(Rep.keep (F:=F) (F':=fun i=>(F i\/w.heap.size<=i)/\i<W5.heap.size) (w:=w4) (w':=w7) fun b o hf hh=>⟨⟨.inl hf,by have:=zZ hh;omega⟩,iG b o (zZ hh) hh⟩).1
      refine zQ.2 ⟨_,_,rfl,zF.2 rfl,zQ.2 ⟨_,_,rfl,zF.2 rfl,zQ.2 ⟨_,_,rfl,kk _ _ HK.out.2.1,zQ.2 ⟨_,_,rfl,kk _ _ hre4,zB.2 rfl⟩⟩⟩⟩
    have HN:=gl (show BInv (fun i=>F i\/w.heap.size<=i) e' env t ss W5 (k+1) a7 c7 _ w7 from ⟨bI,dE,aW,cu⟩);clear bI dE aW cu bV bH iG
    go_wp2_with fail
    go_roundw
    case rel=>exact ⟨k+1,by omega,by go_num,a7,c7,_,rfl,HN.out⟩
    case measure=>simp [intOf];omega
   ·obtain rfl:k=ss.length:=by omega
    have cd:=HI.out.rep
    have rV:=HL.out.1.1
    rw [List.take_length,List.take_of_length_le (by omega)] at cd
    have hlen:(e'++kL env t.args ss).length=e'.length+ss.length:=by rw [List.length_append,uW _ _ rV,rV]
    have mQ:∀ i,F i->¬ (i=aa)/\(F i\/w.heap.size<=i):=fun i hi=>⟨bG.hF i hi,.inl hi⟩
    have hFF:∀ i,(F i\/w.heap.size<=i)->i≠aa:=by
     intro i hi
     rcases hi with hi | hi
     ·exact bG.hF i hi
     ·omega
    have rM:Rep (fun i=>F i\/w.heap.size<=i) wr (.sl 148 4 (e'++kL env t.args ss).length (kM (e'++kL env t.args ss))) (.slice a (e'.length+ss.length) c):=by
     rw [hlen]
     exact HI.out.own.rep (fun g hg=>.inr (by have:=HI.out.fr g hg;omega)) ((Rep.keep fun b o hf ho=>⟨hf.1,ho⟩).2 _ _ cd)
    have dp:=bG.rb.but eG mQ
    have rN:=bG.re.but eG mQ
    have bi:=HL.out.2
    have fb:=bG.nl
    have hK:ui (fun i=>F i\/w.heap.size<=i) aa l d n H b' (e'++kL env t.args ss) (⟨y,no,env⟩::st) (.pointer (some ⟨kb,0,none⟩)) (.slice a (e'.length+ss.length) c) (.func (.func 151) #[] #[.pointer (some ⟨w.heap.size+1,0,none⟩),.pointer (some ⟨w.heap.size,0,none⟩),.pointer (some ⟨w.heap.size+1+1,0,none⟩),.pointer (some ⟨w.heap.size+1+1+1,0,none⟩),.pointer (some ⟨w.heap.size+1+1+1+1,0,none⟩)]) wr:=by
     exact { glob:=bG.glob.but eG (fun e=>bG.ng e.symm),hF:=hFF,ng:=bG.ng,apl:=(HW.out.2.2.2.1).below mm,ld:=by omega,d20:=by omega,
             fit:=HL.out.1.2,hn:=bG.hn,el:=by rw [hlen];omega,nl:=by omega,
             ok:=qJ _ _ (ze (by omega) _ bi.2.2) (uP (ze (by omega) _ bG.ok) (by omega) _ _ (zj bi.1).1),
             okg:=⟨by show env.length<=_;omega,ze (by omega) _ bG.ok,qt (by omega) _ bG.okg⟩,rb:=HW.out.2.2.2.2.2.1.but eG mQ,re:=rM,
             ro:=⟨_,_,_,_,_,_,_,_,v,ss,rfl,⟨.inr (by omega),.inr (by omega),.inr (by omega),.inr (by omega),.inr (by omega)⟩,AR.p1,dp,AR.p0,AR.p2,rN,AR.p3,AR.p4,jC.but eG mQ _ _ bG.ro⟩ }
    have C:=HP.out.2.2 _ aa l n H b' (e'++kL env t.args ss) (⟨y,no,env⟩::st) _ _ _ wr hK
    obtain ⟨a0,ce⟩:=bG.glob
    have nV:=(eG.cell (hU w _ ce) (fun e=>bG.ng e.symm)).trans ce
    have CT:=xO nV C
    have hev:=HX.out.2.2.2.1
    clear C hK nV cd rM dp rN
    generalize Go.Proofs.YtepgfdhkkjfmhacGreatDoor.ev d l b' (e'++kL env t.args ss) n (⟨y,no,env⟩::st)=oo at *
    have s0:=AR.p0;have s3:=AR.p3
    have dB:=(HI.out.bel.block w4.heap.size (by omega)).trans HX.out.2.2.1
    obtain ⟨y0,y1,y2,y3⟩:=qO dB
    have ig:=eG.size
    have HY:=gl (go eG ce);clear eG ce AR mQ bG dB mm y0 y1 y3 hlen bi rV
    cases oo with
    | none =>
      have C:=gl (CT.1 rfl);clear CT
      have HE:=gl hev;clear hev
      go_wp2_with fail
      (with_reducible refine C.out.mono ?_)
      rintro en w6' ⟨rfl,bP⟩
      have HF:=gl (HY.out.1.trans bP);clear bP
      go_wp2_with fail
      go_ret2
      exact zx.none HE.out HF.out HY.out.2
    | some x =>
      have C:=gl (CT.2 x rfl);clear CT
      have HE:=gl hev;clear hev
      go_wp2_with fail
      (with_reducible refine C.out.mono ?_)
      rintro en w6' ⟨vb,rfl,bP,Ca,fW⟩
      have HF:=gl (go (HY.out.1.trans bP) (go Ca fW));clear bP Ca fW
      go_wp2_with fail
      go_ret2
      exact zx.some HE.out HF.out.1 HF.out.2.1 (HF.out.2.2.weak fun i h=>by
       rcases h with (h | h) | h
       ·exact .inl h
       ·exact .inr h
       ·exact .inr (by omega))
theorem eval_any (d:Nat):uT d:=by
 induction d with
 | zero =>
   intro F aa l n H b env st bv ev on w h
   obtain rfl:l=0:=by have:=h.ld;omega
   obtain ⟨bb,rfl⟩:=zy h.rb
   obtain ⟨_,a,c,rfl,_⟩:=zp.1 h.re
   exact eval_out F aa 0 n bb a _ c b env st on w h.ro.form h.glob h.ng h.apl
 | succ d ih =>
   intro F aa l n H b env st bv ev on w h
   obtain ⟨bb,rfl⟩:=zy h.rb
   obtain ⟨_,a,c,rfl,_⟩:=zp.1 h.re
   cases l with
   | zero=>exact eval_out F aa (d+1) n bb a _ c b env st on w h.ro.form h.glob h.ng h.apl
   | succ l =>
     have mu:=h.ld
     have hd:=h.d20
     cases b with
     | leaf x =>
       by_cases hx:x=117
       ·exact eval_end F aa d l n bb a _ c x env st on w h.hF h.apl (by omega) h.rb (.inl ⟨hx,h.ro.form⟩)
       ·cases st with
        | nil=>exact eval_end F aa d l n bb a _ c x env [] on w h.hF h.apl (by omega) h.rb (.inr ⟨hx,h.ro,rfl⟩)
        | cons f st=>exact eval_back d ih F aa l n bb H a _ c x env f st on w hx h
     | ask v ss y no =>
       obtain ⟨m,t,hh,hm,_⟩:=h.fit.ask
       cases m with
       | op o t=>exact eval_op d ih F aa l n bb v o t H a _ c ss y no env st on w hm h
       | bd t b' e'=>exact eval_bd d ih F aa l n bb v t H a _ c ss y no b' env e' st on w hm h
theorem wi {d:Nat} (ih:∀ (l:Nat) (b:Bd) (env:List Mn) (n:Nat) (st:List Gf) (r:Bd) (l':Nat),Go.Proofs.YtepgfdhkkjfmhacGreatDoor.ev d l b env n st=some (r,l')->zX r+l'<=l) {env:List Mn} {n:Nat} :
 ∀ (ts:List Ty) (ss:List Bd) (l:Nat) (xs:List Bd) (l':Nat),zt (Go.Proofs.YtepgfdhkkjfmhacGreatDoor.ev d) env n l ts ss=some (xs,l')->zG xs+l'<=l
 | [],ss,l,xs,l',h=>by simp [zt] at h;obtain ⟨rfl,rfl⟩:=h;simp [zG]
 | t::ts,[],l,xs,l',h=>by simp [zt] at h;obtain ⟨rfl,rfl⟩:=h;simp [zG]
 | t::ts,s::ss,l,xs,l',h=>by
   simp only [zt,Option.bind_eq_bind,Option.bind_eq_some_iff,Prod.exists] at h
   obtain ⟨x,l1,h1,ys,l2,h2,h3⟩:=h
   simp at h3
   obtain ⟨rfl,rfl⟩:=h3
   have k1:=ih _ _ _ _ _ _ _ h1
   have k2:=wi ih ts ss _ _ _ h2
   rw [zG]
   omega
theorem ev_size (d:Nat):∀ (l:Nat) (b:Bd) (env:List Mn) (n:Nat) (st:List Gf) (r:Bd) (l':Nat),Go.Proofs.YtepgfdhkkjfmhacGreatDoor.ev d l b env n st=some (r,l')->zX r+l'<=l:=by
 induction d with
 | zero=>intro l b env n st r l' h;simp [Go.Proofs.YtepgfdhkkjfmhacGreatDoor.ev] at h
 | succ d ih =>
   intro l b env n st r l' h
   cases l with
   | zero=>rw [ev.eq_def] at h;simp at h
   | succ l =>
     cases b with
     | leaf c =>
       by_cases hc:c=117
       ·subst hc;rw [ev_u] at h;simp at h;obtain ⟨rfl,rfl⟩:=h;rw [zX];omega
       ·cases st with
        | nil=>rw [ev_end] at h;simp at h;obtain ⟨rfl,rfl⟩:=h;rw [zX];omega
        | cons f st=>rw [ev_back hc] at h;have:=ih _ _ _ _ _ _ _ h;omega
     | ask v ss y no =>
       cases hv:env[v]? with
       | none=>rw [ev.eq_def] at h;simp [hv] at h
       | some m =>
         cases m with
         | bd t b' e=>rw [ev_bd hv] at h;have:=ih _ _ _ _ _ _ _ h;omega
         | op o t =>
           rw [ev_op hv] at h
           simp only [Option.bind_eq_some_iff,Prod.exists] at h
           obtain ⟨xs,l1,h1,x,l2,h2,z,l3,h3,h4⟩:=h
           simp at h4
           obtain ⟨rfl,rfl⟩:=h4
           have k1:=wi ih _ _ _ _ _ h1
           have k2:=ih _ _ _ _ _ _ _ h2
           have k3:=ih _ _ _ _ _ _ _ h3
           rw [zX]
           omega
theorem fits_any (F:Nat->Prop) (w:World) (b:Bd) (v:Value) (hv:Rep F w (kD b) v) (hn:zX b<=20000) :
 Calls Tryz.prog 119 #[v] w fun en w'=>en=.returned (.bool (decide (zX b<=200/\kB b<=100)))/\Below w.heap.size w w':=by
 obtain ⟨vb,rfl⟩:=zy hv
 have hL:Lim 20000:=by unfold Lim;omega
 have C1:=gl (size_any 20000 b hn hL F w _ hv)
 go_enter Tryz.func119,Tryz.ntmps119
 go_wp2_with fail
 (with_reducible refine C1.out.mono ?_)
 rintro en w1 ⟨rfl,bQ⟩
 have C2:=gl (depth_any 20000 b hn hL F w1 _ (Rep.below bQ (fun _ h=>h) hv))
 have HB:=gl bQ;clear bQ
 by_cases aM:zX b<=200
 ·have h1:decide ((zX b:Int)<=200)=true:=decide_eq_true (by omega)
  go_wp2_with fail
  (with_reducible refine C2.out.mono ?_)
  rintro en w2 ⟨rfl,bZ⟩
  have hb:=zzT HB.out bZ
  clear bZ
  by_cases ef:kB b<=100
  ·have h2:decide ((kB b:Int)<=100)=true:=decide_eq_true (by omega)
   have HE:=gl (go (show decide (zX b<=200/\kB b<=100)=true from decide_eq_true ⟨aM,ef⟩) hb);clear hb
   go_wp2_with fail
   go_ret
   rw [HE.out.1]
   exact ⟨rfl,HE.out.2⟩
  ·have h2:decide ((kB b:Int)<=100)=false:=decide_eq_false (by omega)
   have HE:=gl (go (show decide (zX b<=200/\kB b<=100)=false from decide_eq_false (by omega)) hb);clear hb
   go_wp2_with fail
   go_ret
   rw [HE.out.1]
   exact ⟨rfl,HE.out.2⟩
 ·have h1:decide ((zX b:Int)<=200)=false:=decide_eq_false (by omega)
  have HE:=gl (show decide (zX b<=200/\kB b<=100)=false from decide_eq_false (by omega))
  go_wp2_with fail
  go_ret
  rw [HE.out]
  exact ⟨rfl,HB.out⟩
def BecPost (F:Nat->Prop) (w:World) (o:Option Bd) (en:Ending) (w':World):Prop :=
 ∃ v,en=.returned v/\Below w.heap.size w w'/\(o=none->v=.pointer none)/\∀ b,o=some b->Rep (fun i=>F i\/w.heap.size<=i) w' (kD b) v
structure BecPre (F:Nat->Prop) (n:Nat) (H:List Ty) (b:Bd) (env:List Mn) (bv ev:Value) (w:World):Prop where
 glob:ju w
 fit:kn H b env []
 hn:H.length=n
 nl:n<=1000
 el:env.length<=1000
 ok:jo 1000 env
 rb:Rep F w (kD b) bv
 re:Rep F w (.sl 148 4 env.length (kM env)) ev
set_option maxRecDepth 100000 in
theorem become_any (F:Nat->Prop) (n:Nat) (H:List Ty) (b:Bd) (env:List Mn) (bv ev:Value) (w:World) (h:BecPre F n H b env bv ev w) :
 Calls Tryz.prog 89 #[bv,ev,.int .i64 (n:Nat)] w (BecPost F w (qp b env n)):=by
 obtain ⟨bb,rfl⟩:=zy h.rb
 obtain ⟨_,ea,ec,rfl,_⟩:=zp.1 h.re
 obtain ⟨a0,ce⟩:=h.glob
 have th:=hU w _ ce
 have hlt1:0<w.heap.size:=th
 have cE:Below w.heap.size w (w.alloc (.cells #[.int .i64 20000] 178)):=(hG _ _).alloc (g_ _) _
 have hrbA:=Rep.below cE (fun _ h=>h) h.rb
 have hreA:=Rep.below cE (fun _ h=>h) h.re
 have aZ:=(cE.cell th).trans ce
 have kA:∀ {dv:DV} {v:Value},Rep F w dv v->Rep (fun i=>F i/\i<w.heap.size) (w.alloc (.cells #[.int .i64 20000] 178)) dv v:=fun h=>(Rep.keep fun b o hf ho=>⟨⟨hf,zZ ho⟩,zV ho⟩).1 _ _ h
 have fb:=h.nl
 have ez:=h.el
 have hE:ui (fun i=>F i/\i<w.heap.size) w.heap.size 20000 20000 n H b env [] (.pointer (some ⟨bb,0,none⟩)) (.slice ea env.length ec) .nilFunc (w.alloc (.cells #[.int .i64 20000] 178)) :=
  { glob:=⟨a0,aZ⟩,hF:=fun i hi e=>by have:=hi.2;omega,ng:=by omega,apl:=zR _ _,ld:=g_ _,d20:=g_ _,fit:=h.fit,hn:=h.hn,el:=by omega,nl:=by omega,
    ok:=ze (by omega) _ h.ok,okg:=trivial,rb:=kA h.rb,re:=kA h.re,ro:=rfl }
 have C:=eval_any 20000 _ _ _ _ _ _ _ _ _ _ _ _ hE
 have CT:=xO aZ C
 have hsz:=ev_size 20000 20000 b env n []
 have B1:(Go.Proofs.YtepgfdhkkjfmhacGreatDoor.ev 20000 20000 b env n []=none->qp b env n=none)/\∀ x,Go.Proofs.YtepgfdhkkjfmhacGreatDoor.ev 20000 20000 b env n []=some x->((zX x.1<=200/\kB x.1<=100)->qp b env n=some x.1)/\(¬ (zX x.1<=200/\kB x.1<=100)->qp b env n=none):=by
  unfold qp
  refine ⟨fun h=>by rw [h],fun x h=>?_⟩
  rw [h]
  exact ⟨fun h=>if_pos h,fun h=>if_neg h⟩
 clear hE C kA hrbA hreA h
 generalize qp b env n=r at *
 generalize Go.Proofs.YtepgfdhkkjfmhacGreatDoor.ev 20000 20000 b env n []=oo at *
 have HS:=gl (go hsz (go cE (go ce B1)));clear hsz cE ce aZ B1
 cases oo with
 | none =>
   have C:=gl (CT.1 rfl);clear CT
   go_enter Tryz.func89,Tryz.ntmps89
   go_wp2_with fail
   (with_reducible refine C.out.mono ?_)
   rintro en w1 ⟨rfl,bQ⟩
   have bZ:Below w.heap.size w w1:=HS.out.2.1.trans (bQ.toBelow (by rw [zK];omega) fun i hi e=>by have e:i=w.heap.size:=e;omega)
   have ca:=(bZ.cell th).trans HS.out.2.2.1
   have C2:=gl (is_same a0 w1)
   have HB:=gl bZ;clear bQ bZ
   go_wp2_with fail
   (with_reducible refine C2.out.mono ?_)
   rintro en w2 ⟨rfl,rfl⟩
   go_wp2_with fail
   go_ret
   exact ⟨_,rfl,HB.out,fun _=>rfl,fun b h=>by have h0:r=none:=HS.out.2.2.2.1 (by simp);rw [h0] at h;simp at h⟩
 | some x =>
   have C:=gl (CT.2 x rfl);clear CT
   go_enter Tryz.func89,Tryz.ntmps89
   go_wp2_with fail
   (with_reducible refine C.out.mono ?_)
   rintro en w1 ⟨vb,rfl,bQ,_,cK⟩
   have bZ:Below w.heap.size w w1:=HS.out.2.1.trans (bQ.toBelow (by rw [zK];omega) fun i hi e=>by have e:i=w.heap.size:=e;omega)
   have ca:=(bZ.cell th).trans HS.out.2.2.1
   have C2:=gl (is_nil a0 w1)
   have hz:=HS.out.1 x.1 x.2 rfl
   have C3:=gl (fits_any _ w1 x.1 _ cK (by omega))
   have HB:=gl (go bZ cK);clear bQ bZ cK hz
   go_wp2_with fail
   (with_reducible refine C2.out.mono ?_)
   rintro en w2 ⟨rfl,rfl⟩
   by_cases cS:zX x.1<=200/\kB x.1<=100
   ·rw [decide_eq_true cS] at C3
    have HF:=gl cS;clear cS
    go_wp2_with fail
    (with_reducible refine C3.out.mono ?_)
    rintro en w3 ⟨rfl,bU⟩
    have mU:=gl bU;clear bU
    go_wp2_with fail
    go_ret
    have hr:=(HS.out.2.2.2.2 x rfl).1 HF.out
    refine ⟨_,rfl,zzT HB.out.1 mU.out,fun h=>?_,fun b h=>?_⟩
    ·rw [hr] at h;simp at h
    ·rw [hr] at h
     obtain rfl:=Option.some.inj h
     refine Rep.weak (Rep.below mU.out (fun _ h=>h) HB.out.2) fun i h=>?_
     rcases h with h | h
     ·exact .inl h.1
     ·rw [zK] at h;exact .inr (by omega)
   ·rw [decide_eq_false cS] at C3
    have HF:=gl cS;clear cS
    go_wp2_with fail
    (with_reducible refine C3.out.mono ?_)
    rintro en w3 ⟨rfl,bU⟩
    have mU:=gl bU;clear bU
    go_wp2_with fail
    go_ret
    exact ⟨_,rfl,zzT HB.out.1 mU.out,fun _=>rfl,fun b h=>by rw [(HS.out.2.2.2.2 x rfl).2 HF.out] at h;simp at h⟩
def zL (bs:List Ty) (a:Ty) (n:Bd) (rest:List Ty):List Mn:=zq 0 bs++(.bd a n (zq 0 bs)::zq bs.length rest)
theorem jv (a:Ty) (n:Bd) (rest:List Ty):zL [] a n rest=kR a n rest:=by
 unfold zL kR;simp [zq]
structure AppPre (F:Nat->Prop) (bs rest:List Ty) (a:Ty) (m n:Bd) (mv nv bv rv:Value) (w:World):Prop where
 glob:ju w
 fit:kn (bs++rest) m (zL bs a n rest) []
 a15:zY a<=15
 bl:bs.length<=100
 rl:rest.length<=100
 b15:∀ t∈bs,zY t<=15
 r15:∀ t∈rest,zY t<=15
 rm:Rep F w (kD m) mv
 rn:Rep F w (kD n) nv
 rb:Rep F w (.sl 53 1 bs.length (kZ bs)) bv
 rr:Rep F w (.sl 53 1 rest.length (kZ rest)) rv
set_option maxRecDepth 100000 in
theorem apply_any (F:Nat->Prop) (bs rest:List Ty) (a:Ty) (m n:Bd) (mv nv bv rv:Value) (w:World) (h:AppPre F bs rest a m n mv nv bv rv w) :
 Calls Tryz.prog 55 #[mv,nv,bv,rv] w (BecPost F w (qp m (zL bs a n rest) (bs.length+rest.length))):=by
 obtain ⟨mb,rfl⟩:=zy h.rm
 obtain ⟨nb,rfl⟩:=zy h.rn
 obtain ⟨_,ba,bc,rfl,_⟩:=zp.1 h.rb
 obtain ⟨_,ra,rc,rfl,_⟩:=zp.1 h.rr
 have tX:=h.bl
 have rD:=h.rl
 have C1:Calls Tryz.prog 88 #[.int .i64 0,.slice ba bs.length bc] w (FreshV w 148 4 bs.length fun w' xs=>zH F w' (kM (zq 0 bs)) xs):=wV F 0 bs _ w h.rb (by omega) (by omega)
 have C1:=gl C1
 have HP:=gl h;clear h
 go_enter Tryz.func55,Tryz.ntmps55
 go_wp2_with fail
 (with_reducible refine C1.out.mono ?_)
 rintro en w1 ⟨a1,c1,xs1,rfl,oN,cK,bQ,BH⟩
 have cN:=oN.src (qr _ _ cK)
 have H1:=gl (go oN (go cK (go bQ (go BH cN))));clear oN cK bQ BH cN C1
 go_wp2_with (at_builtin;refine zP rfl _ _ 145 rfl 148 (.agg #[.int .i64 0,.pointer none,.pointer none,.slice none 0 0]) 4 48 Tryz.underlying145 Tryz.infoMn rfl (by decide) (.slice none 0 0) 0 [] rfl ?a1 _ bs.length xs1 rfl ?a2 ?a3 ?a4 ?_)
 case a1=>exact World.ownsRow_nil _ _ _ _
 case a2=>exact H1.out.2.2.2.2
 case a3=>unfold maxLen;omega
 case a4=>omega
 intro a2 c2 w2 AZ bZ tJ
 have sF:Below w1.heap.size w1 w2:=bZ.toBelow (g_ _) (fun i _ e=>by simp [Value.ownBlock] at e)
 have hf2:∀ g,(Value.slice a2 bs.length c2).ownBlock=some g->w1.heap.size<=g:=fun g hg=>by
  rcases tJ g hg with h | h
  ·simp [Value.ownBlock] at h
  ·omega
 have H2:=gl (go AZ (go sF hf2));clear AZ bZ tJ sF hf2
 go_wp2_with (at_builtin;refine zP rfl _ _ 145 rfl 148 (.agg #[.int .i64 0,.pointer none,.pointer none,.slice none 0 0]) 4 48 Tryz.underlying145 Tryz.infoMn rfl (by decide) (.slice a2 bs.length c2) bs.length xs1 rfl ?b1 _ 1 [.int .i64 0,.pointer none,.pointer (some ⟨nb,0,none⟩),.slice a1 bs.length c1] rfl ?b2 ?b3 ?b4 ?_)
 case b1=>exact H2.out.1.alloc _
 case b2=>exact zS.lit1 #[.int .i64 0,.pointer none,.pointer (some ⟨nb,0,none⟩),.slice a1 bs.length c1] rfl (by simp [Value.oneCell']) _ (by simp)
 case b3=>unfold maxLen;omega
 case b4=>omega
 intro a3 c3 w3 ho3 bU mP
 have cG:=H2.out.2.1.size
 have d6:=H1.out.2.2.1.size
 have ly:Below w1.heap.size w1 w3:=(H2.out.2.1.alloc cG _).trans (bU.toBelow (by rw [zK];omega) fun i hi e=>by have:=H2.out.2.2 i e;omega)
 have hf3:∀ g,(Value.slice a3 (bs.length+1) c3).ownBlock=some g->w1.heap.size<=g:=fun g hg=>by
  rcases mP g hg with h | h
  ·exact H2.out.2.2 g h
  ·omega
 have lg:Below w.heap.size w w3:=H1.out.2.2.1.trans (ly.mono d6)
 have C4:=gl (wV (fun i=>F i/\i<w.heap.size) bs.length rest _ w3 (Rep.below lg (fun _ h=>h) (Rep.low HP.out.rr)) (by omega) (by omega))
 have H3:=gl (go ho3 (go ly (go hf3 lg)));clear ho3 bU mP ly hf3 lg
 go_wp2_with fail
 (with_reducible refine C4.out.mono ?_)
 rintro en w4 ⟨a4,c4,xs4,rfl,rI,nd,bS,hf4⟩
 clear C4
 have eR:=rI.src (qr _ _ nd)
 have AY:Own w4 148 4 (.slice a3 (bs.length+1) c3) (bs.length+1) (xs1++[.int .i64 0,.pointer none,.pointer (some ⟨nb,0,none⟩),.slice a1 bs.length c1]):=H3.out.1.keep fun g o hg hh=>by rw [bS.block g (zZ hh)];exact hh
 have H4:=gl (go AY (go eR (go nd (go bS hf4))));clear AY eR nd bS hf4 rI
 go_wp2_with (at_builtin;refine zP rfl _ _ 145 rfl 148 (.agg #[.int .i64 0,.pointer none,.pointer none,.slice none 0 0]) 4 48 Tryz.underlying145 Tryz.infoMn rfl (by decide) (.slice a3 (bs.length+1) c3) (bs.length+1) (xs1++[.int .i64 0,.pointer none,.pointer (some ⟨nb,0,none⟩),.slice a1 bs.length c1]) rfl ?d1 _ rest.length xs4 rfl ?d2 ?d3 ?d4 ?_)
 case d1=>exact H4.out.1
 case d2=>exact H4.out.2.1
 case d3=>unfold maxLen;omega
 case d4=>omega
 intro a5 c5 w5 dj bC dy
 have cn:=H3.out.2.1.size
 have hz4:=H4.out.2.2.2.1.size
 have aJ:Below w1.heap.size w1 w5:=(H3.out.2.1.trans (H4.out.2.2.2.1.mono cn)).trans (bC.toBelow (by omega) fun i hi e=>by have:=H3.out.2.2.1 i e;omega)
 have hf5:∀ g,(Value.slice a5 (bs.length+1+rest.length) c5).ownBlock=some g->w1.heap.size<=g:=fun g hg=>by
  rcases dy g hg with h | h
  ·exact H3.out.2.2.1 g h
  ·omega
 have sI:Below w.heap.size w w5:=H1.out.2.2.1.trans (aJ.mono d6)
 have hlen:(zL bs a n rest).length=bs.length+1+rest.length:=by unfold zL;simp [kJ];omega
 have rM:Rep (fun i=>F i\/w.heap.size<=i) w5 (.sl 148 4 (zL bs a n rest).length (kM (zL bs a n rest))) (.slice a5 (bs.length+1+rest.length) c5):=by
  rw [hlen]
  refine dj.rep (fun g hg=>.inr (by have:=hf5 g hg;omega)) ?_
  have e:kM (zL bs a n rest)=kM (zq 0 bs)++(xu (.bd a n (zq 0 bs))++kM (zq bs.length rest)):=by unfold zL;rw [jV,kM]
  rw [e]
  have k1:∀ {ds:List DV} {us:List Value},zH F w1 ds us->zH (fun i=>F i\/w.heap.size<=i) w5 ds us:=fun h=>(Rep.keep fun b o hf hh=>⟨.inl hf,by rw [aJ.block b (zZ hh)];exact hh⟩).2 _ _ h
  refine zH.append (k1 H1.out.2.1) (zH.append (vs:=[.int .i64 0,.pointer none,.pointer (some ⟨nb,0,none⟩),.slice a1 bs.length c1]) (us:=xs4) ?_ ?_)
  ·rw [xu]
   have r1:Rep (fun i=>F i\/w.heap.size<=i) w5 (kD n) (.pointer (some ⟨nb,0,none⟩)):=(Rep.below sI (fun _ h=>h) HP.out.rn).weak fun i h=>.inl h
   have r2:Rep (fun i=>F i\/w.heap.size<=i) w5 (.sl 148 4 (zq 0 bs).length (kM (zq 0 bs))) (.slice a1 bs.length c1):=by
    rw [kJ]
    refine (H1.out.1.keep fun g o hg hh=>?_).rep (fun g hg=>.inr (H1.out.2.2.2.1 g hg)) (k1 H1.out.2.1)
    rw [aJ.block g (zZ hh)];exact hh
   exact zQ.2 ⟨_,_,rfl,zF.2 rfl,zQ.2 ⟨_,_,rfl,zF.2 rfl,zQ.2 ⟨_,_,rfl,r1,zQ.2 ⟨_,_,rfl,r2,zB.2 rfl⟩⟩⟩⟩
  ·refine (Rep.keep fun b o hf hh=>⟨.inl hf.1,?_⟩).2 _ _ H4.out.2.2.1
   have bY:=hf.2
   rw [bC.block b (zZ hh) (fun e=>by have:=H3.out.2.2.1 b e;omega)];exact hh
 have hE:BecPre (fun i=>F i\/w.heap.size<=i) (bs.length+rest.length) (bs++rest) m (zL bs a n rest) (.pointer (some ⟨mb,0,none⟩)) (.slice a5 (bs.length+1+rest.length) c5) w5 :=
  { glob:=HP.out.glob.below sI,fit:=HP.out.fit,hn:=List.length_append ..,nl:=by omega,el:=by omega,
    ok:=qJ _ _ (qZ _ _ HP.out.b15 (by omega)) ⟨⟨HP.out.a15,by rw [kJ];omega,qZ _ _ HP.out.b15 (by omega)⟩,qZ _ _ HP.out.r15 (by omega)⟩,
    rb:=(Rep.below sI (fun _ h=>h) HP.out.rm).weak fun i h=>.inl h,re:=rM }
 have C6:=become_any _ _ _ _ _ _ _ w5 hE
 rw [Int.natCast_add] at C6
 generalize qp m (zL bs a n rest) (bs.length+rest.length)=r at *
 have C6:=gl C6
 have HB:=gl sI;clear rM hE hlen sI aJ hf5 dj bC dy
 go_wp2_with fail
 (with_reducible refine C6.out.mono ?_)
 rintro en w6 ⟨v,rfl,bP,eS,dx⟩
 have H6:=gl (go bP (go eS dx));clear bP eS dx
 go_wp2_with fail
 go_ret
 refine ⟨v,rfl,zzT HB.out H6.out.1,H6.out.2.1,fun b h=>(H6.out.2.2 b h).weak fun i h=>?_⟩
 have hz:=HB.out.size
 rcases h with (h | h) | h
 ·exact .inl h
 ·exact .inr h
 ·exact .inr (by omega)
def TBPost (F:Nat->Prop) (w:World) (o:Option (Ty×Bd)) (en:Ending) (w':World):Prop :=
 ∃ kv bv,en=.returned (.tuple #[kv,bv])/\Below w.heap.size w w'/\(o=none->bv=.pointer none) /\
   ∀ x,o=some x->Rep (fun i=>F i\/w.heap.size<=i) w' (qj x.1) kv/\Rep (fun i=>F i\/w.heap.size<=i) w' (kD x.2) bv
theorem ur {F:Nat->Prop} {w:World} {e:TypeId} {n b o cap:Nat} {d:DV} {ds:List DV} (h:Rep F w (.sl e 1 (n+1) (d::ds)) (.slice (some ⟨b,o,none⟩) (n+1) cap)) :
 Rep F w (.sl e 1 n ds) (.slice (some ⟨b,o+1,none⟩) n (cap-1)):=by
 rw [zp] at h ⊢
 obtain ⟨hl,a,c,e1,hn,hz,h⟩:=h
 simp only [Value.slice.injEq] at e1
 obtain ⟨rfl,_,rfl⟩:=e1
 refine ⟨by simpa using hl,_,_,rfl,by omega,fun h=>by simp at h,.inr ?_⟩
 rcases h with h0 | ⟨b',o',cs,fr,e2,hb,hcs,hr⟩
 ·omega
 simp only [Option.some.injEq,Addr.mk.injEq,and_true] at e2
 obtain ⟨rfl,rfl⟩:=e2
 refine ⟨_,_,cs,fr,rfl,hb,hcs,?_⟩
 have h2:=hr
 rw [zQ] at h2
 obtain ⟨v,vs,e3,_,h4⟩:=h2
 have:vs=List.take (n*1) (List.drop (o+1) cs.toList):=by
  have h5:=congrArg (List.drop 1) e3
  rw [List.drop_take,List.drop_drop] at h5
  simpa using h5.symm
 rw [<- this];exact h4
set_option maxRecDepth 100000 in
theorem pV (F:Nat->Prop) (t:Ty) (m:Bd) (l:Bs) (kv mv:Value) (w:World) (hg:jE w) (he:ju w) (hk:Rep F w (qj t) kv) (hm:Rep F w (kD m) mv) (fe:xY t m) (hl:Lim l.length) :
 Calls Tryz.prog 37 #[kv,mv,str l] w (TBPost F w (kq t m l)):=by
 obtain ⟨kb,ks,rfl,oL,cb,tK⟩:=z8 hk
 obtain ⟨mb,rfl⟩:=zy hm
 obtain ⟨ka,kc,e,sK,_,eO⟩:=zE tK
 subst e
 have lH:=zZ cb
 have ni:w.cell? ⟨kb,0,none⟩=some (.slice ka t.args.length kc):=by simp [World.cell?,cb]
 cases d7:t.args with
 | nil =>
   have dh:kq t m l=none:=by unfold kq;rw [d7]
   rw [dh]
   rw [d7] at ni
   clear eO tK cb dh
   go_enter Tryz.func37,Tryz.ntmps37
   go_wp2_with fail
   go_ret2
   exact ⟨_,_,rfl,hG _ _,fun _=>rfl,fun x h=>by simp at h⟩
 | cons a rest =>
   have dh:kq t m l=(qX a l).bind fun n=>(qp m (kR a n rest) rest.length).map fun out=>(.mk rest,out):=by unfold kq;rw [d7]
   generalize kq t m l=r2 at *
   have eE:=gl dh
   rw [d7] at ni eO tK
   obtain ⟨ip,Aj,u,d1,e,_,hkw2,fx,ca,be⟩:=eO 0 (by simp)
   subst e
   simp only [kZ,List.getElem?_cons_zero,Option.some.injEq] at fx
   subst fx
   obtain ⟨ab,rfl⟩:=jh be
   have bJ:=jB d7
   have cv:=fe.1
   have rD:rest.length<=zY (.mk rest):=by have:=kN (.mk rest);have:=zl rest;simp only [Ty.args] at *;omega
   have hc1':w.cell? ⟨ip,Aj,none⟩=some (.pointer (some ⟨ab,0,none⟩)):=ca
   have C1:=gl (uY F a l _ w hg be (by omega) hl)
   have HT:=gl d7
   have HP:=gl (go be (go tK (go fe (go he hm))));clear be tK fe he hm eO cb dh ca oL hk d7
   go_enter Tryz.func37,Tryz.ntmps37
   go_wp2_with fail
   (with_reducible refine C1.out.mono ?_)
   rintro en w1 ⟨v,rfl,bQ,b8,cQ⟩
   cases hq:qX a l with
   | none =>
     obtain rfl:=b8 hq
     have HB:=gl bQ
     have HQ:=gl hq;clear bQ b8 cQ hq C1
     go_wp2_with fail
     go_ret2
     have h0:r2=none:=by have:=eE.out;rw [HQ.out] at this;exact this
     exact ⟨_,_,rfl,HB.out,fun _=>rfl,fun x h=>by rw [h0] at h;simp at h⟩
   | some n =>
     have rB:=cQ n hq
     obtain ⟨nb,rfl⟩:=zy rB
     have q0:=(bQ.cell lH).trans ni
     have KEY:∀ (ra:Option Addr) (rc:Nat),Rep F w (.sl 53 1 rest.length (kZ rest)) (.slice ra rest.length rc) ->
      Calls Tryz.prog 55 #[.pointer (some ⟨mb,0,none⟩),.pointer (some ⟨nb,0,none⟩),.slice none 0 0,.slice ra rest.length rc] (w1.alloc (.cells #[.slice ra rest.length rc] 58))
       (fun en w'=>∃ v,en=.returned v/\Below w.heap.size w w'/\w'.heap[w1.heap.size]? = some (.cells #[.slice ra rest.length rc] 58 (0,0))/\r2=(qp m (kR a n rest) rest.length).map (fun out=>(.mk rest,out)) /\
        (qp m (kR a n rest) rest.length=none->v=.pointer none)/\∀ b,qp m (kR a n rest) rest.length=some b->Rep (fun i=>F i\/w.heap.size<=i) w' (kD b) v/\Rep (fun i=>F i\/w.heap.size<=i) w' (qj (.mk rest)) (.pointer (some ⟨w1.heap.size,0,none⟩))):=by
      intro ra rc hrr
      obtain ⟨be,tK,fe,he,hm⟩:=HP.out
      have aP:Below w.heap.size w (w1.alloc (.cells #[.slice ra rest.length rc] 58)):=bQ.alloc bQ.size _
      have d6:=bQ.size
      have kk:∀ {dv:DV} {v:Value},Rep F w dv v->Rep (fun i=>F i\/w.heap.size<=i) (w1.alloc (.cells #[.slice ra rest.length rc] 58)) dv v:=fun h=>(Rep.below aP (fun _ h=>h) h).weak fun i h=>.inl h
      have dK:Rep (fun i=>F i\/w.heap.size<=i) (w1.alloc (.cells #[.slice ra rest.length rc] 58)) (kD n) (.pointer (some ⟨nb,0,none⟩)):=(Rep.keep fun b o hf ho=>⟨.inr hf,zV ho⟩).1 _ _ rB
      have hgn:xY a n:=(jJ (by omega) hq).1
      have cS:=vC (a:=a) (rest:=rest) hgn.fit (m:=m) (by have:=fe.fit;rwa [HT.out] at this)
      have mO:∀ t∈rest,zY t<=15:=(zj (t:=.mk rest) (by omega)).1
      have hE:AppPre (fun i=>F i\/w.heap.size<=i) [] rest a m n (.pointer (some ⟨mb,0,none⟩)) (.pointer (some ⟨nb,0,none⟩)) (.slice none 0 0) (.slice ra rest.length rc) (w1.alloc (.cells #[.slice ra rest.length rc] 58)) :=
       { glob:=he.below aP,fit:=by rw [jv];exact cS,a15:=by omega,bl:=by simp,rl:=by omega,b15:=by simp,r15:=mO,rm:=kk hm,rn:=dK,rb:=zp.2 ⟨by simp [kZ],none,0,rfl,g_ _,fun _=>rfl,.inl rfl⟩,rr:=kk hrr }
      have C:=apply_any _ _ _ _ _ _ _ _ _ _ _ hE
      rw [jv,List.length_nil,Nat.zero_add] at C
      refine C.mono ?_
      rintro en w2 ⟨v,rfl,bZ,hn2',dD⟩
      have bD:w2.heap[w1.heap.size]? = some (.cells #[.slice ra rest.length rc] 58 (0,0)):=by rw [bZ.block _ (by rw [zK];omega)];exact zR _ _
      have B5:Below w.heap.size w w2:=zzT aP bZ
      have hw:∀ {dv:DV} {v:Value},Rep (fun i=>(F i\/w.heap.size<=i)\/(w1.alloc (.cells #[.slice ra rest.length rc] 58)).heap.size<=i) w2 dv v->Rep (fun i=>F i\/w.heap.size<=i) w2 dv v:=fun h=>h.weak fun i h=>by
       rcases h with h | h
       ·exact h
       ·rw [zK] at h;exact .inr (by omega)
      refine ⟨v,rfl,B5,bD,by have:=eE.out;rw [hq] at this;exact this,hn2',fun b hb=>⟨hw (dD b hb),?_⟩⟩
      rw [qj,jU]
      exact ⟨_,_,rfl,.inr d6,bD,zH.one ((Rep.below B5 (fun _ h=>h) hrr).weak fun i h=>.inl h)⟩
     have eg:¬ kc=1->Rep F w (.sl 53 1 rest.length (kZ rest)) (.slice (some ⟨ip,Aj+1,none⟩) rest.length (kc-1)):=fun _=>ur (d:=qj a) HP.out.2.1
     have sq:kc=1->Rep F w (.sl 53 1 rest.length (kZ rest)) (.slice (some ⟨ip,Aj,none⟩) rest.length 0):=fun h=>by
      obtain rfl:rest=[]:=by
       rw [HT.out,h] at sK
       simp at sK;exact sK
      exact zp.2 ⟨by simp [kZ],_,_,rfl,by simp,fun h=>by simp at h,.inl rfl⟩
     have HB:=gl hq;clear bQ b8 cQ rB hq C1
     by_cases Bp:kc=1
     ·have K:=gl (KEY _ _ (sq Bp))
      clear KEY sq eg
      generalize hr:qp m (kR a n rest) rest.length=r at *
      go_wp2_with fail
      (with_reducible refine K.out.mono ?_)
      rintro en w2 ⟨v,rfl,h2⟩
      have H2:=gl h2;clear h2
      go_wp2_with fail
      go_ret2
      obtain ⟨bZ,bD,cH,dK,dD⟩:=H2.out
      rw [cH]
      refine ⟨_,_,rfl,bZ,fun h=>?_,fun x h=>?_⟩
      ·cases r with
       | none=>exact dK rfl
       | some b=>simp at h
      ·cases r with
       | none=>simp at h
       | some b =>
         simp only [Option.map_some,Option.some.injEq] at h
         subst h
         exact ⟨(dD b rfl).2,(dD b rfl).1⟩
     ·have K:=gl (KEY _ _ (eg Bp))
      clear KEY sq eg
      generalize hr:qp m (kR a n rest) rest.length=r at *
      go_wp2_with fail
      (with_reducible refine K.out.mono ?_)
      rintro en w2 ⟨v,rfl,h2⟩
      have H2:=gl h2;clear h2
      go_wp2_with fail
      go_ret2
      obtain ⟨bZ,bD,cH,dK,dD⟩:=H2.out
      rw [cH]
      refine ⟨_,_,rfl,bZ,fun h=>?_,fun x h=>?_⟩
      ·cases r with
       | none=>exact dK rfl
       | some b=>simp at h
      ·cases r with
       | none=>simp at h
       | some b =>
         simp only [Option.map_some,Option.some.injEq] at h
         subst h
         exact ⟨(dD b rfl).2,(dD b rfl).1⟩
theorem decNat (n:Nat):dec n=Lib.decDigits n:=by
 induction n using Nat.strongRecOn with
 | _ n ih =>
   by_cases h:n<10
   ·rw [qG h,Lib.decDigits,dif_pos h];rfl
   ·rw [qL h,Lib.decDigits,dif_neg h,ih (n / 10) (Nat.div_lt_self (by omega) (by omega))];rfl
theorem itoaNat (i:Nat):Lib.itoa (i:Int)=dec i:=by
 rw [decNat,Lib.itoa,if_neg (by omega)];rfl
theorem lvBs_of:∀ xs:List Bd,(∀ b∈xs,lvB b)->vM xs
 | [],_=>by rw [vM];trivial
 | b::bs,h=>by rw [vM];exact ⟨h b (by simp),lvBs_of bs fun x hx=>h x (by simp [hx])⟩
theorem fit_lv (n:Nat):∀ (b:Bd) (h:List Ty),zX b<=n->qA h b->(∀ t∈h,zY t<=15)->h.length+15*n<=10000->lvB b:=by
 induction n with
 | zero=>intro b h hs;have:=kH b;omega
 | succ n ih =>
   intro b h hs hf ha hl
   cases b with
   | leaf c=>rw [lvB];trivial
   | ask v ss y no =>
     rw [qA] at hf
     obtain ⟨t,ht,f1,f2,f3⟩:=hf
     rw [zX] at hs
     have hy:=kH y
     have hn:=kH no
     have hv:=(List.getElem?_eq_some_iff.1 ht).1
     have rQ:=ha t (List.mem_of_getElem? ht)
     rw [lvB]
     refine ⟨by omega,lvBs_of ss fun b hb=>?_,ih y h (by omega) f2 ha (by omega),ih no h (by omega) f3 ha (by omega)⟩
     have hsz:=y8 hb
     obtain ⟨k,hk⟩:=List.mem_iff_getElem?.1 hb
     obtain ⟨x,hx,hxf⟩:=xL _ _ f1 k b hk
     simp only [kW,List.getElem?_map,Option.map_eq_some_iff] at hx
     obtain ⟨a,haa,rfl⟩:=hx
     have ma:=(zj rQ).1 a (List.mem_of_getElem? haa)
     have e_:=zj ma
     refine ih b (h++a.args) (by omega) hxf (fun t ht=>?_) (by rw [List.length_append];omega)
     rcases List.mem_append.1 ht with h | h
     ·exact ha t h
     ·exact e_.1 t h
theorem xY.lv {t:Ty} {b:Bd} (h:xY t b):lvB b :=
 fit_lv 200 b t.args h.size h.fit (zj h.atoms).1 (by have:=(zj h.atoms).2;omega)
theorem vK:∀ bs:List Bd,Lib.joinTail [32] (bs.map zO)=zv bs
 | []=>rfl
 | b::bs=>by
   have:=vK bs
   simp only [Lib.joinTail,List.map_cons,List.flatten_cons] at this ⊢
   rw [this,zv]
theorem textB_join (v:Nat) (ss:List Bd) (y n:Bd):zO (.ask v ss y n)=[40]++Lib.join (dec v::(ss++[y,n]).map zO) [32]++[41]:=by
 rw [Lib.join_cons,vK,qd,zO,zv,zv,zv];simp
def pd (b:Bd):Prop:=∀ (F:Nat->Prop) (w:World) (v:Value),jE w->Rep F w (kD b) v ->
 Calls Tryz.prog 38 #[v] w fun en w'=>en=.returned (str (zO b))/\Below w.heap.size w w'
theorem Tryz.infoStrA:(Tryz.prog.info? 9).map (fun i=>(i.zero,i.size,i.bytes))=some (some (str []),1,16):=by kernel_rfl
theorem Own.strings {w:World} {e:TypeId} {v:Value} {n:Nat} {ts:List Bs} (h:Own w e 1 v n (ts.map str)) (hn:0<n) :
 ∃ g cap,v=.slice (some ⟨g,0,none⟩) n cap/\n<=cap/\g<w.heap.size/\ts.length=n/\∀ (j:Nat) (x:ByteArray),(ts.map fun t=>(⟨t.toArray⟩:ByteArray))[j]? = some x->w.cell? ⟨g,0+j,none⟩=some (.string x):=by
 have hl:=h.1
 rcases h.2 with ⟨_,h0⟩ | ⟨g,cap,cur,rfl,_,hg,hnc,_,hcs,ht⟩
 ·omega
 ·refine ⟨g,cap,rfl,hnc,zZ hg,by simpa using hl,fun j x hj=>?_⟩
  rw [List.getElem?_map,Option.map_eq_some_iff] at hj
  obtain ⟨t,ht1,rfl⟩:=hj
  have h1:(ts.map str)[j]? = some (str t):=by rw [List.getElem?_map,ht1];rfl
  rw [<- ht,List.getElem?_take] at h1
  split at h1
  ·rw [Nat.zero_add];simp only [World.cell?,hg];simpa using h1
  ·simp at h1
structure TInv (lv:Nat) (ps:List Bd) (w w2 w4:World) (k:Nat) (v:Value) (wr:World):Prop where
 own:Own wr 9 1 v (k+1) ((dec lv::(ps.take k).map zO).map str)
 bel:Below w.heap.size w wr
 but:But (· = w2.heap.size) w4 wr
 fr:∀ g,v.ownBlock=some g->g=w2.heap.size\/w4.heap.size<=g
set_option maxRecDepth 100000 in
theorem text_step (b:Bd) (hl:zX b<=100000) (dQ:lvB b) (ih:∀ t,zX t<zX b->lvB t->pd t):pd b:=by
 intro F w v hg hv
 have IH:=gl ih;clear ih
 cases b with
 | leaf c =>
   obtain ⟨a0,sl,rfl,_,bD,_⟩:=yu hv
   have r0:w.cell? ⟨a0,0,none⟩=some (str [c]):=by simp [World.cell?,bD]
   have CL:=gl (vg F w c _ hv)
   clear bD hv
   go_enter Tryz.func38,Tryz.ntmps38
   go_wp2_with fail
   (with_reducible refine CL.out.mono ?_)
   rintro en w3 ⟨rfl,rfl⟩
   go_wp2_with fail
   go_ret
   exact ⟨by rw [zO];rfl,hG _ _⟩
 | ask lv ss y no =>
   obtain ⟨a0,sl,yv,nv,rfl,_,bD,_⟩:=vL hv
   have r1:w.cell? ⟨a0,1,none⟩=some (.int .i64 (lv:Nat)):=by simp [World.cell?,bD]
   have ha0:=zZ bD
   have CL:=gl (uv F w lv ss y no _ hv)
   have dc:=dQ
   rw [lvB] at dc
   have hlv1:=dc.1
   have C1:Calls Tryz.prog 27 #[.int .i64 (lv:Nat)] w fun en w'=>en=.returned (str (dec lv))/\Below w.heap.size w w':=by
    have:=gC (lv:Nat) w hg (by omega) (by omega)
    rwa [itoaNat] at this
   have C1:=gl C1
   have HP:=gl (go hv (go hg (go dQ hl)));clear hv hg dQ hl bD dc
   go_enter Tryz.func38,Tryz.ntmps38
   go_wp2_with fail
   (with_reducible refine CL.out.mono ?_)
   rintro en w1 ⟨rfl,e⟩
   subst w1
   go_wp2_with fail
   (with_reducible refine C1.out.mono ?_)
   rintro en w2 ⟨rfl,bZ⟩
   have cE:Below w.heap.size w (w2.alloc (.cells #[str (dec lv)] 9)):=bZ.alloc bZ.size _
   have cG:=bZ.size
   have hvA:Rep (fun i=>F i/\i<w.heap.size) (w2.alloc (.cells #[str (dec lv)] 9)) (kD (.ask lv ss y no)) (.pointer (some ⟨a0,0,none⟩)):=Rep.below cE (fun _ h=>h) (Rep.low HP.out.1)
   have CP:=gl (wQ _ _ _ _ hvA (by have:=HP.out.2.2.2;unfold Lim;omega))
   have hp:zc (.ask lv ss y no)=ss++[y,no]:=rfl
   unfold yg at CP
   rw [hp] at CP
   have hsz:zG (ss++[y,no])+1=zX (.ask lv ss y no):=by rw [kI,zX,zG,zG,zG];omega
   have ex:∀ b∈ss++[y,no],lvB b:=by
    have:=HP.out.2.2.1
    rw [lvB] at this
    intro b hb
    rcases List.mem_append.1 hb with h | h
    ·obtain ⟨k,hk⟩:=List.mem_iff_getElem?.1 h
     exact pM _ this.2.1 k b hk
    ·simp at h
     rcases h with rfl | rfl
     ·exact this.2.2.1
     ·exact this.2.2.2
   have iH:=textB_join lv ss y no
   have AL:zv (ss++[y,no])=Lib.joinTail [32] ((ss++[y,no]).map zO):=(vK _).symm
   have Bi:=jr (ss++[y,no]) (lvBs_of _ ex)
   have ov:(dec lv).length<=5:=qM 4 lv (by omega)
   have hb100:=HP.out.2.2.2
   have iU:=Own.litAt (w:=w2) (e:=9) (size:=1) #[str (dec lv)] 1 _ rfl (by decide) rfl
   generalize hpp:ss++[y,no]=ps at *
   have HQ:=gl (go hsz (go ex (go iH (go AL (go Bi (go cE iU))))));clear hsz ex iH AL Bi cE hvA bZ iU hp hpp
   go_wp2_with fail
   (with_reducible refine CP.out.mono ?_)
   rintro en w4 ⟨pv,rfl,bS,hp4⟩
   obtain ⟨pa,pc,e,_,_,bJ⟩:=zE hp4
   subst e
   have hz4:=bS.size
   rw [zK] at hz4
   have hsp:=HQ.out.1
   have AM:=km ps
   have eF:=gl (go bS bJ);clear bS hp4 bJ hsp
   have hpl:ps.length<=100000:=by have:=HQ.out.1;omega
   clear AM
   go_wp2_with fail
   go_loopw [3,22] (fun o i wr=>∃ k:Nat,k<=ps.length/\i=.int .i64 k/\TInv lv ps w w2 w4 k o wr) (fun _ i _=>ps.length-(intOf i).toNat)
   case atStart =>
    refine ⟨0,Nat.zero_le _,rfl,?_,HQ.out.2.2.2.2.2.1.trans (eF.out.1.mono (by rw [zK];omega)),But.refl _ _,fun g hg=>.inl ?_⟩
    ·exact HQ.out.2.2.2.2.2.2.keep fun g o hg hh=>by rw [eF.out.1.block g (zZ hh)];exact hh
    ·simp [Value.ownBlock] at hg;omega
   case round =>
    rename_i wr
    obtain ⟨k,hk,rfl,bw⟩:=hrel
    obtain ⟨sa,sc,e⟩:=bw.own.slice
    subst e
    have HI:=gl bw;clear bw
    by_cases bY:k<ps.length
    ·obtain ⟨ba,oa,u,d,ea,l_,iR,hd,hu,hr⟩:=eF.out.2 k bY
     subst ea
     rw [yR,Option.map_eq_some_iff] at hd
     obtain ⟨t,ht,rfl⟩:=hd
     obtain ⟨ta,eu⟩:=zy hr
     subst eu
     have hne:ba≠w2.heap.size:=by
      rcases l_ with h | h
      ·have:=h.2;omega
      ·rw [zK] at h;omega
     have hc:wr.cell? ⟨ba,oa+k,none⟩=some (.pointer (some ⟨ta,0,none⟩)):=(HI.out.but.cell iR hne).trans hu
     have dg:Rep (fun _=>True) wr (kD t) (.pointer (some ⟨ta,0,none⟩)):=by
      refine (Rep.keep fun b o hf hh=>⟨trivial,?_⟩).1 _ _ hr
      rw [HI.out.but.block b (zZ hh) (fun e=>?_)]
      ·exact hh
      ·have e:b=w2.heap.size:=e
       rcases hf with h | h
       ·have:=h.2;omega
       ·rw [zK] at h;omega
     have rx:=List.mem_of_getElem? ht
     have nC:zX t<zX (.ask lv ss y no):=by have:=y8 rx;have:=HQ.out.1;omega
     have IH':=gl (IH.out t nC (HQ.out.2.1 t rx) _ wr _ (HP.out.2.1.below HI.out.bel) dg)
     have HT:=gl ht
     clear ht hu hr dg rx
     go_wp2_with fail
     (with_reducible refine IH'.out.mono ?_)
     rintro en w5 ⟨rfl,bC⟩
     have aA:=gl bC;clear bC
     go_wp2_with (at_builtin;refine zP rfl _ _ 27 rfl 9 (str []) 1 16 Tryz.underlying27 Tryz.infoStrA rfl (by decide) (.slice sa (k+1) sc) (k+1) ((dec lv::(ps.take k).map zO).map str) rfl ?c1 _ 1 [str (zO t)] rfl ?c2 ?c3 ?c4 ?_)
     case c1=>exact (HI.out.own.keep fun g o hg hh=>by rw [aA.out.block g (zZ hh)];exact hh).alloc _
     case c2=>exact zS.lit1 #[str (zO t)] rfl (by simp [Value.oneCell',str]) _ (by simp)
     case c3=>unfold maxLen;omega
     case c4=>omega
     intro a7 c7 w7 bI bV bH
     have hz5:=aA.out.size
     have hzb:=HI.out.bel.size
     have ig:=HI.out.but.size
     have hN:TInv lv ps w w2 w4 (k+1) (.slice a7 (k+1+1) c7) w7:=by
      have hfr:∀ g,(Value.slice sa (k+1) sc).ownBlock=some g->w.heap.size<=g/\(g=w2.heap.size\/w4.heap.size<=g):=fun g hg=>by
       have:=HI.out.fr g hg
       exact ⟨by omega,this⟩
      refine ⟨?_,?_,?_,fun g hg=>?_⟩
      ·have:=bI
       simpa [List.take_add_one,HT.out,List.map_take] using this
      ·exact ((HI.out.bel.trans (aA.out.mono hzb)).alloc (by omega) _).trans (bV.toBelow (by rw [zK];omega) fun i hi e=>by have:=hfr i e;omega)
      ·refine But.trans' ((HI.out.but.trans (But.ofBelow aA.out)).alloc _) bV fun i hi e=>?_
       have h1:=(hfr i e).2
       rcases h1 with h | h
       ·exact h
       ·omega
      ·rcases bH g hg with h | h
       ·exact (hfr g h).2
       ·exact .inr (by omega)
     have HN:=gl hN;clear hN bI bV bH
     go_wp2_with fail
     go_roundw
     case rel=>exact ⟨k+1,by omega,by go_num,HN.out⟩
     case measure=>simp [intOf];omega
    ·obtain rfl:k=ps.length:=by omega
     have ho:=HI.out.own
     rw [List.take_length] at ho
     obtain ⟨g,cap,e,hcap,hglt,hlen,hcells⟩:=ho.strings (by omega)
     simp only [Value.slice.injEq] at e
     obtain ⟨rfl,_,rfl⟩:=e
     have ic:((dec lv::ps.map zO).map fun t=>(⟨t.toArray⟩:ByteArray)).length=ps.length+1:=by simp
     have hxm:(((dec lv::ps.map zO).map fun t=>(⟨t.toArray⟩:ByteArray)).map (·.data.toList))=dec lv::ps.map zO:=by simp [Function.comp_def]
     have i6:(⟨#[32]⟩:ByteArray).data.toList=[32]:=rfl
     have CJ:=Tryz.strings_Join g 0 sc ((dec lv::ps.map zO).map fun t=>(⟨t.toArray⟩:ByteArray)) ⟨#[32]⟩ wr hcells hglt (by rw [ic];omega) (by rw [ic];omega) (by
      rw [hxm,i6,Lib.join_cons,List.length_append,<- HQ.out.2.2.2.1];have:=HQ.out.2.2.2.2.1;have:=HQ.out.1;omega)
     rw [ic,hxm,i6] at CJ
     have CJ:=gl CJ
     have HJ:=gl HQ.out.2.2.1
     have hjl:(Lib.join (dec lv::ps.map zO) [32]).length<=2000000:=by
      rw [Lib.join_cons,List.length_append,<- HQ.out.2.2.2.1];have:=HQ.out.2.2.2.2.1;have:=HQ.out.1;omega
     clear ho hcells ic hxm i6
     generalize hjn:Lib.join (dec lv::ps.map zO) [32]=jn at *
     go_wp2_with fail
     (with_reducible refine CJ.out.mono ?_)
     rintro en w8 ⟨rfl,cF⟩
     have HB8:=gl (zzT HI.out.bel cF);clear cF
     go_wp2_with fail
     go_ret
     refine ⟨?_,HB8.out⟩
     rw [HJ.out]
     have e1:=str_add [40] jn
     have e2:=str_add ([40]++jn) [41]
     show Ending.returned (.string ((⟨([40]:Bs).toArray⟩++⟨jn.toArray⟩)++⟨([41]:Bs).toArray⟩))=_
     rw [e1,e2]
theorem text_any (n:Nat):∀ b,zX b<=n->n<=100000->lvB b->pd b:=by
 induction n with
 | zero=>intro b h _;have:=kH b;omega
 | succ n ih=>exact fun b h hn dQ=>text_step b (by omega) dQ (fun t h' fH=>ih t (by omega) (by omega) fH)
def TextsAt (w:World) (a:Option Addr) (xs:List Bs):Prop:=∀ (k:Nat) (s:Bs),xs[k]? = some s->∃ g o,a=some ⟨g,o,none⟩/\w.cell? ⟨g,o+k,none⟩=some (str s)
theorem jm:∀ (xs ys:List Bs) (t:Ty) (m:Bd),k_ t m (xs++ys)=(k_ t m xs).bind fun x=>k_ x.1 x.2 ys
 | [],ys,t,m=>rfl
 | l::ls,ys,t,m=>by
   simp only [List.cons_append,k_]
   cases h:kq t m l with
   | none=>rfl
   | some x=>simp only [Option.bind_some];exact jm ls ys x.1 x.2
theorem gh {ls:List Bs} {k:Nat} {l:Bs} {t:Ty} {m:Bd} {x:Ty×Bd} (hl:ls[k]? = some l) (h:k_ t m (ls.take k)=some x):k_ t m (ls.take (k+1))=kq x.1 x.2 l:=by
 rw [List.take_add_one,hl,jm,h]
 simp only [Option.bind_some,Option.toList_some,k_]
 cases kq x.1 x.2 l with
 | none=>rfl
 | some y=>rfl
theorem gc {ls:List Bs} {k:Nat} {t:Ty} {m:Bd} (h:k_ t m (ls.take k)=none):k_ t m ls=none:=by
 conv=>lhs;rw [<- List.take_append_drop k ls,jm,h]
 rfl
theorem rdTS_good {s l:Bs} {t:Ty} {b:Bd} (h:uz s l=some (t,b)):xY t b:=by
 unfold uz at h
 simp only [Option.bind_eq_bind,Option.bind_eq_some_iff] at h
 obtain ⟨t',h1,b',h2,h3⟩:=h
 simp at h3;obtain ⟨rfl,rfl⟩:=h3
 exact (jJ (rdKind_le h1) h2).1
def gt (w:World) (o:Option Bs) (en:Ending) (w':World):Prop:=en=.returned (.tuple #[str (o.getD []),.bool o.isSome])/\Below w.heap.size w w'
structure LInv (t0:Ty) (m0:Bd) (ls:List Bs) (w:World) (k:Nat) (kv mv:Value) (t:Ty) (m:Bd) (wr:World):Prop where
 many:k_ t0 m0 (ls.take k)=some (t,m)
 good:xY t m
 rk:Rep (w.heap.size<=·) wr (qj t) kv
 rm:Rep (w.heap.size<=·) wr (kD m) mv
 bel:Below w.heap.size w wr
set_option maxRecDepth 100000 in
theorem implAll_any (s m:Bs) (ls:List Bs) (sa:Option Addr) (sc:Nat) (w:World) (hg:jE w) (he:ju w) (hs:Lim s.length) (hm:Lim m.length) (hls:∀ l∈ls,Lim l.length) (hlen:Lim ls.length) (bJ:TextsAt w sa ls) :
 Calls Tryz.prog 15 #[str s,str m,.slice sa ls.length sc] w (gt w (vh s m ls)):=by
 have hll:=hlen.le
 have C1:=gl (vU s m w hg hs hm)
 have HP:=gl (go hg (go he (go hls bJ)));clear hg he hls bJ
 generalize fY:vh s m ls=res at *
 unfold vh at fY
 have HR:=gl fY;clear fY
 go_enter Tryz.func15,Tryz.ntmps15
 go_wp2_with fail
 (with_reducible refine C1.out.mono ?_)
 rintro en w1 ⟨kv,bv,rfl,bQ,b8,cQ⟩
 cases hq:uz s m with
 | none =>
   obtain rfl:=b8 hq
   have hr:res=none:=by have:=HR.out;rw [hq] at this;exact this.symm
   have HB:=gl bQ;have HN:=gl hr;clear bQ b8 cQ hq hr
   go_wp2_with fail
   go_ret2
   rw [HN.out]
   exact ⟨rfl,HB.out⟩
 | some x =>
   obtain ⟨t0,m0⟩:=x
   obtain ⟨c_,nN⟩:=cQ t0 m0 hq
   obtain ⟨kb,rfl⟩:=jh c_
   obtain ⟨mb,rfl⟩:=zy nN
   have fY:res=(k_ t0 m0 ls).map fun y=>zO y.2:=by have:=HR.out;rw [hq] at this;exact this.symm
   have HQ:=gl (go fY (rdTS_good hq))
   have HL0:=gl (show LInv t0 m0 ls w 0 (.pointer (some ⟨kb,0,none⟩)) (.pointer (some ⟨mb,0,none⟩)) t0 m0 w1 from ⟨rfl,rdTS_good hq,c_,nN,bQ⟩)
   clear bQ b8 cQ hq fY c_ nN
   go_wp2_with fail
   go_loopw [8,9,22] (fun kv mv i wr=>∃ (k:Nat) (t:Ty) (m:Bd),k<=ls.length/\i=.int .i64 k/\LInv t0 m0 ls w k kv mv t m wr) (fun _ _ i _=>ls.length-(intOf i).toNat)
   case atStart=>exact ⟨0,t0,m0,Nat.zero_le _,rfl,HL0.out⟩
   case round =>
    rename_i wr
    obtain ⟨k,t,m,hk,rfl,bw⟩:=hrel
    obtain ⟨tb,rfl⟩:=jh bw.rk
    obtain ⟨bb,rfl⟩:=zy bw.rm
    have HI:=gl bw;clear bw
    by_cases bY:k<ls.length
    ·obtain ⟨l,hl⟩:∃ l,ls[k]? = some l:=⟨_,List.getElem?_eq_getElem bY⟩
     obtain ⟨g,o,e,hc⟩:=HP.out.2.2.2 k l hl
     subst e
     have q0:=(HI.out.bel.cell (hU w _ hc)).trans hc
     have C2:=gl (pV (w.heap.size<=·) t m l _ _ wr (HP.out.1.below HI.out.bel) (HP.out.2.1.below HI.out.bel) HI.out.rk HI.out.rm HI.out.good (HP.out.2.2.1 l (List.mem_of_getElem? hl)))
     have HL:=gl (gh hl HI.out.many);clear hc hl
     go_wp2_with fail
     (with_reducible refine C2.out.mono ?_)
     rintro en w2 ⟨kv2,bv2,rfl,bZ,dK,dD⟩
     cases hq:kq t m l with
     | none =>
       obtain rfl:=dK hq
       have hr:res=none:=by rw [HQ.out.1,gc (k:=k+1) (HL.out.trans hq)];rfl
       have HB:=gl (zzT HI.out.bel bZ);have HN:=gl hr;clear bZ dK dD hq hr
       go_wp2_with fail
       go_ret2
       rw [HN.out]
       exact ⟨rfl,HB.out⟩
     | some x =>
       obtain ⟨c_,nN⟩:=dD x hq
       obtain ⟨ip,rfl⟩:=jh c_
       obtain ⟨mb2,rfl⟩:=zy nN
       have ig:=HI.out.bel.size
       have hN:LInv t0 m0 ls w (k+1) (.pointer (some ⟨ip,0,none⟩)) (.pointer (some ⟨mb2,0,none⟩)) x.1 x.2 w2 :=
        ⟨HL.out.trans hq,v_ HI.out.good hq,c_.weak fun i h=>by rcases h with h | h <;> omega,nN.weak fun i h=>by rcases h with h | h <;> omega,HI.out.bel.trans (bZ.mono ig)⟩
       have HN:=gl hN;clear hN bZ dK dD hq c_ nN
       go_wp2_with fail
       go_roundw
       case rel=>exact ⟨k+1,x.1,x.2,by omega,by go_num,HN.out⟩
       case measure=>simp [intOf];omega
    ·obtain rfl:k=ls.length:=by omega
     have rp:=HI.out.many
     rw [List.take_length] at rp
     have C3:=gl (text_any 200 m HI.out.good.size (by omega) HI.out.good.lv _ wr _ (HP.out.1.below HI.out.bel) HI.out.rm)
     have hr:res=some (zO m):=by rw [HQ.out.1,rp];rfl
     have HN:=gl hr;clear hr rp
     go_wp2_with fail
     (with_reducible refine C3.out.mono ?_)
     rintro en w3 ⟨rfl,bU⟩
     have HB:=gl (zzT HI.out.bel bU);clear bU
     go_wp2_with fail
     go_ret2
     rw [HN.out]
     exact ⟨rfl,HB.out⟩
set_option maxRecDepth 100000 in
theorem implOne_any (s m n:Bs) (w:World) (hg:jE w) (he:ju w) (hs:Lim s.length) (hm:Lim m.length) (hn:Lim n.length) :
 Calls Tryz.prog 5 #[str s,str m,str n] w (gt w (vh s m [n])):=by
 have cE:Below w.heap.size w (w.alloc (.cells #[str n] 9)):=(hG _ _).alloc (g_ _) _
 have C:Calls Tryz.prog 15 #[str s,str m,.slice (some ⟨w.heap.size,0,none⟩) 1 1] (w.alloc (.cells #[str n] 9)) (gt (w.alloc (.cells #[str n] 9)) (vh s m [n])):=(implAll_any s m [n] (some ⟨w.heap.size,0,none⟩) 1 (w.alloc (.cells #[str n] 9)) (hg.below cE) (he.below cE) hs hm (by simpa using hn) (by unfold Lim;simp) (fun k l h=>by
  cases k with
  | zero=>simp at h;subst h;exact ⟨_,_,rfl,by simp⟩
  | succ k=>simp at h))
 have C:=gl C
 have HB:=gl cE;clear cE hg he
 generalize vh s m [n]=r at *
 go_enter Tryz.func5,Tryz.ntmps5
 go_wp2_with fail
 (with_reducible refine C.out.mono ?_)
 rintro en w1 ⟨rfl,bQ⟩
 have cD:=gl (zzT HB.out bQ);clear bQ
 go_wp2_with fail
 go_ret2
 exact ⟨rfl,cD.out⟩
theorem show_deed (g:Nat) (k t:Bs) (w:World) (h:kT w g k t) :
 Calls Tryz.prog 80 #[.pointer (some ⟨g,0,none⟩),str []] w (xi g t k t w):=by
 obtain ⟨c0,c1,f0,f1,hl⟩:=h.cells
 have H:=gl h
 clear h
 go_enter Tryz.func80,Tryz.ntmps80
 go_wp2_with fail
 go_ret2
 exact ⟨rfl,But.refl (· = g) w,H.out⟩
set_option maxRecDepth 100000 in
theorem apply_deed (g:Nat) (k t n:Bs) (b:Bd) (x:Ty×Bd) (w:World) (h:kT w g k t) (hg:jE w) (he:ju w) (hk:Lim k.length) (ht:Lim t.length) (hn:Lim n.length) (hb:zC k t=some b) (hx:kq (zW k).1 b n=some x) :
 Calls Tryz.prog 78 #[.pointer (some ⟨g,0,none⟩),str n] w (xi g [111,107] (zM x.1) (zO x.2) w):=by
 have hr:uz k t=some ((zW k).1,b):=by rw [yq,hb];rfl
 have tt:=(qS hb).1
 have tr:=v_ tt hx
 have C:=gl (fun (y:World) (hy:Below w.heap.size w y)=>vU k t y (hg.below hy) hk ht)
 have C2:=gl (fun (y:World) (hy:Below w.heap.size w y) kv bv (rk:Rep (w.heap.size<=·) y (qj (zW k).1) kv) (rb:Rep (w.heap.size<=·) y (kD b) bv)=>pV (w.heap.size<=·) (zW k).1 b n kv bv y (hg.below hy) (he.below hy) rk rb tt hn)
 have CT:=gl (fun (y:World) kv (rk:Rep (fun i=>w.heap.size<=i\/w.heap.size<=i) y (qj x.1) kv)=>x5 15 x.1 tr.atoms (by omega) _ y kv rk)
 have CB:=gl (fun (y:World) (hy:Below w.heap.size w y) bv (rb:Rep (fun i=>w.heap.size<=i\/w.heap.size<=i) y (kD x.2) bv)=>text_any 200 x.2 tr.size (by omega) tr.lv _ y bv (hg.below hy) rb)
 have HX:=gl (go hr hx)
 have KEY:=gl (fun (y:World) (hy:Below w.heap.size w y)=>(show y.cell? ⟨g,0,none⟩=some (str k)/\y.cell? ⟨g,1,none⟩=some (str t) from ⟨(h.below hy).cells.1,(h.below hy).cells.2.1⟩))
 have H:=gl h
 clear h hr tt tr hg he hb hx
 go_enter Tryz.func78,Tryz.ntmps78
 go_upto_region 1 with (fail)
 refine wp_region_noPanic ?_
 refine kx (fun w'=>Below w.heap.size w w') (fun _=>false) (by kernel_rfl) ?_
 have bL:(fun w'=>Below w.heap.size w w') w.drew:=Below.drew (hG _ _)
 refine tk [0,1,2,3,4,5,6,7] bL ?_
 (intro d hd;simp [tkD] at hd;subst hd;simp only [tks,pQ,pZ,pS])
 iterate 8 (refine ⟨?_,?_,?_⟩;rotate_left;· (intro oi ho;simp at ho;subst ho;refine Or.inl ⟨by rfl,fun w' cL=>?_⟩;obtain ⟨e0,e1⟩:=KEY.out w' cL;go_simp;try with_reducible rfl))
 (refine on 8 ?_;intro o ho K' hK;simp at ho;subst ho;go_simp)
 go_at_call 36
 (with_reducible refine (C.out _ bL).mono ?_)
 rintro en w1 ⟨kv,bv,rfl,bQ,b8,cQ⟩
 have ed:Below w.heap.size w w1:=Below.trans bL (bQ.mono (Below.size bL))
 clear bQ
 (refine hK.out _ _ (fun _=>ed) ?_;clear hK K';try simp only [pQ,pN,pZ,pS])
 have hS8:=ed
 refine tk [9,10,11] hS8 ?_
 (intro d hd;simp [tkD] at hd;subst hd;simp only [tks,pQ,pZ,pS])
 iterate 3 (refine ⟨?_,?_,?_⟩;rotate_left;· (intro oi ho;simp at ho;subst ho;refine Or.inl ⟨by rfl,fun w' cL=>?_⟩;go_simp;try with_reducible rfl))
 (refine on 12 ?_;intro o ho K' hK;simp at ho;subst ho;go_simp)
 (refine hK.out _ _ (fun _=>ed) ?_;clear hK K';try simp only [pQ,pN,pZ,pS])
 (refine on 13 ?_;intro o ho K' hK;simp at ho;subst ho;go_simp)
 (refine hK.out _ _ (fun _=>ed) ?_;clear hK K';try simp only [pQ,pN,pZ,pS])
 refine kQ (by kernel_rfl) (NoPanic.normal ?_) _
 obtain ⟨rk,rb⟩:=cQ _ _ HX.out.1
 have C3:=gl (C2.out _ ed kv bv rk rb)
 have cD:=gl ed
 clear ed bL b8 cQ rk rb C2 KEY C
 go_wp2_with fail
 (with_reducible refine C3.out.mono ?_)
 rintro en w2 ⟨kv2,bv2,rfl,bZ,dK,dD⟩
 obtain ⟨rk2,dA⟩:=dD _ HX.out.2
 obtain ⟨bb,rfl⟩:=zy dA
 have cw:=gl (zzT cD.out bZ)
 have rk3:Rep (fun i=>w.heap.size<=i\/w.heap.size<=i) w2 (qj x.1) kv2:=rk2.weak fun i h=>h.imp id fun h=>h_ cD.out.size h
 have rb3:Rep (fun i=>w.heap.size<=i\/w.heap.size<=i) w2 (kD x.2) (.pointer (some ⟨bb,0,none⟩)):=dA.weak fun i h=>h.imp id fun h=>h_ cD.out.size h
 have CK:=gl (CT.out _ kv2 rk3)
 have HR:=gl rb3
 clear bZ dK dD rk2 dA rk3 rb3 C3 CT HX
 obtain ⟨K2,hK2⟩:=zzN (zM x.1)
 obtain ⟨T2,eg⟩:=zzN (zO x.2)
 rw [hK2] at CK
 rw [eg] at CB
 have HKT:=gl (go hK2 eg)
 clear hK2 eg
 go_wp2_with fail
 (with_reducible refine CK.out.mono ?_)
 rintro en w3 ⟨rfl,bU⟩
 have CB3:=gl (CB.out w3 (zzT cw.out bU) _ (Rep.below bU (fun _ h=>h) HR.out))
 have mU:=gl (zzT cw.out bU)
 clear bU CK HR CB
 go_wp2_with fail
 (with_reducible refine CB3.out.mono ?_)
 rintro en w4 ⟨rfl,bS⟩
 have eF:=gl (zzT mU.out bS)
 have CBE:=gl (yS g k t K2 T2 w4 (H.out.below eF.out))
 clear bS CB3
 go_wp2_with fail
 (with_reducible refine CBE.out.mono ?_)
 rintro en w5 ⟨rfl,bC,h5⟩
 have H5:=gl (go ((But.ofBelow eF.out).trans bC) h5)
 clear bC h5 CBE
 go_wp2_with fail
 go_ret2
 refine ⟨rfl,H5.out.1,?_⟩
 rw [HKT.out.1,HKT.out.2]
 exact H5.out.2
set_option maxRecDepth 100000 in
theorem line_apply (g:Nat) (k t ans k' t':Bs) (l rest:Bs) (w:World) (h:kT w g k t) (hm:uS w) (hl:l.length<=1000000) (hc:Lib.cut l [32]=([97,112,112,108,121],rest,true))
 (C:∀ y,Below w.heap.size w y->Calls Tryz.prog 78 #[.pointer (some ⟨g,0,none⟩),str rest] y (xi g ans k' t' y)) :
 Calls Tryz.prog 26 #[.pointer (some ⟨g,0,none⟩),str l] w (LineQ g ans k' t' w):=by
 have CU:=gl (xg hl hc w hm)
 have CC:=gl C
 have H:=gl h
 clear C hc hm h hl
 go_enter Tryz.func26,Tryz.ntmps26
 go_wp2_with fail
 (with_reducible refine CU.out.mono ?_)
 rintro en w1 ⟨rfl,bQ⟩
 have cD:=gl bQ
 clear bQ CU
 go_wp2_with fail
 refine (vH w1).mono ?_
 rintro en w2 ⟨bm,rfl,bZ,_,_,_,Tapply,_,_,_⟩
 have cw:=gl (zzT cD.out bZ)
 have Tapply:(Instr.lookup 112 (.map (some bm)) (str [97,112,112,108,121]) true).run Tryz.prog w2=.ok (.tuple #[cmd4,.bool true]) w2:=Tapply
 unfold cmd4 at Tapply
 clear bZ
 obtain ⟨W,hW,bE,hz,x0⟩:=gu w2 (.cells #[.bool true,.func (.func 78) #[] #[]] 110)
 have fJ:=gl (zzT cw.out bE)
 have HW:=gl hW
 obtain ⟨c0,c1,_,_⟩:=pT x0
 have C2:=gl (CC.out W fJ.out)
 clear hW bE hz x0 CC
 go_upto_region 3 with (fail)
 rw [HW.out]
 clear Tapply
 go_wp2_with fail
 (with_reducible refine C2.out.mono ?_)
 rintro en w3 ⟨rfl,bU,h3⟩
 have HF:=gl (go ((But.ofBelow fJ.out).trans bU) h3)
 clear bU h3 C2 c0 c1
 go_wp2_with fail
 go_ret
 exact ⟨rfl,HF.out.1,HF.out.2⟩
set_option maxRecDepth 100000 in
theorem line_show (g:Nat) (k t ans k' t':Bs) (l rest:Bs) (w:World) (h:kT w g k t) (hm:uS w) (hl:l.length<=1000000) (hc:Lib.cut l [32]=([115,104,111,119],rest,false))
 (C:∀ y,Below w.heap.size w y->Calls Tryz.prog 80 #[.pointer (some ⟨g,0,none⟩),str rest] y (xi g ans k' t' y)) :
 Calls Tryz.prog 26 #[.pointer (some ⟨g,0,none⟩),str l] w (LineQ g ans k' t' w):=by
 have CU:=gl (xg hl hc w hm)
 have CC:=gl C
 have H:=gl h
 clear C hc hm h hl
 go_enter Tryz.func26,Tryz.ntmps26
 go_wp2_with fail
 (with_reducible refine CU.out.mono ?_)
 rintro en w1 ⟨rfl,bQ⟩
 have cD:=gl bQ
 clear bQ CU
 go_wp2_with fail
 refine (vH w1).mono ?_
 rintro en w2 ⟨bm,rfl,bZ,_,_,_,_,Tshow,_,_⟩
 have cw:=gl (zzT cD.out bZ)
 have Tshow:(Instr.lookup 112 (.map (some bm)) (str [115,104,111,119]) true).run Tryz.prog w2=.ok (.tuple #[cmd6,.bool true]) w2:=Tshow
 unfold cmd6 at Tshow
 clear bZ
 obtain ⟨W,hW,bE,hz,x0⟩:=gu w2 (.cells #[.bool false,.func (.func 80) #[] #[]] 110)
 have fJ:=gl (zzT cw.out bE)
 have HW:=gl hW
 obtain ⟨c0,c1,_,_⟩:=pT x0
 have C2:=gl (CC.out W fJ.out)
 clear hW bE hz x0 CC
 go_upto_region 3 with (fail)
 rw [HW.out]
 clear Tshow
 go_wp2_with fail
 (with_reducible refine C2.out.mono ?_)
 rintro en w3 ⟨rfl,bU,h3⟩
 have HF:=gl (go ((But.ofBelow fJ.out).trans bU) h3)
 clear bU h3 C2 c0 c1
 go_wp2_with fail
 go_ret
 exact ⟨rfl,HF.out.1,HF.out.2⟩
end Go.Proofs.YtepgfdhkkjfmhacGreatDoor

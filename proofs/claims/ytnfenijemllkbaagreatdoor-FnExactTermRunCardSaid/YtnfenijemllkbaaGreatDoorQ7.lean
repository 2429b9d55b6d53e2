/- Walks. -/
import Derived.Deep.Cut
import Derived.RegionTactic
import Derived.Test.YtnfenijemllkbaaGreatDoorQ6
set_option linter.unusedVariables false
set_option linter.unusedSimpArgs false
set_option maxHeartbeats 8000000
set_option maxRecDepth 100000
open Go.Proofs.YtnfenijemllkbaaGreatDoor renaming ev->Zw
open Option renaming none->U
open Option renaming some->OK
open Bool renaming true->OX
open Bool renaming false->RC
open Go.IntKind renaming i64->RD
open Array renaming all_eq_true'->UP,getD_eq_getD_getElem?->Sb,getElem?_eq_getElem->Sh,getElem?_eq_none->Vv,getElem?_setIfInBounds_ne->TJ,replicate->U7
open Bool renaming and_eq_true->R3,or_eq_true->S4
open Go.Oper renaming wp->TU
open Go.Proofs.Tryz renaming func103->WI,func120->Tu,ntmps103->Wq,ntmps120->Tp,prog->RG,underlying189->S9
open Go.Region renaming Mode->TZ,binds->Sw,free->Wr,noSelect->U6,ready->Se,wanted->Ta
open Go.Value renaming oneCell'->R4,ownBlock->RM,slice->RI
open Go.Value.slice renaming injEq->RT
open Go.World renaming cell?->RE,frozen?_of_block->SK,ownsRow_nil->Sf
open List renaming append_assoc->Sn,append_nil->R9,drop->Uq,eq_nil_of_length_eq_zero->St,getElem?_append_left->Sv,getElem?_append_right->Sr,getElem?_eq_some_iff->RR,length_append->RL,length_cons->RU,map_cons->Sa,mem_filter->Ur,take_succ_cons->SO,take_zero->UK
open List.cons renaming injEq->RY
open Nat renaming add_mul->Uo,lt_or_ge->TR,zero_add->SU,zero_le->R6
open Option renaming bind_eq_some_iff->RH,bind_some->RF,getD_some->SD,map_eq_some_iff->RP,map_some->SR
open Option.some renaming inj->RZ,injEq->RK
namespace Go.Proofs.YtnfenijemllkbaaGreatDoor
open Go.RowKit
theorem ev_zero (d:Nat)(b:Bd)(env:List Mn)(n:Nat)(st:List Gf):Zw d 0 b env n st=U:=by
 cases d with
 |zero=>rw[ev.eq_def]
 |succ d=>rw[ev.eq_def]
theorem owns_take {env:List Mn}:∀(ts:List Ty) (ss:List Bd) (k:Nat) (t:Ty) (s:Bd),ts[k]?=OK t->ss[k]?=OK s->jV env (ts.take (k+1)) (ss.take (k+1))=jV env (ts.take k) (ss.take k)++[.bd t s env]
 |[],ss,k,t,s,h,_=>by simp at h
 |t'::ts,[],k,t,s,_,h=>by simp at h
 | t'::ts,s'::ss,k,t,s,h1,h2=>by
   cases k with
   | zero =>
     simp at h1 h2;subst h1;subst h2;simp only[SO,UK,jV];rfl
   | succ k =>
     simp only[List.getElem?_cons_succ]at h1 h2;rw[SO,SO,SO,SO,jV,jV,owns_take ts ss k t s h1 h2];rfl
theorem uI.form {F:Nat->Prop}{w:World}{aa n:Nat}:∀ {st:List Gf} {on:Value},uI F w aa n st on->on=.nilFunc\/∃cs,on=.func (.func 135) #[] cs
 |[],on,h=>.inl h
 | f::st,on,h=>by
   obtain⟨b1,b2,b3,b4,b5,bp,ev,o5,vv,ss,e,_⟩:=h;exact .inr ⟨_,e⟩
theorem Tryz.goesNil (w:World):Sem.run RG (binOp .eql 235 .nilFunc .nilFunc) w=.ok (.bool OX) w:=by kernel_rfl
theorem Tryz.goesFn (f:Fn)(a b:Array Value)(w:World):Sem.run RG (binOp .eql 235 (.func f a b) .nilFunc) w=.ok (.bool RC) w:=by kernel_rfl
theorem boxes5 (w:World)(p b e l o:Value)(T1 T2 T3 T4 T5:TypeId):∃W,((((w.alloc (.cells #[p] T1)).alloc (.cells #[b] T2)).alloc (.cells #[e] T3)).alloc (.cells #[l] T4)).alloc (.cells #[o] T5)=W/\No w W/\(w:Nat)+5<=(W:Nat) /\
 W w=p/\W (w+1:Nat)=b/\W (w+1+1:Nat)=e/\W (w+1+1+1:Nat)=l/\W (w+1+1+1+1:Nat)=o:=by
 have key:∀(w:World) (v:Value) (T:TypeId),(w.alloc (.cells #[v] T)) w=OK v:=fun w v T=>by simp
 have k1:=key w p T1;have k2:=key (w.alloc (.cells #[p] T1)) b T2;have k3:=key ((w.alloc (.cells #[p] T1)).alloc (.cells #[b] T2)) e T3;have k4:=key (((w.alloc (.cells #[p] T1)).alloc (.cells #[b] T2)).alloc (.cells #[e] T3)) l T4;have k5:=key ((((w.alloc (.cells #[p] T1)).alloc (.cells #[b] T2)).alloc (.cells #[e] T3)).alloc (.cells #[l] T4)) o T5;simp only[zK]at k2 k3 k4 k5;refine⟨_,rfl,?_,by simp only[zK];omega,zV (zV (zV (zV k1))),zV (zV (zV k2)),zV (zV k3),zV k4,k5⟩;exact(((((sQ w w).alloc (sZ _) _).alloc (by simp only[zK];omega) _).alloc (by simp only[zK];omega) _).alloc (by simp only[zK];omega) _).alloc (by simp only[zK];omega) _
theorem eval_out (F:Nat->Prop)(aa d n bb:Nat)(ea:Option Addr)(el ec:Nat)(b:Bd)(env:List Mn)(st:List Gf)(on:Value)(w:World)(Dz:on=.nilFunc\/∃cs,on=.func (.func 135) #[] cs)(hg:yF w)(KM:aa≠0)(ha:Apl w aa 0) :
 Calls RG 120 #[aa,bb,.slice ea el ec,(n:Int),on] w (kR F aa (Zw d 0 b env n st) w):=by
 rw[ev_zero];obtain⟨W,hW,sF,iV,q1,q2,q3,q4,q5⟩:=boxes5 w (.pointer (OK ⟨aa,0,U⟩)) (.pointer (OK ⟨bb,0,U⟩)) (.slice ea el ec) (.int RD (n:Nat)) on 214 34 189 3 235;obtain⟨c0,f0,lt0⟩:=(ha.below sF).cell;have c0':W aa=OK (.int RD 0):=c0;obtain⟨a0,ir⟩:=hg;have lJ:=(sF.cell (sK w _ ir)).trans ir;have HG:=r9 (r_ ir (r_ hW sF));clear ha c0 ir hW sF;rcases Dz with rfl|⟨cs,rfl⟩
 all_goals
  go_enter Tu,Tp;go_upto_region 1 with (fail)
  rw[HG.out.2.1];go_wp2_with fail
  go_quiet (fail);go_wp2_with fail
  go_ret2
  refine kR.none rfl ?_ HG.out.1;exact But.ofBelow (jK HG.out.2.2 _)
theorem gK {w:World}{aa l n bb:Nat}{ea:Option Addr}{el ec:Nat}{on:Value}{T1 T2 T3 T4 T5:TypeId}(ha:Apl w aa (l+1)) :
 ∃ W W2,((((w.alloc (.cells #[aa] T1)).alloc (.cells #[bb] T2)).alloc (.cells #[.slice ea el ec] T3)).alloc (.cells #[(n:Int)] T4)).alloc (.cells #[on] T5)=W/\W.setCell aa (.int .i64 (l:Nat))=W2 /\
   W w=OK (.pointer (OK ⟨aa,0,U⟩))/\W aa=OK (.int RD ((l+1:Nat):Int))/\W.frozen? aa=RC /\
   But (· = aa) w W2/\Apl W2 aa l/\(w:Nat)+5<=(W2:Nat) /\
   W2 w=OK (.pointer (OK ⟨aa,0,U⟩))/\W2 (w+1:Nat)=OK (.pointer (OK ⟨bb,0,U⟩))/\W2 (w+1+1:Nat)=OK (.slice ea el ec)/\W2 (w+1+1+1:Nat)=OK (.int RD (n:Nat))/\W2 (w+1+1+1+1:Nat)=on:=by
 obtain⟨W,hW,sF,iV,q1,q2,q3,q4,q5⟩:=boxes5 w (.pointer (OK ⟨aa,0,U⟩)) (.pointer (OK ⟨bb,0,U⟩)) (.slice ea el ec) (.int RD (n:Nat)) on T1 T2 T3 T4 T5;have haW:=ha.below sF;obtain⟨c0,f0,lt0⟩:=haW.cell;have sC:=ha.cell.2.2;have sY:But (· = aa) W (W.setCell aa (.int RD (l:Nat))):=(But.refl (· = aa) W).setCell (p:=aa) (.inl rfl) _;have past:∀(b:Nat) (v:Value),w<=b->W b=OK v->(W.setCell aa (.int RD (l:Nat))) b=OK v:=fun b v hb hc=>(sY.cell (sK W _ hc) (fun e=>by have e:b=aa:=e;omega)).trans hc;refine⟨W,_,hW,rfl,q1,c0,f0,(But.ofBelow sF).trans sY,?_,by simpa[World.setCell] using iV,past _ _ (by omega) q1,past _ _ (by omega) q2,past _ _ (by omega) q3,past _ _ (by omega) q4,past _ _ (by omega) q5⟩;unfold Apl at *;rw[zT haW];rfl
theorem eval_end (F:Nat->Prop)(aa d l n bb:Nat)(ea:Option Addr)(el ec:Nat)(c:UInt8)(env:List Mn)(st:List Gf)(on:Value)(w:World)(hF:∀i,F i->i≠aa)(ha:Apl w aa (l+1))(hl:l<=20000)(rb:Rep F w (kM (.leaf c)) (.pointer (OK ⟨bb,0,U⟩)))(h:(c=117/\(on=.nilFunc\/∃cs,on=.func (.func 135) #[] cs))\/(c≠117/\on=.nilFunc/\st=[])) :
 Calls RG 120 #[aa,bb,.slice ea el ec,(n:Int),on] w (kR F aa (Zw (d+1) (l+1) (.leaf c) env n st) w):=by
 have aC:Zw (d+1) (l+1) (.leaf c) env n st=OK (.leaf c,l):=by
  rcases h with ⟨rfl,_⟩|⟨hc,_,rfl⟩
  ·rw[ev_u]
  ·rw[ev_end]
 rw[aC];clear aC;obtain⟨W,W2,hW,se,q0,q1,f1,sY,A2,iP,p0,p1,p2,p3,p4⟩:=gK (n:=n) (bb:=bb) (ea:=ea) (el:=el) (ec:=ec) (on:=on) (T1:=214) (T2:=34) (T3:=189) (T4:=3) (T5:=235) ha;have BN:Rep F W2 (kM (.leaf c)) (.pointer (OK ⟨bb,0,U⟩)):=rb.but sY (fun b hb=>⟨hF b hb,hb⟩);obtain⟨b',sl,e,_,sW,_⟩:=xu BN;cases e;have r0:W2 bb=OK (str [c]):=by simp[RE,sW]
 have q1':W aa=OK (.int RD ((l:Int)+1)):=q1;have JI:((l:Int)+1 == 0)=RC:=by rw[beq_eq_false_iff_ne];omega
 have HW:=r9 (r_ hW (r_ se (r_ sY (r_ A2 BN))));have CL:=r9 (ur F W2 c (.pointer (OK ⟨bb,0,U⟩)) BN);clear hW se sY A2 BN rb ha q1 sW;rcases h with ⟨rfl,rfl|⟨cs,rfl⟩⟩|⟨hc,rfl,rfl⟩
 ·go_enter Tu,Tp;go_upto_region 1 with (fail)
  rw[HW.out.1];go_upto_region 4 with (fail)
  rw[HW.out.2.1];go_wp2_with fail
  go_ret2
  exact kR.some rfl HW.out.2.2.1 HW.out.2.2.2.1 (HW.out.2.2.2.2.weak fun i h=>.inl h)
 ·go_enter Tu,Tp;go_upto_region 1 with (fail)
  rw[HW.out.1];go_upto_region 4 with (fail)
  rw[HW.out.2.1];go_wp2_with fail
  go_ret2
  exact kR.some rfl HW.out.2.2.1 HW.out.2.2.2.1 (HW.out.2.2.2.2.weak fun i h=>.inl h)
 ·have hcc:([c] == [117])=RC:=by simpa using hc
  have hgn:=Tryz.goesNil;go_enter Tu,Tp;go_upto_region 1 with (fail)
  rw[HW.out.1];go_upto_region 4 with (fail)
  rw[HW.out.2.1];go_wp2_with fail
  (with_reducible refine CL.out.mono ?_);rintro en w3 ⟨rfl,rfl⟩
  go_wp2_with fail
  go_ret2
  exact kR.some rfl HW.out.2.2.1 HW.out.2.2.2.1 (HW.out.2.2.2.2.weak fun i h=>.inl h)
theorem dc {F:Nat->Prop}{aa:Nat}{o:Option (Bd×Nat)}{w:World}{a0:Addr}(hc:w.cell? ⟨0,0,U⟩=OK (.iface 268 (.pointer (OK a0)))){P:Program}{f:FuncId}{args:Array Value}(h:Calls P f args w (kR F aa o w)) :
 (o=U->Calls P f args w fun en w'=>en=.returned (.tuple #[.pointer U,.iface 268 (.pointer (OK a0))])/\But (· = aa) w w') /\
 (∀x,o=OK x->Calls P f args w fun en w'=>∃vb,en=.returned (.tuple #[.pointer (OK ⟨vb,0,U⟩),.nilIface])/\But (· = aa) w w'/\Apl w' aa x.2/\Rep (fun i=>F i\/w.heap.size<=i) w' (kM x.1) (.pointer (OK ⟨vb,0,U⟩))):=by
 refine⟨fun ho=>h.mono ?_,fun x ho=>h.mono ?_⟩
 ·rintro en w' ⟨hb,hn,_⟩;obtain⟨a,rfl,ha⟩:=hn ho;rw[hc]at ha;simp at ha;subst ha;exact⟨rfl,hb⟩
 ·rintro en w' ⟨hb,_,hy⟩;obtain⟨v,rfl,ha,hr⟩:=hy x.1 x.2 ho;obtain⟨vb,rfl⟩:=zg hr;exact⟨vb,rfl,hb,ha,hr⟩
theorem eval_back (d:Nat)(ih:pE d)(F:Nat->Prop)(aa l n bb:Nat)(H:List Ty)(ea:Option Addr)(el ec:Nat)(c:UInt8)(env:List Mn)(f:Gf)(st:List Gf)(on:Value)(w:World)(hc:c≠117)(h:gX F aa (l+1) (d+1) n H (.leaf c) env (f::st) (.pointer (OK ⟨bb,0,U⟩)) (.slice ea el ec) on w) :
 Calls RG 120 #[aa,bb,.slice ea el ec,(n:Int),on] w (kR F aa (Zw (d+1) (l+1) (.leaf c) env n (f::st)) w):=by
 rw[ev_back hc];obtain⟨b1,b2,b3,b4,b5,bp,ev5,on5,vv5,ss5,e,⟨n1,n2,n3,n4,n5⟩,c1,r1,c2,c3,r3,c4,c5,r5⟩:=h.ro;subst e;have Ev:=h.ld;have JQ:=h.d20;have BU:=h.okg.1;have Ce:=h.nl;obtain⟨W,W2,hW,se,q0,q1,f1,sY,A2,iP,p0,p1,p2,p3,p4⟩:=gK (n:=n) (bb:=bb) (ea:=ea) (el:=el) (ec:=ec) (on:=.func (.func 135) #[] #[.pointer (OK ⟨b1,0,U⟩),.pointer (OK ⟨b2,0,U⟩),.pointer (OK ⟨b3,0,U⟩),.pointer (OK ⟨b4,0,U⟩),.pointer (OK ⟨b5,0,U⟩)]) (T1:=214) (T2:=34) (T3:=189) (T4:=3) (T5:=235) h.apl;have hF:∀b,F b->¬(b=aa)/\F b:=fun b hb=>⟨h.hF b hb,hb⟩;have BN:Rep F W2 (kM (.leaf c)) (.pointer (OK ⟨bb,0,U⟩)):=h.rb.but sY hF;obtain⟨b',sl,e,IF,sW,_⟩:=xu BN;cases e;have r0:W2 bb=OK (str [c]):=by simp[RE,sW]
 have q1':W aa=OK (.int RD ((l:Int)+1)):=q1;have JI:((l:Int)+1 == 0)=RC:=by rw[beq_eq_false_iff_ne];omega
 have CL:=r9 (ur F W2 c (.pointer (OK ⟨bb,0,U⟩)) BN);have sE:But (· = aa) w W2.drew:=sY.drew;have kX:∀ {b:Nat} {x:Value},F b->w b=x->W2.drew b=x:=fun hb hc=>(sE.cell (sK w _ hc) (h.hF _ hb)).trans hc;have P8:=h.glob.but sE (fun e=>h.ng e.symm);obtain⟨a0,ir⟩:=P8
 have C:=after_any d ih F aa l n H f st b1 b2 b3 b4 b5 bp ev5 on5 vv5 ss5 W2.drew c ⟨a0,ir⟩ h.hF h.ng A2 (by omega) (by omega) (h.fit.back c) h.hn (by omega) (by omega) (qY (by omega) _ h.okg.2.1) (vm (by omega) _ h.okg.2.2)
  (kX n1 c1) (r1.but sE hF) (kX n2 c2) (kX n3 c3) (r3.but sE hF) (kX n4 c4) (kX n5 c5) (uI.but sE hF _ _ r5)
 have Iq:w.cell? ⟨0,0,U⟩=OK (.iface 268 (.pointer (OK a0))):=by
  obtain⟨a1,h1⟩:=h.glob;have:=(sE.cell (sK w _ h1) (fun e=>h.ng e.symm)).trans h1;rw[this]at ir;rw[h1];exact ir
 have CT:=dc ir C;have hcc:([c] == [117])=RC:=by simpa using hc
 have hgn:=Tryz.goesFn;have L1:w<=W2.drew.heap.size:=sE.size;have NT:=h.apl.cell.2.2;have IE:=h.hF _ IF;have KS:Hid (∀w',But (· = aa) W2.drew w'->w' (w+1+1+1+1:Nat)=OK (.func (.func 135) #[] #[.pointer (OK ⟨b1,0,U⟩),.pointer (OK ⟨b2,0,U⟩),.pointer (OK ⟨b3,0,U⟩),.pointer (OK ⟨b4,0,U⟩),.pointer (OK ⟨b5,0,U⟩)])/\w' (w+1:Nat)=OK (.pointer (OK ⟨bb,0,U⟩))/\w' bb=OK (str [c])):=by
  show ∀w',_->_;intro w' hb;have k:∀(b:Nat) (v:Value),b≠aa->W2 b=OK v->w' b=OK v:=fun b v hn hc=>(hb.cell (sK W2 _ hc) hn).trans hc;exact⟨k _ _ (by omega) p4,k _ _ (by omega) p1,k _ _ IE r0⟩
 have HW:=r9 (r_ hW (r_ se (r_ sE Iq)));clear hW se sY sE A2 BN q1 sW C ir Iq kX hF c1 r1 c2 c3 r3 c4 c5 r5 n1 n2 n3 n4 n5 h ih;generalize K8:decide (c=116)=bo at *;have NS:([c] == [116])=bo:=by rw[<- K8,Bool.eq_iff_iff];simp
 clear K8;generalize Zw d l (if c=116 then f.yes else f.no) f.env n st=o at *;cases o with
 | none =>
   have C:=r9 (CT.1 rfl);clear CT;have HBO:=r9 NS;clear NS;go_enter Tu,Tp;go_upto_region 1 with (fail)
   rw[HW.out.1];go_upto_region 4 with (fail)
   rw[HW.out.2.1];go_wp2_with fail
   (with_reducible refine CL.out.mono ?_);rintro en w3 ⟨rfl,rfl⟩
   go_wp2_with fail
   (with_reducible refine CL.out.mono ?_);rintro en w4 ⟨rfl,rfl⟩
   have NS:=HBO.out;go_wp2_with fail
   go_region_held3 (fun w'=>w' (w+1+1+1+1:Nat)=OK (.func (.func 135) #[] #[.pointer (OK ⟨b1,0,U⟩),.pointer (OK ⟨b2,0,U⟩),.pointer (OK ⟨b3,0,U⟩),.pointer (OK ⟨b4,0,U⟩),.pointer (OK ⟨b5,0,U⟩)])/\w' (w+1:Nat)=OK (.pointer (OK ⟨bb,0,U⟩))/\w' bb=OK (str [c]))
    (first
     |exact⟨p4,p1,r0⟩
     |exact KS.out _ sx
     | go_keep)
    (first
     | (go_at_call 135;(with_reducible refine C.out.mono ?_);rintro en w5 ⟨rfl,sx⟩))
   have HF:=r9 (HW.out.2.2.1.trans sx);clear sx;go_wp2_with fail
   go_ret2
   exact kR.none rfl HF.out HW.out.2.2.2
 | some x =>
   have C:=r9 (CT.2 x rfl);clear CT;have HBO:=r9 NS;clear NS;go_enter Tu,Tp;go_upto_region 1 with (fail)
   rw[HW.out.1];go_upto_region 4 with (fail)
   rw[HW.out.2.1];go_wp2_with fail
   (with_reducible refine CL.out.mono ?_);rintro en w3 ⟨rfl,rfl⟩
   go_wp2_with fail
   (with_reducible refine CL.out.mono ?_);rintro en w4 ⟨rfl,rfl⟩
   have NS:=HBO.out;go_wp2_with fail
   go_region_held3 (fun w'=>w' (w+1+1+1+1:Nat)=OK (.func (.func 135) #[] #[.pointer (OK ⟨b1,0,U⟩),.pointer (OK ⟨b2,0,U⟩),.pointer (OK ⟨b3,0,U⟩),.pointer (OK ⟨b4,0,U⟩),.pointer (OK ⟨b5,0,U⟩)])/\w' (w+1:Nat)=OK (.pointer (OK ⟨bb,0,U⟩))/\w' bb=OK (str [c]))
    (first
     |exact⟨p4,p1,r0⟩
     |exact KS.out _ sx
     | go_keep)
    (first
     | (go_at_call 135;(with_reducible refine C.out.mono ?_);rintro en w5 ⟨vb,rfl,sx,ha5,Gu⟩))
   have HF:=r9 (r_ (HW.out.2.2.1.trans sx) (r_ ha5 Gu));clear sx ha5 Gu;go_wp2_with fail
   go_ret2
   exact kR.some rfl HF.out.1 HF.out.2.1 (HF.out.2.2.weak fun i h=>h.imp id fun h=>by omega)
structure AskAt (F:Nat->Prop)(aa l n bb v eb eo el ec:Nat)(on x0 x1 x2 x3:Value)(w w':World):Prop where
 p0:w' w=OK (.pointer (OK ⟨aa,0,U⟩))
 p1:w' (w+1:Nat)=OK (.pointer (OK ⟨bb,0,U⟩))
 p2:w' (w+1+1:Nat)=OK (.slice (eb,eo) el ec)
 p3:w' (w+1+1+1:Nat)=OK (.int RD (n:Nat))
 p4:w' (w+1+1+1+1:Nat)=on
 q1:w' (bb,1)=OK (.int RD (v:Nat))
 m0:w' (eb,eo+v*4)=x0
 m1:w' (eb,eo+v*4+1)=x1
 m2:w' (eb,eo+v*4+2)=x2
 m3:w' (eb,eo+v*4+3)=x3
theorem eval_op (d:Nat)(ih:pE d)(F:Nat->Prop)(aa l n bb v o:Nat)(t:Ty)(H:List Ty)(ea:Option Addr)(el ec:Nat)(ss:List Bd)(y no:Bd)(env:List Mn)(st:List Gf)(on:Value)(w:World)(hv:env[v]?=OK (.op o t))(h:gX F aa (l+1) (d+1) n H (.ask v ss y no) env st (.pointer (OK ⟨bb,0,U⟩)) (.slice ea el ec) on w) :
 Calls RG 120 #[aa,bb,.slice ea el ec,(n:Int),on] w (kR F aa (Zw (d+1) (l+1) (.ask v ss y no) env n st) w):=by
 obtain⟨eb,eo,ecap,x0,x1,x2,x3,e,MO,hew,m0,m1,m2,m3,Pe⟩:=mean_at h.re hv;simp only[RT]at e;obtain⟨rfl,rfl,rfl⟩:=e;simp only[d7,zQ,zE,zC]at Pe;obtain⟨_,_,e,rfl,kv,_,rfl,hk,_,_,rfl,rfl,_,_,rfl,rfl,rfl⟩:=Pe;simp only[RY,and_true]at e;obtain⟨rfl,rfl,rfl,rfl⟩:=e;obtain⟨kb,rfl⟩:=fP hk;have hF:∀b,F b->¬(b=aa)/\F b:=fun b hb=>⟨h.hF b hb,hb⟩;obtain⟨W,W2,hW,se,q0,q1,f1,sY,A2,iP,p0,p1,p2,p3,p4⟩:=gK (n:=n) (bb:=bb) (ea:=OK ⟨eb,eo,U⟩) (el:=env.length) (ec:=ec) (on:=on) (T1:=214) (T2:=34) (T3:=189) (T4:=3) (T5:=235) h.apl;have BN:Rep F W2 (kM (.ask v ss y no)) (.pointer (OK ⟨bb,0,U⟩)):=h.rb.but sY hF;obtain⟨b',sl,yv,nv,e,IF,sW,_,_,_⟩:=uL BN;cases e;have NT:=h.apl.cell.2.2;have Ev:=h.ld;have JQ:=h.d20;have IE:=h.hF _ IF;have BB:=h.hF _ MO;have r0:W2 bb=OK (str []):=by simp[RE,sW]
 have r1:W2 (bb,1)=OK (.int RD (v:Nat)):=by simp[RE,sW]
 have q1':W aa=OK (.int RD ((l:Int)+1)):=q1;have JI:((l:Int)+1 == 0)=RC:=by rw[beq_eq_false_iff_ne];omega
 have CL:=r9 (yx F W2 v ss y no (.pointer (OK ⟨bb,0,U⟩)) BN);have kX:∀ {j:Nat} {x:Value},w (eb,j)=x->W2 (eb,j)=x:=fun hc=>(sY.cell (sK w _ hc) BB).trans hc;have sG:AskAt F aa l n bb v eb eo env.length ec on (.int RD (o:Nat)) (.pointer (OK ⟨kb,0,U⟩)) (.pointer U) (.slice U 0 0) w W2:=⟨p0,p1,p2,p3,p4,r1,kX m0,kX m1,kX m2,kX m3⟩;have KS:Hid (∀w',But (· = aa) W2 w'->AskAt F aa l n bb v eb eo env.length ec on (.int RD (o:Nat)) (.pointer (OK ⟨kb,0,U⟩)) (.pointer U) (.slice U 0 0) w w'):=by
  show ∀w',_->_;intro w' hb;have k:∀ {b j:Nat} {v:Value},b≠aa->W2.cell? ⟨b,j,U⟩=OK v->w'.cell? ⟨b,j,U⟩=OK v:=fun hn hc=>(hb.cell (sK W2 _ hc) hn).trans hc;exact⟨k (by omega) sG.p0,k (by omega) sG.p1,k (by omega) sG.p2,k (by omega) sG.p3,k (by omega) sG.p4,k IE sG.q1,k BB sG.m0,k BB sG.m1,k BB sG.m2,k BB sG.m3⟩
 have D1:=(RR.1 hv).1;have G5:(0:Int)<=(v:Int):=by omega
 have AC:(v:Int)<(env.length:Int):=by omega
 have Dz:=uI.form h.ro;have HW:=r9 (r_ hW (r_ se (r_ sY (r_ A2 (r_ BN (r_ hk sG))))));have HP:=r9 (r_ h (r_ hv ih));clear hW se sY A2 BN hk sG q1 sW m0 m1 m2 m3 kX hF h hv ih p0 p1 p2 p3 p4 r1;rcases Dz with rfl|⟨cs,rfl⟩
 all_goals
  go_enter Tu,Tp;go_upto_region 1 with (fail)
  rw[HW.out.1];go_upto_region 4 with (fail)
  rw[HW.out.2.1];have p1:=(KS.out W2 (But.refl _ _)).p1;go_wp2_with fail
  (with_reducible refine CL.out.mono ?_);rintro en w3 ⟨rfl,rfl⟩
  go_wp2_with fail
  (with_reducible refine CL.out.mono ?_);rintro en w4 ⟨rfl,rfl⟩
  go_wp2_with fail
  have A4:=KS.out w4 (But.refl _ _);have s1:=A4.p1;have s2:=A4.p2;have s3:=A4.q1;have s4:=A4.m0;have s5:=A4.m1;have s6:=A4.m2;have s7:=A4.m3;clear A4
  go_region_held3 (fun w'=>w'.cell? ⟨w.heap.size+1+1,0,U⟩=OK (.slice (OK ⟨eb,eo,U⟩) env.length ec)/\w'.cell? ⟨w.heap.size+1,0,U⟩=OK (.pointer (OK ⟨bb,0,U⟩))/\w'.cell? ⟨bb,1,U⟩=OK (.int RD (v:Nat))/\w'.cell? ⟨eb,eo+v*4,U⟩=OK (.int RD (o:Nat))/\w'.cell? ⟨eb,eo+v*4+1,U⟩=OK (.pointer (OK ⟨kb,0,U⟩))/\w'.cell? ⟨eb,eo+v*4+2,U⟩=OK (.pointer U)/\w'.cell? ⟨eb,eo+v*4+3,U⟩=OK (.slice U 0 0))
   (first
    |exact⟨s2,s1,s3,s4,s5,s6,s7⟩
    |exact⟨zV (w:=w4.drew) s2,zV (w:=w4.drew) s1,zV (w:=w4.drew) s3,zV (w:=w4.drew) s4,zV (w:=w4.drew) s5,zV (w:=w4.drew) s6,zV (w:=w4.drew) s7⟩
    | go_keep)
   (fail)
  obtain⟨W5,J5⟩:=zzN ((w4.alloc (.cells #[.int RD (o:Nat),.pointer (OK ⟨kb,0,U⟩),.pointer U,.slice U 0 0] 192)).drew);have iL:No w4 W5:=by rw[<- J5];exact((sQ _ _).alloc (sZ _) _).drew
  have iw:W5.heap[w4.heap.size]?=OK (.cells #[.int RD (o:Nat),.pointer (OK ⟨kb,0,U⟩),.pointer U,.slice U 0 0] 192 (0,0)):=by rw[<- J5];exact zW w4 _
  rw[J5];clear J5 s1 s2 s3 s4 s5 s6 s7;obtain⟨y0,y1,y2,y3⟩:=kD iw;have A5:=KS.out W5 (But.ofBelow iL);have AH:But (· = aa) w W5:=HW.out.2.2.1.trans (But.ofBelow iL);have sR:=HP.out.1;have DQ:∀i,F i->¬(i=aa)/\(F i\/w.heap.size<=i):=fun i hi=>⟨sR.hF i hi,.inl hi⟩;have Gz:=sR.fit.keep HP.out.2.1;have hK:KeptPre (fun i=>F i\/w.heap.size<=i) aa l d n o v H t ss y no env st (.pointer (OK ⟨bb,0,U⟩)) (.pointer (OK ⟨kb,0,U⟩)) (.slice (OK ⟨eb,eo,U⟩) env.length ec) (.func (.func 135) #[] #[.pointer (OK ⟨w.heap.size+1,0,U⟩),.pointer (OK ⟨w.heap.size,0,U⟩),.pointer (OK ⟨w.heap.size+1+1,0,U⟩),.pointer (OK ⟨w.heap.size+1+1+1,0,U⟩),.pointer (OK ⟨w.heap.size+1+1+1+1,0,U⟩)]) W5:=by
   have Pu:=bE _ sR.ok v _ HP.out.2.1;rw[okM]at Pu;have aJ:=sR.rb.but AH DQ;have D2:=sR.re.but AH DQ;have hFF:∀i,(F i\/w.heap.size<=i)->i≠aa:=by
    intro i hi;rcases hi with hi|hi
    ·exact sR.hF i hi
    ·omega
   exact { glob:=sR.glob.but AH (fun e=>sR.ng e.symm),hF:=hFF,ng:=sR.ng,apl:=(HW.out.2.2.2.1).below iL,ld:=by omega,d20:=by omega,
           hlen:=Gz.1,at15:=Pu.1,sub:=Gz.2.2.1,fy:=Gz.2.2.2.1,fn:=Gz.2.2.2.2,hn:=sR.hn,el:=sR.el,nl:=sR.nl,ok:=sR.ok,okg:=sR.okg,rb:=aJ,
           rk:=(HW.out.2.2.2.2.2.1).but AH DQ,re:=D2,
           ro:=⟨_,_,_,_,_,_,_,_,v,ss,rfl,⟨.inr (by omega),.inr (by omega),.inr (by omega),.inr (by omega),.inr (by omega)⟩,A5.p1,aJ,A5.p0,A5.p2,D2,A5.p3,A5.p4,uI.but AH DQ _ _ sR.ro⟩ }
  have C:=kept_any d HP.out.2.2 _ aa l n o v H t ss y no env st _ _ _ _ W5 hK;obtain⟨a0,ir⟩:=sR.glob;have Ff:=(AH.cell (sK w _ ir) (fun e=>sR.ng e.symm)).trans ir;have CT:=dc Ff C;have aC:Zw (d+1) (l+1) (.ask v ss y no) env n st=x6 d l n o t ss y no env st:=ev_op HP.out.2.1;clear C hK Ff;generalize x6 d l n o t ss y no env st=oo at *;have s0:=A5.p0;have s1:=A5.p1;have s2:=A5.p2;have s3:=A5.p3;have HX:=r9 (r_ AH ir);clear AH ir A5 DQ Gz sR iL iw;cases oo with
  | none =>
    have C:=r9 (CT.1 rfl);clear CT;have HE:=r9 aC;clear aC;go_wp2_with fail
    (with_reducible refine C.out.mono ?_);rintro en w6 ⟨rfl,sM⟩
    have HF:=r9 (HX.out.1.trans sM);clear sM;go_wp2_with fail
    go_ret2
    exact kR.none HE.out HF.out HX.out.2
  | some x =>
    have C:=r9 (CT.2 x rfl);clear CT;have HE:=r9 aC;clear aC;have FE:=HX.out.1.size;go_wp2_with fail
    (with_reducible refine C.out.mono ?_);rintro en w6 ⟨vb,rfl,sM,QL,iU⟩
    have HF:=r9 (r_ (HX.out.1.trans sM) (r_ QL iU));clear sM QL iU;go_wp2_with fail
    go_ret2
    exact kR.some HE.out HF.out.1 HF.out.2.1 (HF.out.2.2.weak fun i h=>by
     rcases h with (h|h)|h
     ·exact .inl h
     ·exact .inr h
     ·exact .inr (by omega))
structure BInv (G:Nat->Prop)(e env:List Mn)(t:Ty)(ss:List Bd)(W:World)(k:Nat)(a:Option Addr)(c:Nat)(xs:List Value)(wr:World):Prop where
 own:Own wr 192 4 (.slice a (e.length+k) c) (e.length+k) xs
 rep:zY (fun i=>G i/\i<W) wr (jZ (e++jV env (t.args.take k) (ss.take k))) xs
 bel:No W wr
 fr:∀g,(RI a (e.length+k) c).ownBlock=OK g->(W:Nat)<=g
theorem pU {env:List Mn}:∀(ts:List Ty) (ss:List Bd),ss.length=ts.length->(jV env ts ss).length=ts.length
 |[],[],_=>by simp[jV]
 |[],s::ss,h=>by simp at h
 |t::ts,[],h=>by simp at h
 |t::ts,s::ss,h=>by rw[jV,RU,RU,pU ts ss (by simpa using h)]
theorem eval_bd (d:Nat)(ih:pE d)(F:Nat->Prop)(aa l n bb v:Nat)(t:Ty)(H:List Ty)(ea:Option Addr)(el ec:Nat)(ss:List Bd)(y no b':Bd)(env e':List Mn)(st:List Gf)(on:Value)(w:World)(hv:env[v]?=OK (.bd t b' e'))(h:gX F aa (l+1) (d+1) n H (.ask v ss y no) env st (.pointer (OK ⟨bb,0,U⟩)) (.slice ea el ec) on w) :
 Calls RG 120 #[aa,bb,.slice ea el ec,(n:Int),on] w (kR F aa (Zw (d+1) (l+1) (.ask v ss y no) env n st) w):=by
 obtain⟨eb,eo,ecap,x0,x1,x2,x3,e,MO,hew,m0,m1,m2,m3,Pe⟩:=mean_at h.re hv;simp only[RT]at e;obtain⟨rfl,rfl,rfl⟩:=e;simp only[d7,zQ,zE,zC]at Pe;obtain⟨_,_,e,rfl,_,_,rfl,rfl,bv2,_,rfl,hk,sv2,_,rfl,lR,rfl⟩:=Pe;simp only[RY,and_true]at e;obtain⟨rfl,rfl,rfl,rfl⟩:=e;obtain⟨kb,rfl⟩:=zg hk;obtain⟨news,aZ,aD⟩:=zz.ofRep lR (vd e');obtain⟨a2,c2,e⟩:=aD.slice;subst e;have hF:∀b,F b->¬(b=aa)/\F b:=fun b hb=>⟨h.hF b hb,hb⟩;obtain⟨W,W2,hW,se,q0,q1,f1,sY,A2,iP,p0,p1,p2,p3,p4⟩:=gK (n:=n) (bb:=bb) (ea:=OK ⟨eb,eo,U⟩) (el:=env.length) (ec:=ec) (on:=on) (T1:=214) (T2:=34) (T3:=189) (T4:=3) (T5:=235) h.apl;have BN:Rep F W2 (kM (.ask v ss y no)) (.pointer (OK ⟨bb,0,U⟩)):=h.rb.but sY hF;obtain⟨b9,sl,yv,nv,e,IF,sW,tt,_,_⟩:=uL BN;cases e;obtain⟨sa,sc,e,_,_,Hg⟩:=zH tt;subst e;have NT:=h.apl.cell.2.2;have Ev:=h.ld;have JQ:=h.d20;have IE:=h.hF _ IF;have BB:=h.hF _ MO;have r0:W2 bb=OK (str []):=by simp[RE,sW]
 have r1:W2 (bb,1)=OK (.int RD (v:Nat)):=by simp[RE,sW]
 have r2:W2 (bb,2)=OK (.slice sa ss.length sc):=by simp[RE,sW]
 have q1':W aa=OK (.int RD ((l:Int)+1)):=q1;have JI:((l:Int)+1 == 0)=RC:=by rw[beq_eq_false_iff_ne];omega
 have CL:=r9 (yx F W2 v ss y no (.pointer (OK ⟨bb,0,U⟩)) BN);have kX:∀ {j:Nat} {x:Value},w (eb,j)=x->W2 (eb,j)=x:=fun hc=>(sY.cell (sK w _ hc) BB).trans hc;have sG:AskAt F aa l n bb v eb eo env.length ec on (.int RD 0) (.pointer U) (.pointer (OK ⟨kb,0,U⟩)) (.slice a2 e'.length c2) w W2:=⟨p0,p1,p2,p3,p4,r1,kX m0,kX m1,kX m2,kX m3⟩;have KS:Hid (∀w',But (· = aa) W2 w'->AskAt F aa l n bb v eb eo env.length ec on (.int RD 0) (.pointer U) (.pointer (OK ⟨kb,0,U⟩)) (.slice a2 e'.length c2) w w'):=by
  show ∀w',_->_;intro w' hb;have k:∀ {b j:Nat} {v:Value},b≠aa->W2 (b,j)=v->w' (b,j)=v:=fun hn hc=>(hb.cell (sK W2 _ hc) hn).trans hc;exact⟨k (by omega) sG.p0,k (by omega) sG.p1,k (by omega) sG.p2,k (by omega) sG.p3,k (by omega) sG.p4,k IE sG.q1,k BB sG.m0,k BB sG.m1,k BB sG.m2,k BB sG.m3⟩
 have D1:=(RR.1 hv).1;have G5:(0:Int)<=(v:Int):=by omega
 have AC:(v:Int)<(env.length:Int):=by omega
 have Dz:=uI.form h.ro;have HW:=r9 (r_ hW (r_ se (r_ sY (r_ A2 (r_ BN (r_ hk (r_ sG (r_ r2 (r_ Hg (r_ lR (r_ aZ aD)))))))))));have HP:=r9 (r_ h (r_ hv ih));have Ix:=h.fit.call hv;have aE:=bE _ h.ok v _ hv;rw[okM]at aE;have Cd:=Ix.1;have MB:=(zo aE.1).2;have hl16s:ss.length<=15:=by omega
 have hel2:=aE.2.1;have BU:=h.el;have HL:=r9 (r_ Ix aE);clear hW se sY A2 BN hk sG r2 Hg lR aZ aD Ix aE tt Cd q1 sW m0 m1 m2 m3 kX hF h hv ih p0 p1 p2 p3 p4 r1;rcases Dz with rfl|⟨cs,rfl⟩
 all_goals
  go_enter Tu,Tp;go_upto_region 1 with (fail)
  rw[HW.out.1];go_upto_region 4 with (fail)
  rw[HW.out.2.1];have p1:=(KS.out W2 (But.refl _ _)).p1;go_wp2_with fail
  (with_reducible refine CL.out.mono ?_);rintro en w3 ⟨rfl,rfl⟩
  go_wp2_with fail
  (with_reducible refine CL.out.mono ?_);rintro en w4 ⟨rfl,rfl⟩
  go_wp2_with fail
  have A4:=KS.out w4 (But.refl _ _);have s1:=A4.p1;have s2:=A4.p2;have s3:=A4.q1;have s4:=A4.m0;have s5:=A4.m1;have s6:=A4.m2;have s7:=A4.m3;clear A4
  go_region_held3 (fun w'=>w' (w+1+1:Nat)=OK (.slice (eb,eo) env.length ec)/\w' (w+1:Nat)=OK (.pointer (OK ⟨bb,0,U⟩))/\w' (bb,1)=OK (.int RD (v:Nat))/\w' (eb,eo+v*4)=OK (.int RD 0)/\w' (eb,eo+v*4+1)=OK (.pointer U)/\w' (eb,eo+v*4+2)=OK (.pointer (OK ⟨kb,0,U⟩))/\w' (eb,eo+v*4+3)=OK (.slice a2 e'.length c2))
   (first
    |exact⟨s2,s1,s3,s4,s5,s6,s7⟩
    |exact⟨zV (w:=w4.drew) s2,zV (w:=w4.drew) s1,zV (w:=w4.drew) s3,zV (w:=w4.drew) s4,zV (w:=w4.drew) s5,zV (w:=w4.drew) s6,zV (w:=w4.drew) s7⟩
    | go_keep)
   (fail)
  obtain⟨W5,J5⟩:=zzN ((w4.alloc (.cells #[.int RD 0,.pointer U,kb,.slice a2 e'.length c2] 192)).drew);have iL:No w4 W5:=by rw[<- J5];exact((sQ _ _).alloc (sZ _) _).drew
  have iw:W5.heap[(w4:Nat)]?=OK (.cells #[.int RD 0,.pointer U,kb,.slice a2 e'.length c2] 192 (0,0)):=by rw[<- J5];exact zW w4 _
  rw[J5];clear J5 s1 s2 s3 s4 s5 s6 s7;have hz45:(w4:Nat)<W5:=zZ iw;obtain⟨y0,y1,y2,y3⟩:=kD iw;have A5:=KS.out W5 (But.ofBelow iL);have AH:But (· = aa) w W5:=HW.out.2.2.1.trans (But.ofBelow iL);have sR:=HP.out.1;have DQ:∀i,F i->¬(i=aa)/\(F i\/(w:Nat)<=i):=fun i hi=>⟨sR.hF i hi,.inl hi⟩;have aC:Zw (d+1) (l+1) (.ask v ss y no) env n st=Zw d l b' (e'++jV env t.args ss) n (⟨y,no,env⟩::st):=ev_bd HP.out.2.1;have Kz:zz 4 (.slice a2 e'.length c2) e'.length news W5:=bV AH (fun b hb=>sR.hF b hb) HW.out.2.2.2.2.2.2.2.2.2.1 HW.out.2.2.2.2.2.2.2.2.2.2.2;have z2:W5 (bb,2)=OK (.slice sa ss.length sc):=(iL.cell (sK w4 _ HW.out.2.2.2.2.2.2.2.1)).trans HW.out.2.2.2.2.2.2.2.1;have HX:=r9 (r_ AH (r_ iL (r_ iw (r_ aC Kz))));clear AH iL iw aC Kz;have s1:=A5.p1;have s2:=A5.p2;have HA5:=r9 A5;clear A5;go_wp2_with (at_builtin;refine zF rfl _ _ 189 rfl 192 (.agg #[.int RD 0,.pointer U,.pointer U,()]) 4 48 S9 Tryz.infoMn rfl (by decide) () 0 [] rfl ?a1 _ e'.length news rfl ?a2 ?a3 ?a4 ?_)
  case a1=>exact Sf _ _ _ _
  case a2=>exact HX.out.2.2.2.2
  case a3=>unfold maxLen;omega
  case a4=>omega
  intro a6 c6 w6 FS sM F1;have Ae:No W5 w6:=sM.toBelow (sZ _) (fun i _ e=>by simp[RM]at e);have K3:∀g,(RI a6 e'.length c6).ownBlock=OK g->(W5:Nat)<=g:=fun g hg=>by
   rcases F1 g hg with h|h
   ·simp[RM]at h
   ·omega
  have iU:zY (fun i=>(F i\/w<=i)/\i<W5) w6 (jZ (e'++jV env (t.args.take 0) (ss.take 0))) news:=by
   have h0:=(zY.low HW.out.2.2.2.2.2.2.2.2.2.2.1).but HX.out.1 (F':=fun i=>(F i\/w<=i)/\i<W5) (fun b hb=>⟨sR.hF b hb.1,.inl hb.1,by have:=HX.out.1.size;omega⟩);rw[UK,UK,jV.eq_def,R9];exact(Rep.keep fun b o hf hh=>⟨hf,by rw[Ae.block b hf.2];exact hh⟩).2 _ _ h0
  have HI0:=r9 (show BInv (fun i=>F i\/w<=i) e' env t ss W5 0 a6 c6 news w6 from⟨FS,iU,Ae,K3⟩);have z2:=(Ae.cell (sK W5 _ z2)).trans z2;have s1:=(Ae.cell (sK W5 _ s1)).trans s1;clear FS iU Ae K3 sM F1 sR DQ;go_wp2_with fail
  go_loopw [14,78] (fun o i wr=>∃k:Nat,k<=ss.length/\i=.int RD k/\∃a c xs,o=.slice a (e'.length+k:Nat) c/\BInv (fun i=>F i\/w<=i) e' env t ss W5 k a c xs wr) (fun _ i _=>ss.length-(intOf i).toNat)
  case atStart=>exact⟨0,R6 _,rfl,a6,c6,news,rfl,HI0.out⟩
  case round=>
   rename_i wr;obtain⟨k,hk,rfl,a,c,xs,rfl,sN⟩:=hrel;have HI:=r9 sN;clear sN;have sR:=HP.out.1;have EJ:No w4 wr:=HX.out.2.1.trans (HI.out.bel.mono (by omega));have BD:But (· = aa) w wr:=HW.out.2.2.1.trans (But.ofBelow EJ);have FE:=HX.out.1.size;have AR:=KS.out wr (But.ofBelow EJ);by_cases sC:k<ss.length
   ·have tB:(k:Int)<(ss.length:Int):=by omega
    obtain⟨sb,so,u,d1,e,DQ,lF,F3,lJ,iK⟩:=HW.out.2.2.2.2.2.2.2.2.1 k sC;subst e;rw[yC,RP]at F3;obtain⟨s,hs,rfl⟩:=F3;obtain⟨ub,rfl⟩:=zg iK;have Fa:k<t.args.length:=by have:=HL.out.1.1;omega
    obtain⟨ta,AD⟩:∃ta,t.args[k]?=OK ta:=⟨_,List.getElem?_eq_getElem Fa⟩;have q0:=(EJ.cell (sK w4 _ lJ)).trans lJ;have q1:=AR.p2;have HK:=r9 (r_ hs (r_ iK (r_ AD (r_ EJ BD))));clear hs iK AD EJ BD lJ sR AR;go_wp2_with (at_builtin;refine zF rfl _ _ 189 rfl 192 (.agg #[.int RD 0,.pointer U,.pointer U,()]) 4 48 S9 Tryz.infoMn rfl (by decide) (.slice a (e'.length+k) c) (e'.length+k) xs rfl ?c1 _ 1 [.int RD 0,.pointer U,ub,.slice (eb,eo) env.length ec] rfl ?c2 ?c3 ?c4 ?_)
    case c1=>exact HI.out.own.alloc _
    case c2=>exact zz.lit1 #[.int RD 0,.pointer U,.pointer (OK ⟨ub,0,U⟩),.slice (OK ⟨eb,eo,U⟩) env.length ec] rfl (by simp[R4]) _ (by simp)
    case c3=>unfold maxLen;omega
    case c4=>omega
    intro a7 c7 w7 sj sH sS;have Oz:=HI.out.bel.size;have J2:No W5 w7:=by
     refine(HI.out.bel.alloc Oz _).trans (sH.toBelow (by rw[zK];omega) fun i hi e=>?_);have:=HI.out.fr i e;omega
    have iA:∀g,(RI a7 (e'.length+(k+1)) c7).ownBlock=OK g->(W5:Nat)<=g:=by
     intro g h;rcases sS g h with h|h
     ·exact HI.out.fr g h
     ·omega
    have aX:∀(b:Nat) (o:Obj),b<w4.heap.size->w4.heap[b]?=OK o->w7.heap[b]?=OK o:=fun b o hb hh=>by
     rw[J2.block b (by omega),HX.out.2.1.block b hb];exact hh
    have lS:zY (fun i=>(F i\/w.heap.size<=i)/\i<W5.heap.size) w7 (jZ (e'++jV env (t.args.take (k+1)) (ss.take (k+1)))) (xs++[.int RD 0,.pointer U,.pointer (OK ⟨ub,0,U⟩),.slice (OK ⟨eb,eo,U⟩) env.length ec]):=by
     rw[owns_take _ _ _ _ _ HK.out.2.2.1 HK.out.1,<- Sn,uP,encMs_one];refine zY.append ?_ ?_
     ·exact(Rep.keep fun b o hf ho=>⟨hf,by rw[J2.block b hf.2,<- HI.out.bel.block b hf.2];exact ho⟩).2 _ _ HI.out.rep
     ·rw[d7];have hre4:=HP.out.1.re.but (F':=F) HW.out.2.2.1 (fun b hb=>⟨HP.out.1.hF b hb,hb⟩);have kk:=(Rep.keep (F:=F) (F':=fun i=>(F i\/w.heap.size<=i)/\i<W5.heap.size) (w:=w4) (w':=w7) fun b o hf hh=>⟨⟨.inl hf,by have:=zZ hh;omega⟩,aX b o (zZ hh) hh⟩).1;refine zQ.2 ⟨_,_,rfl,zC.2 rfl,zQ.2 ⟨_,_,rfl,zC.2 rfl,zQ.2 ⟨_,_,rfl,kk _ _ HK.out.2.1,zQ.2 ⟨_,_,rfl,kk _ _ hre4,zE.2 rfl⟩⟩⟩⟩
    have HN:=r9 (show BInv (fun i=>F i\/w.heap.size<=i) e' env t ss W5 (k+1) a7 c7 _ w7 from⟨sj,lS,J2,iA⟩);clear sj lS J2 iA sH sS aX;go_wp2_with fail
    go_roundw
    case rel=>exact⟨k+1,by omega,by go_num,a7,c7,_,rfl,HN.out⟩
    case measure=>simp[intOf];omega
   ·obtain rfl:k=ss.length:=by omega
    have AE:=HI.out.rep;have Cd:=HL.out.1.1;rw[List.take_length,List.take_of_length_le (by omega)]at AE;have hlen:(e'++jV env t.args ss).length=e'.length+ss.length:=by rw[RL,pU _ _ Cd,Cd]
    have DQ:∀i,F i->¬(i=aa)/\(F i\/w.heap.size<=i):=fun i hi=>⟨sR.hF i hi,.inl hi⟩;have hFF:∀i,(F i\/w.heap.size<=i)->i≠aa:=by
     intro i hi;rcases hi with hi|hi
     ·exact sR.hF i hi
     ·omega
    have Ho:Rep (fun i=>F i\/w.heap.size<=i) wr (.sl 192 4 (e'++jV env t.args ss).length (jZ (e'++jV env t.args ss))) (.slice a (e'.length+ss.length) c):=by
     rw[hlen];exact HI.out.own.rep (fun g hg=>.inr (by have:=HI.out.fr g hg;omega)) ((Rep.keep fun b o hf ho=>⟨hf.1,ho⟩).2 _ _ AE)
    have aJ:=sR.rb.but BD DQ;have D2:=sR.re.but BD DQ;have aE:=HL.out.2;have Ce:=sR.nl;have hK:gX (fun i=>F i\/w.heap.size<=i) aa l d n H b' (e'++jV env t.args ss) (⟨y,no,env⟩::st) (.pointer (OK ⟨kb,0,U⟩)) (.slice a (e'.length+ss.length) c) (.func (.func 135) #[] #[.pointer (OK ⟨w.heap.size+1,0,U⟩),.pointer (OK ⟨w.heap.size,0,U⟩),.pointer (OK ⟨w.heap.size+1+1,0,U⟩),.pointer (OK ⟨w.heap.size+1+1+1,0,U⟩),.pointer (OK ⟨w.heap.size+1+1+1+1,0,U⟩)]) wr:=by
     exact { glob:=sR.glob.but BD (fun e=>sR.ng e.symm),hF:=hFF,ng:=sR.ng,apl:=(HW.out.2.2.2.1).below EJ,ld:=by omega,d20:=by omega,
             fit:=HL.out.1.2,hn:=sR.hn,el:=by rw[hlen];omega,nl:=by omega,
             ok:=jg _ _ (qY (by omega) _ aE.2.2) (pX (qY (by omega) _ sR.ok) (by omega) _ _ (zo aE.1).1),
             okg:=⟨by show env.length<=_;omega,qY (by omega) _ sR.ok,vm (by omega) _ sR.okg⟩,rb:=HW.out.2.2.2.2.2.1.but BD DQ,re:=Ho,
             ro:=⟨_,_,_,_,_,_,_,_,v,ss,rfl,⟨.inr (by omega),.inr (by omega),.inr (by omega),.inr (by omega),.inr (by omega)⟩,AR.p1,aJ,AR.p0,AR.p2,D2,AR.p3,AR.p4,uI.but BD DQ _ _ sR.ro⟩ }
    have C:=HP.out.2.2 _ aa l n H b' (e'++jV env t.args ss) (⟨y,no,env⟩::st) _ _ _ wr hK;obtain⟨a0,ir⟩:=sR.glob;have Ff:=(BD.cell (sK w _ ir) (fun e=>sR.ng e.symm)).trans ir;have CT:=dc Ff C;have aC:=HX.out.2.2.2.1;clear C hK Ff AE Ho aJ D2;generalize Zw d l b' (e'++jV env t.args ss) n (⟨y,no,env⟩::st)=oo at *;have s0:=AR.p0;have s3:=AR.p3;have iw:=(HI.out.bel.block w4.heap.size (by omega)).trans HX.out.2.2.1;obtain⟨y0,y1,y2,y3⟩:=kD iw;have Oz:=BD.size;have HY:=r9 (r_ BD ir);clear BD ir AR DQ sR iw EJ y0 y1 y3 hlen aE Cd;cases oo with
    | none =>
      have C:=r9 (CT.1 rfl);clear CT;have HE:=r9 aC;clear aC;go_wp2_with fail
      (with_reducible refine C.out.mono ?_);rintro en w6' ⟨rfl,sM⟩
      have HF:=r9 (HY.out.1.trans sM);clear sM;go_wp2_with fail
      go_ret2
      exact kR.none HE.out HF.out HY.out.2
    | some x =>
      have C:=r9 (CT.2 x rfl);clear CT;have HE:=r9 aC;clear aC;go_wp2_with fail
      (with_reducible refine C.out.mono ?_);rintro en w6' ⟨vb,rfl,sM,QL,iU⟩
      have HF:=r9 (r_ (HY.out.1.trans sM) (r_ QL iU));clear sM QL iU;go_wp2_with fail
      go_ret2
      exact kR.some HE.out HF.out.1 HF.out.2.1 (HF.out.2.2.weak fun i h=>by
       rcases h with (h|h)|h
       ·exact .inl h
       ·exact .inr h
       ·exact .inr (by omega))
theorem eval_any (d:Nat):pE d:=by
 induction d with
 | zero =>
   intro F aa l n H b env st bv ev on w h;obtain rfl:l=0:=by have:=h.ld;omega
   obtain⟨bb,rfl⟩:=zg h.rb;obtain⟨_,a,c,rfl,_⟩:=zv.1 h.re;exact eval_out F aa 0 n bb a _ c b env st on w h.ro.form h.glob h.ng h.apl
 | succ d ih =>
   intro F aa l n H b env st bv ev on w h;obtain⟨bb,rfl⟩:=zg h.rb;obtain⟨_,a,c,rfl,_⟩:=zv.1 h.re;cases l with
   |zero=>exact eval_out F aa (d+1) n bb a _ c b env st on w h.ro.form h.glob h.ng h.apl
   | succ l =>
     have Ev:=h.ld;have hd:=h.d20;cases b with
     | leaf x =>
       by_cases hx:x=117
       ·exact eval_end F aa d l n bb a _ c x env st on w h.hF h.apl (by omega) h.rb (.inl ⟨hx,h.ro.form⟩)
       ·cases st with
        |nil=>exact eval_end F aa d l n bb a _ c x env [] on w h.hF h.apl (by omega) h.rb (.inr ⟨hx,h.ro,rfl⟩)
        |cons f st=>exact eval_back d ih F aa l n bb H a _ c x env f st on w hx h
     | ask v ss y no =>
       obtain⟨m,t,hh,hm,_⟩:=h.fit.ask;cases m with
       |op o t=>exact eval_op d ih F aa l n bb v o t H a _ c ss y no env st on w hm h
       |bd t b' e'=>exact eval_bd d ih F aa l n bb v t H a _ c ss y no b' env e' st on w hm h
theorem mV {d:Nat}(ih:∀(l:Nat) (b:Bd) (env:List Mn) (n:Nat) (st:List Gf) (r:Bd) (l':Nat),Zw d l b env n st=OK (r,l')->zG r+l'<=l){env:List Mn}{n:Nat} :
 ∀(ts:List Ty) (ss:List Bd) (l:Nat) (xs:List Bd) (l':Nat),qQ (Zw d) env n l ts ss=OK (xs,l')->zI xs+l'<=l
 |[],ss,l,xs,l',h=>by simp[qQ]at h;obtain⟨rfl,rfl⟩:=h;simp[zI]
 |t::ts,[],l,xs,l',h=>by simp[qQ]at h;obtain⟨rfl,rfl⟩:=h;simp[zI]
 | t::ts,s::ss,l,xs,l',h=>by
   simp only[qQ,Option.bind_eq_bind,RH,Prod.exists]at h;obtain⟨x,l1,h1,ys,l2,h2,h3⟩:=h;simp at h3;obtain⟨rfl,rfl⟩:=h3;have k1:=ih _ _ _ _ _ _ _ h1;have k2:=mV ih ts ss _ _ _ h2;rw[zI];omega
theorem ev_size (d:Nat):∀(l:Nat) (b:Bd) (env:List Mn) (n:Nat) (st:List Gf) (r:Bd) (l':Nat),Zw d l b env n st=OK (r,l')->zG r+l'<=l:=by
 induction d with
 |zero=>intro l b env n st r l' h;simp[Zw]at h
 | succ d ih =>
   intro l b env n st r l' h;cases l with
   |zero=>rw[ev.eq_def]at h;simp at h
   | succ l =>
     cases b with
     | leaf c =>
       by_cases hc:c=117
       ·subst hc;rw[ev_u]at h;simp at h;obtain⟨rfl,rfl⟩:=h;rw[zG];omega
       ·cases st with
        |nil=>rw[ev_end]at h;simp at h;obtain⟨rfl,rfl⟩:=h;rw[zG];omega
        |cons f st=>rw[ev_back hc]at h;have:=ih _ _ _ _ _ _ _ h;omega
     | ask v ss y no =>
       cases hv:env[v]? with
       |none=>rw[ev.eq_def]at h;simp[hv]at h
       | some m =>
         cases m with
         |bd t b' e=>rw[ev_bd hv]at h;have:=ih _ _ _ _ _ _ _ h;omega
         | op o t =>
           rw[ev_op hv]at h;simp only[RH,Prod.exists]at h;obtain⟨xs,l1,h1,x,l2,h2,z,l3,h3,h4⟩:=h;simp at h4;obtain⟨rfl,rfl⟩:=h4;have k1:=mV ih _ _ _ _ _ h1;have k2:=ih _ _ _ _ _ _ _ h2;have k3:=ih _ _ _ _ _ _ _ h3;rw[zG];omega
theorem fits_any (F:Nat->Prop)(w:World)(b:Bd)(v:Value)(hv:Rep F w (kM b) v)(hn:zG b<=20000) :
 Calls RG 57 #[v] w fun en w'=>en=.returned (.bool (decide (zG b<=200/\kq b<=100)))/\No w w':=by
 obtain⟨vb,rfl⟩:=zg hv;have hL:Lim 20000:=by unfold Lim;omega
 have C1:=r9 (size_any 20000 b hn hL F w _ hv);go_enter Tryz.func57,Tryz.ntmps57;go_wp2_with fail
 (with_reducible refine C1.out.mono ?_)
 rintro en w1 ⟨rfl,sX⟩;have C2:=r9 (depth_any 20000 b hn hL F w1 _ (Rep.below sX (fun _ h=>h) hv));have HB:=r9 sX;clear sX;by_cases lT:zG b<=200
 ·have h1:decide ((zG b:Int)<=200)=OX:=decide_eq_true (by omega);go_wp2_with fail
  (with_reducible refine C2.out.mono ?_);rintro en w2 ⟨rfl,sY⟩
  have hb:=zzT HB.out sY;clear sY;by_cases AQ:kq b<=100
  focus
   have h2:decide ((kq b:Int)<=100)=OX:=decide_eq_true (by omega);have HE:=r9 (r_ (show decide (zG b<=200/\kq b<=100)=OX from decide_eq_true ⟨lT,AQ⟩) hb);clear hb
  rotate_left
  focus
   have h2:decide ((kq b:Int)<=100)=RC:=decide_eq_false (by omega);have HE:=r9 (r_ (show decide (zG b<=200/\kq b<=100)=RC from decide_eq_false (by omega)) hb);clear hb
  all_goals
   go_wp2_with fail
   go_ret;rw[HE.out.1];exact⟨rfl,HE.out.2⟩
 ·have h1:decide ((zG b:Int)<=200)=RC:=decide_eq_false (by omega);have HE:=r9 (show decide (zG b<=200/\kq b<=100)=RC from decide_eq_false (by omega));go_wp2_with fail
  go_ret;rw[HE.out];exact⟨rfl,HB.out⟩
def qq (F:Nat->Prop)(w:World)(o:Option Bd)(en:Ending)(w':World):Prop:=
 ∃v,en=.returned v/\No w w'/\(o=U->v=.pointer U)/\∀b,o=OK b->Rep (fun i=>F i\/w<=i) w' (kM b) v
structure BecPre (F:Nat->Prop)(n:Nat)(H:List Ty)(b:Bd)(env:List Mn)(bv ev:Value)(w:World):Prop where
 glob:yF w
 fit:jo H b env []
 hn:H.length=n
 nl:n<=1000
 el:env.length<=1000
 ok:xP 1000 env
 rb:Rep F w (kM b) bv
 re:Rep F w (.sl 192 4 env.length (jZ env)) ev
theorem become_any (F:Nat->Prop)(n:Nat)(H:List Ty)(b:Bd)(env:List Mn)(bv ev:Value)(w:World)(h:BecPre F n H b env bv ev w) :
 Calls RG 103 #[bv,ev,(n:Int)] w (qq F w (vx b env n)):=by
 obtain⟨bb,rfl⟩:=zg h.rb;obtain⟨_,ea,ec,rfl,_⟩:=zv.1 h.re;obtain⟨a0,ir⟩:=h.glob;have Ie:=sK w _ ir;have My:0<(w:Nat):=Ie;have iJ:No w (w.alloc (.cells #[.int RD 20000] 216)):=(sQ _ _).alloc (sZ _) _;have hrbA:=Rep.below iJ (fun _ h=>h) h.rb;have hreA:=Rep.below iJ (fun _ h=>h) h.re;have JR:=(iJ.cell Ie).trans ir;have kA:∀ {dv:DV} {v:Value},Rep F w dv v->Rep (fun i=>F i/\i<w) (w.alloc (.cells #[.int RD 20000] 216)) dv v:=fun h=>(Rep.keep fun b o hf ho=>⟨⟨hf,zZ ho⟩,zJ ho⟩).1 _ _ h;have Ce:=h.nl;have BU:=h.el
 have hE:gX (fun i=>F i/\i<w) w 20000 20000 n H b env [] (.pointer (OK ⟨bb,0,U⟩)) (.slice ea env.length ec) .nilFunc (w.alloc (.cells #[.int RD 20000] 216)):=
  { glob:=⟨a0,JR⟩,hF:=fun i hi e=>by have:=hi.2;omega,ng:=by omega,apl:=zW _ _,ld:=sZ _,d20:=sZ _,fit:=h.fit,hn:=h.hn,el:=by omega,nl:=by omega,
    ok:=qY (by omega) _ h.ok,okg:=trivial,rb:=kA h.rb,re:=kA h.re,ro:=rfl }
 have C:=eval_any 20000 _ _ _ _ _ _ _ _ _ _ _ _ hE;have CT:=dc JR C;have tV:=ev_size 20000 20000 b env n [];have Qw:(Zw 20000 20000 b env n []=U->vx b env n=U)/\∀x,Zw 20000 20000 b env n []=OK x->((zG x.1<=200/\kq x.1<=100)->vx b env n=OK x.1)/\(¬(zG x.1<=200/\kq x.1<=100)->vx b env n=U):=by
  unfold vx;refine⟨fun h=>by rw[h],fun x h=>?_⟩;rw[h];exact⟨fun h=>if_pos h,fun h=>if_neg h⟩
 clear hE C kA hrbA hreA h;generalize vx b env n=r at *;generalize Zw 20000 20000 b env n []=oo at *;have HS:=r9 (r_ tV (r_ iJ (r_ ir Qw)));clear tV iJ ir JR Qw;cases oo with
 | none =>
   have C:=r9 (CT.1 rfl);clear CT;go_enter WI,Wq;go_wp2_with fail
   (with_reducible refine C.out.mono ?_);rintro en w1 ⟨rfl,sX⟩
   have sY:No w w1:=HS.out.2.1.trans (sX.toBelow (by rw[zK];omega) fun i hi e=>by have e:i=w:=e;omega);have lJ:=(sY.cell Ie).trans HS.out.2.2.1;have C2:=r9 (is_same a0 w1);have HB:=r9 sY;clear sX sY;go_wp2_with fail
   (with_reducible refine C2.out.mono ?_);rintro en w2 ⟨rfl,rfl⟩
   go_wp2_with fail
   go_ret;exact⟨_,rfl,HB.out,fun _=>rfl,fun b h=>by have h0:r=U:=HS.out.2.2.2.1 (by simp);rw[h0]at h;simp at h⟩
 | some x =>
   have C:=r9 (CT.2 x rfl);clear CT;go_enter WI,Wq;go_wp2_with fail
   (with_reducible refine C.out.mono ?_);rintro en w1 ⟨vb,rfl,sX,_,aV⟩
   have sY:No w w1:=HS.out.2.1.trans (sX.toBelow (by rw[zK];omega) fun i hi e=>by have e:i=w:=e;omega);have lJ:=(sY.cell Ie).trans HS.out.2.2.1;have C2:=r9 (is_nil a0 w1);have hz:=HS.out.1 x.1 x.2 rfl;have C3:=r9 (fits_any _ w1 x.1 _ aV (by omega));have HB:=r9 (r_ sY aV);clear sX sY aV hz;go_wp2_with fail
   (with_reducible refine C2.out.mono ?_);rintro en w2 ⟨rfl,rfl⟩
   by_cases tA:zG x.1<=200/\kq x.1<=100
   ·rw[decide_eq_true tA]at C3;have HF:=r9 tA;clear tA;go_wp2_with fail
    (with_reducible refine C3.out.mono ?_);rintro en w3 ⟨rfl,sE⟩
    have af:=r9 sE;clear sE;go_wp2_with fail
    go_ret;have hr:=(HS.out.2.2.2.2 x rfl).1 HF.out;refine⟨_,rfl,zzT HB.out.1 af.out,fun h=>?_,fun b h=>?_⟩
    ·rw[hr]at h;simp at h
    ·rw[hr]at h;obtain rfl:=RZ h;refine Rep.weak (Rep.below af.out (fun _ h=>h) HB.out.2) fun i h=>?_;rcases h with h|h
     ·exact .inl h.1
     ·rw[zK]at h;exact .inr (by omega)
   ·rw[decide_eq_false tA]at C3;have HF:=r9 tA;clear tA;go_wp2_with fail
    (with_reducible refine C3.out.mono ?_);rintro en w3 ⟨rfl,sE⟩
    have af:=r9 sE;clear sE;go_wp2_with fail
    go_ret;exact⟨_,rfl,zzT HB.out.1 af.out,fun _=>rfl,fun b h=>by rw[(HS.out.2.2.2.2 x rfl).2 HF.out]at h;simp at h⟩
def zx (bs:List Ty)(a:Ty)(n:Bd)(rest:List Ty):List Mn:=opens 0 bs++(.bd a n (opens 0 bs)::opens bs.length rest)
structure AppPre (F:Nat->Prop)(bs rest:List Ty)(a:Ty)(m n:Bd)(mv nv bv rv:Value)(w:World):Prop where
 glob:yF w
 fit:jo (bs++rest) m (zx bs a n rest) []
 a15:zU a<=15
 bl:bs.length<=100
 rl:rest.length<=100
 b15:∀t∈bs,zU t<=15
 r15:∀t∈rest,zU t<=15
 rm:Rep F w (kM m) mv
 rn:Rep F w (kM n) nv
 rb:Rep F w (.sl 33 1 bs.length (qh bs)) bv
 rr:Rep F w (.sl 33 1 rest.length (qh rest)) rv
theorem apply_any (F:Nat->Prop)(bs rest:List Ty)(a:Ty)(m n:Bd)(mv nv bv rv:Value)(w:World)(h:AppPre F bs rest a m n mv nv bv rv w) :
 Calls RG 81 #[mv,nv,bv,rv] w (qq F w (vx m (zx bs a n rest) (bs.length+rest.length))):=by
 obtain⟨mb,rfl⟩:=zg h.rm;obtain⟨nb,rfl⟩:=zg h.rn;obtain⟨_,ba,bc,rfl,_⟩:=zv.1 h.rb;obtain⟨_,ra,rc,rfl,_⟩:=zv.1 h.rr;have Dk:=h.bl;have I8:=h.rl;have C1:Calls RG 102 #[.int RD 0,.slice ba bs.length bc] w (FreshV w 192 4 bs.length fun w' xs=>zY F w' (jZ (opens 0 bs)) xs):=e_ F 0 bs _ w h.rb (by omega) (by omega);have C1:=r9 C1;have HP:=r9 h;clear h;go_enter Tryz.func81,Tryz.ntmps81;go_wp2_with fail
 (with_reducible refine C1.out.mono ?_)
 rintro en w1 ⟨a1,c1,xs1,rfl,NG,aV,sX,Qf⟩;have iH:=NG.src (vd _ _ aV);have H1:=r9 (r_ NG (r_ aV (r_ sX (r_ Qf iH))));clear NG aV sX Qf iH C1;go_wp2_with (at_builtin;refine zF rfl _ _ 189 rfl 192 (.agg #[.int RD 0,.pointer U,.pointer U,()]) 4 48 S9 Tryz.infoMn rfl (by decide) () 0 [] rfl ?a1 _ bs.length xs1 rfl ?a2 ?a3 ?a4 ?_)
 case a1=>exact Sf _ _ _ _
 case a2=>exact H1.out.2.2.2.2
 case a3=>unfold maxLen;omega
 case a4=>omega
 intro a2 c2 w2 KK sY By;have JX:No w1 w2:=sY.toBelow (sZ _) (fun i _ e=>by simp[RM]at e);have hf2:∀g,(RI a2 bs.length c2).ownBlock=OK g->(w1:Nat)<=g:=fun g hg=>by
  rcases By g hg with h|h
  ·simp[RM]at h
  ·omega
 have H2:=r9 (r_ KK (r_ JX hf2));clear KK sY By JX hf2;go_wp2_with (at_builtin;refine zF rfl _ _ 189 rfl 192 (.agg #[.int RD 0,.pointer U,.pointer U,()]) 4 48 S9 Tryz.infoMn rfl (by decide) (.slice a2 bs.length c2) bs.length xs1 rfl ?b1 _ 1 [.int RD 0,.pointer U,nb,.slice a1 bs.length c1] rfl ?b2 ?b3 ?b4 ?_)
 case b1=>exact H2.out.1.alloc _
 case b2=>exact zz.lit1 #[.int RD 0,.pointer U,.pointer (OK ⟨nb,0,U⟩),.slice a1 bs.length c1] rfl (by simp[R4]) _ (by simp)
 case b3=>unfold maxLen;omega
 case b4=>omega
 intro a3 c3 w3 KJ sE D7;have iP:=H2.out.2.1.size;have lU:=H1.out.2.2.1.size;have MV:No w1 w3:=(H2.out.2.1.alloc iP _).trans (sE.toBelow (by rw[zK];omega) fun i hi e=>by have:=H2.out.2.2 i e;omega);have MN:∀g,(RI a3 (bs.length+1) c3).ownBlock=OK g->(w1:Nat)<=g:=fun g hg=>by
  rcases D7 g hg with h|h
  ·exact H2.out.2.2 g h
  ·omega
 have M0:No w w3:=H1.out.2.2.1.trans (MV.mono lU);have C4:=r9 (e_ (fun i=>F i/\i<w) bs.length rest _ w3 (Rep.below M0 (fun _ h=>h) (Rep.low HP.out.rr)) (by omega) (by omega));have H3:=r9 (r_ KJ (r_ MV (r_ MN M0)));clear KJ sE D7 MV MN M0;go_wp2_with fail
 (with_reducible refine C4.out.mono ?_)
 rintro en w4 ⟨a4,c4,xs4,rfl,E8,FQ,sO,Jh⟩;clear C4;have iy:=E8.src (vd _ _ FQ);have Pw:Own w4 192 4 (.slice a3 (bs.length+1) c3) (bs.length+1) (xs1++[.int RD 0,.pointer U,.pointer (OK ⟨nb,0,U⟩),.slice a1 bs.length c1]):=H3.out.1.keep fun g o hg hh=>by rw[sO.block g (zZ hh)];exact hh
 have H4:=r9 (r_ Pw (r_ iy (r_ FQ (r_ sO Jh))));clear Pw iy FQ sO Jh E8;go_wp2_with (at_builtin;refine zF rfl _ _ 189 rfl 192 (.agg #[.int RD 0,.pointer U,.pointer U,()]) 4 48 S9 Tryz.infoMn rfl (by decide) (.slice a3 (bs.length+1) c3) (bs.length+1) (xs1++[.int RD 0,.pointer U,.pointer (OK ⟨nb,0,U⟩),.slice a1 bs.length c1]) rfl ?d1 _ rest.length xs4 rfl ?d2 ?d3 ?d4 ?_)
 case d1=>exact H4.out.1
 case d2=>exact H4.out.2.1
 case d3=>unfold maxLen;omega
 case d4=>omega
 intro a5 c5 w5 lh sx li;have lP:=H3.out.2.1.size;have L3:=H4.out.2.2.2.1.size;have JW:No w1 w5:=(H3.out.2.1.trans (H4.out.2.2.2.1.mono lP)).trans (sx.toBelow (by omega) fun i hi e=>by have:=H3.out.2.2.1 i e;omega);have hf5:∀g,(RI a5 (bs.length+1+rest.length) c5).ownBlock=OK g->(w1:Nat)<=g:=fun g hg=>by
  rcases li g hg with h|h
  ·exact H3.out.2.2.1 g h
  ·omega
 have DM:No w w5:=H1.out.2.2.1.trans (JW.mono lU);have hlen:(zx bs a n rest).length=bs.length+1+rest.length:=by unfold zx;simp[qF];omega
 have Ho:Rep (fun i=>F i\/w<=i) w5 (.sl 192 4 (zx bs a n rest).length (jZ (zx bs a n rest))) (.slice a5 (bs.length+1+rest.length) c5):=by
  rw[hlen];refine lh.rep (fun g hg=>.inr (by have:=hf5 g hg;omega)) ?_;have e:jZ (zx bs a n rest)=jZ (opens 0 bs)++(d7 (.bd a n (opens 0 bs))++jZ (opens bs.length rest)):=by unfold zx;rw[uP,jZ]
  rw[e];have k1:∀ {ds:List DV} {us:List Value},zY F w1 ds us->zY (fun i=>F i\/w<=i) w5 ds us:=fun h=>(Rep.keep fun b o hf hh=>⟨.inl hf,by rw[JW.block b (zZ hh)];exact hh⟩).2 _ _ h;refine zY.append (k1 H1.out.2.1) (zY.append (vs:=[.int RD 0,.pointer U,nb,.slice a1 bs.length c1]) (us:=xs4) ?_ ?_)
  ·rw[d7];have r1:Rep (fun i=>F i\/w<=i) w5 (kM n) (.pointer (OK ⟨nb,0,U⟩)):=(Rep.below DM (fun _ h=>h) HP.out.rn).weak fun i h=>.inl h;have r2:Rep (fun i=>F i\/w<=i) w5 (.sl 192 4 (opens 0 bs).length (jZ (opens 0 bs))) (.slice a1 bs.length c1):=by
    rw[qF];refine(H1.out.1.keep fun g o hg hh=>?_).rep (fun g hg=>.inr (H1.out.2.2.2.1 g hg)) (k1 H1.out.2.1);rw[JW.block g (zZ hh)];exact hh
   exact zQ.2 ⟨_,_,rfl,zC.2 rfl,zQ.2 ⟨_,_,rfl,zC.2 rfl,zQ.2 ⟨_,_,rfl,r1,zQ.2 ⟨_,_,rfl,r2,zE.2 rfl⟩⟩⟩⟩
  ·refine(Rep.keep fun b o hf hh=>⟨.inl hf.1,?_⟩).2 _ _ H4.out.2.2.1;have sC:=hf.2;rw[sx.block b (zZ hh) (fun e=>by have:=H3.out.2.2.1 b e;omega)];exact hh
 have hE:BecPre (fun i=>F i\/w<=i) (bs.length+rest.length) (bs++rest) m (zx bs a n rest) (.pointer (OK ⟨mb,0,U⟩)) (.slice a5 (bs.length+1+rest.length) c5) w5:=
  { glob:=HP.out.glob.below DM,fit:=HP.out.fit,hn:=RL ..,nl:=by omega,el:=by omega,
    ok:=jg _ _ (jO _ _ HP.out.b15 (by omega)) ⟨⟨HP.out.a15,by rw[qF];omega,jO _ _ HP.out.b15 (by omega)⟩,jO _ _ HP.out.r15 (by omega)⟩,
    rb:=(Rep.below DM (fun _ h=>h) HP.out.rm).weak fun i h=>.inl h,re:=Ho }
 have C6:=become_any _ _ _ _ _ _ _ w5 hE;rw[Int.natCast_add]at C6;generalize vx m (zx bs a n rest) (bs.length+rest.length)=r at *;have C6:=r9 C6;have HB:=r9 DM;clear Ho hE hlen DM JW hf5 lh sx li;go_wp2_with fail
 (with_reducible refine C6.out.mono ?_)
 rintro en w6 ⟨v,rfl,sM,oL,Am⟩;have H6:=r9 (r_ sM (r_ oL Am));clear sM oL Am;go_wp2_with fail
 go_ret;refine⟨v,rfl,zzT HB.out H6.out.1,H6.out.2.1,fun b h=>(H6.out.2.2 b h).weak fun i h=>?_⟩;have hz:=HB.out.size;rcases h with (h|h)|h
 ·exact .inl h
 ·exact .inr h
 ·exact .inr (by omega)
theorem eP {F:Nat->Prop}{w:World}{e:TypeId}{n b o cap:Nat}{d:DV}{ds:List DV}(h:Rep F w (.sl e 1 (n+1) (d::ds)) (.slice (b,o) (n+1) cap)) :
 Rep F w (.sl e 1 n ds) (.slice (b,o+1) n (cap-1)):=by
 rw[zv]at h ⊢;obtain⟨hl,a,c,e1,hn,hz,h⟩:=h;simp only[RT]at e1;obtain⟨rfl,_,rfl⟩:=e1;refine⟨by simpa using hl,_,_,rfl,by omega,fun h=>by simp at h,.inr ?_⟩;rcases h with h0|⟨b',o',cs,fr,e2,hb,aP,hr⟩
 ·omega
 simp only[RK,Addr.mk.injEq,and_true]at e2;obtain⟨rfl,rfl⟩:=e2;refine⟨_,_,cs,fr,rfl,hb,aP,?_⟩;have h2:=hr;rw[zQ]at h2;obtain⟨v,vs,e3,_,h4⟩:=h2;have:vs=List.take (n*1) (Uq (o+1) cs.toList):=by
  have h5:=congrArg (Uq 1) e3;rw[List.drop_take,List.drop_drop]at h5;simpa using h5.symm
 rw[<- this];exact h4
theorem rE:∀(ss:List Bd),(∀s∈ss,2*kq s+1<=zG s)->ss≠[]->2*k_ ss<=zI ss+1
 |[],_,h=>absurd rfl h
 | [s],hs,_=>by
   have:=hs s (by simp);simp only[k_,zI];omega
 | s::t::ss,hs,_=>by
   have h1:=hs s (by simp);have h2:=rE (t::ss) (fun x hx=>hs x (List.mem_cons_of_mem _ hx)) (by simp);rw[k_,zI];omega
theorem p8:∀(n:Nat) (b:Bd),zG b<=n->2*kq b+1<=zG b
 |0,b,h=>by have:=kQ b;omega
 |n+1,.leaf c,_=>by simp[kq,zG]
 | n+1,.ask v ss y no,h=>by
   rw[zG]at h;have py:=kQ y;have pn:=kQ no;have hy:=p8 n y (by omega);have hn:=p8 n no (by omega);rw[kq,zG];by_cases hs:ss=[]
   ·subst hs;simp only[k_,zI];omega
   ·have:=rE ss (fun s lw=>p8 n s (by have:=uZ lw;omega)) hs;omega
theorem rC {b:Bd}(h:zG b<=200):kq b<=100:=by
 have:=p8 _ b (sZ _);omega
theorem become_writes (b:Bd)(env:List Mn)(n:Nat):yS b env n=vx b env n:=by
 rw[writes_eq];unfold vx;cases ev 20000 20000 b env n [] with
 |none=>rfl
 | some x =>
   obtain⟨out,l⟩:=x;simp only;by_cases hs:zG out<=200
   ·rw[if_pos hs,if_pos ⟨hs,rC hs⟩]
   ·rw[if_neg hs,if_neg (fun h=>hs h.1)]
def yZ (b:Bd):Option Bd:=if zG b<=200 then OK b else U
mutual
def kV (b:Bd)(n k:Nat):Bd:=match b with
 |.leaf c=>.leaf c
 |.ask v ss y no=>.ask (if n<=v then v+k else v) (zt ss n k) (kV y n k) (kV no n k)
def zt (bs:List Bd)(n k:Nat):List Bd:=match bs with
 |[]=>[]
 |b::bs=>kV b n k::zt bs n k
end
def qP (b yes no:Bd):Bd:=match b with
 |.leaf c=>if c=116 then yes else if c=102 then no else .leaf c
 |.ask v ss y n=>.ask v ss (qP y yes no) (qP n yes no)
mutual
theorem bU:∀(b:Bd) (H A X:List Ty),qB (H++X) b->qB (H++A++X) (kV b H.length A.length)
 |.leaf c,H,A,X,h=>by simp[kV,qB]
 | .ask v ss y no,H,A,X,h=>by
   rw[qB]at h;obtain⟨t,ht,h1,h2,h3⟩:=h;rw[kV,qB];refine⟨t,?_,nU ss t.args H A X h1,bU y H A X h2,bU no H A X h3⟩;by_cases hv:H.length<=v
   ·rw[if_pos hv];rw[Sr hv]at ht;rw[Sn,Sr (by omega),Sr (by omega),show v+A.length-H.length-A.length=v-H.length from by omega];exact ht
   ·rw[if_neg hv];rw[Sv (by omega)]at ht;rw[Sn,Sv (by omega)];exact ht
theorem nU:∀(bs:List Bd) (ts:List Ty) (H A X:List Ty),qZ (kx (H++X) ts) bs->qZ (kx (H++A++X) ts) (zt bs H.length A.length)
 | [],ts,H,A,X,h=>by
   have:=ju _ _ h;rw[vJ]at this;obtain rfl:ts=[]:=St this;rw[zt,qZ];rfl
 | b::bs,[],H,A,X,h=>by
   have:=ju _ _ h;rw[vJ]at this;simp at this
 | b::bs,t::ts,H,A,X,h=>by
   rw[qZ]at h;obtain⟨h',lw,e,f1,f2⟩:=h;simp only[kx,Sa,RY]at e;obtain⟨rfl,rfl⟩:=e;rw[zt,qZ];refine⟨H++A++X++t.args,kx (H++A++X) ts,rfl,?_,nU bs ts H A X f2⟩;have:=bU b H A (X++t.args) (by rw[<- Sn];exact f1);rw[<- Sn]at this;exact this
end
mutual
theorem w_:∀(b:Bd) (n k:Nat),wfB b->wfB (kV b n k)
 |.leaf c,n,k,h=>by rw[kV];exact h
 | .ask v ss y no,n,k,h=>by
   rw[wfB]at h;rw[kV,wfB];exact⟨shift_wfs ss n k h.1,w_ y n k h.2.1,w_ no n k h.2.2⟩
theorem shift_wfs:∀(bs:List Bd) (n k:Nat),uo bs->uo (zt bs n k)
 |[],n,k,h=>by rw[zt];exact h
 | b::bs,n,k,h=>by
   rw[uo]at h;rw[zt,uo];exact⟨w_ b n k h.1,shift_wfs bs n k h.2⟩
end
theorem fY:∀(b yes no:Bd) (H:List Ty),qB H b->qB H yes->qB H no->qB H (qP b yes no)
 | .leaf c,yes,no,H,h,h1,h2=>by
   rw[qP];split
   ·exact h1
   ·split
    ·exact h2
    ·exact h
 | .ask v ss y n,yes,no,H,h,h1,h2=>by
   rw[qB]at h;obtain⟨t,ht,k1,k2,k3⟩:=h;rw[qP,qB];exact⟨t,ht,k1,fY y yes no H k2 h1 h2,fY n yes no H k3 h1 h2⟩
theorem rU:∀(b yes no:Bd),wfB b->wfB yes->wfB no->wfB (qP b yes no)
 | .leaf c,yes,no,h,h1,h2=>by
   rw[qP];split
   ·exact h1
   ·split
    ·exact h2
    ·exact h
 | .ask v ss y n,yes,no,h,h1,h2=>by
   rw[wfB]at h;rw[qP,wfB];exact⟨h.1,rU y yes no h.2.1 h1 h2,rU n yes no h.2.2 h1 h2⟩
abbrev Nm:=Bs×Ty
def qT (ns:List Nm)(x:Bs):Nat->Option Nat
 |0=>U
 |n+1=>if ns[n]?.map Prod.fst=OK x then OK n else qT ns x n
def jh (ns:List Nm)(x:Bs):Option Nat:=qT ns x ns.length
theorem findAt_lt {ns:List Nm}{x:Bs}:∀ {n i:Nat},qT ns x n=i->i<n/\∃k,ns[i]?=OK (x,k)
 |0,i,h=>by simp[qT]at h
 | n+1,i,h=>by
   rw[qT]at h;split at h
   ·rename_i hc;obtain rfl:=RZ h;rw[RP]at hc;obtain⟨⟨a,k⟩,h1,rfl⟩:=hc;exact⟨by omega,k,h1⟩
   ·obtain⟨h1,h2⟩:=findAt_lt h;exact⟨by omega,h2⟩
def kinds (ns:List Nm):List Ty:=ns.map Prod.snd
def typeOf (ns:List Nm):Tm->Option Ty
 |.nm x=>(jh ns x).bind fun i=>ns[i]?.map Prod.snd
 |.wd _=>OK (.mk [])
 |.lam x k t=>if 15<zU k then U else (typeOf (ns++[(x,k)]) t).bind fun b=>if 15<zU (zi k b) then U else OK (zi k b)
 | .app m n=>(typeOf ns m).bind fun a=>(typeOf ns n).bind fun b=>match a.args with
   |[]=>U
   |c::cs=>if zS c=zS b then OK (.mk cs) else U
 |.ite l m n=>(typeOf ns l).bind fun a=>(typeOf ns m).bind fun b=>(typeOf ns n).bind fun c=>if a.args=[]/\zS b=zS c then OK b else U
def zq (ns:List Nm):Tm->Option Bd
 |.nm x=>(jh ns x).bind fun i=>ns[i]?.bind fun p=>yZ (eta p.2 i ns.length)
 |.wd w=>OK (.leaf (w.headD 0))
 |.lam x k t=>zq (ns++[(x,k)]) t
 | .app m n=>(zq ns m).bind fun a=>(zq ns n).bind fun b=>(typeOf ns m).bind fun t=>match t.args with
   |[]=>U
   |k::rest=>vx a (zx (kinds ns) k b rest) (ns.length+rest.length)
 |.ite l m n=>(zq ns l).bind fun a=>(zq ns m).bind fun b=>(zq ns n).bind fun c=>(typeOf ns m).bind fun t=>yZ (qP (kV a ns.length t.args.length) b c)
theorem textT_inj {a b:Ty}(h:zS a=zS b):a=b:=by
 have k1:=pV (zU a+zU b) a [] (by omega);have k2:=pV (zU a+zU b) b [] (by omega);rw[h,k2]at k1;exact(Prod.mk.inj (RZ k1)).1.symm
theorem hJ {bs rest:List Ty}{a:Ty}{n m:Bd}(hn:qB (bs++a.args) n)(hm:qB (bs++a::rest) m):jo (bs++rest) m (zx bs a n rest) []:=by
 refine⟨⟨bs++a::rest,?_,hm⟩,by simp⟩;have h1:jH (bs++rest) (opens 0 bs) bs:=e6 bs 0 fun i t h=>by rw[SU,Sv (RR.1 h).1];exact h
 refine y5 _ _ _ _ h1 ?_;rw[jH];refine⟨a,rest,rfl,?_,cV bs rest⟩;rw[wH];exact⟨rfl,bs,h1,hn⟩
theorem between_wf {bs rest:List Ty}{a:Ty}{n:Bd}(hn:wfB n):wh (zx bs a n rest):=by
 unfold zx;refine jw _ _ (jI bs 0) ?_;exact⟨⟨hn,jI bs 0⟩,jI rest bs.length⟩
theorem pR {b c:Bd}(h:yZ b=c):c=b/\zG b<=200:=by
 unfold yZ at h;split at h
 ·exact⟨(RZ h).symm,by assumption⟩
 ·simp at h
theorem jz (ns:List Nm)(x:Bs)(k:Ty):kinds (ns++[(x,k)])=kinds ns++[k]:=by simp[kinds]
theorem jX (ns:List Nm):(kinds ns).length=ns.length:=by simp[kinds]
theorem yY {ns:List Nm}{i:Nat}{x:Bs}{k:Ty}(h:ns[i]?=OK (x,k)):(kinds ns)[i]?=OK k:=by simp[kinds,h]
theorem qK:∀(t:Tm) (ns:List Nm) (k:Ty),(∀a∈kinds ns,zU a<=15)->typeOf ns t=k->zU k<=15
 | .nm x,ns,k,hn,h=>by
   rw[typeOf,RH]at h;obtain⟨i,_,h2⟩:=h;rw[RP]at h2;obtain⟨⟨y,a⟩,h3,rfl⟩:=h2;exact hn a (List.mem_of_getElem? (yY h3))
 | .wd w,ns,k,_,h=>by
   rw[typeOf]at h;obtain rfl:=RZ h;decide
 | .lam x k t,ns,k',hn,h=>by
   rw[typeOf]at h;split at h
   ·simp at h
   ·rw[RH]at h;obtain⟨b,_,h2⟩:=h;split at h2
    ·simp at h2
    ·obtain rfl:=RZ h2;omega
 | .app m n,ns,k,hn,h=>by
   rw[typeOf,RH]at h;obtain⟨a,h1,h⟩:=h;rw[RH]at h;obtain⟨b,_,h⟩:=h;have ha:=qK m ns a hn h1;split at h
   ·simp at h
   ·rename_i c cs hc;split at h
    ·obtain rfl:=RZ h;have:=cM hc;omega
    ·simp at h
 | .ite l m n,ns,k,hn,h=>by
   rw[typeOf,RH]at h;obtain⟨a,_,h⟩:=h;rw[RH]at h;obtain⟨b,h1,h⟩:=h;rw[RH]at h;obtain⟨c,_,h⟩:=h;split at h
   ·obtain rfl:=RZ h;exact qK m ns _ hn h1
   ·simp at h
theorem dV {ns:List Nm}{m n:Tm}{k:Ty}(h:typeOf ns (.app m n)=k):∃a b rest,typeOf ns m=OK a/\typeOf ns n=OK b/\a.args=b::rest/\k=.mk rest:=by
 rw[typeOf,RH]at h;obtain⟨a,h1,h⟩:=h;rw[RH]at h;obtain⟨b,h2,h⟩:=h;split at h
 ·simp at h
 ·rename_i c cs hc;split at h
  ·rename_i he;obtain rfl:=RZ h;obtain rfl:=textT_inj he;exact⟨a,c,cs,h1,h2,hc,rfl⟩
  ·simp at h
theorem dJ {ns:List Nm}{l m n:Tm}{k:Ty}(h:typeOf ns (.ite l m n)=k):typeOf ns l=OK (.mk [])/\typeOf ns m=k/\typeOf ns n=k:=by
 rw[typeOf,RH]at h;obtain⟨a,h1,h⟩:=h;rw[RH]at h;obtain⟨b,h2,h⟩:=h;rw[RH]at h;obtain⟨c,h3,h⟩:=h;split at h
 ·rename_i he;obtain rfl:=RZ h;obtain rfl:=textT_inj he.2;refine⟨?_,h2,h3⟩;rw[h1];cases a with
  |mk ts=>have:=he.1;simp only[Ty.args]at this;subst this;rfl
 ·simp at h
theorem dQ {ns:List Nm}{x:Bs}{a:Ty}{t:Tm}{k:Ty}(h:typeOf ns (.lam x a t)=k):zU a<=15/\∃b,typeOf (ns++[(x,a)]) t=OK b/\k=zi a b:=by
 rw[typeOf]at h;split at h
 ·simp at h
 ·rw[RH]at h;obtain⟨b,h1,h2⟩:=h;split at h2
  ·simp at h2
  ·obtain rfl:=RZ h2;exact⟨by omega,b,h1,rfl⟩
theorem jd:∀(t:Tm) (ns:List Nm) (k:Ty) (b:Bd),xA t->(∀a∈kinds ns,zU a<=15)->typeOf ns t=k->zq ns t=b->qB (kinds ns++k.args) b/\wfB b/\zG b<=200
 | .nm x,ns,k,b,_,hn,ht,h=>by
   rw[typeOf,RH]at ht;obtain⟨i,hi,ht⟩:=ht;rw[zq,hi,RF,RH]at h;obtain⟨⟨y,a⟩,h1,h2⟩:=h;rw[h1]at ht;simp at ht;subst ht;obtain⟨rfl,hs⟩:=pR h2;exact⟨eta_fit a i ns.length (kinds ns) (jX ns) (yY h1),eta_wf a i ns.length,hs⟩
 | .wd w,ns,k,b,ho,hn,ht,h=>by
   rw[zq]at h;obtain rfl:=RZ h;refine⟨by simp[qB],?_,by simp[zG]⟩;rw[wfB];have:js w=OX:=ho;simp only[js,S4,beq_iff_eq]at this;rcases this with (rfl|rfl)|rfl
   ·exact .inl rfl
   ·exact .inr (.inl rfl)
   ·exact .inr (.inr rfl)
 | .lam x a t,ns,k,b,ho,hn,ht,h=>by
   obtain⟨ha,c,hc,rfl⟩:=dQ ht;rw[zq]at h
   have:=jd t (ns++[(x,a)]) c b ho.2 (fun y hy=>by
    rw[jz]at hy;rcases List.mem_append.1 hy with hy|hy
    ·exact hn y hy
    ·simp at hy;subst hy;exact ha) hc h
   rw[jz,Sn]at this;exact this
 | .app m n,ns,k,b,ho,hn,ht,h=>by
   obtain⟨a,c,rest,h1,h2,h3,rfl⟩:=dV ht;rw[zq,RH]at h;obtain⟨p,hp,h⟩:=h;rw[RH]at h;obtain⟨q,hq,h⟩:=h;rw[h1,RF,h3]at h;simp only at h;obtain⟨f1,w1,s1⟩:=jd m ns a p ho.1 hn h1 hp;obtain⟨f2,w2,s2⟩:=jd n ns c q ho.2 hn h2 hq;rw[h3]at f1;have hf:=hJ f2 f1;have hlen:ns.length+rest.length=(kinds ns++rest).length:=by rw[RL,jX]
   rw[hlen]at h;unfold vx at h;cases hv:ev 20000 20000 p (zx (kinds ns) c q rest) (kinds ns++rest).length [] with
   |none=>rw[hv]at h;simp at h
   | some x =>
     obtain⟨o,l⟩:=x;rw[hv]at h;simp only at h;split at h
     ·rename_i hs;obtain rfl:=RZ h;exact⟨ev_fit _ _ _ _ _ _ _ _ hf hv,ev_wf _ _ _ _ _ _ _ _ w1 (between_wf w2) (by simp) hv,hs.1⟩
     ·simp at h
 | .ite l m n,ns,k,b,ho,hn,ht,h=>by
   obtain⟨h1,h2,h3⟩:=dJ ht;rw[zq,RH]at h;obtain⟨p,hp,h⟩:=h;rw[RH]at h;obtain⟨q,hq,h⟩:=h;rw[RH]at h;obtain⟨r,hr,h⟩:=h;rw[h2,RF]at h;obtain⟨rfl,hs⟩:=pR h;obtain⟨f1,w1,_⟩:=jd l ns _ p ho.1 hn h1 hp;obtain⟨f2,w2,_⟩:=jd m ns _ q ho.2.1 hn h2 hq;obtain⟨f3,w3,_⟩:=jd n ns _ r ho.2.2 hn h3 hr;have OZ:=bU p (kinds ns) k.args [] (show qB (kinds ns++[]) p from f1);rw[R9,jX]at OZ;exact⟨fY _ _ _ _ OZ f2 f3,rU _ _ _ (w_ _ _ _ w1) w2 w3,hs⟩
theorem gu {t:Tm}{k:Ty}{b:Bd}(ho:xA t)(ht:typeOf [] t=k)(h:zq [] t=b):Good k b:=by
 obtain⟨h1,h2,h3⟩:=jd t [] k b ho (by simp[kinds]) ht h;exact⟨qK t [] k (by simp[kinds]) ht,by simpa[kinds] using h1,h2,h3,rC h3⟩
def qr (s:Bs):Option (Ty×Bd):=(jW s).bind fun t=>(typeOf [] t).bind fun k=>(zq [] t).map fun b=>(k,b)
def termType (s:Bs):Option Ty:=(jW s).bind fun t=>typeOf [] t
theorem xL {s:Bs}{k:Ty}{b:Bd}(h:qr s=OK (k,b)):termType s=k/\Good k b:=by
 unfold qr at h;simp only[RH,RP,Prod.mk.injEq]at h;obtain⟨t,h1,k',h2,b',h3,rfl,rfl⟩:=h;obtain⟨_,ho,_⟩:=y6 h1;exact⟨by unfold termType;rw[h1];exact h2,gu ho h2 h3⟩
theorem xZ:∀(t:Tm) (ns:List Nm) (k:Ty),typeOf ns t=k->kJ t=OX
 |.nm x,ns,k,h=>by rw[kJ]
 |.wd w,ns,k,h=>by rw[kJ]
 | .lam x a t,ns,k,h=>by
   obtain⟨ha,b,hb,_⟩:=dQ h;rw[kJ,decide_eq_true ha,xZ t _ b hb];rfl
 | .app m n,ns,k,h=>by
   obtain⟨a,b,rest,h1,h2,_⟩:=dV h;rw[kJ,xZ m ns a h1,xZ n ns b h2];rfl
 | .ite l m n,ns,k,h=>by
   obtain⟨h1,h2,h3⟩:=dJ h;rw[kJ,xZ l ns _ h1,xZ m ns _ h2,xZ n ns _ h3];rfl
section
variable {P:Program} {ops:Array Oper} {Q:Exit->Act->World->Prop} {md:TZ} {S:World->Prop} {T:Nat->Bool}
def jL (P:Program)(md:TZ)(ops:Array Oper)(Q:Exit->Act->World->Prop)(S:World->Prop)(T:Nat->Bool):Nat->Array Bool->Act->World->Prop
 |0,listed,a,w=>Se md ops listed=[]/\Q .normal a w
 | fuel+1,listed,a,w =>
   (Se md ops listed=[]->Q .normal a w) /\
   ∀i∈Se md ops listed,wpOp P ops Q i (fun a' w'=>(T i=RC->S w')/\jL P md ops Q S T fuel (listed.setIfInBounds i OX) a' w') a w
theorem my:∀(fuel:Nat) (listed:Array Bool) (a:Act) (w:World),jL P md ops Q S T fuel listed a w->wpAny P md ops Q fuel listed a w
 |0,_,_,_,h=>h
 |fuel+1,_,_,_,h=>⟨h.1,fun i hi=>wpOp_mono (fun a' w' h'=>my fuel _ a' w' h'.2) (h.2 i hi)⟩
theorem cS {md:TZ}{ops:Array Oper}{L:Array Bool}{i j:Nat}(h:j∈Se md ops L)(hne:j≠i):j∈Se md ops (L.setIfInBounds i OX):=by
 unfold Se at *;rw[Ur] at *;refine⟨h.1,?_⟩;have h2:=h.2;rw[R3] at *;refine⟨?_,?_⟩
 ·have e:(L.setIfInBounds i OX).getD j OX=L.getD j OX:=by
   simp only[Sb];rw[TJ (fun e=>hne e.symm)]
  rw[e];exact h2.1
 ·have h3:=h2.2;cases ho:ops[j]? with
  |none=>rw[ho]at h3;simp at h3
  | some o =>
    rw[ho]at h3;simp only[SR,SD]at h3 ⊢;rw[UP] at *;intro e he;have h4:=h3 e he;rw[S4] at *;rcases h4 with h4|h4
    ·exact .inl h4
    ·refine .inr ?_;by_cases hk:e.on=i
     ·rw[hk];simp only[Sb]at h4 ⊢;rw[hk]at h4;rcases TR i L.size with h'|h'
      ·simp[h']
      ·rw[Vv h']at h4;simp at h4
     ·simp only[Sb]at h4 ⊢;rw[TJ (fun e=>hk e.symm)];exact h4
theorem yO {md:TZ}{ops:Array Oper}{L:Array Bool}{j:Nat}(h:j∈Se md ops L) :
 L.getD j OX=RC/\∃o,ops[j]?=OK o/\∀e∈o.after,Sw md e=OX->L.getD e.on RC=OX:=by
 unfold Se at h;rw[Ur]at h;have h2:=h.2;rw[R3]at h2;refine⟨by simpa using h2.1,?_⟩;cases ho:ops[j]? with
 |none=>have:=h2.2;rw[ho]at this;simp at this
 | some o =>
   refine⟨o,rfl,fun e he hb=>?_⟩;have h3:=h2.2;rw[ho]at h3;simp only[SR,SD]at h3;rw[UP]at h3;have h4:=h3 e he;rw[S4]at h4;rcases h4 with h4|h4
   ·rw[hb]at h4;simp at h4
   ·exact h4
theorem wpAnyS_first {i:Nat}{oi:Oper}{v:Value}(hi:ops[i]?=OK oi)(O0:∀(j:Nat) (o:Oper) cs b,ops[j]?=OK o->o.op≠.select cs b)(hQ:∀c a w,Q (.panic c) (a.put oi.dst v) w->Q (.panic c) a w)(hT:∀j oj,ops[j]?=OK oj->T j=OX->∃e∈oj.after,Sw md e=OX/\e.on=i)(hTi:T i=RC) :
 ∀ (fuel:Nat) (listed:Array Bool) (a:Act) (w:World),
   (∀j oj,ops[j]?=OK oj->j≠i->listed.getD j OX=RC->(∀e∈oj.after,Sw md e=OX->e.on≠i)->oi.apart ops oj=OX)->
   i∈Se md ops listed->YieldsIf P ops S oi v a->S w->
   jL P md ops Q S T fuel (listed.setIfInBounds i OX) (a.put oi.dst v) w->jL P md ops Q S T (fuel+1) listed a w:=by
 intro fuel
 induction fuel with
 | zero =>
   intro listed a w _ hr hy hS H;refine⟨fun h=>(by rw[h]at hr;cases hr),fun j hj=>?_⟩;by_cases Jf:j=i
   ·subst Jf;exact hy.wpOp hi hS ⟨fun _=>hS,H⟩
   ·have:=cS hj Jf;rw[H.1]at this;cases this
 | succ fuel ih =>
   intro listed a w Bz hr hy hS H;refine⟨fun h=>(by rw[h]at hr;cases hr),fun j hj=>?_⟩;by_cases Jf:j=i
   ·subst Jf;exact hy.wpOp hi hS ⟨fun _=>hS,H⟩
   ·have h1:=H.2 j (cS hj Jf);obtain⟨P0,oj,hoj,ah⟩:=yO hj;have PA:∀e∈oj.after,Sw md e=OX->e.on≠i:=fun e he hb Di=>by
     have h1:=ah e he hb;have h0:=(yO hr).1;rw[Di]at h1;simp only[Sb]at h0 h1;rcases TR i listed.size with h'|h'
     ·simp[h']at h0 h1;rw[h0]at h1;cases h1
     ·simp[Vv h']at h1
    have hTj:T j=RC:=by
     cases hT':T j with
     |false=>rfl
     | true =>
       obtain⟨e,he,hb,Di⟩:=hT j oj hoj hT';exact absurd Di (PA e he hb)
    have h2:=wpOp_putIf hoj (Bz j oj hoj Jf P0 PA) (fun cs b=>O0 i oi cs b hi) (fun cs b=>O0 j oj cs b hoj) hQ hy h1
    have ML:∀k ok,ops[k]?=OK ok->k≠i->(listed.setIfInBounds j OX).getD k OX=RC->
     (∀e∈ok.after,Sw md e=OX->e.on≠i)->oi.apart ops ok=OX:=fun k ok hk hki hun oW=>by
     refine Bz k ok hk hki ?_ oW;by_cases hjk:j=k
     ·subst hjk;exact P0
     ·simp only[Sb]at hun ⊢;rw[TJ hjk]at hun;exact hun
    refine wpOp_mono (fun a' w' h3=>⟨h3.2.1,ih (listed.setIfInBounds j OX) a' w' ML (cS hr (Ne.symm Jf)) h3.1 (h3.2.1 hTj) ?_⟩) h2;rw[Array.setIfInBounds_comm _ _ Jf];exact h3.2.2
def waitT (md:TZ)(ops:Array Oper)(T:Nat->Bool)(i:Nat):Bool:=
 !T i && (List.range ops.size).all fun j=>!T j || ((ops[j]?).map fun o=>o.after.any fun e=>Sw md e && e.on == i).getD OX
theorem waitT_spec {i:Nat}(h:waitT md ops T i=OX):T i=RC/\∀j oj,ops[j]?=OK oj->T j=OX->∃e∈oj.after,Sw md e=OX/\e.on=i:=by
 unfold waitT at h;rw[R3]at h;refine⟨by simpa using h.1,fun j oj hj hT=>?_⟩;have h2:=h.2;rw[List.all_eq_true]at h2;have h3:=h2 j (List.mem_range.2 (Array.getElem?_eq_some_iff.1 hj).1);rw[hT,hj]at h3;simp only[Bool.not_true,Bool.false_or,SR,SD]at h3;rw[Array.any_eq_true']at h3;obtain⟨e,he,h4⟩:=h3;rw[R3,beq_iff_eq]at h4;exact⟨e,he,h4⟩
theorem fq (i:Nat){v:Value}{fuel:Nat}{listed:Array Bool}{a:Act}{w:World}(hs:U6 ops=OX)(hf:Wr md ops listed i=OX)(hr:(Se md ops listed).contains i=OX)(ht:waitT md ops T i=OX)(hQ:∀d c a w,Q (.panic c) (a.put d v) w->Q (.panic c) a w)(hS:S w)(hy:∀oi,ops[i]?=OK oi->YieldsIf P ops S oi v a)(h:∀d,(ops[i]?).bind (·.dst)=d->jL P md ops Q S T fuel (listed.setIfInBounds i OX) (a.put d v) w):jL P md ops Q S T (fuel+1) listed a w:=by
 have hm:i∈Se md ops listed:=by simpa using hr
 obtain⟨_,oi,hi,_⟩:=yO hm;obtain⟨h1,h2⟩:=waitT_spec ht;exact wpAnyS_first hi (Region.noSelect_spec hs) (fun c a w=>hQ _ c a w) h2 h1 fuel listed a w (Region.free_spec hi hf) hm (hy oi hi) hS (h _ (by rw[hi];rfl))
def tks (P:Program)(ops:Array Oper)(S:World->Prop):List Nat->List (Option Tmp)->Act->(Act->Prop)->Prop
 |i::l,d::ds,a,K=>∃v,(∀oi,ops[i]?=OK oi->YieldsIf P ops S oi v a)/\tks P ops S l ds (a.put d v) K
 |[],_,a,K=>K a
 |_::_,[],_,_=>False
def tkOk (md:TZ)(ops:Array Oper)(T:Nat->Bool):List Nat->Array Bool->Bool
 |[],_=>OX
 |i::l,L=>Wr md ops L i && ((Se md ops L).contains i && (waitT md ops T i && tkOk md ops T l (L.setIfInBounds i OX)))
def tkL:List Nat->Array Bool->Array Bool
 |[],L=>L
 |i::l,L=>tkL l (L.setIfInBounds i OX)
def tkN:List Nat->Nat->Nat
 |[],n=>n
 |_::l,n=>tkN l n+1
def tkD (ops:Array Oper):List Nat->List (Option Tmp)
 |[]=>[]
 |i::l=>(ops[i]?).bind (·.dst)::tkD ops l
theorem tk (is:List Nat){fuel:Nat}{listed:Array Bool}{a:Act}{w:World}(hS:S w)(h:∀ds,tkD ops is=ds->tks P ops S is ds a (fun a'=>jL P md ops Q S T fuel (tkL is listed) a' w))(sI:(U6 ops && tkOk md ops T is listed)=OX:=by kernel_rfl)(hQ:∀v d c a w,Q (.panic c) (a.put d v) w->Q (.panic c) a w:=by exact fun _ _ _ _ _ h=>h):jL P md ops Q S T (tkN is fuel) listed a w:=by
 have h':=h _ rfl;clear h;rw[R3]at sI;obtain⟨hs,sI⟩:=sI
 induction is generalizing listed a with
 |nil=>exact h'
 | cons i l ih =>
   rw[tkOk,R3,R3,R3]at sI;rw[tkD,tks]at h';obtain⟨v,hy,hk⟩:=h'
   exact fq i hs sI.1 sI.2.1 sI.2.2.1 (fun d c a w=>hQ v d c a w) hS hy (fun d hd=>by
    rw[hd]at hk
    exact ih hk sI.2.2.2)
theorem pQ (l:List Value)(df:List Deferred)(k:Nat)(v:Value):Act.put ⟨l.toArray,df⟩ (OK k) v=⟨(l.set k v).toArray,df⟩:=by simp[Act.put]
theorem pN (a:Act)(v:Value):Act.put a U v=a:=rfl
theorem pZ (x y:Value)(l:List Value):(x::l).set 0 y=y::l:=rfl
theorem pS (x y:Value)(l:List Value)(n:Nat):(x::l).set (n+1) y=x::l.set n y:=rfl
theorem jU (i:Nat){fuel:Nat}{listed:Array Bool}{a:Act}{w:World}(hr:Se md ops listed=[i])(h:∀ o,ops[i]? = some o->∀ K':Act->World->Prop,Shut (∀ a w,(T i=false->S w)->jL P md ops Q S T fuel (listed.setIfInBounds i true) a w->K' a w) ->
  if Ta o (yielded ops a.tmps)=true then TU P o a w K' Q else K' (a.put o.dst undef) w):jL P md ops Q S T (fuel+1) listed a w:=by
 refine⟨fun h0=>by rw[hr]at h0;simp at h0,fun j hj=>?_⟩;rw[hr]at hj;simp only[List.mem_singleton]at hj;subst hj;obtain⟨_,o,ho,_⟩:=yO (md:=md) (ops:=ops) (L:=listed) (j:=j) (by rw[hr];simp);exact wpOp_step ho (fun K' hK=>h o ho K' (fun a w hS hW=>hK a w ⟨hS,hW⟩))
theorem on (i:Nat){fuel:Nat}{listed:Array Bool}{a:Act}{w:World}(h:∀ o,ops[i]? = some o->∀ K':Act->World->Prop,Shut (∀ a w,(T i=false->S w)->jL P md ops Q S T fuel (listed.setIfInBounds i true) a w->K' a w) ->
  if Ta o (yielded ops a.tmps)=true then TU P o a w K' Q else K' (a.put o.dst undef) w)(hr:Se md ops listed=[i]:=by kernel_rfl):jL P md ops Q S T (fuel+1) listed a w :=
 jU i hr h
theorem oB (i:Nat){fuel:Nat}{listed:Array Bool}{a a':Act}{w w' w'':World}(X:T i=RC->S w'')(k:jL P md ops Q S T fuel (listed.setIfInBounds i OX) a' w')(h:∀ o,ops[i]? = some o->∀ K':Act->World->Prop,K' a' w'->if Ta o (yielded ops a.tmps)=true then TU P o a w K' Q else K' (a.put o.dst undef) w:=by
  (intro o ho K' hK;simp at ho;subst ho;go_simp;(try simp only [pQ,pN,pZ,pS]);exact hK))(e:w''=w':=by exact rfl)(hr:Se md ops listed=[i]:=by kernel_rfl):jL P md ops Q S T (fuel+1) listed a w:=
 jU i hr fun o ho K' hK=>h o ho K' (hK.out _ _ (fun h=>e ▸ X h) k)
theorem oC (i:Nat){fuel:Nat}{listed:Array Bool}{a a':Act}{w w' w'':World}(X:S w'')(k:jL P md ops Q S T fuel (listed.setIfInBounds i OX) a' w')(h:∀ o,ops[i]? = some o->∀ K':Act->World->Prop,K' a' w'->if Ta o (yielded ops a.tmps)=true then TU P o a w K' Q else K' (a.put o.dst undef) w:=by
  (intro o ho K' hK;simp at ho;subst ho;go_simp;(try simp only [pQ,pN,pZ,pS]);exact hK))(e:w''=w':=by exact rfl)(hr:Se md ops listed=[i]:=by kernel_rfl):jL P md ops Q S T (fuel+1) listed a w:=oB i (fun _=>X) k h e hr
def tkE (P:Program)(ops:Array Oper)(S:World->Prop):List Nat->Act->(Act->Prop)->Prop
 |[],a,K=>K a
 |i::l,a,K=>∃v,(∀oi,ops[i]?=OK oi->YieldsIf P ops S oi v a)/\∃a',(∀oi,ops[i]?=OK oi->a.put oi.dst v=a')/\tkE P ops S l a' K
theorem tC (is:List Nat){fuel:Nat}{listed:Array Bool}{a:Act}{w:World}(hS:S w)(h:tkE P ops S is a (fun a'=>jL P md ops Q S T fuel (tkL is listed) a' w))(sI:(U6 ops && tkOk md ops T is listed)=OX:=by kernel_rfl)(hQ:∀v d c a w,Q (.panic c) (a.put d v) w->Q (.panic c) a w:=by exact fun _ _ _ _ _ h=>h):jL P md ops Q S T (tkN is fuel) listed a w:=by
 rw[R3]at sI;obtain⟨hs,sI⟩:=sI
 induction is generalizing listed a with
 |nil=>exact h
 | cons i l ih =>
   rw[tkOk,R3,R3,R3]at sI;rw[tkE]at h;obtain⟨v,hy,a',ha,hk⟩:=h;have hm:i∈Se md ops listed:=by simpa using sI.2.1
   obtain⟨_,o,ho,_⟩:=yO hm
   exact fq i hs sI.1 sI.2.1 sI.2.2.1 (fun d c a w=>hQ v d c a w) hS hy (fun d hd=>by
    rw[ho]at hd;have hd:o.dst=d:=hd;rw[<- hd,ha o ho]
    exact ih hk sI.2.2.2)
theorem tz {a:Act}{K:Act->Prop}(h:K a):tkE P ops S [] a K:=h
theorem tx {i:Nat}{l:List Nat}{a a':Act}{K:Act->Prop}{v:Value}(k:tkE P ops S l a' K)(e:∀oi,ops[i]?=OK oi->YieldsIf P ops S oi v a:=by(intro oi ho;simp at ho;subst ho;refine Or.inl ⟨by rfl,fun w' sL=>?_⟩;go_simp;try with_reducible rfl))(ha:∀oi,ops[i]?=OK oi->a.put oi.dst v=a':=by(intro oi ho;simp at ho;subst ho;simp only[pQ,pN,pZ,pS];exact rfl)):tkE P ops S (i::l) a K:=⟨v,e,a',ha,k⟩
theorem tl {F:World->Prop}{i:Nat}{l:List Nat}{a a':Act}{K:Act->Prop}{v:Value}(H:∀w',S w'->F w')(k:tkE P ops S l a' K)(e:∀oi,ops[i]?=OK oi->YieldsIf P ops F oi v a:=by(intro oi ho;simp at ho;subst ho;refine Or.inl ⟨by rfl,fun w' sL=>?_⟩;go_simp;try with_reducible rfl))(ha:∀oi,ops[i]?=OK oi->a.put oi.dst v=a':=by(intro oi ho;simp at ho;subst ho;simp only[pQ,pN,pZ,pS];exact rfl)):tkE P ops S (i::l) a K:=
 ⟨v,fun oi ho=>(e oi ho).imp (fun h=>⟨h.1,fun w' hw=>h.2 w' (H w' hw)⟩) id,a',ha,k⟩
theorem qU (i j:Nat){fuel:Nat}{listed:Array Bool}{a:Act}{w:World}(hr:Se md ops listed=[i,j])(h:∀ o,ops[i]? = some o->∀ K':Act->World->Prop,Shut (∀ a w,(T i=false->S w)->jL P md ops Q S T fuel (listed.setIfInBounds i true) a w->K' a w) ->
  if Ta o (yielded ops a.tmps)=true then TU P o a w K' Q else K' (a.put o.dst undef) w)(h2:∀ o,ops[j]? = some o->∀ K':Act->World->Prop,Shut (∀ a w,(T j=false->S w)->jL P md ops Q S T fuel (listed.setIfInBounds j true) a w->K' a w) ->
  if Ta o (yielded ops a.tmps)=true then TU P o a w K' Q else K' (a.put o.dst undef) w):jL P md ops Q S T (fuel+1) listed a w:=by
 refine⟨fun h0=>by rw[hr]at h0;simp at h0,fun k hk=>?_⟩;obtain⟨_,o,ho,_⟩:=yO hk;rw[hr]at hk;simp only[List.mem_cons,List.not_mem_nil,or_false]at hk;rcases hk with rfl|rfl
 ·exact wpOp_step ho (fun K' hK=>h o ho K' (fun a w hS hW=>hK a w ⟨hS,hW⟩))
 ·exact wpOp_step ho (fun K' hK=>h2 o ho K' (fun a w hS hW=>hK a w ⟨hS,hW⟩))
theorem zX {listed:Array Bool}{a:Act}{w:World}(hr:Se md ops listed=[])(h:Q .normal a w) :
 ∀fuel,jL P md ops Q S T fuel listed a w
 |0=>⟨hr,h⟩
 |_+1=>⟨fun _=>h,by rw[hr];simp⟩
theorem vL {id:Nat}{a:Act}{w:World}(S:World->Prop)(T:Nat->Bool)(hm:P.follows .mixedOrders=OX)(h:jL P .any ops Q S T ops.size (U7 ops.size RC) a w.drew):(Code.region id ops OX).wp P Q a w:=
 wp_region_any hm (my _ _ _ _ h)
theorem rS {id:Nat}{a:Act}{w:World}(S:World->Prop)(T:Nat->Bool)(h0:S w.drew)(h:S w.drew->jL P .any ops (NoPanic Q) S T ops.size (U7 ops.size RC) a w.drew)(hm:P.follows .mixedOrders=OX:=by kernel_rfl):(Code.region id ops OX).wp P Q a w:=wp_region_noPanic (vL S T hm (h h0))
theorem rB {id:Nat}{a:Act}{w:World}(h:(fun w'=>No w w') w.drew->jL P .any ops (NoPanic Q) (fun w'=>No w w') (fun _=>RC) ops.size (U7 ops.size RC) a w.drew)(hm:P.follows .mixedOrders=OX:=by kernel_rfl):(Code.region id ops OX).wp P Q a w:=rS _ _ (Below.drew (sQ _ _)) h hm
end
theorem out_cell {m:Nat->Prop}{w6 w7:World}{o:Obj}{ob f:Nat}{u:Value}(hb:But m (w6.alloc o) w7)(hm:¬m ob)(h:w6 (ob,f)=u):w7 (ob,f)=u:=by
 have sC:=sK w6 ⟨ob,f,U⟩ h;rw[hb.cell (p:=(ob,f)) (by rw[zK];exact Nat.lt_succ_of_lt sC) hm];exact zV h
theorem out_free {m:Nat->Prop}{w6 w7:World}{o:Obj}{ob f:Nat}(hb:But m (w6.alloc o) w7)(hm:¬m ob)(sC:ob<w6)(h:w6.frozen? (ob,f)=RC):w7.frozen? (ob,f)=RC:=by
 rw[SK (w:=w6) (by rw[hb.block _ (by rw[zK];omega) hm,Below.heap_alloc _ _ _ sC])];exact h
theorem but_cell {rd:Nat}{w w':World}(hb:But (· = rd) w w'){b o:Nat}{u:Value}(hne:b≠rd)(h:w (b,o)=u):w' (b,o)=u:=
 (hb.cell (p:=(b,o)) (sK w ⟨b,o,U⟩ h) hne).trans h
theorem but_free {rd:Nat}{w w':World}(hb:But (· = rd) w w'){b o:Nat}(hne:b≠rd)(sC:b<w)(h:w.frozen? (b,o)=RC):w'.frozen? (b,o)=RC:=by
 rw[SK (w:=w) (hb.block b sC hne)];exact h
theorem zz.thru {w w':World}{size g n c m:Nat}{news:List Value}{q:Nat->Prop}(h:zz size (.slice g n c) m news w)(hb:But q w w')(hq:¬q g):zz size (.slice g n c) m news w':=by
 obtain⟨h1,h2,⟨a,c',e,h3⟩ | ⟨e,_⟩⟩:=h
 ·simp only[RT,RK]at e;obtain⟨rfl,rfl,rfl⟩:=e;refine⟨h1,h2,.inl ⟨_,_,rfl,fun j u hu=>?_⟩⟩;have h4:=h3 j u hu;have sW:(Addr.add ⟨g,0,U⟩ j).block=g:=by unfold Addr.add;split <;> rfl
  exact(hb.cell (sK w _ h4) (by rw[sW];exact hq)).trans h4
 ·simp at e
theorem wP (w:World)(o o':Obj):((w.alloc o).alloc o').heap.size=w+1+1:=by rw[zK,zK]
def uT (size:Nat)(v:Value)(n:Nat)(xs:List Value)(w:World):Prop:=
 xs.length=n*size/\((∃b,v=.slice (OK b) n n/\∀(j:Nat) u,xs[j]?=OK u->w.cell? (b.add j)=OK u)\/(v=.slice U 0 0/\n=0))
theorem mE {P:Program}{w:World}(t ty e:TypeId)(i:TypeInfo)(z:Value)(size bytes:Nat)(ht:P.underlying t=OK (.slice e))(hi:P.info? e=i)(hz:i.zero=z)(iO:i.size=size)(aI:i.bytes=bytes)(Dt:z.cells.size=size)(v:Value)(n:Nat)(xs:List Value)(si:uT size v n xs w)(x:Value)(m:Nat)(news:List Value)(hs:zz size x m news w)(hm:0<m)(DR:n+m<=maxLen)(iB:(n+m)*bytes<=140737488355328) :
 ∃c' w',(Builtin.append_ #[t,t] ty #[v,x]).run P w=.ok (.slice w (n+m) c') w'/\Own w' e size (.slice w (n+m) c') (n+m) (xs++news)/\No w w':=by
 obtain⟨hl,h1,⟨a,c,rfl,aZ⟩ | ⟨rfl,rfl⟩⟩:=hs
 ·subst iO;subst aI;have Mf:n+m<=9223372036854775807:=by simp only[maxLen]at DR;omega
  have hlen:(xs++news).length=(n+m)*i.size:=by rw[RL,si.1,hl,Uo]
  have grown:∀(old:Nat),
   Own (w.drew.alloc (.cells (xs.toArray++news.toArray++Builtin.zeroCells z.cells (grownCap w (n+m) old e-(n+m))) e)) e i.size
    (.slice w (n+m) (grownCap w (n+m) old e)) (n+m) (xs++news) /\
   No w (w.drew.alloc (.cells (xs.toArray++news.toArray++Builtin.zeroCells z.cells (grownCap w (n+m) old e-(n+m))) e)):=by
   intro old;have Bx:=grownCap_ge w (n+m) old e;have Qq:grownCap w (n+m) old e<=maxLen:=grownCap_le_maxLen w (n+m) old e DR;refine⟨⟨hlen,.inr ⟨w,_,_,rfl,R6 _,Go.heap_alloc_new w.drew _,Bx,Qq,?_,?_⟩⟩,((sQ _ w).drew).alloc (sZ _) _⟩
   ·simp only[Array.size_append,List.size_toArray,size_zeroCells,Dt,si.1,hl,<- Uo]
    congr 1
    omega
   ·simp only[Array.toList_append,Sn];rw[<- Sn,<- hlen];exact List.take_left
  rcases si.2 with ⟨b,rfl,holds⟩|⟨rfl,rfl⟩
  ·have hr:=run_append_grow (P:=P) w t ty e i z ht hi hz b n n xs si.1 holds a m c news hl aZ (by omega) (by omega) (growslice_fits (by omega) iB);exact⟨_,_,hr,grown n⟩
  ·have hx:xs=[]:=St (by simpa using si.1);subst hx;have hr:=run_append_nil (P:=P) w t ty e i z ht hi hz a m c news hl aZ (by omega) (by omega) (by have hb:=iB;simp only[SU]at hb;omega);have FY:=grown 0;simp only[SU,List.nil_append,Array.empty_append]at FY ⊢;exact⟨_,_,hr,FY⟩
 ·omega
theorem wi {P:Program}{w:World}{ops:Array Oper}{o:Oper}{a:Act}{K:Act->World->Prop}{Q:Exit->Act->World->Prop}{E:Prop}(MI:o.guard=U)(s x:Operand)(t:TypeId)(ho:o.op=.call { callee:=.builtin .append,args:=#[s,x],argTypes:=#[t,t] })(e:TypeId)(z:Value)(size bytes:Nat)(ht:P.underlying t=OK (.slice e))(hi:(P.info? e).map (fun i=>(i.zero,i.size,i.bytes))=OK (OK z,size,bytes))(Dt:z.cells.size=size)(v:Value)(n:Nat)(xs:List Value)(hs:a.eval s=v)(si:uT size v n xs w)(y:Value)(m:Nat)(news:List Value)(hx:a.eval x=y)(aD:zz size y m news w)(hm:0<m)(DR:n+m<=maxLen)(iB:(n+m)*bytes<=140737488355328)(h:∀ c' w',Own w' e size (.slice w (n+m) c') (n+m) (xs++news)->Below w w w' ->
  K (a.put o.dst (.slice w (n+m) c')) w'):if Ta o (yielded ops a.tmps)=true then TU P o a w K Q else E:=by
 rw[if_pos (by simp[Ta,MI])];obtain⟨i,hi,hz,iO,aI⟩:=info_parts hi;obtain⟨c',w',hr,h2,h3⟩:=mE (P:=P) (w:=w) t o.type e i z size bytes ht hi hz iO aI Dt v n xs si y m news aD hm DR iB;unfold TU execOp;simp only[ho,resolve,invoke,builtin,Sem.run_bind,Sem.run_pure,Result.andThen_ok,List.map_toArray,Sa,List.map_nil,hs,hx,hr];exact h c' w' h2 h3
theorem uT.ofRep {F:Nat->Prop}{w:World}{e:TypeId}{sz n:Nat}{cs:List DV}{a:Option Addr}{c:Nat}(h:Rep F w (.sl e sz n cs) (.slice a n c))(FR:∀us,zY F w cs us->∀u∈us,u.oneCell'=OX) :
 ∃xs,zY F w cs xs/\uT sz (.slice a n n) n xs w:=by
 obtain⟨xs,h1,h2,_,h4⟩:=zz.ofRep h FR;refine⟨xs,h1,h2,?_⟩;rcases h4 with ⟨b,c',e1,h5⟩|⟨e1,rfl⟩
 ·injection e1 with e2 e3 e4;subst e2;exact .inl ⟨b,rfl,h5⟩
 ·injection e1 with e2 e3 e4;subst e2;exact .inr ⟨rfl,rfl⟩
theorem uT.drew {w:World}{size n:Nat}{v:Value}{xs:List Value}(h:uT size v n xs w):uT size v n xs w.drew:=h
theorem je {P:Program}{c:Code}{Q:Exit->Act->World->Prop}{a:Act}{w:World}{X:Type}(f:Act->X->Act)(F:X->World->Prop)(h1:c.wp P (fun e a' w'=>e=.normal/\∃x,a'=f a x/\F x w') a w)(h2:∀x w',F x w'->Q .normal (f a x) w'):c.wp P Q a w:=
 Code.wp_mono (fun e a' w' ⟨he,x,hx,hF⟩=>by subst he;subst hx;exact h2 x w' hF) h1
theorem zj {w:World}{b o:Nat}{c:Array Value}{e:TypeId}{u:Value}(h:w.heap[b]?=OK (.cells c e (0,0))):(w.setCell (b,o) u).heap[b]?=OK (.cells (c.setIfInBounds o u) e (0,0)):=by
 have sC:=zZ h;have h':w.heap[b]=.cells c e (0,0):=by simpa[Sh sC] using h
 show (w.heap.modify b _)[b]?=_;rw[Sh (by simpa using sC),Array.getElem_modify_self,h'];simp
structure z8 (F0:Nat->Prop)(W:World)(g:Nat)(o:Obj)(d:List DV)(v:List Value)(Z:World):Prop where
 below:No W Z
 new:W<=g
 blk:Z.heap[g]?=OK o
 rep:zY (fun i=>(F0 i\/W<=i)/\i≠g) Z d v
theorem z8.first {F0:Nat->Prop}{W V0 V1 Z:World}{o:Obj}{d:List DV}{v:List Value}(hF0:∀i,F0 i->i<(W:Nat))(h0:No W V0)(I5:(V0:Nat)=W+1)(hb:No V0 V1)(hr:zY (fun i=>F0 i\/(V0:Nat)<=i) V1 d v)(ib:But (fun i=>i=(W:Nat)) V1 Z)(sW:Z.heap[(W:Nat)]?=OK o):z8 F0 W W o d v Z:=by
 have hz:=hb.size;have sX:No W V1:=h0.trans (hb.mono (by omega));refine⟨sX.trans (ib.toBelow (by omega) fun i hi e=>by omega),sZ _,sW,?_⟩;refine(Rep.keep fun i x hi hx=>?_).2 _ _ hr;have hne:i≠W:=by rcases hi with h|h;have:=hF0 i h;omega;omega
 exact⟨⟨hi.elim .inl (fun h=>.inr (by omega)),hne⟩,by rw[ib.block i (zZ hx) hne];exact hx⟩
theorem z8.last {F0:Nat->Prop}{W V1 Z:World}{z o:Obj}{d:List DV}{v:List Value}(hb:No W V1)(hr:zY (fun i=>F0 i\/W<=i) V1 d v)(ib:But (fun i=>i=V1) (V1.alloc z) Z)(sW:Z.heap[(V1:Nat)]?=OK o):z8 F0 W V1 o d v Z:=by
 have hz:=hb.size;refine⟨(hb.alloc hz z).trans (ib.toBelow (by rw[zK];omega) fun i hi e=>by omega),hz,sW,?_⟩;refine(Rep.keep fun i x hi hx=>?_).2 _ _ hr;have hl:=zZ hx;have hne:i≠V1:=by omega
 exact⟨⟨hi,hne⟩,by rw[ib.block i (by rw[zK];omega) hne,Below.heap_alloc _ _ _ hl];exact hx⟩
theorem z8.fresh {F0:Nat->Prop}{W V1:World}{cs:Array Value}{T:TypeId}{d:List DV}{v:List Value}(hb:No W V1)(hr:zY (fun i=>F0 i\/W<=i) V1 d v):z8 F0 W V1 (.cells cs T (0,0)) d v (V1.alloc (.cells cs T)):=by
 refine⟨hb.alloc hb.size _,hb.size,zW _ _,?_⟩;refine(Rep.keep fun i x hi hx=>?_).2 _ _ hr;have hl:=zZ hx;exact⟨⟨hi,by omega⟩,zJ hx⟩
theorem z8.cell0 {F0:Nat->Prop}{W:World}{g:Nat}{u:Value}{T:TypeId}{d:List DV}{v:List Value}{Z:World}(h:z8 F0 W g (.cells #[u] T (0,0)) d v Z):Z g=u:=by
 simp only[RE,h.blk];rfl
theorem but1 (w:World)(g:Nat)(u:Value):But (fun i=>i=g) w (w.setCell g u):=(But.refl (fun i=>i=g) w).setCell (p:=g) (.inl rfl) u
theorem qX {w:World}{g:Nat}{u:Value}{T:TypeId}(h:w.heap[g]?=OK (.cells #[u] T (0,0)))(v:Value) :
 ∃W,W=w.setCell g v/\W g=v/\(∀B w0,Below B w0 w->B<=g->Below B w0 W)/\(∀i x,i≠g->w.heap[i]?=OK x->W.heap[i]?=OK x):=by
 have hc:(w.setCell g v).heap[g]?=OK (.cells #[v] T (0,0)):=by rw[zj h];rfl
 refine⟨_,rfl,by simp only[RE,hc];rfl,fun B w0 hb hB=>hb.setCell (p:=g) hB _,fun i x hi hx=>?_⟩;rw[sJ _ _ _ _ (by simpa using hi)];exact hx
theorem but4 (w:World)(g:Nat)(u0 u1 u2 u3:Value):But (fun i=>i=g) w ((((w.setCell g u0).setCell (g,1) u1).setCell (g,2) u2).setCell (g,3) u3):=
 ((((But.refl (fun i=>i=g) w).setCell (p:=g) (.inl rfl) _).setCell (p:=⟨g,1,U⟩) (.inl rfl) _).setCell (p:=⟨g,2,U⟩) (.inl rfl) _).setCell (p:=⟨g,3,U⟩) (.inl rfl) _
end Go.Proofs.YtnfenijemllkbaaGreatDoor

/- Walks. -/
import Derived.Deep.Cut
import Derived.Test.YtpgiohmcggllgaaGreatDoorQ7
set_option linter.unusedVariables false
set_option linter.unusedSimpArgs false
set_option maxHeartbeats 8000000
set_option maxRecDepth 100000
open Go.Proofs.YtpgiohmcggllgaaGreatDoor renaming ev->Qw
open Go.Addr.mk renaming injEq->OI
open Go.Proofs.Tryz renaming func138->S8,func171->PE,func18->PC,ntmps138->SF,ntmps171->PA,ntmps18->Pw,prog->KD,underlying196->Pk
open Go.Value renaming oneCell'->Of,ownBlock->N7,slice->Nq
open Go.Value.slice renaming injEq->N_
open Go.World renaming cell?->GD,ownsRow_nil->OL
open List renaming append_assoc->OF,append_nil->Ov,drop->QA,eq_nil_of_length_eq_zero->Ox,getElem?_append_left->Ou,getElem?_append_right->Ow,getElem?_cons_succ->N8,getElem?_cons_zero->N9,getElem?_eq_some_iff->N6,length_append->NZ,length_cons->N5,map_cons->Ol,map_nil->OU,mem_append->Oy,mem_cons->Om,mem_of_getElem?->Oc,take_succ_cons->Pg,take_zero->QS
open List.cons renaming injEq->Od
open Option renaming bind_eq_some_iff->No,bind_some->Mm,map_eq_some_iff->N3
open Option.some renaming inj->Ob,injEq->N1
namespace Go.Proofs.YtpgiohmcggllgaaGreatDoor
open Go.RowKit
theorem ev_zero (d:Nat) (b:Bd) (env:List Mn) (n:Nat) (st:List Gf):Qw d 0 b env n st=none:=by
 cases d with
 | zero=>rw [ev.eq_def]
 | succ d=>rw [ev.eq_def]
theorem owns_take {env:List Mn}:∀ (ts:List Ty) (ss:List Bd) (k:Nat) (t:Ty) (s:Bd),ts[k]? = some t->ss[k]? = some s->jZ env (ts.take (k+1)) (ss.take (k+1))=jZ env (ts.take k) (ss.take k)++[.bd t s env]
 | [],ss,k,t,s,h,_=>by simp at h
 | t'::ts,[],k,t,s,_,h=>by simp at h
 | t'::ts,s'::ss,k,t,s,h1,h2=>by
   cases k with
   | zero =>
     simp at h1 h2;subst h1;subst h2;simp only [Pg,QS,jZ];rfl
   | succ k =>
     simp only [N8] at h1 h2;rw [Pg,Pg,Pg,Pg,jZ,jZ,owns_take ts ss k t s h1 h2];rfl
theorem uS.form {F:Nat->Prop} {w:World} {aa n:Nat}:∀ {st:List Gf} {on:Value},uS F w aa n st on->on=.nilFunc\/∃ cs,on=.func (.func 198) #[] cs
 | [],on,h=>.inl h
 | f::st,on,h=>by
   obtain ⟨b1,b2,b3,b4,b5,bp,ev,o5,vv,ss,e,_⟩:=h;exact .inr ⟨_,e⟩
theorem Tryz.goesNil (w:World):Sem.run KD (binOp .eql 281 .nilFunc .nilFunc) w=.ok (.bool true) w:=by kernel_rfl
theorem Tryz.goesFn (f:Fn) (a b:Array Value) (w:World):Sem.run KD (binOp .eql 281 (.func f a b) .nilFunc) w=.ok (.bool false) w:=by kernel_rfl
theorem boxes5 (w:World) (p b e l o:Value) (T1 T2 T3 T4 T5:TypeId):∃ W,((((w.alloc (.cells #[p] T1)).alloc (.cells #[b] T2)).alloc (.cells #[e] T3)).alloc (.cells #[l] T4)).alloc (.cells #[o] T5)=W/\Below w.heap.size w W/\w.heap.size+5<=W.heap.size /\
 W.cell? ⟨w.heap.size,0,none⟩=some p/\W.cell? ⟨w.heap.size+1,0,none⟩=some b/\W.cell? ⟨w.heap.size+1+1,0,none⟩=some e/\W.cell? ⟨w.heap.size+1+1+1,0,none⟩=some l/\W.cell? ⟨w.heap.size+1+1+1+1,0,none⟩=some o:=by
 have key:∀ (w:World) (v:Value) (T:TypeId),(w.alloc (.cells #[v] T)).cell? ⟨w.heap.size,0,none⟩=some v:=fun w v T=>by simp
 have k1:=key w p T1;have k2:=key (w.alloc (.cells #[p] T1)) b T2;have k3:=key ((w.alloc (.cells #[p] T1)).alloc (.cells #[b] T2)) e T3;have k4:=key (((w.alloc (.cells #[p] T1)).alloc (.cells #[b] T2)).alloc (.cells #[e] T3)) l T4;have k5:=key ((((w.alloc (.cells #[p] T1)).alloc (.cells #[b] T2)).alloc (.cells #[e] T3)).alloc (.cells #[l] T4)) o T5;simp only [zK] at k2 k3 k4 k5;refine ⟨_,rfl,?_,by simp only [zK];omega,zV (zV (zV (zV k1))),zV (zV (zV k2)),zV (zV k3),zV k4,k5⟩;exact (((((mw w.heap.size w).alloc (my _) _).alloc (by simp only [zK];omega) _).alloc (by simp only [zK];omega) _).alloc (by simp only [zK];omega) _).alloc (by simp only [zK];omega) _
theorem eval_out (F:Nat->Prop) (aa d n bb:Nat) (ea:Option Addr) (el ec:Nat) (b:Bd) (env:List Mn) (st:List Gf) (on:Value) (w:World) (AI:on=.nilFunc\/∃ cs,on=.func (.func 198) #[] cs) (hg:yW w) (hng:aa≠2) (ha:Apl w aa 0) :
 Calls KD 171 #[.pointer (some ⟨aa,0,none⟩),.pointer (some ⟨bb,0,none⟩),.slice ea el ec,.int .i64 (n:Nat),on] w (kR F aa (Qw d 0 b env n st) w):=by
 rw [ev_zero];obtain ⟨W,hW,nV,th,q1,q2,q3,q4,q5⟩:=boxes5 w (.pointer (some ⟨aa,0,none⟩)) (.pointer (some ⟨bb,0,none⟩)) (.slice ea el ec) (.int .i64 (n:Nat)) on 242 33 196 3 281;obtain ⟨c0,f0,lt0⟩:=(ha.below nV).cell;have c0':W.cell? ⟨aa,0,none⟩=some (.int .i64 0):=c0;obtain ⟨a0,aE⟩:=hg;have tU:=(nV.cell (mx w _ aE)).trans aE;have HG:=mj (mu aE (mu hW nV));clear ha c0 aE hW nV;rcases AI with rfl | ⟨cs,rfl⟩
 all_goals
  go_enter PE,PA;go_upto_region 1 with (fail)
  rw [HG.out.2.1];go_wp2_with fail
  go_quiet (fail);go_wp2_with fail
  go_ret2
  refine kR.none rfl ?_ HG.out.1;exact But.ofBelow (vB HG.out.2.2 _)
theorem pC {w:World} {aa l n bb:Nat} {ea:Option Addr} {el ec:Nat} {on:Value} {T1 T2 T3 T4 T5:TypeId} (ha:Apl w aa (l+1)) :
 ∃ W W2,((((w.alloc (.cells #[.pointer (some ⟨aa,0,none⟩)] T1)).alloc (.cells #[.pointer (some ⟨bb,0,none⟩)] T2)).alloc (.cells #[.slice ea el ec] T3)).alloc (.cells #[.int .i64 (n:Nat)] T4)).alloc (.cells #[on] T5)=W/\W.setCell ⟨aa,0,none⟩ (.int .i64 (l:Nat))=W2 /\
   W.cell? ⟨w.heap.size,0,none⟩=some (.pointer (some ⟨aa,0,none⟩))/\W.cell? ⟨aa,0,none⟩=some (.int .i64 ((l+1:Nat):Int))/\W.frozen? ⟨aa,0,none⟩=false /\
   But (· = aa) w W2/\Apl W2 aa l/\w.heap.size+5<=W2.heap.size /\
   W2.cell? ⟨w.heap.size,0,none⟩=some (.pointer (some ⟨aa,0,none⟩))/\W2.cell? ⟨w.heap.size+1,0,none⟩=some (.pointer (some ⟨bb,0,none⟩))/\W2.cell? ⟨w.heap.size+1+1,0,none⟩=some (.slice ea el ec)/\W2.cell? ⟨w.heap.size+1+1+1,0,none⟩=some (.int .i64 (n:Nat))/\W2.cell? ⟨w.heap.size+1+1+1+1,0,none⟩=some on:=by
 obtain ⟨W,hW,nV,th,q1,q2,q3,q4,q5⟩:=boxes5 w (.pointer (some ⟨aa,0,none⟩)) (.pointer (some ⟨bb,0,none⟩)) (.slice ea el ec) (.int .i64 (n:Nat)) on T1 T2 T3 T4 T5;have haW:=ha.below nV;obtain ⟨c0,f0,lt0⟩:=haW.cell;have m_:=ha.cell.2.2;have me:But (· = aa) W (W.setCell ⟨aa,0,none⟩ (.int .i64 (l:Nat))):=(But.refl (· = aa) W).setCell (p:=⟨aa,0,none⟩) (.inl rfl) _;have past:∀ (b:Nat) (v:Value),w.heap.size<=b->W.cell? ⟨b,0,none⟩=some v->(W.setCell ⟨aa,0,none⟩ (.int .i64 (l:Nat))).cell? ⟨b,0,none⟩=some v:=fun b v hb hc=>(me.cell (mx W _ hc) (fun e=>by have e:b=aa:=e;omega)).trans hc;refine ⟨W,_,hW,rfl,q1,c0,f0,(But.ofBelow nV).trans me,?_,by simpa [World.setCell] using th,past _ _ (by omega) q1,past _ _ (by omega) q2,past _ _ (by omega) q3,past _ _ (by omega) q4,past _ _ (by omega) q5⟩;unfold Apl at *;rw [zy haW];rfl
theorem eval_end (F:Nat->Prop) (aa d l n bb:Nat) (ea:Option Addr) (el ec:Nat) (c:UInt8) (env:List Mn) (st:List Gf) (on:Value) (w:World) (hF:∀ i,F i->i≠aa) (ha:Apl w aa (l+1)) (hl:l<=20000) (rb:Rep F w (k_ (.leaf c)) (.pointer (some ⟨bb,0,none⟩)))
 (h:(c=117/\(on=.nilFunc\/∃ cs,on=.func (.func 198) #[] cs))\/(c≠117/\on=.nilFunc/\st=[])) :
 Calls KD 171 #[.pointer (some ⟨aa,0,none⟩),.pointer (some ⟨bb,0,none⟩),.slice ea el ec,.int .i64 (n:Nat),on] w (kR F aa (Qw (d+1) (l+1) (.leaf c) env n st) w):=by
 have hev:Qw (d+1) (l+1) (.leaf c) env n st=some (.leaf c,l):=by
  rcases h with ⟨rfl,_⟩ | ⟨hc,_,rfl⟩
  ·rw [ev_u]
  ·rw [ev_end]
 rw [hev];clear hev;obtain ⟨W,W2,hW,rQ,q0,q1,f1,me,i_,sI,p0,p1,p2,p3,p4⟩:=pC (n:=n) (bb:=bb) (ea:=ea) (el:=el) (ec:=ec) (on:=on) (T1:=242) (T2:=33) (T3:=196) (T4:=3) (T5:=281) ha;have ly:Rep F W2 (k_ (.leaf c)) (.pointer (some ⟨bb,0,none⟩)):=rb.but me (fun b hb=>⟨hF b hb,hb⟩);obtain ⟨b',sl,e,_,mm,_⟩:=wI ly;cases e;have r0:W2.cell? ⟨bb,0,none⟩=some (str [c]):=by simp [GD,mm]
 have q1':W.cell? ⟨aa,0,none⟩=some (.int .i64 ((l:Int)+1)):=q1;have FY:((l:Int)+1 == 0)=false:=by rw [beq_eq_false_iff_ne];omega
 have HW:=mj (mu hW (mu rQ (mu me (mu i_ ly))));have CL:=mj (y_ F W2 c (.pointer (some ⟨bb,0,none⟩)) ly);clear hW rQ me i_ ly rb ha q1 mm;rcases h with ⟨rfl,rfl | ⟨cs,rfl⟩⟩ | ⟨hc,rfl,rfl⟩
 ·go_enter PE,PA;go_upto_region 1 with (fail)
  rw [HW.out.1];go_upto_region 4 with (fail)
  rw [HW.out.2.1];go_wp2_with fail
  go_ret2
  exact kR.some rfl HW.out.2.2.1 HW.out.2.2.2.1 (HW.out.2.2.2.2.weak fun i h=>.inl h)
 ·go_enter PE,PA;go_upto_region 1 with (fail)
  rw [HW.out.1];go_upto_region 4 with (fail)
  rw [HW.out.2.1];go_wp2_with fail
  go_ret2
  exact kR.some rfl HW.out.2.2.1 HW.out.2.2.2.1 (HW.out.2.2.2.2.weak fun i h=>.inl h)
 ·have hcc:([c] == [117])=false:=by simpa using hc
  have hgn:=Tryz.goesNil;go_enter PE,PA;go_upto_region 1 with (fail)
  rw [HW.out.1];go_upto_region 4 with (fail)
  rw [HW.out.2.1];go_wp2_with fail
  (with_reducible refine CL.out.mono ?_);rintro en w3 ⟨rfl,rfl⟩
  go_wp2_with fail
  go_ret2
  exact kR.some rfl HW.out.2.2.1 HW.out.2.2.2.1 (HW.out.2.2.2.2.weak fun i h=>.inl h)
theorem c_ {F:Nat->Prop} {aa:Nat} {o:Option (Bd×Nat)} {w:World} {a0:Addr} (hc:w.cell? ⟨2,0,none⟩=some (.iface 330 (.pointer (some a0)))) {P:Program} {f:FuncId} {args:Array Value} (h:Calls P f args w (kR F aa o w)) :
 (o=none->Calls P f args w fun en w'=>en=.returned (.tuple #[.pointer none,.iface 330 (.pointer (some a0))])/\But (· = aa) w w') /\
 (∀ x,o=some x->Calls P f args w fun en w'=>∃ vb,en=.returned (.tuple #[.pointer (some ⟨vb,0,none⟩),.nilIface])/\But (· = aa) w w'/\Apl w' aa x.2/\Rep (fun i=>F i\/w.heap.size<=i) w' (k_ x.1) (.pointer (some ⟨vb,0,none⟩))):=by
 refine ⟨fun ho=>h.mono ?_,fun x ho=>h.mono ?_⟩
 ·rintro en w' ⟨hb,hn,_⟩;obtain ⟨a,rfl,ha⟩:=hn ho;rw [hc] at ha;simp at ha;subst ha;exact ⟨rfl,hb⟩
 ·rintro en w' ⟨hb,_,hy⟩;obtain ⟨v,rfl,ha,hr⟩:=hy x.1 x.2 ho;obtain ⟨vb,rfl⟩:=za hr;exact ⟨vb,rfl,hb,ha,hr⟩
theorem eval_back (d:Nat) (ih:wh d) (F:Nat->Prop) (aa l n bb:Nat) (H:List Ty) (ea:Option Addr) (el ec:Nat) (c:UInt8) (env:List Mn) (f:Gf) (st:List Gf) (on:Value) (w:World) (hc:c≠117)
 (h:pR F aa (l+1) (d+1) n H (.leaf c) env (f::st) (.pointer (some ⟨bb,0,none⟩)) (.slice ea el ec) on w) :
 Calls KD 171 #[.pointer (some ⟨aa,0,none⟩),.pointer (some ⟨bb,0,none⟩),.slice ea el ec,.int .i64 (n:Nat),on] w (kR F aa (Qw (d+1) (l+1) (.leaf c) env n (f::st)) w):=by
 rw [ev_back hc];obtain ⟨b1,b2,b3,b4,b5,bp,ev5,on5,vv5,ss5,e,⟨n1,n2,n3,n4,n5⟩,c1,r1,c2,c3,r3,c4,c5,r5⟩:=h.ro;subst e;have BL:=h.ld;have F7:=h.d20;have oX:=h.okg.1;have ia:=h.nl;obtain ⟨W,W2,hW,rQ,q0,q1,f1,me,i_,sI,p0,p1,p2,p3,p4⟩:=pC (n:=n) (bb:=bb) (ea:=ea) (el:=el) (ec:=ec) (on:=.func (.func 198) #[] #[.pointer (some ⟨b1,0,none⟩),.pointer (some ⟨b2,0,none⟩),.pointer (some ⟨b3,0,none⟩),.pointer (some ⟨b4,0,none⟩),.pointer (some ⟨b5,0,none⟩)]) (T1:=242) (T2:=33) (T3:=196) (T4:=3) (T5:=281) h.apl;have hF:∀ b,F b->¬ (b=aa)/\F b:=fun b hb=>⟨h.hF b hb,hb⟩;have ly:Rep F W2 (k_ (.leaf c)) (.pointer (some ⟨bb,0,none⟩)):=h.rb.but me hF;obtain ⟨b',sl,e,EQ,mm,_⟩:=wI ly;cases e;have r0:W2.cell? ⟨bb,0,none⟩=some (str [c]):=by simp [GD,mm]
 have q1':W.cell? ⟨aa,0,none⟩=some (.int .i64 ((l:Int)+1)):=q1;have FY:((l:Int)+1 == 0)=false:=by rw [beq_eq_false_iff_ne];omega
 have CL:=mj (y_ F W2 c (.pointer (some ⟨bb,0,none⟩)) ly);have nZ:But (· = aa) w W2.drew:=me.drew;have kX:∀ {b:Nat} {x:Value},F b->w.cell? ⟨b,0,none⟩=some x->W2.drew.cell? ⟨b,0,none⟩=some x:=fun hb hc=>(nZ.cell (mx w _ hc) (h.hF _ hb)).trans hc;have Mc:=h.glob.but nZ (fun e=>h.ng e.symm);obtain ⟨a0,aE⟩:=Mc
 have C:=after_any d ih F aa l n H f st b1 b2 b3 b4 b5 bp ev5 on5 vv5 ss5 W2.drew c ⟨a0,aE⟩ h.hF h.ng i_ (by omega) (by omega) (h.fit.back c) h.hn (by omega) (by omega) (qU (by omega) _ h.okg.2.1) (vg (by omega) _ h.okg.2.2)
  (kX n1 c1) (r1.but nZ hF) (kX n2 c2) (kX n3 c3) (r3.but nZ hF) (kX n4 c4) (kX n5 c5) (uS.but nZ hF _ _ r5)
 have EF:w.cell? ⟨2,0,none⟩=some (.iface 330 (.pointer (some a0))):=by
  obtain ⟨a1,h1⟩:=h.glob;have:=(nZ.cell (mx w _ h1) (fun e=>h.ng e.symm)).trans h1;rw [this] at aE;rw [h1];exact aE
 have CT:=c_ aE C;have hcc:([c] == [117])=false:=by simpa using hc
 have hgn:=Tryz.goesFn;have Iq:w.heap.size<=W2.drew.heap.size:=nZ.size;have J8:=h.apl.cell.2.2;have EP:=h.hF _ EQ;have KS:Hid (∀ w',But (· = aa) W2.drew w'->w'.cell? ⟨w.heap.size+1+1+1+1,0,none⟩=some (.func (.func 198) #[] #[.pointer (some ⟨b1,0,none⟩),.pointer (some ⟨b2,0,none⟩),.pointer (some ⟨b3,0,none⟩),.pointer (some ⟨b4,0,none⟩),.pointer (some ⟨b5,0,none⟩)])/\w'.cell? ⟨w.heap.size+1,0,none⟩=some (.pointer (some ⟨bb,0,none⟩))/\w'.cell? ⟨bb,0,none⟩=some (str [c])):=by
  show ∀ w',_->_;intro w' hb;have k:∀ (b:Nat) (v:Value),b≠aa->W2.cell? ⟨b,0,none⟩=some v->w'.cell? ⟨b,0,none⟩=some v:=fun b v hn hc=>(hb.cell (mx W2 _ hc) hn).trans hc;exact ⟨k _ _ (by omega) p4,k _ _ (by omega) p1,k _ _ EP r0⟩
 have HW:=mj (mu hW (mu rQ (mu nZ EF)));clear hW rQ me nZ i_ ly q1 mm C aE EF kX hF c1 r1 c2 c3 r3 c4 c5 r5 n1 n2 n3 n4 n5 h ih;generalize G6:decide (c=116)=bo at *;have J6:([c] == [116])=bo:=by rw [<- G6,Bool.eq_iff_iff];simp
 clear G6;generalize Qw d l (if c=116 then f.yes else f.no) f.env n st=o at *;cases o with
 | none =>
   have C:=mj (CT.1 rfl);clear CT;have HBO:=mj J6;clear J6;go_enter PE,PA;go_upto_region 1 with (fail)
   rw [HW.out.1];go_upto_region 4 with (fail)
   rw [HW.out.2.1];go_wp2_with fail
   (with_reducible refine CL.out.mono ?_);rintro en w3 ⟨rfl,rfl⟩
   go_wp2_with fail
   (with_reducible refine CL.out.mono ?_);rintro en w4 ⟨rfl,rfl⟩
   have J6:=HBO.out;go_wp2_with fail
   go_region_held3 (fun w'=>w'.cell? ⟨w.heap.size+1+1+1+1,0,none⟩=some (.func (.func 198) #[] #[.pointer (some ⟨b1,0,none⟩),.pointer (some ⟨b2,0,none⟩),.pointer (some ⟨b3,0,none⟩),.pointer (some ⟨b4,0,none⟩),.pointer (some ⟨b5,0,none⟩)])/\w'.cell? ⟨w.heap.size+1,0,none⟩=some (.pointer (some ⟨bb,0,none⟩))/\w'.cell? ⟨bb,0,none⟩=some (str [c]))
    (first
     | exact ⟨p4,p1,r0⟩
     | exact KS.out _ nR
     | go_keep)
    (first
     | (go_at_call 198;(with_reducible refine C.out.mono ?_);rintro en w5 ⟨rfl,nR⟩))
   have HF:=mj (HW.out.2.2.1.trans nR);clear nR;go_wp2_with fail
   go_ret2
   exact kR.none rfl HF.out HW.out.2.2.2
 | some x =>
   have C:=mj (CT.2 x rfl);clear CT;have HBO:=mj J6;clear J6;go_enter PE,PA;go_upto_region 1 with (fail)
   rw [HW.out.1];go_upto_region 4 with (fail)
   rw [HW.out.2.1];go_wp2_with fail
   (with_reducible refine CL.out.mono ?_);rintro en w3 ⟨rfl,rfl⟩
   go_wp2_with fail
   (with_reducible refine CL.out.mono ?_);rintro en w4 ⟨rfl,rfl⟩
   have J6:=HBO.out;go_wp2_with fail
   go_region_held3 (fun w'=>w'.cell? ⟨w.heap.size+1+1+1+1,0,none⟩=some (.func (.func 198) #[] #[.pointer (some ⟨b1,0,none⟩),.pointer (some ⟨b2,0,none⟩),.pointer (some ⟨b3,0,none⟩),.pointer (some ⟨b4,0,none⟩),.pointer (some ⟨b5,0,none⟩)])/\w'.cell? ⟨w.heap.size+1,0,none⟩=some (.pointer (some ⟨bb,0,none⟩))/\w'.cell? ⟨bb,0,none⟩=some (str [c]))
    (first
     | exact ⟨p4,p1,r0⟩
     | exact KS.out _ nR
     | go_keep)
    (first
     | (go_at_call 198;(with_reducible refine C.out.mono ?_);rintro en w5 ⟨vb,rfl,nR,ha5,Eo⟩))
   have HF:=mj (mu (HW.out.2.2.1.trans nR) (mu ha5 Eo));clear nR ha5 Eo;go_wp2_with fail
   go_ret2
   exact kR.some rfl HF.out.1 HF.out.2.1 (HF.out.2.2.weak fun i h=>h.imp id fun h=>by omega)
structure AskAt (F:Nat->Prop) (aa l n bb v eb eo el ec:Nat) (on x0 x1 x2 x3:Value) (w w':World):Prop where
 p0:w'.cell? ⟨w.heap.size,0,none⟩=some (.pointer (some ⟨aa,0,none⟩))
 p1:w'.cell? ⟨w.heap.size+1,0,none⟩=some (.pointer (some ⟨bb,0,none⟩))
 p2:w'.cell? ⟨w.heap.size+1+1,0,none⟩=some (.slice (some ⟨eb,eo,none⟩) el ec)
 p3:w'.cell? ⟨w.heap.size+1+1+1,0,none⟩=some (.int .i64 (n:Nat))
 p4:w'.cell? ⟨w.heap.size+1+1+1+1,0,none⟩=some on
 q1:w'.cell? ⟨bb,1,none⟩=some (.int .i64 (v:Nat))
 m0:w'.cell? ⟨eb,eo+v*4,none⟩=some x0
 m1:w'.cell? ⟨eb,eo+v*4+1,none⟩=some x1
 m2:w'.cell? ⟨eb,eo+v*4+2,none⟩=some x2
 m3:w'.cell? ⟨eb,eo+v*4+3,none⟩=some x3
theorem eval_op (d:Nat) (ih:wh d) (F:Nat->Prop) (aa l n bb v o:Nat) (t:Ty) (H:List Ty) (ea:Option Addr) (el ec:Nat) (ss:List Bd) (y no:Bd) (env:List Mn) (st:List Gf) (on:Value) (w:World) (hv:env[v]? = some (.op o t))
 (h:pR F aa (l+1) (d+1) n H (.ask v ss y no) env st (.pointer (some ⟨bb,0,none⟩)) (.slice ea el ec) on w) :
 Calls KD 171 #[.pointer (some ⟨aa,0,none⟩),.pointer (some ⟨bb,0,none⟩),.slice ea el ec,.int .i64 (n:Nat),on] w (kR F aa (Qw (d+1) (l+1) (.ask v ss y no) env n st) w):=by
 obtain ⟨eb,eo,ecap,x0,x1,x2,x3,e,I5,hew,m0,m1,m2,m3,Lr⟩:=mean_at h.re hv;simp only [N_] at e;obtain ⟨rfl,rfl,rfl⟩:=e;simp only [dX,zQ,zC,zH] at Lr;obtain ⟨_,_,e,rfl,kv,_,rfl,hk,_,_,rfl,rfl,_,_,rfl,rfl,rfl⟩:=Lr;simp only [Od,and_true] at e;obtain ⟨rfl,rfl,rfl,rfl⟩:=e;obtain ⟨kb,rfl⟩:=d7 hk;have hF:∀ b,F b->¬ (b=aa)/\F b:=fun b hb=>⟨h.hF b hb,hb⟩;obtain ⟨W,W2,hW,rQ,q0,q1,f1,me,i_,sI,p0,p1,p2,p3,p4⟩:=pC (n:=n) (bb:=bb) (ea:=some ⟨eb,eo,none⟩) (el:=env.length) (ec:=ec) (on:=on) (T1:=242) (T2:=33) (T3:=196) (T4:=3) (T5:=281) h.apl;have ly:Rep F W2 (k_ (.ask v ss y no)) (.pointer (some ⟨bb,0,none⟩)):=h.rb.but me hF;obtain ⟨b',sl,yv,nv,e,EQ,mm,_,_,_⟩:=yX ly;cases e;have J8:=h.apl.cell.2.2;have BL:=h.ld;have F7:=h.d20;have EP:=h.hF _ EQ;have lR:=h.hF _ I5;have r0:W2.cell? ⟨bb,0,none⟩=some (str []):=by simp [GD,mm]
 have r1:W2.cell? ⟨bb,1,none⟩=some (.int .i64 (v:Nat)):=by simp [GD,mm]
 have q1':W.cell? ⟨aa,0,none⟩=some (.int .i64 ((l:Int)+1)):=q1;have FY:((l:Int)+1 == 0)=false:=by rw [beq_eq_false_iff_ne];omega
 have CL:=mj (xq F W2 v ss y no (.pointer (some ⟨bb,0,none⟩)) ly);have kX:∀ {j:Nat} {x:Value},w.cell? ⟨eb,j,none⟩=some x->W2.cell? ⟨eb,j,none⟩=some x:=fun hc=>(me.cell (mx w _ hc) lR).trans hc;have ml:AskAt F aa l n bb v eb eo env.length ec on (.int .i64 (o:Nat)) (.pointer (some ⟨kb,0,none⟩)) (.pointer none) (.slice none 0 0) w W2:=⟨p0,p1,p2,p3,p4,r1,kX m0,kX m1,kX m2,kX m3⟩;have KS:Hid (∀ w',But (· = aa) W2 w'->AskAt F aa l n bb v eb eo env.length ec on (.int .i64 (o:Nat)) (.pointer (some ⟨kb,0,none⟩)) (.pointer none) (.slice none 0 0) w w'):=by
  show ∀ w',_->_;intro w' hb;have k:∀ {b j:Nat} {v:Value},b≠aa->W2.cell? ⟨b,j,none⟩=some v->w'.cell? ⟨b,j,none⟩=some v:=fun hn hc=>(hb.cell (mx W2 _ hc) hn).trans hc;exact ⟨k (by omega) ml.p0,k (by omega) ml.p1,k (by omega) ml.p2,k (by omega) ml.p3,k (by omega) ml.p4,k EP ml.q1,k lR ml.m0,k lR ml.m1,k lR ml.m2,k lR ml.m3⟩
 have Cd:=(N6.1 hv).1;have Cf:(0:Int)<=(v:Int):=by omega
 have iz:(v:Int)<(env.length:Int):=by omega
 have AI:=uS.form h.ro;have HW:=mj (mu hW (mu rQ (mu me (mu i_ (mu ly (mu hk ml))))));have HP:=mj (mu h (mu hv ih));clear hW rQ me i_ ly hk ml q1 mm m0 m1 m2 m3 kX hF h hv ih p0 p1 p2 p3 p4 r1;rcases AI with rfl | ⟨cs,rfl⟩
 all_goals
  go_enter PE,PA;go_upto_region 1 with (fail)
  rw [HW.out.1];go_upto_region 4 with (fail)
  rw [HW.out.2.1];have p1:=(KS.out W2 (But.refl _ _)).p1;go_wp2_with fail
  (with_reducible refine CL.out.mono ?_);rintro en w3 ⟨rfl,rfl⟩
  go_wp2_with fail
  (with_reducible refine CL.out.mono ?_);rintro en w4 ⟨rfl,rfl⟩
  go_wp2_with fail
  have A4:=KS.out w4 (But.refl _ _);have s1:=A4.p1;have s2:=A4.p2;have s3:=A4.q1;have s4:=A4.m0;have s5:=A4.m1;have s6:=A4.m2;have s7:=A4.m3;clear A4
  go_region_held3 (fun w'=>w'.cell? ⟨w.heap.size+1+1,0,none⟩=some (.slice (some ⟨eb,eo,none⟩) env.length ec)/\w'.cell? ⟨w.heap.size+1,0,none⟩=some (.pointer (some ⟨bb,0,none⟩))/\w'.cell? ⟨bb,1,none⟩=some (.int .i64 (v:Nat))/\w'.cell? ⟨eb,eo+v*4,none⟩=some (.int .i64 (o:Nat))/\w'.cell? ⟨eb,eo+v*4+1,none⟩=some (.pointer (some ⟨kb,0,none⟩))/\w'.cell? ⟨eb,eo+v*4+2,none⟩=some (.pointer none)/\w'.cell? ⟨eb,eo+v*4+3,none⟩=some (.slice none 0 0))
   (first
    | exact ⟨s2,s1,s3,s4,s5,s6,s7⟩
    | exact ⟨zV (w:=w4.drew) s2,zV (w:=w4.drew) s1,zV (w:=w4.drew) s3,zV (w:=w4.drew) s4,zV (w:=w4.drew) s5,zV (w:=w4.drew) s6,zV (w:=w4.drew) s7⟩
    | go_keep)
   (fail)
  obtain ⟨W5,Gj⟩:=zzN ((w4.alloc (.cells #[.int .i64 (o:Nat),.pointer (some ⟨kb,0,none⟩),.pointer none,.slice none 0 0] 199)).drew);have sy:Below w4.heap.size w4 W5:=by rw [<- Gj];exact ((mw _ _).alloc (my _) _).drew
  have aF:W5.heap[w4.heap.size]? = some (.cells #[.int .i64 (o:Nat),.pointer (some ⟨kb,0,none⟩),.pointer none,.slice none 0 0] 199 (0,0)):=by rw [<- Gj];exact zG w4 _
  rw [Gj];clear Gj s1 s2 s3 s4 s5 s6 s7;obtain ⟨y0,y1,y2,y3⟩:=kE aF;have A5:=KS.out W5 (But.ofBelow sy);have ii:But (· = aa) w W5:=HW.out.2.2.1.trans (But.ofBelow sy);have nU:=HP.out.1;have A3:∀ i,F i->¬ (i=aa)/\(F i\/w.heap.size<=i):=fun i hi=>⟨nU.hF i hi,.inl hi⟩;have DN:=nU.fit.keep HP.out.2.1;have hK:KeptPre (fun i=>F i\/w.heap.size<=i) aa l d n o v H t ss y no env st (.pointer (some ⟨bb,0,none⟩)) (.pointer (some ⟨kb,0,none⟩)) (.slice (some ⟨eb,eo,none⟩) env.length ec) (.func (.func 198) #[] #[.pointer (some ⟨w.heap.size+1,0,none⟩),.pointer (some ⟨w.heap.size,0,none⟩),.pointer (some ⟨w.heap.size+1+1,0,none⟩),.pointer (some ⟨w.heap.size+1+1+1,0,none⟩),.pointer (some ⟨w.heap.size+1+1+1+1,0,none⟩)]) W5:=by
   have LC:=gr _ nU.ok v _ HP.out.2.1;rw [okM] at LC;have sY:=nU.rb.but ii A3;have Em:=nU.re.but ii A3;have hFF:∀ i,(F i\/w.heap.size<=i)->i≠aa:=by
    intro i hi;rcases hi with hi | hi
    ·exact nU.hF i hi
    ·omega
   exact { glob:=nU.glob.but ii (fun e=>nU.ng e.symm),hF:=hFF,ng:=nU.ng,apl:=(HW.out.2.2.2.1).below sy,ld:=by omega,d20:=by omega,
           hlen:=DN.1,at15:=LC.1,sub:=DN.2.2.1,fy:=DN.2.2.2.1,fn:=DN.2.2.2.2,hn:=nU.hn,el:=nU.el,nl:=nU.nl,ok:=nU.ok,okg:=nU.okg,rb:=sY,
           rk:=(HW.out.2.2.2.2.2.1).but ii A3,re:=Em,
           ro:=⟨_,_,_,_,_,_,_,_,v,ss,rfl,⟨.inr (by omega),.inr (by omega),.inr (by omega),.inr (by omega),.inr (by omega)⟩,A5.p1,sY,A5.p0,A5.p2,Em,A5.p3,A5.p4,uS.but ii A3 _ _ nU.ro⟩ }
  have C:=kept_any d HP.out.2.2 _ aa l n o v H t ss y no env st _ _ _ _ W5 hK;obtain ⟨a0,aE⟩:=nU.glob;have Cv:=(ii.cell (mx w _ aE) (fun e=>nU.ng e.symm)).trans aE;have CT:=c_ Cv C;have hev:Qw (d+1) (l+1) (.ask v ss y no) env n st=xz d l n o t ss y no env st:=ev_op HP.out.2.1;clear C hK Cv;generalize xz d l n o t ss y no env st=oo at *;have s0:=A5.p0;have s1:=A5.p1;have s2:=A5.p2;have s3:=A5.p3;have HX:=mj (mu ii aE);clear ii aE A5 A3 DN nU sy aF;cases oo with
  | none =>
    have C:=mj (CT.1 rfl);clear CT;have HE:=mj hev;clear hev;go_wp2_with fail
    (with_reducible refine C.out.mono ?_);rintro en w6 ⟨rfl,nJ⟩
    have HF:=mj (HX.out.1.trans nJ);clear nJ;go_wp2_with fail
    go_ret2
    exact kR.none HE.out HF.out HX.out.2
  | some x =>
    have C:=mj (CT.2 x rfl);clear CT;have HE:=mj hev;clear hev;have hz5:=HX.out.1.size;go_wp2_with fail
    (with_reducible refine C.out.mono ?_);rintro en w6 ⟨vb,rfl,nJ,MZ,sX⟩
    have HF:=mj (mu (HX.out.1.trans nJ) (mu MZ sX));clear nJ MZ sX;go_wp2_with fail
    go_ret2
    exact kR.some HE.out HF.out.1 HF.out.2.1 (HF.out.2.2.weak fun i h=>by
     rcases h with (h | h) | h
     ·exact .inl h
     ·exact .inr h
     ·exact .inr (by omega))
structure BInv (G:Nat->Prop) (e env:List Mn) (t:Ty) (ss:List Bd) (W:World) (k:Nat) (a:Option Addr) (c:Nat) (xs:List Value) (wr:World):Prop where
 own:Own wr 199 4 (.slice a (e.length+k) c) (e.length+k) xs
 rep:zW (fun i=>G i/\i<W.heap.size) wr (qe (e++jZ env (t.args.take k) (ss.take k))) xs
 bel:Below W.heap.size W wr
 fr:∀ g,(Nq a (e.length+k) c).ownBlock=some g->W.heap.size<=g
theorem wS {env:List Mn}:∀ (ts:List Ty) (ss:List Bd),ss.length=ts.length->(jZ env ts ss).length=ts.length
 | [],[],_=>by simp [jZ]
 | [],s::ss,h=>by simp at h
 | t::ts,[],h=>by simp at h
 | t::ts,s::ss,h=>by rw [jZ,N5,N5,wS ts ss (by simpa using h)]
theorem eval_bd (d:Nat) (ih:wh d) (F:Nat->Prop) (aa l n bb v:Nat) (t:Ty) (H:List Ty) (ea:Option Addr) (el ec:Nat) (ss:List Bd) (y no b':Bd) (env e':List Mn) (st:List Gf) (on:Value) (w:World) (hv:env[v]? = some (.bd t b' e'))
 (h:pR F aa (l+1) (d+1) n H (.ask v ss y no) env st (.pointer (some ⟨bb,0,none⟩)) (.slice ea el ec) on w) :
 Calls KD 171 #[.pointer (some ⟨aa,0,none⟩),.pointer (some ⟨bb,0,none⟩),.slice ea el ec,.int .i64 (n:Nat),on] w (kR F aa (Qw (d+1) (l+1) (.ask v ss y no) env n st) w):=by
 obtain ⟨eb,eo,ecap,x0,x1,x2,x3,e,I5,hew,m0,m1,m2,m3,Lr⟩:=mean_at h.re hv;simp only [N_] at e;obtain ⟨rfl,rfl,rfl⟩:=e;simp only [dX,zQ,zC,zH] at Lr;obtain ⟨_,_,e,rfl,_,_,rfl,rfl,bv2,_,rfl,hk,sv2,_,rfl,t6,rfl⟩:=Lr;simp only [Od,and_true] at e;obtain ⟨rfl,rfl,rfl,rfl⟩:=e;obtain ⟨kb,rfl⟩:=za hk;obtain ⟨news,sD,rO⟩:=zq.ofRep t6 (vp e');obtain ⟨a2,c2,e⟩:=rO.slice;subst e;have hF:∀ b,F b->¬ (b=aa)/\F b:=fun b hb=>⟨h.hF b hb,hb⟩;obtain ⟨W,W2,hW,rQ,q0,q1,f1,me,i_,sI,p0,p1,p2,p3,p4⟩:=pC (n:=n) (bb:=bb) (ea:=some ⟨eb,eo,none⟩) (el:=env.length) (ec:=ec) (on:=on) (T1:=242) (T2:=33) (T3:=196) (T4:=3) (T5:=281) h.apl;have ly:Rep F W2 (k_ (.ask v ss y no)) (.pointer (some ⟨bb,0,none⟩)):=h.rb.but me hF;obtain ⟨b9,sl,yv,nv,e,EQ,mm,sB,_,_⟩:=yX ly;cases e;obtain ⟨sa,sc,e,_,_,Ed⟩:=zP sB;subst e;have J8:=h.apl.cell.2.2;have BL:=h.ld;have F7:=h.d20;have EP:=h.hF _ EQ;have lR:=h.hF _ I5;have r0:W2.cell? ⟨bb,0,none⟩=some (str []):=by simp [GD,mm]
 have r1:W2.cell? ⟨bb,1,none⟩=some (.int .i64 (v:Nat)):=by simp [GD,mm]
 have r2:W2.cell? ⟨bb,2,none⟩=some (.slice sa ss.length sc):=by simp [GD,mm]
 have q1':W.cell? ⟨aa,0,none⟩=some (.int .i64 ((l:Int)+1)):=q1;have FY:((l:Int)+1 == 0)=false:=by rw [beq_eq_false_iff_ne];omega
 have CL:=mj (xq F W2 v ss y no (.pointer (some ⟨bb,0,none⟩)) ly);have kX:∀ {j:Nat} {x:Value},w.cell? ⟨eb,j,none⟩=some x->W2.cell? ⟨eb,j,none⟩=some x:=fun hc=>(me.cell (mx w _ hc) lR).trans hc;have ml:AskAt F aa l n bb v eb eo env.length ec on (.int .i64 0) (.pointer none) (.pointer (some ⟨kb,0,none⟩)) (.slice a2 e'.length c2) w W2:=⟨p0,p1,p2,p3,p4,r1,kX m0,kX m1,kX m2,kX m3⟩;have KS:Hid (∀ w',But (· = aa) W2 w'->AskAt F aa l n bb v eb eo env.length ec on (.int .i64 0) (.pointer none) (.pointer (some ⟨kb,0,none⟩)) (.slice a2 e'.length c2) w w'):=by
  show ∀ w',_->_;intro w' hb;have k:∀ {b j:Nat} {v:Value},b≠aa->W2.cell? ⟨b,j,none⟩=some v->w'.cell? ⟨b,j,none⟩=some v:=fun hn hc=>(hb.cell (mx W2 _ hc) hn).trans hc;exact ⟨k (by omega) ml.p0,k (by omega) ml.p1,k (by omega) ml.p2,k (by omega) ml.p3,k (by omega) ml.p4,k EP ml.q1,k lR ml.m0,k lR ml.m1,k lR ml.m2,k lR ml.m3⟩
 have Cd:=(N6.1 hv).1;have Cf:(0:Int)<=(v:Int):=by omega
 have iz:(v:Int)<(env.length:Int):=by omega
 have AI:=uS.form h.ro;have HW:=mj (mu hW (mu rQ (mu me (mu i_ (mu ly (mu hk (mu ml (mu r2 (mu Ed (mu t6 (mu sD rO)))))))))));have HP:=mj (mu h (mu hv ih));have EJ:=h.fit.call hv;have rq:=gr _ h.ok v _ hv;rw [okM] at rq;have Ao:=EJ.1;have IV:=(kZ rq.1).2;have hl16s:ss.length<=15:=by omega
 have hel2:=rq.2.1;have oX:=h.el;have HL:=mj (mu EJ rq);clear hW rQ me i_ ly hk ml r2 Ed t6 sD rO EJ rq sB Ao q1 mm m0 m1 m2 m3 kX hF h hv ih p0 p1 p2 p3 p4 r1;rcases AI with rfl | ⟨cs,rfl⟩
 all_goals
  go_enter PE,PA;go_upto_region 1 with (fail)
  rw [HW.out.1];go_upto_region 4 with (fail)
  rw [HW.out.2.1];have p1:=(KS.out W2 (But.refl _ _)).p1;go_wp2_with fail
  (with_reducible refine CL.out.mono ?_);rintro en w3 ⟨rfl,rfl⟩
  go_wp2_with fail
  (with_reducible refine CL.out.mono ?_);rintro en w4 ⟨rfl,rfl⟩
  go_wp2_with fail
  have A4:=KS.out w4 (But.refl _ _);have s1:=A4.p1;have s2:=A4.p2;have s3:=A4.q1;have s4:=A4.m0;have s5:=A4.m1;have s6:=A4.m2;have s7:=A4.m3;clear A4
  go_region_held3 (fun w'=>w'.cell? ⟨w.heap.size+1+1,0,none⟩=some (.slice (some ⟨eb,eo,none⟩) env.length ec)/\w'.cell? ⟨w.heap.size+1,0,none⟩=some (.pointer (some ⟨bb,0,none⟩))/\w'.cell? ⟨bb,1,none⟩=some (.int .i64 (v:Nat))/\w'.cell? ⟨eb,eo+v*4,none⟩=some (.int .i64 0)/\w'.cell? ⟨eb,eo+v*4+1,none⟩=some (.pointer none)/\w'.cell? ⟨eb,eo+v*4+2,none⟩=some (.pointer (some ⟨kb,0,none⟩))/\w'.cell? ⟨eb,eo+v*4+3,none⟩=some (.slice a2 e'.length c2))
   (first
    | exact ⟨s2,s1,s3,s4,s5,s6,s7⟩
    | exact ⟨zV (w:=w4.drew) s2,zV (w:=w4.drew) s1,zV (w:=w4.drew) s3,zV (w:=w4.drew) s4,zV (w:=w4.drew) s5,zV (w:=w4.drew) s6,zV (w:=w4.drew) s7⟩
    | go_keep)
   (fail)
  obtain ⟨W5,Gj⟩:=zzN ((w4.alloc (.cells #[.int .i64 0,.pointer none,.pointer (some ⟨kb,0,none⟩),.slice a2 e'.length c2] 199)).drew);have sy:Below w4.heap.size w4 W5:=by rw [<- Gj];exact ((mw _ _).alloc (my _) _).drew
  have aF:W5.heap[w4.heap.size]? = some (.cells #[.int .i64 0,.pointer none,.pointer (some ⟨kb,0,none⟩),.slice a2 e'.length c2] 199 (0,0)):=by rw [<- Gj];exact zG w4 _
  rw [Gj];clear Gj s1 s2 s3 s4 s5 s6 s7;have hz45:w4.heap.size<W5.heap.size:=zZ aF;obtain ⟨y0,y1,y2,y3⟩:=kE aF;have A5:=KS.out W5 (But.ofBelow sy);have ii:But (· = aa) w W5:=HW.out.2.2.1.trans (But.ofBelow sy);have nU:=HP.out.1;have A3:∀ i,F i->¬ (i=aa)/\(F i\/w.heap.size<=i):=fun i hi=>⟨nU.hF i hi,.inl hi⟩;have hev:Qw (d+1) (l+1) (.ask v ss y no) env n st=Qw d l b' (e'++jZ env t.args ss) n (⟨y,no,env⟩::st):=ev_bd HP.out.2.1;have GJ:zq 4 (.slice a2 e'.length c2) e'.length news W5:=gu ii (fun b hb=>nU.hF b hb) HW.out.2.2.2.2.2.2.2.2.2.1 HW.out.2.2.2.2.2.2.2.2.2.2.2;have z2:W5.cell? ⟨bb,2,none⟩=some (.slice sa ss.length sc):=(sy.cell (mx w4 _ HW.out.2.2.2.2.2.2.2.1)).trans HW.out.2.2.2.2.2.2.2.1;have HX:=mj (mu ii (mu sy (mu aF (mu hev GJ))));clear ii sy aF hev GJ;have s1:=A5.p1;have s2:=A5.p2;have HA5:=mj A5;clear A5;go_wp2_with (at_builtin;refine zE rfl _ _ 196 rfl 199 (.agg #[.int .i64 0,.pointer none,.pointer none,.slice none 0 0]) 4 48 Pk Tryz.infoMn rfl (by decide) (.slice none 0 0) 0 [] rfl ?a1 _ e'.length news rfl ?a2 ?a3 ?a4 ?_)
  case a1=>exact OL _ _ _ _
  case a2=>exact HX.out.2.2.2.2
  case a3=>unfold maxLen;omega
  case a4=>omega
  intro a6 c6 w6 Fm nJ Ft;have iE:Below W5.heap.size W5 w6:=nJ.toBelow (my _) (fun i _ e=>by simp [N7] at e);have G5:∀ g,(Nq a6 e'.length c6).ownBlock=some g->W5.heap.size<=g:=fun g hg=>by
   rcases Ft g hg with h | h
   ·simp [N7] at h
   ·omega
  have sX:zW (fun i=>(F i\/w.heap.size<=i)/\i<W5.heap.size) w6 (qe (e'++jZ env (t.args.take 0) (ss.take 0))) news:=by
   have h0:=(zW.low HW.out.2.2.2.2.2.2.2.2.2.2.1).but HX.out.1 (F':=fun i=>(F i\/w.heap.size<=i)/\i<W5.heap.size) (fun b hb=>⟨nU.hF b hb.1,.inl hb.1,by have:=HX.out.1.size;omega⟩);rw [QS,QS,jZ.eq_def,Ov];exact (Rep.keep fun b o hf hh=>⟨hf,by rw [iE.block b hf.2];exact hh⟩).2 _ _ h0
  have HI0:=mj (show BInv (fun i=>F i\/w.heap.size<=i) e' env t ss W5 0 a6 c6 news w6 from ⟨Fm,sX,iE,G5⟩);have z2:=(iE.cell (mx W5 _ z2)).trans z2;have s1:=(iE.cell (mx W5 _ s1)).trans s1;clear Fm sX iE G5 nJ Ft nU A3;go_wp2_with fail
  go_loopw [14,78] (fun o i wr=>∃ k:Nat,k<=ss.length/\i=.int .i64 k/\∃ a c xs,o=.slice a (e'.length+k:Nat) c/\BInv (fun i=>F i\/w.heap.size<=i) e' env t ss W5 k a c xs wr) (fun _ i _=>ss.length-(intOf i).toNat)
  case atStart=>exact ⟨0,Nat.zero_le _,rfl,a6,c6,news,rfl,HI0.out⟩
  case round =>
   rename_i wr;obtain ⟨k,hk,rfl,a,c,xs,rfl,nQ⟩:=hrel;have HI:=mj nQ;clear nQ;have nU:=HP.out.1;have BW:Below w4.heap.size w4 wr:=HX.out.2.1.trans (HI.out.bel.mono (by omega));have lT:But (· = aa) w wr:=HW.out.2.2.1.trans (But.ofBelow BW);have hz5:=HX.out.1.size;have AR:=KS.out wr (But.ofBelow BW);by_cases m_:k<ss.length
   ·have rF:(k:Int)<(ss.length:Int):=by omega
    obtain ⟨sb,so,u,d1,e,A3,Fi,As,tU,tQ⟩:=HW.out.2.2.2.2.2.2.2.2.1 k m_;subst e;rw [xv,N3] at As;obtain ⟨s,hs,rfl⟩:=As;obtain ⟨ub,rfl⟩:=za tQ;have GZ:k<t.args.length:=by have:=HL.out.1.1;omega
    obtain ⟨ta,iG⟩:∃ ta,t.args[k]? = some ta:=⟨_,List.getElem?_eq_getElem GZ⟩;have q0:=(BW.cell (mx w4 _ tU)).trans tU;have q1:=AR.p2;have HK:=mj (mu hs (mu tQ (mu iG (mu BW lT))));clear hs tQ iG BW lT tU nU AR;go_wp2_with (at_builtin;refine zE rfl _ _ 196 rfl 199 (.agg #[.int .i64 0,.pointer none,.pointer none,.slice none 0 0]) 4 48 Pk Tryz.infoMn rfl (by decide) (.slice a (e'.length+k) c) (e'.length+k) xs rfl ?c1 _ 1 [.int .i64 0,.pointer none,.pointer (some ⟨ub,0,none⟩),.slice (some ⟨eb,eo,none⟩) env.length ec] rfl ?c2 ?c3 ?c4 ?_)
    case c1=>exact HI.out.own.alloc _
    case c2=>exact zq.lit1 #[.int .i64 0,.pointer none,.pointer (some ⟨ub,0,none⟩),.slice (some ⟨eb,eo,none⟩) env.length ec] rfl (by simp [Of]) _ (by simp)
    case c3=>unfold maxLen;omega
    case c4=>omega
    intro a7 c7 w7 nL mo nG;have KJ:=HI.out.bel.size;have Ge:Below W5.heap.size W5 w7:=by
     refine (HI.out.bel.alloc KJ _).trans (mo.toBelow (by rw [zK];omega) fun i hi e=>?_);have:=HI.out.fr i e;omega
    have oY:∀ g,(Nq a7 (e'.length+(k+1)) c7).ownBlock=some g->W5.heap.size<=g:=by
     intro g h;rcases nG g h with h | h
     ·exact HI.out.fr g h
     ·omega
    have tq:∀ (b:Nat) (o:Obj),b<w4.heap.size->w4.heap[b]? = some o->w7.heap[b]? = some o:=fun b o hb hh=>by
     rw [Ge.block b (by omega),HX.out.2.1.block b hb];exact hh
    have iH:zW (fun i=>(F i\/w.heap.size<=i)/\i<W5.heap.size) w7 (qe (e'++jZ env (t.args.take (k+1)) (ss.take (k+1)))) (xs++[.int .i64 0,.pointer none,.pointer (some ⟨ub,0,none⟩),.slice (some ⟨eb,eo,none⟩) env.length ec]):=by
     rw [owns_take _ _ _ _ _ HK.out.2.2.1 HK.out.1,<- OF,uX,encMs_one];refine zW.append ?_ ?_
     ·exact (Rep.keep fun b o hf ho=>⟨hf,by rw [Ge.block b hf.2,<- HI.out.bel.block b hf.2];exact ho⟩).2 _ _ HI.out.rep
     ·rw [dX];have hre4:=HP.out.1.re.but (F':=F) HW.out.2.2.1 (fun b hb=>⟨HP.out.1.hF b hb,hb⟩);have kk:=(Rep.keep (F:=F) (F':=fun i=>(F i\/w.heap.size<=i)/\i<W5.heap.size) (w:=w4) (w':=w7) fun b o hf hh=>⟨⟨.inl hf,by have:=zZ hh;omega⟩,tq b o (zZ hh) hh⟩).1;refine zQ.2 ⟨_,_,rfl,zH.2 rfl,zQ.2 ⟨_,_,rfl,zH.2 rfl,zQ.2 ⟨_,_,rfl,kk _ _ HK.out.2.1,zQ.2 ⟨_,_,rfl,kk _ _ hre4,zC.2 rfl⟩⟩⟩⟩
    have HN:=mj (show BInv (fun i=>F i\/w.heap.size<=i) e' env t ss W5 (k+1) a7 c7 _ w7 from ⟨nL,iH,Ge,oY⟩);clear nL iH Ge oY mo nG tq;go_wp2_with fail
    go_roundw
    case rel=>exact ⟨k+1,by omega,by go_num,a7,c7,_,rfl,HN.out⟩
    case measure=>simp [intOf];omega
   ·obtain rfl:k=ss.length:=by omega
    have t_:=HI.out.rep;have Ao:=HL.out.1.1;rw [List.take_length,List.take_of_length_le (by omega)] at t_;have hlen:(e'++jZ env t.args ss).length=e'.length+ss.length:=by rw [NZ,wS _ _ Ao,Ao]
    have A3:∀ i,F i->¬ (i=aa)/\(F i\/w.heap.size<=i):=fun i hi=>⟨nU.hF i hi,.inl hi⟩;have hFF:∀ i,(F i\/w.heap.size<=i)->i≠aa:=by
     intro i hi;rcases hi with hi | hi
     ·exact nU.hF i hi
     ·omega
    have El:Rep (fun i=>F i\/w.heap.size<=i) wr (.sl 199 4 (e'++jZ env t.args ss).length (qe (e'++jZ env t.args ss))) (.slice a (e'.length+ss.length) c):=by
     rw [hlen];exact HI.out.own.rep (fun g hg=>.inr (by have:=HI.out.fr g hg;omega)) ((Rep.keep fun b o hf ho=>⟨hf.1,ho⟩).2 _ _ t_)
    have sY:=nU.rb.but lT A3;have Em:=nU.re.but lT A3;have rq:=HL.out.2;have ia:=nU.nl;have hK:pR (fun i=>F i\/w.heap.size<=i) aa l d n H b' (e'++jZ env t.args ss) (⟨y,no,env⟩::st) (.pointer (some ⟨kb,0,none⟩)) (.slice a (e'.length+ss.length) c) (.func (.func 198) #[] #[.pointer (some ⟨w.heap.size+1,0,none⟩),.pointer (some ⟨w.heap.size,0,none⟩),.pointer (some ⟨w.heap.size+1+1,0,none⟩),.pointer (some ⟨w.heap.size+1+1+1,0,none⟩),.pointer (some ⟨w.heap.size+1+1+1+1,0,none⟩)]) wr:=by
     exact { glob:=nU.glob.but lT (fun e=>nU.ng e.symm),hF:=hFF,ng:=nU.ng,apl:=(HW.out.2.2.2.1).below BW,ld:=by omega,d20:=by omega,
             fit:=HL.out.1.2,hn:=nU.hn,el:=by rw [hlen];omega,nl:=by omega,
             ok:=jx _ _ (qU (by omega) _ rq.2.2) (wT (qU (by omega) _ nU.ok) (by omega) _ _ (kZ rq.1).1),
             okg:=⟨by show env.length<=_;omega,qU (by omega) _ nU.ok,vg (by omega) _ nU.okg⟩,rb:=HW.out.2.2.2.2.2.1.but lT A3,re:=El,
             ro:=⟨_,_,_,_,_,_,_,_,v,ss,rfl,⟨.inr (by omega),.inr (by omega),.inr (by omega),.inr (by omega),.inr (by omega)⟩,AR.p1,sY,AR.p0,AR.p2,Em,AR.p3,AR.p4,uS.but lT A3 _ _ nU.ro⟩ }
    have C:=HP.out.2.2 _ aa l n H b' (e'++jZ env t.args ss) (⟨y,no,env⟩::st) _ _ _ wr hK;obtain ⟨a0,aE⟩:=nU.glob;have Cv:=(lT.cell (mx w _ aE) (fun e=>nU.ng e.symm)).trans aE;have CT:=c_ Cv C;have hev:=HX.out.2.2.2.1;clear C hK Cv t_ El sY Em;generalize Qw d l b' (e'++jZ env t.args ss) n (⟨y,no,env⟩::st)=oo at *;have s0:=AR.p0;have s3:=AR.p3;have aF:=(HI.out.bel.block w4.heap.size (by omega)).trans HX.out.2.2.1;obtain ⟨y0,y1,y2,y3⟩:=kE aF;have KJ:=lT.size;have HY:=mj (mu lT aE);clear lT aE AR A3 nU aF BW y0 y1 y3 hlen rq Ao;cases oo with
    | none =>
      have C:=mj (CT.1 rfl);clear CT;have HE:=mj hev;clear hev;go_wp2_with fail
      (with_reducible refine C.out.mono ?_);rintro en w6' ⟨rfl,nJ⟩
      have HF:=mj (HY.out.1.trans nJ);clear nJ;go_wp2_with fail
      go_ret2
      exact kR.none HE.out HF.out HY.out.2
    | some x =>
      have C:=mj (CT.2 x rfl);clear CT;have HE:=mj hev;clear hev;go_wp2_with fail
      (with_reducible refine C.out.mono ?_);rintro en w6' ⟨vb,rfl,nJ,MZ,sX⟩
      have HF:=mj (mu (HY.out.1.trans nJ) (mu MZ sX));clear nJ MZ sX;go_wp2_with fail
      go_ret2
      exact kR.some HE.out HF.out.1 HF.out.2.1 (HF.out.2.2.weak fun i h=>by
       rcases h with (h | h) | h
       ·exact .inl h
       ·exact .inr h
       ·exact .inr (by omega))
theorem eval_any (d:Nat):wh d:=by
 induction d with
 | zero =>
   intro F aa l n H b env st bv ev on w h;obtain rfl:l=0:=by have:=h.ld;omega
   obtain ⟨bb,rfl⟩:=za h.rb;obtain ⟨_,a,c,rfl,_⟩:=zg.1 h.re;exact eval_out F aa 0 n bb a _ c b env st on w h.ro.form h.glob h.ng h.apl
 | succ d ih =>
   intro F aa l n H b env st bv ev on w h;obtain ⟨bb,rfl⟩:=za h.rb;obtain ⟨_,a,c,rfl,_⟩:=zg.1 h.re;cases l with
   | zero=>exact eval_out F aa (d+1) n bb a _ c b env st on w h.ro.form h.glob h.ng h.apl
   | succ l =>
     have BL:=h.ld;have hd:=h.d20;cases b with
     | leaf x =>
       by_cases hx:x=117
       ·exact eval_end F aa d l n bb a _ c x env st on w h.hF h.apl (by omega) h.rb (.inl ⟨hx,h.ro.form⟩)
       ·cases st with
        | nil=>exact eval_end F aa d l n bb a _ c x env [] on w h.hF h.apl (by omega) h.rb (.inr ⟨hx,h.ro,rfl⟩)
        | cons f st=>exact eval_back d ih F aa l n bb H a _ c x env f st on w hx h
     | ask v ss y no =>
       obtain ⟨m,t,hh,hm,_⟩:=h.fit.ask;cases m with
       | op o t=>exact eval_op d ih F aa l n bb v o t H a _ c ss y no env st on w hm h
       | bd t b' e'=>exact eval_bd d ih F aa l n bb v t H a _ c ss y no b' env e' st on w hm h
theorem eO {d:Nat} (ih:∀ (l:Nat) (b:Bd) (env:List Mn) (n:Nat) (st:List Gf) (r:Bd) (l':Nat),Qw d l b env n st=some (r,l')->zX r+l'<=l) {env:List Mn} {n:Nat} :
 ∀ (ts:List Ty) (ss:List Bd) (l:Nat) (xs:List Bd) (l':Nat),qZ (Qw d) env n l ts ss=some (xs,l')->zR xs+l'<=l
 | [],ss,l,xs,l',h=>by simp [qZ] at h;obtain ⟨rfl,rfl⟩:=h;simp [zR]
 | t::ts,[],l,xs,l',h=>by simp [qZ] at h;obtain ⟨rfl,rfl⟩:=h;simp [zR]
 | t::ts,s::ss,l,xs,l',h=>by
   simp only [qZ,Option.bind_eq_bind,No,Prod.exists] at h;obtain ⟨x,l1,h1,ys,l2,h2,h3⟩:=h;simp at h3;obtain ⟨rfl,rfl⟩:=h3;have k1:=ih _ _ _ _ _ _ _ h1;have k2:=eO ih ts ss _ _ _ h2;rw [zR];omega
theorem ev_size (d:Nat):∀ (l:Nat) (b:Bd) (env:List Mn) (n:Nat) (st:List Gf) (r:Bd) (l':Nat),Qw d l b env n st=some (r,l')->zX r+l'<=l:=by
 induction d with
 | zero=>intro l b env n st r l' h;simp [Qw] at h
 | succ d ih =>
   intro l b env n st r l' h;cases l with
   | zero=>rw [ev.eq_def] at h;simp at h
   | succ l =>
     cases b with
     | leaf c =>
       by_cases hc:c=117
       ·subst hc;rw [ev_u] at h;simp at h;obtain ⟨rfl,rfl⟩:=h;rw [zX];omega
       ·cases st with
        | nil=>rw [ev_end] at h;simp at h;obtain ⟨rfl,rfl⟩:=h;rw [zX];omega
        | cons f st=>rw [ev_back hc] at h;have:=ih _ _ _ _ _ _ _ h;omega
     | ask v ss y no =>
       cases hv:env[v]? with
       | none=>rw [ev.eq_def] at h;simp [hv] at h
       | some m =>
         cases m with
         | bd t b' e=>rw [ev_bd hv] at h;have:=ih _ _ _ _ _ _ _ h;omega
         | op o t =>
           rw [ev_op hv] at h;simp only [No,Prod.exists] at h;obtain ⟨xs,l1,h1,x,l2,h2,z,l3,h3,h4⟩:=h;simp at h4;obtain ⟨rfl,rfl⟩:=h4;have k1:=eO ih _ _ _ _ _ h1;have k2:=ih _ _ _ _ _ _ _ h2;have k3:=ih _ _ _ _ _ _ _ h3;rw [zX];omega
theorem fits_any (F:Nat->Prop) (w:World) (b:Bd) (v:Value) (hv:Rep F w (k_ b) v) (hn:zX b<=20000) :
 Calls KD 65 #[v] w fun en w'=>en=.returned (.bool (decide (zX b<=200/\kz b<=100)))/\Below w.heap.size w w':=by
 obtain ⟨vb,rfl⟩:=za hv;have hL:Lim 20000:=by unfold Lim;omega
 have C1:=mj (fM 20000 b hn hL F w _ hv);go_enter Tryz.func65,Tryz.ntmps65;go_wp2_with fail
 (with_reducible refine C1.out.mono ?_)
 rintro en w1 ⟨rfl,mi⟩;have C2:=mj (depth_any 20000 b hn hL F w1 _ (Rep.below mi (fun _ h=>h) hv));have HB:=mj mi;clear mi;by_cases aQ:zX b<=200
 ·have h1:decide ((zX b:Int)<=200)=true:=decide_eq_true (by omega);go_wp2_with fail
  (with_reducible refine C2.out.mono ?_);rintro en w2 ⟨rfl,me⟩
  have hb:=zzT HB.out me;clear me;by_cases i1:kz b<=100
  focus
   have h2:decide ((kz b:Int)<=100)=true:=decide_eq_true (by omega);have HE:=mj (mu (show decide (zX b<=200/\kz b<=100)=true from decide_eq_true ⟨aQ,i1⟩) hb);clear hb
  rotate_left
  focus
   have h2:decide ((kz b:Int)<=100)=false:=decide_eq_false (by omega);have HE:=mj (mu (show decide (zX b<=200/\kz b<=100)=false from decide_eq_false (by omega)) hb);clear hb
  all_goals
   go_wp2_with fail
   go_ret;rw [HE.out.1];exact ⟨rfl,HE.out.2⟩
 ·have h1:decide ((zX b:Int)<=200)=false:=decide_eq_false (by omega);have HE:=mj (show decide (zX b<=200/\kz b<=100)=false from decide_eq_false (by omega));go_wp2_with fail
  go_ret;rw [HE.out];exact ⟨rfl,HB.out⟩
def qO (F:Nat->Prop) (w:World) (o:Option Bd) (en:Ending) (w':World):Prop :=
 ∃ v,en=.returned v/\Below w.heap.size w w'/\(o=none->v=.pointer none)/\∀ b,o=some b->Rep (fun i=>F i\/w.heap.size<=i) w' (k_ b) v
structure BecPre (F:Nat->Prop) (n:Nat) (H:List Ty) (b:Bd) (env:List Mn) (bv ev:Value) (w:World):Prop where
 glob:yW w
 fit:jb H b env []
 hn:H.length=n
 nl:n<=1000
 el:env.length<=1000
 ok:y8 1000 env
 rb:Rep F w (k_ b) bv
 re:Rep F w (.sl 199 4 env.length (qe env)) ev
theorem become_any (F:Nat->Prop) (n:Nat) (H:List Ty) (b:Bd) (env:List Mn) (bv ev:Value) (w:World) (h:BecPre F n H b env bv ev w) :
 Calls KD 138 #[bv,ev,.int .i64 (n:Nat)] w (qO F w (vj b env n)):=by
 obtain ⟨bb,rfl⟩:=za h.rb;obtain ⟨_,ea,ec,rfl,_⟩:=zg.1 h.re;obtain ⟨a0,aE⟩:=h.glob;have Ex:=mx w _ aE;have hlt1:2<w.heap.size:=Ex;have tY:Below w.heap.size w (w.alloc (.cells #[.int .i64 20000] 244)):=(mw _ _).alloc (my _) _;have hrbA:=Rep.below tY (fun _ h=>h) h.rb;have hreA:=Rep.below tY (fun _ h=>h) h.re;have F8:=(tY.cell Ex).trans aE;have kA:∀ {dv:DV} {v:Value},Rep F w dv v->Rep (fun i=>F i/\i<w.heap.size) (w.alloc (.cells #[.int .i64 20000] 244)) dv v:=fun h=>(Rep.keep fun b o hf ho=>⟨⟨hf,zZ ho⟩,zU ho⟩).1 _ _ h;have ia:=h.nl;have oX:=h.el
 have hE:pR (fun i=>F i/\i<w.heap.size) w.heap.size 20000 20000 n H b env [] (.pointer (some ⟨bb,0,none⟩)) (.slice ea env.length ec) .nilFunc (w.alloc (.cells #[.int .i64 20000] 244)) :=
  { glob:=⟨a0,F8⟩,hF:=fun i hi e=>by have:=hi.2;omega,ng:=by omega,apl:=zG _ _,ld:=my _,d20:=my _,fit:=h.fit,hn:=h.hn,el:=by omega,nl:=by omega,
    ok:=qU (by omega) _ h.ok,okg:=trivial,rb:=kA h.rb,re:=kA h.re,ro:=rfl }
 have C:=eval_any 20000 _ _ _ _ _ _ _ _ _ _ _ _ hE;have CT:=c_ F8 C;have hsz:=ev_size 20000 20000 b env n [];have MK:(Qw 20000 20000 b env n []=none->vj b env n=none)/\∀ x,Qw 20000 20000 b env n []=some x->((zX x.1<=200/\kz x.1<=100)->vj b env n=some x.1)/\(¬ (zX x.1<=200/\kz x.1<=100)->vj b env n=none):=by
  unfold vj;refine ⟨fun h=>by rw [h],fun x h=>?_⟩;rw [h];exact ⟨fun h=>if_pos h,fun h=>if_neg h⟩
 clear hE C kA hrbA hreA h;generalize vj b env n=r at *;generalize Qw 20000 20000 b env n []=oo at *;have HS:=mj (mu hsz (mu tY (mu aE MK)));clear hsz tY aE F8 MK;cases oo with
 | none =>
   have C:=mj (CT.1 rfl);clear CT;go_enter S8,SF;go_wp2_with fail
   (with_reducible refine C.out.mono ?_);rintro en w1 ⟨rfl,mi⟩
   have me:Below w.heap.size w w1:=HS.out.2.1.trans (mi.toBelow (by rw [zK];omega) fun i hi e=>by have e:i=w.heap.size:=e;omega);have tU:=(me.cell Ex).trans HS.out.2.2.1;have C2:=mj (is_same a0 w1);have HB:=mj me;clear mi me;go_wp2_with fail
   (with_reducible refine C2.out.mono ?_);rintro en w2 ⟨rfl,rfl⟩
   go_wp2_with fail
   go_ret;exact ⟨_,rfl,HB.out,fun _=>rfl,fun b h=>by have h0:r=none:=HS.out.2.2.2.1 (by simp);rw [h0] at h;simp at h⟩
 | some x =>
   have C:=mj (CT.2 x rfl);clear CT;go_enter S8,SF;go_wp2_with fail
   (with_reducible refine C.out.mono ?_);rintro en w1 ⟨vb,rfl,mi,_,sJ⟩
   have me:Below w.heap.size w w1:=HS.out.2.1.trans (mi.toBelow (by rw [zK];omega) fun i hi e=>by have e:i=w.heap.size:=e;omega);have tU:=(me.cell Ex).trans HS.out.2.2.1;have C2:=mj (is_nil a0 w1);have hz:=HS.out.1 x.1 x.2 rfl;have C3:=mj (fits_any _ w1 x.1 _ sJ (by omega));have HB:=mj (mu me sJ);clear mi me sJ hz;go_wp2_with fail
   (with_reducible refine C2.out.mono ?_);rintro en w2 ⟨rfl,rfl⟩
   by_cases tV:zX x.1<=200/\kz x.1<=100
   ·rw [decide_eq_true tV] at C3;have HF:=mj tV;clear tV;go_wp2_with fail
    (with_reducible refine C3.out.mono ?_);rintro en w3 ⟨rfl,nZ⟩
    have sg:=mj nZ;clear nZ;go_wp2_with fail
    go_ret;have hr:=(HS.out.2.2.2.2 x rfl).1 HF.out;refine ⟨_,rfl,zzT HB.out.1 sg.out,fun h=>?_,fun b h=>?_⟩
    ·rw [hr] at h;simp at h
    ·rw [hr] at h;obtain rfl:=Ob h;refine Rep.weak (Rep.below sg.out (fun _ h=>h) HB.out.2) fun i h=>?_;rcases h with h | h
     ·exact .inl h.1
     ·rw [zK] at h;exact .inr (by omega)
   ·rw [decide_eq_false tV] at C3;have HF:=mj tV;clear tV;go_wp2_with fail
    (with_reducible refine C3.out.mono ?_);rintro en w3 ⟨rfl,nZ⟩
    have sg:=mj nZ;clear nZ;go_wp2_with fail
    go_ret;exact ⟨_,rfl,zzT HB.out.1 sg.out,fun _=>rfl,fun b h=>by rw [(HS.out.2.2.2.2 x rfl).2 HF.out] at h;simp at h⟩
def zp (bs:List Ty) (a:Ty) (n:Bd) (rest:List Ty):List Mn:=z8 0 bs++(.bd a n (z8 0 bs)::z8 bs.length rest)
structure AppPre (F:Nat->Prop) (bs rest:List Ty) (a:Ty) (m n:Bd) (mv nv bv rv:Value) (w:World):Prop where
 glob:yW w
 fit:jb (bs++rest) m (zp bs a n rest) []
 a15:zJ a<=15
 bl:bs.length<=100
 rl:rest.length<=100
 b15:∀ t∈bs,zJ t<=15
 r15:∀ t∈rest,zJ t<=15
 rm:Rep F w (k_ m) mv
 rn:Rep F w (k_ n) nv
 rb:Rep F w (.sl 32 1 bs.length (qg bs)) bv
 rr:Rep F w (.sl 32 1 rest.length (qg rest)) rv
theorem apply_any (F:Nat->Prop) (bs rest:List Ty) (a:Ty) (m n:Bd) (mv nv bv rv:Value) (w:World) (h:AppPre F bs rest a m n mv nv bv rv w) :
 Calls KD 103 #[mv,nv,bv,rv] w (qO F w (vj m (zp bs a n rest) (bs.length+rest.length))):=by
 obtain ⟨mb,rfl⟩:=za h.rm;obtain ⟨nb,rfl⟩:=za h.rn;obtain ⟨_,ba,bc,rfl,_⟩:=zg.1 h.rb;obtain ⟨_,ra,rc,rfl,_⟩:=zg.1 h.rr;have Fv:=h.bl;have Eg:=h.rl;have C1:Calls KD 137 #[.int .i64 0,.slice ba bs.length bc] w (FreshV w 199 4 bs.length fun w' xs=>zW F w' (qe (z8 0 bs)) xs):=dg F 0 bs _ w h.rb (by omega) (by omega);have C1:=mj C1;have HP:=mj h;clear h;go_enter Tryz.func103,Tryz.ntmps103;go_wp2_with fail
 (with_reducible refine C1.out.mono ?_)
 rintro en w1 ⟨a1,c1,xs1,rfl,JT,sJ,mi,Ms⟩;have rz:=JT.src (vp _ _ sJ);have H1:=mj (mu JT (mu sJ (mu mi (mu Ms rz))));clear JT sJ mi Ms rz C1;go_wp2_with (at_builtin;refine zE rfl _ _ 196 rfl 199 (.agg #[.int .i64 0,.pointer none,.pointer none,.slice none 0 0]) 4 48 Pk Tryz.infoMn rfl (by decide) (.slice none 0 0) 0 [] rfl ?a1 _ bs.length xs1 rfl ?a2 ?a3 ?a4 ?_)
 case a1=>exact OL _ _ _ _
 case a2=>exact H1.out.2.2.2.2
 case a3=>unfold maxLen;omega
 case a4=>omega
 intro a2 c2 w2 ho2 me Cr;have EN:Below w1.heap.size w1 w2:=me.toBelow (my _) (fun i _ e=>by simp [N7] at e);have hf2:∀ g,(Nq a2 bs.length c2).ownBlock=some g->w1.heap.size<=g:=fun g hg=>by
  rcases Cr g hg with h | h
  ·simp [N7] at h
  ·omega
 have H2:=mj (mu ho2 (mu EN hf2));clear ho2 me Cr EN hf2;go_wp2_with (at_builtin;refine zE rfl _ _ 196 rfl 199 (.agg #[.int .i64 0,.pointer none,.pointer none,.slice none 0 0]) 4 48 Pk Tryz.infoMn rfl (by decide) (.slice a2 bs.length c2) bs.length xs1 rfl ?b1 _ 1 [.int .i64 0,.pointer none,.pointer (some ⟨nb,0,none⟩),.slice a1 bs.length c1] rfl ?b2 ?b3 ?b4 ?_)
 case b1=>exact H2.out.1.alloc _
 case b2=>exact zq.lit1 #[.int .i64 0,.pointer none,.pointer (some ⟨nb,0,none⟩),.slice a1 bs.length c1] rfl (by simp [Of]) _ (by simp)
 case b3=>unfold maxLen;omega
 case b4=>omega
 intro a3 c3 w3 ho3 nZ Bh;have sI:=H2.out.2.1.size;have ln:=H1.out.2.2.1.size;have Ja:Below w1.heap.size w1 w3:=(H2.out.2.1.alloc sI _).trans (nZ.toBelow (by rw [zK];omega) fun i hi e=>by have:=H2.out.2.2 i e;omega);have hf3:∀ g,(Nq a3 (bs.length+1) c3).ownBlock=some g->w1.heap.size<=g:=fun g hg=>by
  rcases Bh g hg with h | h
  ·exact H2.out.2.2 g h
  ·omega
 have Jf:Below w.heap.size w w3:=H1.out.2.2.1.trans (Ja.mono ln);have C4:=mj (dg (fun i=>F i/\i<w.heap.size) bs.length rest _ w3 (Rep.below Jf (fun _ h=>h) (Rep.low HP.out.rr)) (by omega) (by omega));have H3:=mj (mu ho3 (mu Ja (mu hf3 Jf)));clear ho3 nZ Bh Ja hf3 Jf;go_wp2_with fail
 (with_reducible refine C4.out.mono ?_)
 rintro en w4 ⟨a4,c4,xs4,rfl,ho4,Dk,nS,hf4⟩;clear C4;have tK:=ho4.src (vp _ _ Dk);have LF:Own w4 199 4 (.slice a3 (bs.length+1) c3) (bs.length+1) (xs1++[.int .i64 0,.pointer none,.pointer (some ⟨nb,0,none⟩),.slice a1 bs.length c1]):=H3.out.1.keep fun g o hg hh=>by rw [nS.block g (zZ hh)];exact hh
 have H4:=mj (mu LF (mu tK (mu Dk (mu nS hf4))));clear LF tK Dk nS hf4 ho4;go_wp2_with (at_builtin;refine zE rfl _ _ 196 rfl 199 (.agg #[.int .i64 0,.pointer none,.pointer none,.slice none 0 0]) 4 48 Pk Tryz.infoMn rfl (by decide) (.slice a3 (bs.length+1) c3) (bs.length+1) (xs1++[.int .i64 0,.pointer none,.pointer (some ⟨nb,0,none⟩),.slice a1 bs.length c1]) rfl ?d1 _ rest.length xs4 rfl ?d2 ?d3 ?d4 ?_)
 case d1=>exact H4.out.1
 case d2=>exact H4.out.2.1
 case d3=>unfold maxLen;omega
 case d4=>omega
 intro a5 c5 w5 iV nR iY;have ap:=H3.out.2.1.size;have hz4:=H4.out.2.2.2.1.size;have Ga:Below w1.heap.size w1 w5:=(H3.out.2.1.trans (H4.out.2.2.2.1.mono ap)).trans (nR.toBelow (by omega) fun i hi e=>by have:=H3.out.2.2.1 i e;omega);have hf5:∀ g,(Nq a5 (bs.length+1+rest.length) c5).ownBlock=some g->w1.heap.size<=g:=fun g hg=>by
  rcases iY g hg with h | h
  ·exact H3.out.2.2.1 g h
  ·omega
 have AW:Below w.heap.size w w5:=H1.out.2.2.1.trans (Ga.mono ln);have hlen:(zp bs a n rest).length=bs.length+1+rest.length:=by unfold zp;simp [qG];omega
 have El:Rep (fun i=>F i\/w.heap.size<=i) w5 (.sl 199 4 (zp bs a n rest).length (qe (zp bs a n rest))) (.slice a5 (bs.length+1+rest.length) c5):=by
  rw [hlen];refine iV.rep (fun g hg=>.inr (by have:=hf5 g hg;omega)) ?_;have e:qe (zp bs a n rest)=qe (z8 0 bs)++(dX (.bd a n (z8 0 bs))++qe (z8 bs.length rest)):=by unfold zp;rw [uX,qe]
  rw [e];have k1:∀ {ds:List DV} {us:List Value},zW F w1 ds us->zW (fun i=>F i\/w.heap.size<=i) w5 ds us:=fun h=>(Rep.keep fun b o hf hh=>⟨.inl hf,by rw [Ga.block b (zZ hh)];exact hh⟩).2 _ _ h;refine zW.append (k1 H1.out.2.1) (zW.append (vs:=[.int .i64 0,.pointer none,.pointer (some ⟨nb,0,none⟩),.slice a1 bs.length c1]) (us:=xs4) ?_ ?_)
  ·rw [dX];have r1:Rep (fun i=>F i\/w.heap.size<=i) w5 (k_ n) (.pointer (some ⟨nb,0,none⟩)):=(Rep.below AW (fun _ h=>h) HP.out.rn).weak fun i h=>.inl h;have r2:Rep (fun i=>F i\/w.heap.size<=i) w5 (.sl 199 4 (z8 0 bs).length (qe (z8 0 bs))) (.slice a1 bs.length c1):=by
    rw [qG];refine (H1.out.1.keep fun g o hg hh=>?_).rep (fun g hg=>.inr (H1.out.2.2.2.1 g hg)) (k1 H1.out.2.1);rw [Ga.block g (zZ hh)];exact hh
   exact zQ.2 ⟨_,_,rfl,zH.2 rfl,zQ.2 ⟨_,_,rfl,zH.2 rfl,zQ.2 ⟨_,_,rfl,r1,zQ.2 ⟨_,_,rfl,r2,zC.2 rfl⟩⟩⟩⟩
  ·refine (Rep.keep fun b o hf hh=>⟨.inl hf.1,?_⟩).2 _ _ H4.out.2.2.1;have m_:=hf.2;rw [nR.block b (zZ hh) (fun e=>by have:=H3.out.2.2.1 b e;omega)];exact hh
 have hE:BecPre (fun i=>F i\/w.heap.size<=i) (bs.length+rest.length) (bs++rest) m (zp bs a n rest) (.pointer (some ⟨mb,0,none⟩)) (.slice a5 (bs.length+1+rest.length) c5) w5 :=
  { glob:=HP.out.glob.below AW,fit:=HP.out.fit,hn:=NZ ..,nl:=by omega,el:=by omega,
    ok:=jx _ _ (jR _ _ HP.out.b15 (by omega)) ⟨⟨HP.out.a15,by rw [qG];omega,jR _ _ HP.out.b15 (by omega)⟩,jR _ _ HP.out.r15 (by omega)⟩,
    rb:=(Rep.below AW (fun _ h=>h) HP.out.rm).weak fun i h=>.inl h,re:=El }
 have C6:=become_any _ _ _ _ _ _ _ w5 hE;rw [Int.natCast_add] at C6;generalize vj m (zp bs a n rest) (bs.length+rest.length)=r at *;have C6:=mj C6;have HB:=mj AW;clear El hE hlen AW Ga hf5 iV nR iY;go_wp2_with fail
 (with_reducible refine C6.out.mono ?_)
 rintro en w6 ⟨v,rfl,nJ,ij,iI⟩;have H6:=mj (mu nJ (mu ij iI));clear nJ ij iI;go_wp2_with fail
 go_ret;refine ⟨v,rfl,zzT HB.out H6.out.1,H6.out.2.1,fun b h=>(H6.out.2.2 b h).weak fun i h=>?_⟩;have hz:=HB.out.size;rcases h with (h | h) | h
 ·exact .inl h
 ·exact .inr h
 ·exact .inr (by omega)
theorem pF {F:Nat->Prop} {w:World} {e:TypeId} {n b o cap:Nat} {d:DV} {ds:List DV} (h:Rep F w (.sl e 1 (n+1) (d::ds)) (.slice (some ⟨b,o,none⟩) (n+1) cap)) :
 Rep F w (.sl e 1 n ds) (.slice (some ⟨b,o+1,none⟩) n (cap-1)):=by
 rw [zg] at h ⊢;obtain ⟨hl,a,c,e1,hn,hz,h⟩:=h;simp only [N_] at e1;obtain ⟨rfl,_,rfl⟩:=e1;refine ⟨by simpa using hl,_,_,rfl,by omega,fun h=>by simp at h,.inr ?_⟩;rcases h with h0 | ⟨b',o',cs,fr,e2,hb,hcs,hr⟩
 ·omega
 simp only [N1,OI,and_true] at e2;obtain ⟨rfl,rfl⟩:=e2;refine ⟨_,_,cs,fr,rfl,hb,hcs,?_⟩;have h2:=hr;rw [zQ] at h2;obtain ⟨v,vs,e3,_,h4⟩:=h2;have:vs=List.take (n*1) (QA (o+1) cs.toList):=by
  have h5:=congrArg (QA 1) e3;rw [List.drop_take,List.drop_drop] at h5;simpa using h5.symm
 rw [<- this];exact h4
theorem mW:∀ (ss:List Bd),(∀ s∈ss,2*kz s+1<=zX s)->ss≠[]->2*k8 ss<=zR ss+1
 | [],_,h=>absurd rfl h
 | [s],hs,_=>by
   have:=hs s (by simp);simp only [k8,zR];omega
 | s::t::ss,hs,_=>by
   have h1:=hs s (by simp);have h2:=mW (t::ss) (fun x hx=>hs x (List.mem_cons_of_mem _ hx)) (by simp);rw [k8,zR];omega
theorem pW:∀ (n:Nat) (b:Bd),zX b<=n->2*kz b+1<=zX b
 | 0,b,h=>by have:=kW b;omega
 | n+1,.leaf c,_=>by simp [kz,zX]
 | n+1,.ask v ss y no,h=>by
   rw [zX] at h;have py:=kW y;have pn:=kW no;have hy:=pW n y (by omega);have hn:=pW n no (by omega);rw [kz,zX];by_cases hs:ss=[]
   ·subst hs;simp only [k8,zR];omega
   ·have:=mW ss (fun s oJ=>pW n s (by have:=vo oJ;omega)) hs;omega
theorem mY {b:Bd} (h:zX b<=200):kz b<=100:=by
 have:=pW _ b (my _);omega
theorem become_writes (b:Bd) (env:List Mn) (n:Nat):yC b env n=vj b env n:=by
 rw [writes_eq];unfold vj;cases ev 20000 20000 b env n [] with
 | none=>rfl
 | some x =>
   obtain ⟨out,l⟩:=x;simp only;by_cases hs:zX out<=200
   ·rw [if_pos hs,if_pos ⟨hs,mY hs⟩]
   ·rw [if_neg hs,if_neg (fun h=>hs h.1)]
def ue (b:Bd):Option Bd:=if zX b<=200 then some b else none
mutual
def kH (b:Bd) (n k:Nat):Bd:=match b with
 | .leaf c=>.leaf c
 | .ask v ss y no=>.ask (if n<=v then v+k else v) (ze ss n k) (kH y n k) (kH no n k)
def ze (bs:List Bd) (n k:Nat):List Bd:=match bs with
 | []=>[]
 | b::bs=>kH b n k::ze bs n k
end
def qW (b yes no:Bd):Bd:=match b with
 | .leaf c=>if c=116 then yes else if c=102 then no else .leaf c
 | .ask v ss y n=>.ask v ss (qW y yes no) (qW n yes no)
mutual
theorem gy:∀ (b:Bd) (H A X:List Ty),jq (H++X) b->jq (H++A++X) (kH b H.length A.length)
 | .leaf c,H,A,X,h=>by simp [kH,jq]
 | .ask v ss y no,H,A,X,h=>by
   rw [jq] at h;obtain ⟨t,ht,h1,h2,h3⟩:=h;rw [kH,jq];refine ⟨t,?_,fS ss t.args H A X h1,gy y H A X h2,gy no H A X h3⟩;by_cases hv:H.length<=v
   ·rw [if_pos hv];rw [Ow hv] at ht;rw [OF,Ow (by omega),Ow (by omega),show v+A.length-H.length-A.length=v-H.length from by omega];exact ht
   ·rw [if_neg hv];rw [Ou (by omega)] at ht;rw [OF,Ou (by omega)];exact ht
theorem fS:∀ (bs:List Bd) (ts:List Ty) (H A X:List Ty),jz (qC (H++X) ts) bs->jz (qC (H++A++X) ts) (ze bs H.length A.length)
 | [],ts,H,A,X,h=>by
   have:=vL _ _ h;rw [yJ] at this;obtain rfl:ts=[]:=Ox this;rw [ze,jz];rfl
 | b::bs,[],H,A,X,h=>by
   have:=vL _ _ h;rw [yJ] at this;simp at this
 | b::bs,t::ts,H,A,X,h=>by
   rw [jz] at h;obtain ⟨h',oJ,e,f1,f2⟩:=h;simp only [qC,Ol,Od] at e;obtain ⟨rfl,rfl⟩:=e;rw [ze,jz];refine ⟨H++A++X++t.args,qC (H++A++X) ts,rfl,?_,fS bs ts H A X f2⟩;have:=gy b H A (X++t.args) (by rw [<- OF];exact f1);rw [<- OF] at this;exact this
end
mutual
theorem wF:∀ (b:Bd) (n k:Nat),wfB b->wfB (kH b n k)
 | .leaf c,n,k,h=>by rw [kH];exact h
 | .ask v ss y no,n,k,h=>by
   rw [wfB] at h;rw [kH,wfB];exact ⟨shift_wfs ss n k h.1,wF y n k h.2.1,wF no n k h.2.2⟩
theorem shift_wfs:∀ (bs:List Bd) (n k:Nat),xV bs->xV (ze bs n k)
 | [],n,k,h=>by rw [ze];exact h
 | b::bs,n,k,h=>by
   rw [xV] at h;rw [ze,xV];exact ⟨wF b n k h.1,shift_wfs bs n k h.2⟩
end
theorem dn:∀ (b yes no:Bd) (H:List Ty),jq H b->jq H yes->jq H no->jq H (qW b yes no)
 | .leaf c,yes,no,H,h,h1,h2=>by
   rw [qW];split
   ·exact h1
   ·split
    ·exact h2
    ·exact h
 | .ask v ss y n,yes,no,H,h,h1,h2=>by
   rw [jq] at h;obtain ⟨t,ht,k1,k2,k3⟩:=h;rw [qW,jq];exact ⟨t,ht,k1,dn y yes no H k2 h1 h2,dn n yes no H k3 h1 h2⟩
theorem mQ:∀ (b yes no:Bd),wfB b->wfB yes->wfB no->wfB (qW b yes no)
 | .leaf c,yes,no,h,h1,h2=>by
   rw [qW];split
   ·exact h1
   ·split
    ·exact h2
    ·exact h
 | .ask v ss y n,yes,no,h,h1,h2=>by
   rw [wfB] at h;rw [qW,wfB];exact ⟨h.1,mQ y yes no h.2.1 h1 h2,mQ n yes no h.2.2 h1 h2⟩
abbrev Nm:=Bs×Ty
def qS (ns:List Nm) (x:Bs):Nat->Option Nat
 | 0=>none
 | n+1=>if ns[n]?.map Prod.fst=some x then some n else qS ns x n
def jw (ns:List Nm) (x:Bs):Option Nat:=qS ns x ns.length
theorem findAt_lt {ns:List Nm} {x:Bs}:∀ {n i:Nat},qS ns x n=some i->i<n/\∃ k,ns[i]? = some (x,k)
 | 0,i,h=>by simp [qS] at h
 | n+1,i,h=>by
   rw [qS] at h;split at h
   ·rename_i hc;obtain rfl:=Ob h;rw [N3] at hc;obtain ⟨⟨a,k⟩,h1,rfl⟩:=hc;exact ⟨by omega,k,h1⟩
   ·obtain ⟨h1,h2⟩:=findAt_lt h;exact ⟨by omega,h2⟩
def kinds (ns:List Nm):List Ty:=ns.map Prod.snd
def typeOf (ns:List Nm):Tm->Option Ty
 | .nm x=>(jw ns x).bind fun i=>ns[i]?.map Prod.snd
 | .wd _=>some (.mk [])
 | .lam x k t=>if 15<zJ k then none else (typeOf (ns++[(x,k)]) t).bind fun b=>if 15<zJ (z_ k b) then none else some (z_ k b)
 | .app m n=>(typeOf ns m).bind fun a=>(typeOf ns n).bind fun b=>match a.args with
   | []=>none
   | c::cs=>if zN c=zN b then some (.mk cs) else none
 | .ite l m n=>(typeOf ns l).bind fun a=>(typeOf ns m).bind fun b=>(typeOf ns n).bind fun c=>if a.args=[]/\zN b=zN c then some b else none
def zL (ns:List Nm):Tm->Option Bd
 | .nm x=>(jw ns x).bind fun i=>ns[i]?.bind fun p=>ue (eta p.2 i ns.length)
 | .wd w=>some (.leaf (w.headD 0))
 | .lam x k t=>zL (ns++[(x,k)]) t
 | .app m n=>(zL ns m).bind fun a=>(zL ns n).bind fun b=>(typeOf ns m).bind fun t=>match t.args with
   | []=>none
   | k::rest=>vj a (zp (kinds ns) k b rest) (ns.length+rest.length)
 | .ite l m n=>(zL ns l).bind fun a=>(zL ns m).bind fun b=>(zL ns n).bind fun c=>(typeOf ns m).bind fun t=>ue (qW (kH a ns.length t.args.length) b c)
theorem textT_inj {a b:Ty} (h:zN a=zN b):a=b:=by
 have k1:=p9 (zJ a+zJ b) a [] (by omega);have k2:=p9 (zJ a+zJ b) b [] (by omega);rw [h,k2] at k1;exact (Prod.mk.inj (Ob k1)).1.symm
theorem gN {bs rest:List Ty} {a:Ty} {n m:Bd} (hn:jq (bs++a.args) n) (hm:jq (bs++a::rest) m):jb (bs++rest) m (zp bs a n rest) []:=by
 refine ⟨⟨bs++a::rest,?_,hm⟩,by simp⟩;have h1:jY (bs++rest) (z8 0 bs) bs:=dp bs 0 fun i t h=>by rw [Nat.zero_add,Ou (N6.1 h).1];exact h
 refine yx _ _ _ _ h1 ?_;rw [jY];refine ⟨a,rest,rfl,?_,bj bs rest⟩;rw [xe];exact ⟨rfl,bs,h1,hn⟩
theorem between_wf {bs rest:List Ty} {a:Ty} {n:Bd} (hn:wfB n):wG (zp bs a n rest):=by
 unfold zp;refine ju _ _ (jN bs 0) ?_;exact ⟨⟨hn,jN bs 0⟩,jN rest bs.length⟩
theorem we {b c:Bd} (h:ue b=some c):c=b/\zX b<=200:=by
 unfold ue at h;split at h
 ·exact ⟨(Ob h).symm,by assumption⟩
 ·simp at h
theorem jS (ns:List Nm) (x:Bs) (k:Ty):kinds (ns++[(x,k)])=kinds ns++[k]:=by simp [kinds]
theorem jQ (ns:List Nm):(kinds ns).length=ns.length:=by simp [kinds]
theorem yZ {ns:List Nm} {i:Nat} {x:Bs} {k:Ty} (h:ns[i]? = some (x,k)):(kinds ns)[i]? = some k:=by simp [kinds,h]
theorem qV:∀ (t:Tm) (ns:List Nm) (k:Ty),(∀ a∈kinds ns,zJ a<=15)->typeOf ns t=some k->zJ k<=15
 | .nm x,ns,k,hn,h=>by
   rw [typeOf,No] at h;obtain ⟨i,_,h2⟩:=h;rw [N3] at h2;obtain ⟨⟨y,a⟩,h3,rfl⟩:=h2;exact hn a (Oc (yZ h3))
 | .wd w,ns,k,_,h=>by
   rw [typeOf] at h;obtain rfl:=Ob h;decide
 | .lam x k t,ns,k',hn,h=>by
   rw [typeOf] at h;split at h
   ·simp at h
   ·rw [No] at h;obtain ⟨b,_,h2⟩:=h;split at h2
    ·simp at h2
    ·obtain rfl:=Ob h2;omega
 | .app m n,ns,k,hn,h=>by
   rw [typeOf,No] at h;obtain ⟨a,h1,h⟩:=h;rw [No] at h;obtain ⟨b,_,h⟩:=h;have ha:=qV m ns a hn h1;split at h
   ·simp at h
   ·rename_i c cs hc;split at h
    ·obtain rfl:=Ob h;have:=bi hc;omega
    ·simp at h
 | .ite l m n,ns,k,hn,h=>by
   rw [typeOf,No] at h;obtain ⟨a,_,h⟩:=h;rw [No] at h;obtain ⟨b,h1,h⟩:=h;rw [No] at h;obtain ⟨c,_,h⟩:=h;split at h
   ·obtain rfl:=Ob h;exact qV m ns _ hn h1
   ·simp at h
theorem cD {ns:List Nm} {m n:Tm} {k:Ty} (h:typeOf ns (.app m n)=some k):∃ a b rest,typeOf ns m=some a/\typeOf ns n=some b/\a.args=b::rest/\k=.mk rest:=by
 rw [typeOf,No] at h;obtain ⟨a,h1,h⟩:=h;rw [No] at h;obtain ⟨b,h2,h⟩:=h;split at h
 ·simp at h
 ·rename_i c cs hc;split at h
  ·rename_i he;obtain rfl:=Ob h;obtain rfl:=textT_inj he;exact ⟨a,c,cs,h1,h2,hc,rfl⟩
  ·simp at h
theorem cC {ns:List Nm} {l m n:Tm} {k:Ty} (h:typeOf ns (.ite l m n)=some k):typeOf ns l=some (.mk [])/\typeOf ns m=some k/\typeOf ns n=some k:=by
 rw [typeOf,No] at h;obtain ⟨a,h1,h⟩:=h;rw [No] at h;obtain ⟨b,h2,h⟩:=h;rw [No] at h;obtain ⟨c,h3,h⟩:=h;split at h
 ·rename_i he;obtain rfl:=Ob h;obtain rfl:=textT_inj he.2;refine ⟨?_,h2,h3⟩;rw [h1];cases a with
  | mk ts=>have:=he.1;simp only [Ty.args] at this;subst this;rfl
 ·simp at h
theorem cB {ns:List Nm} {x:Bs} {a:Ty} {t:Tm} {k:Ty} (h:typeOf ns (.lam x a t)=some k):zJ a<=15/\∃ b,typeOf (ns++[(x,a)]) t=some b/\k=z_ a b:=by
 rw [typeOf] at h;split at h
 ·simp at h
 ·rw [No] at h;obtain ⟨b,h1,h2⟩:=h;split at h2
  ·simp at h2
  ·obtain rfl:=Ob h2;exact ⟨by omega,b,h1,rfl⟩
theorem jp:∀ (t:Tm) (ns:List Nm) (k:Ty) (b:Bd),xY t->(∀ a∈kinds ns,zJ a<=15)->typeOf ns t=some k->zL ns t=some b->jq (kinds ns++k.args) b/\wfB b/\zX b<=200
 | .nm x,ns,k,b,_,hn,ht,h=>by
   rw [typeOf,No] at ht;obtain ⟨i,hi,ht⟩:=ht;rw [zL,hi,Mm,No] at h;obtain ⟨⟨y,a⟩,h1,h2⟩:=h;rw [h1] at ht;simp at ht;subst ht;obtain ⟨rfl,hs⟩:=we h2;exact ⟨eta_fit a i ns.length (kinds ns) (jQ ns) (yZ h1),eta_wf a i ns.length,hs⟩
 | .wd w,ns,k,b,ho,hn,ht,h=>by
   rw [zL] at h;obtain rfl:=Ob h;refine ⟨by simp [jq],?_,by simp [zX]⟩;rw [wfB];have:jO w=true:=ho;simp only [jO,Bool.or_eq_true,beq_iff_eq] at this;rcases this with (rfl | rfl) | rfl
   ·exact .inl rfl
   ·exact .inr (.inl rfl)
   ·exact .inr (.inr rfl)
 | .lam x a t,ns,k,b,ho,hn,ht,h=>by
   obtain ⟨ha,c,hc,rfl⟩:=cB ht;rw [zL] at h
   have:=jp t (ns++[(x,a)]) c b ho.2 (fun y hy=>by
    rw [jS] at hy;rcases Oy.1 hy with hy | hy
    ·exact hn y hy
    ·simp at hy;subst hy;exact ha) hc h
   rw [jS,OF] at this;exact this
 | .app m n,ns,k,b,ho,hn,ht,h=>by
   obtain ⟨a,c,rest,h1,h2,h3,rfl⟩:=cD ht;rw [zL,No] at h;obtain ⟨p,hp,h⟩:=h;rw [No] at h;obtain ⟨q,hq,h⟩:=h;rw [h1,Mm,h3] at h;simp only at h;obtain ⟨f1,w1,s1⟩:=jp m ns a p ho.1 hn h1 hp;obtain ⟨f2,w2,s2⟩:=jp n ns c q ho.2 hn h2 hq;rw [h3] at f1;have hf:=gN f2 f1;have hlen:ns.length+rest.length=(kinds ns++rest).length:=by rw [NZ,jQ]
   rw [hlen] at h;unfold vj at h;cases hv:ev 20000 20000 p (zp (kinds ns) c q rest) (kinds ns++rest).length [] with
   | none=>rw [hv] at h;simp at h
   | some x =>
     obtain ⟨o,l⟩:=x;rw [hv] at h;simp only at h;split at h
     ·rename_i hs;obtain rfl:=Ob h;exact ⟨ev_fit _ _ _ _ _ _ _ _ hf hv,ev_wf _ _ _ _ _ _ _ _ w1 (between_wf w2) (by simp) hv,hs.1⟩
     ·simp at h
 | .ite l m n,ns,k,b,ho,hn,ht,h=>by
   obtain ⟨h1,h2,h3⟩:=cC ht;rw [zL,No] at h;obtain ⟨p,hp,h⟩:=h;rw [No] at h;obtain ⟨q,hq,h⟩:=h;rw [No] at h;obtain ⟨r,hr,h⟩:=h;rw [h2,Mm] at h;obtain ⟨rfl,hs⟩:=we h;obtain ⟨f1,w1,_⟩:=jp l ns _ p ho.1 hn h1 hp;obtain ⟨f2,w2,_⟩:=jp m ns _ q ho.2.1 hn h2 hq;obtain ⟨f3,w3,_⟩:=jp n ns _ r ho.2.2 hn h3 hr;have IB:=gy p (kinds ns) k.args [] (show jq (kinds ns++[]) p from f1);rw [Ov,jQ] at IB;exact ⟨dn _ _ _ _ IB f2 f3,mQ _ _ _ (wF _ _ _ w1) w2 w3,hs⟩
theorem gQ {t:Tm} {k:Ty} {b:Bd} (ho:xY t) (ht:typeOf [] t=some k) (h:zL [] t=some b):Good k b:=by
 obtain ⟨h1,h2,h3⟩:=jp t [] k b ho (by simp [kinds]) ht h;exact ⟨qV t [] k (by simp [kinds]) ht,by simpa [kinds] using h1,h2,h3,mY h3⟩
def j9 (s:Bs):Option (Ty×Bd):=(qr s).bind fun t=>(typeOf [] t).bind fun k=>(zL [] t).map fun b=>(k,b)
def px (s:Bs):Option Ty:=(qr s).bind fun t=>typeOf [] t
theorem xC {s:Bs} {k:Ty} {b:Bd} (h:j9 s=some (k,b)):px s=some k/\Good k b:=by
 unfold j9 at h;simp only [No,N3,Prod.mk.injEq] at h;obtain ⟨t,h1,k',h2,b',h3,rfl,rfl⟩:=h;obtain ⟨_,ho,_⟩:=vh h1;exact ⟨by unfold px;rw [h1];exact h2,gQ ho h2 h3⟩
theorem yd:∀ (t:Tm) (ns:List Nm) (k:Ty),typeOf ns t=some k->kP t=true
 | .nm x,ns,k,h=>by rw [kP]
 | .wd w,ns,k,h=>by rw [kP]
 | .lam x a t,ns,k,h=>by
   obtain ⟨ha,b,hb,_⟩:=cB h;rw [kP,decide_eq_true ha,yd t _ b hb];rfl
 | .app m n,ns,k,h=>by
   obtain ⟨a,b,rest,h1,h2,_⟩:=cD h;rw [kP,yd m ns a h1,yd n ns b h2];rfl
 | .ite l m n,ns,k,h=>by
   obtain ⟨h1,h2,h3⟩:=cC h;rw [kP,yd l ns _ h1,yd m ns _ h2,yd n ns _ h3];rfl
theorem Tryz.infoBound:(KD.info? 109).map (fun i=>(i.zero,i.size,i.bytes))=some (some (.agg #[str [],.pointer none]),2,24):=by kernel_rfl
def jm:List Nm->List DV
 | []=>[]
 | p::ps=>.val (str p.1)::jT p.2::jm ps
theorem be (a b:List Nm):jm (a++b)=jm a++jm b:=by
 induction a with
 | nil=>rfl
 | cons p ps ih=>rw [List.cons_append,jm,jm,ih];rfl
theorem encNms_at:∀ (ns:List Nm) (i:Nat) (p:Nm),ns[i]? = some p->(jm ns)[i*2]? = some (.val (str p.1))/\(jm ns)[i*2+1]? = some (jT p.2)
 | [],i,p,h=>by simp at h
 | q::ps,0,p,h=>by simp at h;subst h;rw [jm];exact ⟨rfl,rfl⟩
 | q::ps,i+1,p,h=>by
   have:=encNms_at ps i p (by simpa using h);rw [jm,show (i+1)*2=i*2+1+1 from by omega,show i*2+1+1+1=(i*2+1)+1+1 from rfl];simpa using this
theorem oneNm {F:Nat->Prop} {w:World}:∀ (ns:List Nm) (us:List Value),zW F w (jm ns) us->∀ u∈us,u.oneCell'=true
 | [],us,h,u,hu=>by rw [jm,zC] at h;subst h;simp at hu
 | p::ps,us,h,u,hu=>by
   rw [jm,zQ] at h;obtain ⟨v1,vs,rfl,h1,h2⟩:=h;rw [zQ] at h2;obtain ⟨v2,vs2,rfl,h3,h4⟩:=h2;rw [zH] at h1;subst h1;obtain ⟨b,_,rfl,_⟩:=zi h3;rcases Om.1 hu with rfl | hu
   ·simp [str,Of]
   rcases Om.1 hu with rfl | hu
   ·simp [Of]
   ·exact oneNm ps vs2 h4 u hu
def AtNm (F:Nat->Prop) (w:World) (ns:List Nm) (a:Option Addr) (k:Nat):Prop :=
 ∃ b o x t kb,a=some ⟨b,o,none⟩/\b<w.heap.size/\ns[k]? = some (x,t)/\w.cell? ⟨b,o+k*2,none⟩=some (str x)/\w.cell? ⟨b,o+k*2+1,none⟩=some (.pointer (some ⟨kb,0,none⟩))/\Rep F w (jT t) (.pointer (some ⟨kb,0,none⟩))
theorem AtNms.of {F:Nat->Prop} {w:World} {ns:List Nm} {v:Value} (h:Rep F w (.sl 109 2 ns.length (jm ns)) v):∃ a c,v=.slice a ns.length c/\ns.length<=c/\∀ k,k<ns.length->AtNm F w ns a k:=by
 obtain ⟨hl,a,c,rfl,hn,hz,h⟩:=zg.1 h;refine ⟨a,c,rfl,hn,fun k hk=>?_⟩;rcases h with h | ⟨b,o,cs,fr,rfl,hb,hc,hr⟩
 ·omega
 ·obtain ⟨⟨x,t⟩,hp⟩:∃ p,ns[k]? = some p:=⟨ns[k],by simp [hk]⟩;obtain ⟨g1,g2⟩:=encNms_at ns k (x,t) hp;obtain ⟨v1,e1,r1⟩:=zW.at hr g1;obtain ⟨v2,e2,r2⟩:=zW.at hr g2;rw [zH] at r1;subst r1;obtain ⟨kb,_,rfl,_⟩:=zi r2;have ml:∀ j u,((cs.toList.drop o).take (ns.length*2))[j]? = some u->w.cell? ⟨b,o+j,none⟩=some u:=by
   intro j u hu;rw [List.getElem?_take] at hu;split at hu
   ·rw [List.getElem?_drop] at hu;simp only [GD,hc];simpa using hu
   ·simp at hu
  exact ⟨b,o,x,t,kb,rfl,zZ hc,hp,ml _ _ e1,by have:=ml _ _ e2;rwa [<- Nat.add_assoc] at this,r2⟩
def fZ:Option Nat->Int
 | some i=>i
 | none=>-1
theorem fN (t:Tm):0<zT t:=by cases t <;> simp only [zT] <;> omega
def FoundAt (ns:List Nm) (x:Bs) (k:Nat):Prop:=jw ns x=qS ns x k
theorem find_any (F:Nat->Prop) (ns:List Nm) (x:Bs) (lv:Value) (w:World) (hn:ns.length<=1000) (hr:Rep F w (.sl 109 2 ns.length (jm ns)) lv) :
 Calls KD 51 #[lv,str x] w fun en w'=>en=.returned (.int .i64 (fZ (jw ns x)))/\w'=w:=by
 obtain ⟨a,c,rfl,hc,ml⟩:=AtNms.of hr;have AT:=mj ml;clear ml hr;go_enter Tryz.func51,Tryz.ntmps51;go_wp2_with fail
 go_loop [5] (fun i=>∃ k:Nat,k<=ns.length/\i=.int .i64 ((k:Int)-1)/\FoundAt ns x k) (fun i=>(intOf i+1).toNat)
 case atStart=>exact ⟨ns.length,my _,rfl,rfl⟩
 case round =>
  obtain ⟨k,hk,rfl,hf⟩:=hrel;cases k with
  | zero =>
    have hz:((0:Nat):Int)-1 = -1:=rfl;rw [hz];go_wp2_with fail
    go_ret;refine ⟨?_,rfl⟩;rw [show jw ns x=none from hf];rfl
  | succ j =>
    have hj:j<ns.length:=by omega
    rw [show ((j+1:Nat):Int)-1=(j:Int) from by omega];obtain ⟨b,o,y,t,kb,e,hb,hp,h1,h2,_⟩:=AT.out j hj;subst e;have L_:(j:Int)<(ns.length:Int):=by omega
    have nA:qS ns x (j+1)=if y=x then some j else qS ns x j:=by
     rw [qS,hp];simp
    by_cases lx:y=x
    ·subst lx;have q:(y == y)=true:=by simp
     have HS:=mj (show jw ns y=some j by rw [show jw ns y=qS ns y (j+1) from hf,nA,if_pos rfl]);clear hf nA hp h2;go_wp2_with fail
     go_ret;exact ⟨by rw [HS.out];rfl,rfl⟩
    ·have q:(y == x)=false:=by rw [beq_eq_false_iff_ne];exact lx
     have HS:=mj (show jw ns x=qS ns x j by rw [show jw ns x=qS ns x (j+1) from hf,nA,if_neg lx]);clear hf nA hp h2 lx;go_wp2_with fail
     go_round
     case rel=>exact ⟨j,by omega,by go_num,HS.out⟩
     case measure=>simp only [intOf];omega
theorem same_any (F:Nat->Prop) (a b:Ty) (va vb:Value) (w:World) (ha:Rep F w (jT a) va) (hb:Rep F w (jT b) vb) (sN:zJ a<=15) (aM:zJ b<=15) :
 Calls KD 54 #[va,vb] w fun en w'=>en=.returned (.bool (zN a == zN b))/\Below w.heap.size w w':=by
 obtain ⟨ab,_,rfl,_⟩:=zi ha;obtain ⟨bb,_,rfl,_⟩:=zi hb;have C1:=mj (gj 15 a sN (by omega) F w _ ha);have C2:=mj (fun w1 (h:Below w.heap.size w w1)=>gj 15 b aM (by omega) F w1 _ (Rep.below (F':=F) h (fun _ h=>h) hb));clear ha hb;go_enter Tryz.func54,Tryz.ntmps54;go_wp2_with fail
 (with_reducible refine C1.out.mono ?_)
 rintro en w1 ⟨rfl,mi⟩;have nE:=mj mi;clear mi;go_wp2_with fail
 (with_reducible refine (C2.out w1 nE.out).mono ?_)
 rintro en w2 ⟨rfl,me⟩;have nF:=mj (zzT nE.out me);clear me;go_wp2_with fail
 go_ret;exact ⟨rfl,nF.out⟩
def kC (F:Nat->Prop) (w:World) (o:Option Ty) (en:Ending) (w':World):Prop :=
 ∃ v,en=.returned v/\Below w.heap.size w w'/\(o=none->v=.pointer none)/\(∀ k,o=some k->Rep (fun i=>F i\/w.heap.size<=i) w' (jT k) v)
structure TyPre (F:Nat->Prop) (t:Tm) (ns:List Nm) (tv lv:Value) (w:World):Prop where
 rt:Rep F w (jM t) tv
 rl:Rep F w (.sl 109 2 ns.length (jm ns)) lv
 ok:xY t
 n15:∀ a∈kinds ns,zJ a<=15
 room:ns.length+zT t<=1000
def bV (N:Nat):Prop:=∀ (F:Nat->Prop) (t:Tm) (ns:List Nm) (tv lv:Value) (w:World),zT t<=N->TyPre F t ns tv lv w->Calls KD 18 #[tv,lv] w (kC F w (typeOf ns t))
theorem x7 {F:Nat->Prop} {w:World} (hF:F w.heap.size):Rep F (w.alloc (.cells #[.slice none 0 0] 112)) (jT (.mk [])) (.pointer (some ⟨w.heap.size,0,none⟩)) :=
 hH hF (zG _ _) (zg.2 ⟨rfl,none,0,rfl,my _,fun _=>rfl,.inl rfl⟩)
theorem uM.alloc {w:World} {size n:Nat} {v:Value} {xs:List Value} (h:uM size v n xs w) (o:Obj):uM size v n xs (w.alloc o) :=
 ⟨h.1,h.2.elim (fun ⟨b,e,hc⟩=>.inl ⟨b,e,fun j u hj=>zV (hc j u hj)⟩) .inr⟩
theorem kC.no {F:Nat->Prop} {w w':World} {o:Option Ty} (ho:o=none) (hb:Below w.heap.size w w'):kC F w o (.returned (.pointer none)) w' :=
 ⟨_,rfl,hb,fun _=>rfl,fun k h=>by rw [ho] at h;simp at h⟩
theorem kC.yes {F:Nat->Prop} {w w':World} {o:Option Ty} {k:Ty} {v:Value} (ho:o=some k) (hb:Below w.heap.size w w') (hr:Rep (fun i=>F i\/w.heap.size<=i) w' (jT k) v):kC F w o (.returned v) w' :=
 ⟨_,rfl,hb,fun h=>by rw [ho] at h;simp at h,fun k' h=>by rw [ho] at h;obtain rfl:=Ob h;exact hr⟩
theorem typed_nm (F:Nat->Prop) (x:Bs) (ns:List Nm) (tv lv:Value) (w:World) (hp:TyPre F (.nm x) ns tv lv w):Calls KD 18 #[tv,lv] w (kC F w (typeOf ns (.nm x))):=by
 obtain ⟨tb,kv,slv,rfl,_,mm,_,_,_⟩:=jf hp.rt;simp only [xS,xT] at mm;have t0:w.cell? ⟨tb,0,none⟩=some (str []):=by simp [GD,mm]
 have t1:w.cell? ⟨tb,1,none⟩=some (str x):=by simp [GD,mm]
 have hn:ns.length<=1000:=by have:=hp.room;omega
 have CF:=find_any F ns x lv w hn hp.rl;obtain ⟨la,lc,rfl,JW,ml⟩:=AtNms.of hp.rl;have AT:=mj ml;have HP:=mj hp;clear hp ml mm;cases hq:jw ns x with
 | none =>
   have HT:=mj (show typeOf ns (.nm x)=none by rw [typeOf,hq];rfl);rw [hq] at CF;simp only [fZ] at CF;have CF':=mj CF;clear hq CF JW;go_enter PC,Pw;go_wp2_with fail
   (with_reducible refine CF'.out.mono ?_);rintro en w1 ⟨rfl,e⟩
   subst w1;go_wp2_with fail
   go_ret;exact kC.no HT.out (mw _ _)
 | some i =>
   obtain ⟨m_,k,hk⟩:=findAt_lt hq;obtain ⟨b,o,y,t,kb,e,hb,hp',h1,h2,rD⟩:=AT.out i m_;subst e;have nX:=HP.out.n15 t (Oc (yZ hp'));have HT:=mj (show typeOf ns (.nm x)=some t by rw [typeOf,hq,Mm,hp'];rfl);have CA:=mj (uG F w 15 t nX (by unfold Lim;omega) _ rD);have HR:=mj rD;rw [hq] at CF;simp only [fZ] at CF;have CF':=mj CF;have hi:(i:Int)<(ns.length:Int):=by omega
   have hA:¬ (15:Int)<(zJ t:Int):=by omega
   clear hq CF JW hk hp' h1 rD hb;go_enter PC,Pw;go_wp2_with fail
   (with_reducible refine CF'.out.mono ?_);rintro en w1 ⟨rfl,e⟩
   subst w1;go_wp2_with fail
   (with_reducible refine CA.out.mono ?_);rintro en w1 ⟨rfl,e⟩
   subst w1;go_wp2_with fail
   go_ret;exact kC.yes HT.out (mw _ _) (HR.out.weak fun _ h=>.inl h)
theorem typed_wd (F:Nat->Prop) (u:Bs) (ns:List Nm) (tv lv:Value) (w:World) (hp:TyPre F (.wd u) ns tv lv w):Calls KD 18 #[tv,lv] w (kC F w (typeOf ns (.wd u))):=by
 obtain ⟨tb,kv,slv,rfl,_,mm,_,_,_⟩:=jf hp.rt;simp only [xS,xT] at mm;have t0:w.cell? ⟨tb,0,none⟩=some (str u):=by simp [GD,mm]
 have nC:jO u=true:=hp.ok;simp only [jO,Bool.or_eq_true,beq_iff_eq] at nC;obtain ⟨la,lc,rfl,_,_⟩:=AtNms.of hp.rl;have HT:=mj (show typeOf ns (.wd u)=some (.mk []) by rw [typeOf]);have CA:=mj (uG (fun _=>True) (w.alloc (.cells #[.slice none 0 0] 112)) 15 (.mk []) (by decide) (by unfold Lim;omega) _ (x7 trivial));have eA:((zJ (.mk []):Nat):Int)=1:=by decide
 rw [eA] at CA;clear hp mm eA;rcases nC with (rfl | rfl) | rfl
 all_goals
  go_enter PC,Pw;go_wp2_with fail
  (with_reducible refine CA.out.mono ?_);rintro en w1 ⟨rfl,e⟩
  subst w1;go_wp2_with fail
  go_ret;exact kC.yes HT.out ((mw _ _).alloc (my _) _) (x7 (.inr (my _)))
theorem typed_lam (N:Nat) (ih:bV N) (F:Nat->Prop) (x:Bs) (k:Ty) (t:Tm) (ns:List Nm) (tv lv:Value) (w:World) (hN:zT (.lam x k t)<=N+1) (hp:TyPre F (.lam x k t) ns tv lv w):Calls KD 18 #[tv,lv] w (kC F w (typeOf ns (.lam x k t))):=by
 obtain ⟨tb,kv,slv,rfl,_,mm,_,Aq,i8⟩:=jf hp.rt;have hk:=Aq k rfl;obtain ⟨kb,_,e,_⟩:=zi hk;subst e;obtain ⟨pa,pc,rfl,_,_,ml⟩:=zP i8;simp only [xS,xT,j_] at mm;obtain ⟨aj,aO,Kw,Kx,D6,_,Br,Az,Bc,i7⟩:=ml 0 (by simp [zo]);simp only [zo,Ol,OU,N9,N8,N1] at Az;subst Az;obtain ⟨Ax,e0⟩:=qM i7;subst e0;subst D6;have t0:w.cell? ⟨tb,0,none⟩=some (str [108,97,109]):=by simp [GD,mm]
 have t1:w.cell? ⟨tb,1,none⟩=some (str x):=by simp [GD,mm]
 have t2:w.cell? ⟨tb,2,none⟩=some (.pointer (some ⟨kb,0,none⟩)):=by simp [GD,mm]
 have t3:w.cell? ⟨tb,3,none⟩=some (.slice (some ⟨aj,aO,none⟩) 1 pc):=by simp [GD,mm,zo]
 have nz:=hp.room;have nC:=hp.ok;rw [zT] at nz hN;have hak:=kg k;have CK:=mj (uG F w 1000 k (by omega) (by unfold Lim;omega) _ hk);have hlen:ns.length<=999:=by omega
 by_cases nX:15<zJ k
 ·have HT:=mj (show typeOf ns (.lam x k t)=none by rw [typeOf,if_pos nX]);have hA:(15:Int)<(zJ k:Int):=by omega
  obtain ⟨la,lc,rfl,_,_⟩:=AtNms.of hp.rl;clear hp ml i8 hk Aq mm nX i7 Bc nC hN;go_enter PC,Pw;go_wp2_with fail
  (with_reducible refine CK.out.mono ?_);rintro en w1 ⟨rfl,e⟩
  subst w1;go_wp2_with fail
  go_ret;exact kC.no HT.out (mw _ _)
 have hA:¬ (15:Int)<(zJ k:Int):=by omega
 have hT:typeOf ns (.lam x k t)=(typeOf (ns++[(x,k)]) t).bind fun b=>if 15<zJ (z_ k b) then none else some (z_ k b):=by rw [typeOf,if_neg nX]
 have HT:=mj hT;obtain ⟨xs,Al,rM⟩:∃ xs,zW F w (jm ns) xs/\∃ a c,lv=.slice a ns.length c/\uM 2 (.slice a ns.length ns.length) ns.length xs w:=by
  obtain ⟨a,c,e,_,_⟩:=AtNms.of hp.rl;have hr:=hp.rl;rw [e] at hr;obtain ⟨xs,h1,h2⟩:=uM.ofRep hr (oneNm ns);exact ⟨xs,h1,a,c,e,h2⟩
 obtain ⟨la,lc,rfl,rM⟩:=rM;have JW:ns.length<=lc:=by obtain ⟨a,c,e,h,_⟩:=AtNms.of hp.rl;simp only [N_] at e;obtain ⟨_,_,rfl⟩:=e;exact h
 have SX:Hid (∀ w',Below w.heap.size w w'->w'.cell? ⟨tb,1,none⟩=some (str x)/\w'.cell? ⟨tb,2,none⟩=some (.pointer (some ⟨kb,0,none⟩))/\w'.cell? ⟨tb,3,none⟩=some (.slice (some ⟨aj,aO,none⟩) 1 pc)/\w'.cell? ⟨aj,aO,none⟩=some (.pointer (some ⟨Ax,0,none⟩))):=by
  show ∀ w',_->_;intro w' nW;exact ⟨(nW.cell (mx w _ t1)).trans t1,(nW.cell (mx w _ t2)).trans t2,(nW.cell (mx w _ t3)).trans t3,(nW.cell Br).trans Bc⟩
 have HX:=mj (mu Al rM);have HP:=mj (mu hp (mu hk i7));have IH:=mj ih;have HK:=mj (mu nX (mu nC hN));have A6:ns.length+1<=maxLen:=by unfold maxLen;omega
 have sT:(ns.length+1)*24<=140737488355328:=by omega
 clear hp ml i8 hk Aq mm nX i7 Al rM nC ih hN hT;go_enter PC,Pw;go_wp2_with fail
 (with_reducible refine CK.out.mono ?_);rintro en w1 ⟨rfl,e⟩
 subst w1;go_wp2_with fail
 refine wp_region_noPanic ?_;refine zB (fun w'=>Below w.heap.size w w') (fun _=>false) (by kernel_rfl) ?_;have mt:(fun w'=>Below w.heap.size w w') w.drew:=Below.drew (mw _ _);refine tC [0,1,2,3,4,5,6,7,8,9,10,11,12,13,14,15,16,17,18,19,20] mt ?_;iterate 21 (refine tl (fun w' nP=>SX.out w' nP) ?_)
 refine tz ?_;refine oC 21 (mt.alloc (my _) _) ?_;(refine on 22 ?_;intro o ho K' hK;simp at ho;subst ho);have FQ:zq 2 (.slice (some ⟨w.heap.size,0,none⟩) 1 1) 1 [str x,.pointer (some ⟨kb,0,none⟩)] (w.drew.alloc (.cells #[str x,.pointer (some ⟨kb,0,none⟩)] 109)):=zq.lit1 #[str x,.pointer (some ⟨kb,0,none⟩)] rfl (by simp [str,Of]) _ (by rfl);have aD:uM 2 (.slice la ns.length ns.length) ns.length xs (w.drew.alloc (.cells #[str x,.pointer (some ⟨kb,0,none⟩)] 109)):=HX.out.2.drew.alloc _;refine wC (by rfl) _ _ _ (by rfl) 109 (.agg #[str [],.pointer none]) 2 24 Tryz.underlying103 Tryz.infoBound rfl (.slice la ns.length ns.length) ns.length xs (by rfl) aD _ 1 _ (by rfl) FQ (by omega) A6 sT ?_;intro c7 w7 nL mo;have e8:(w.alloc (.cells #[str x,.pointer (some ⟨kb,0,none⟩)] 109)).drew.heap.size=w.heap.size+1:=by simp
 rw [e8] at nL;have sf:Below w.heap.size w w7:=(mt.alloc (my _) _).trans (mo.mono (mt.alloc (my _) _).size);(refine hK.out _ _ (fun _=>sf) ?_;clear hK K';try simp only [pQ,pN,pZ,pS]);(refine on 23 ?_;intro o ho K' hK;simp at ho;subst ho);have iH:Rep (fun i=>F i\/w.heap.size<=i) w7 (.sl 109 2 (ns++[(x,k)]).length (jm (ns++[(x,k)]))) (.slice (some ⟨w.heap.size+1,0,none⟩) (ns.length+1) c7):=by
  rw [NZ,be];refine nL.rep (fun g hg=>.inr (by simp [N7] at hg;subst hg;exact Nat.le_succ _)) ?_;exact (zW.below sf (fun _ h=>.inl h) HX.out.1).append (zQ.2 ⟨_,_,rfl,zH.2 rfl,zQ.2 ⟨_,_,rfl,Rep.below sf (fun _ h=>.inl h) HP.out.2.1,zC.2 rfl⟩⟩)
 have CT:=mj (IH.out (fun i=>F i\/w.heap.size<=i) t (ns++[(x,k)]) (.pointer (some ⟨Ax,0,none⟩)) _ w7 (by have:=HK.out.2.2;omega) ⟨Rep.below sf (fun _ h=>.inl h) HP.out.2.2,iH,HK.out.2.1.2,(fun a ha=>by
  rw [jS] at ha;rcases Oy.1 ha with ha | ha
  ·exact HP.out.1.n15 a ha
  ·simp at ha;subst ha;have:=HK.out.1;omega),by rw [NZ];simp;omega⟩)
 have DI:=mj sf;clear iH nL mo sf;go_simp;go_at_call 18;(with_reducible refine CT.out.mono ?_);rintro en w9 ⟨bv,rfl,rR,BK,Bx⟩;have Db:=mj (zzT DI.out rR);have HY:=mj (mu BK Bx);have z7:=DI.out.size;clear rR BK Bx;(refine hK.out _ _ (fun _=>Db.out) ?_;clear hK K';try simp only [pQ,pN,pZ,pS]);refine oC 24 Db.out ?_;refine zY (by kernel_rfl) (NoPanic.normal ?_) _;cases hq:typeOf (ns++[(x,k)]) t with
 | none =>
   obtain rfl:=HY.out.1 hq;have HN:=mj (show typeOf ns (.lam x k t)=none by rw [HT.out,hq];rfl);clear hq;go_wp2_with fail
   go_ret;exact kC.no HN.out Db.out
 | some b =>
   have sY:=HY.out.2 b hq;obtain ⟨bb,_,e,_⟩:=zi sY;subst e
   have aM:zJ b<=15:=qV t _ b (fun a ha=>by
    rw [jS] at ha;rcases Oy.1 ha with ha | ha
    ·exact HP.out.1.n15 a ha
    ·simp at ha;subst ha;have:=HK.out.1;omega) hq
   have Fv:=um aM;have CW:=mj (arrow_any (fun i=>F i\/w.heap.size<=i) k b (.pointer (some ⟨kb,0,none⟩)) (.pointer (some ⟨bb,0,none⟩)) w9 (Rep.below Db.out (fun _ h=>.inl h) HP.out.2.1) (sY.weak fun i h=>by rcases h with h | h;exact h;exact .inr (by omega)) (show _<=_ by omega));have HQ:=mj (show typeOf ns (.lam x k t)=if 15<zJ (z_ k b) then none else some (z_ k b) by rw [HT.out,hq];rfl);obtain ⟨e0,e1,e2,e3⟩:=SX.out w9 Db.out;have Bo:zJ (z_ k b)<=1000:=by
    have h1:=HK.out.1;have:zJ (z_ k b)=1+zJ k+zJ b:=xF k b;omega
   clear hq sY;go_wp2_with fail
   (with_reducible refine CW.out.mono ?_);rintro en lq ⟨av,rfl,iZ,AH⟩
   have NS:=mj (zzT Db.out iZ);have Ci:Rep (fun i=>F i\/w.heap.size<=i) lq (jT (z_ k b)) av:=AH.weak fun i h=>by rcases h with h | h;exact h;exact .inr (by have:=Db.out.size;omega)
   obtain ⟨ab,_,e,_⟩:=zi Ci;subst e;have CA:=mj (uG _ lq 1000 (z_ k b) Bo (by unfold Lim;omega) _ Ci);have HR:=mj Ci;clear iZ AH Ci e0 e1 e2 e3;by_cases nX:15<zJ (z_ k b)
   ·have hA2:(15:Int)<(zJ (z_ k b):Int):=by omega
    have HN:=mj (show typeOf ns (.lam x k t)=none by rw [HQ.out,if_pos nX]);generalize zJ (z_ k b)=A at *;clear nX;go_wp2_with fail
    (with_reducible refine CA.out.mono ?_);rintro en aP ⟨rfl,e⟩
    subst aP;go_wp2_with fail
    go_ret;exact kC.no HN.out NS.out
   ·have hA2:¬ (15:Int)<(zJ (z_ k b):Int):=by omega
    have HN:=mj (show typeOf ns (.lam x k t)=some (z_ k b) by rw [HQ.out,if_neg nX]);generalize zJ (z_ k b)=A at *;clear nX;go_wp2_with fail
    (with_reducible refine CA.out.mono ?_);rintro en aP ⟨rfl,e⟩
    subst aP;go_wp2_with fail
    go_ret;exact kC.yes HN.out NS.out HR.out
theorem typed_app (N:Nat) (ih:bV N) (F:Nat->Prop) (m n:Tm) (ns:List Nm) (tv lv:Value) (w:World) (hN:zT (.app m n)<=N+1) (hp:TyPre F (.app m n) ns tv lv w):Calls KD 18 #[tv,lv] w (kC F w (typeOf ns (.app m n))):=by
 obtain ⟨tb,kv,slv,rfl,_,mm,_,_,i8⟩:=jf hp.rt;obtain ⟨pa,pc,rfl,_,_,ml⟩:=zP i8;simp only [xS,xT,vi] at mm;obtain ⟨aj,aO,Kw,Kx,D6,_,Br,Az,Bc,i7⟩:=ml 0 (by simp [zo]);simp only [zo,Ol,OU,N9,N8,N1] at Az;subst Az;obtain ⟨Ax,e0⟩:=qM i7;subst e0;subst D6;obtain ⟨nB,nH,pu1,ox,lJ,_,sK,aI,az,aV⟩:=ml 1 (by simp [zo]);simp only [zo,Ol,OU,N9,N8,N1] at aI;subst aI;obtain ⟨DY,e1⟩:=qM aV;subst e1;simp only [N1,OI,and_true] at lJ;obtain ⟨rfl,rfl⟩:=lJ;have t0:w.cell? ⟨tb,0,none⟩=some (str [97,112,112]):=by simp [GD,mm]
 have t3:w.cell? ⟨tb,3,none⟩=some (.slice (some ⟨aj,aO,none⟩) 2 pc):=by simp [GD,mm,zo]
 have nz:=hp.room;have nC:=hp.ok;rw [zT] at nz hN;obtain ⟨la,lc,rfl,_,_⟩:=AtNms.of hp.rl;have SX:Hid (∀ w',Below w.heap.size w w'->w'.cell? ⟨tb,3,none⟩=some (.slice (some ⟨aj,aO,none⟩) 2 pc)/\w'.cell? ⟨aj,aO,none⟩=some (.pointer (some ⟨Ax,0,none⟩))/\w'.cell? ⟨aj,aO+1,none⟩=some (.pointer (some ⟨DY,0,none⟩))):=by
  show ∀ w',_->_;intro w' nW;exact ⟨(nW.cell (mx w _ t3)).trans t3,(nW.cell Br).trans Bc,(nW.cell sK).trans az⟩
 have C0:=mj (fun wz (hz:Below w.heap.size w wz)=>ih F m ns (.pointer (some ⟨Ax,0,none⟩)) (.slice la ns.length lc) wz (by omega) ⟨Rep.below hz (fun _ h=>h) i7,Rep.below hz (fun _ h=>h) hp.rl,nC.1,hp.n15,by omega⟩);have C1:=mj (fun wz (hz:Below w.heap.size w wz)=>ih F n ns (.pointer (some ⟨DY,0,none⟩)) (.slice la ns.length lc) wz (by omega) ⟨Rep.below hz (fun _ h=>h) aV,Rep.below hz (fun _ h=>h) hp.rl,nC.2,hp.n15,by omega⟩);have HN:=mj hp.n15;clear hp ml i8 mm nC hN ih i7 Bc Br aV az sK;go_enter PC,Pw;go_wp2_with fail
 refine wp_region_noPanic ?_;refine zB (fun w'=>Below w.heap.size w w') (fun _=>false) (by kernel_rfl) ?_;have mt:(fun w'=>Below w.heap.size w w') w.drew:=Below.drew (mw _ _);refine tC [0,1,2,3,4,5,6,8,9,10,11,12,13,14] mt ?_;iterate 14 (refine tl (fun w' nP=>SX.out w' nP) ?_)
 refine tz ?_;(refine on 7 ?_;intro o ho K' hK;simp at ho;subst ho;go_simp);go_at_call 18;(with_reducible refine (C0.out _ mt).mono ?_);rintro en v0 ⟨x0,rfl,nN,hn0,oh⟩;have sA:Hid (Below w.heap.size w v0):=mt.trans nN;have E9:Hid ((typeOf ns m=none->x0=.pointer none)/\(∀ k,typeOf ns m=some k->Rep (fun i=>F i\/w.heap.size<=i) v0 (jT k) x0)):=⟨hn0,fun k h=>(oh k h).weak fun i h=>by rcases h with h | h;exact .inl h;exact .inr (h)⟩;have Kq:=mj nN;clear nN hn0 oh;(refine hK.out _ _ (fun _=>sA.out) ?_;clear hK K';try simp only [pQ,pN,pZ,pS]);have DP:=sA.out;(refine on 15 ?_;intro o ho K' hK;simp at ho;subst ho;go_simp);go_at_call 18;(with_reducible refine (C1.out _ sA.out).mono ?_);rintro en v1 ⟨x1,rfl,mi,nh,nf⟩;have nE:Hid (Below w.heap.size w v1):=zzT sA.out mi;have E8:Hid ((typeOf ns n=none->x1=.pointer none)/\(∀ k,typeOf ns n=some k->Rep (fun i=>F i\/w.heap.size<=i) v1 (jT k) x1)):=⟨nh,fun k h=>(nf k h).weak fun i h=>by rcases h with h | h;exact .inl h;exact .inr (mh sA.out.size h)⟩;have DR:=mj mi;clear mi nh nf;(refine hK.out _ _ (fun _=>nE.out) ?_;clear hK K';try simp only [pQ,pN,pZ,pS]);have EX:=nE.out;refine tC [16,17] EX ?_;iterate 2 (refine tx ?_)
 refine tz ?_;refine zY (by kernel_rfl) (NoPanic.normal ?_) _;clear t3 C0 C1;cases hm:typeOf ns m with
 | none =>
   obtain rfl:=E9.out.1 hm;have HQ:=mj (show typeOf ns (.app m n)=none by rw [typeOf,hm];rfl);clear hm;go_wp2_with fail
   go_ret;exact kC.no HQ.out nE.out
 | some a =>
   have lG:=Rep.below (F':=fun i=>F i\/w.heap.size<=i) DR.out (fun _ h=>h) (E9.out.2 a hm);obtain ⟨ab,ak,e,_,B0,has⟩:=zi lG;subst e;cases hn:typeOf ns n with
   | none =>
     obtain rfl:=E8.out.1 hn;have HQ:=mj (show typeOf ns (.app m n)=none by rw [typeOf,hm,hn];rfl);clear hm hn lG B0 has;go_wp2_with fail
     go_ret;exact kC.no HQ.out nE.out
   | some b =>
     have sY:=E8.out.2 b hn;obtain ⟨bb,_,e,_⟩:=zi sY;subst e;have sN:=qV m ns a HN.out hm;have aM:=qV n ns b HN.out hn;have q0:v1.cell? ⟨ab,0,none⟩=some ak:=by simp [GD,B0]
     obtain ⟨aa,ac,rfl,hac,_,ET⟩:=zP has;have J8:=zZ B0;cases rC:a.args with
     | nil =>
       rw [rC] at q0;have HQ:=mj (show typeOf ns (.app m n)=none by rw [typeOf,hm,hn,Mm,Mm,rC]);clear hm hn lG B0 has ET sY rC hac;go_wp2_with fail
       go_ret;exact kC.no HQ.out nE.out
     | cons c cs =>
       rw [rC] at q0 has ET hac;obtain ⟨Be,De,u,d1,e,_,hkw2,As,tU,tQ⟩:=ET 0 (by simp);subst e;simp only [qg,N9,N1] at As;subst As;obtain ⟨cb,_,e,_⟩:=zi tQ;subst e;have hc1':v1.cell? ⟨Be,De,none⟩=some (.pointer (some ⟨cb,0,none⟩)):=tU;have iD:zJ c<=15:=eQ sN c (by rw [rC];simp);have EH:zJ (.mk cs)<=15:=by have:=bi rC;omega
       have Bi:cs.length<=14:=by have:=um sN;rw [rC] at this;simp at this;omega
       have CS:=mj (same_any _ c b _ _ v1 tQ sY iD aM);by_cases he:zN c=zN b
       ·have e0:(zN c == zN b)=true:=by rw [beq_iff_eq];exact he
        rw [e0] at CS;have HT:=mj (show typeOf ns (.app m n)=some (.mk cs) by rw [typeOf,hm,hn,Mm,Mm,rC];exact if_pos he);have HS:=mj has;have Gi:cs.length+1<=ac:=by simpa using hac
        have KEY:∀ (v2:World) (ra:Option Addr) (rc:Nat),Below w.heap.size w v2->Rep (fun i=>F i\/w.heap.size<=i) v2 (.sl 32 1 cs.length (qg cs)) (.slice ra cs.length rc) ->
         Rep (fun i=>F i\/w.heap.size<=i) (v2.alloc (.cells #[.slice ra cs.length rc] 112)) (jT (.mk cs)) (.pointer (some ⟨v2.heap.size,0,none⟩)):=fun v2 ra rc h hr =>
         hH (.inr h.size) (zG _ _) (Rep.below ((mw _ _).alloc (my _) _) (fun _ h=>h) hr)
        have HK:=mj KEY;have hA:¬ (15:Int)<(zJ (.mk cs):Int):=by omega
        have NV:=mj EH;clear hm hn lG B0 has ET sY rC he e0 tU tQ sN aM EH iD KEY hac;go_wp2_with fail
        (with_reducible refine CS.out.mono ?_);rintro en v2 ⟨rfl,me⟩
        have q0':=(me.cell (p:=⟨ab,0,none⟩) J8).trans q0;have nF:=mj (zzT nE.out me);have NF:=mj (Rep.below (F':=fun i=>F i\/w.heap.size<=i) me (fun _ h=>h) HS.out);clear me q0 hc1';by_cases hac1:ac=1
        focus
         subst hac1;have hcs:cs.length=0:=by omega
         obtain rfl:=Ox hcs;have sS:Rep (fun i=>F i\/w.heap.size<=i) v2 (.sl 32 1 ([]:List Ty).length (qg [])) (.slice (some ⟨Be,De,none⟩) ([]:List Ty).length 0):=zg.2 ⟨rfl,_,_,rfl,my _,fun h=>by simp at h,.inl rfl⟩;have ib:Rep (fun i=>F i\/w.heap.size<=i) (v2.alloc (.cells #[.slice (some ⟨Be,De,none⟩) 0 0] 112)) (jT (.mk [])) (.pointer (some ⟨v2.heap.size,0,none⟩)):=HK.out v2 _ _ nF.out sS;have CA:=mj (uG _ _ 15 (.mk []) NV.out (by unfold Lim;omega) _ ib);have HR:=mj ib;clear sS ib hcs
        rotate_left
        focus
         have sS:Rep (fun i=>F i\/w.heap.size<=i) v2 (.sl 32 1 cs.length (qg cs)) (.slice (some ⟨Be,De+1,none⟩) cs.length (ac-1)):=pF (d:=jT c) NF.out;have CA:=mj (uG _ _ 15 (.mk cs) NV.out (by unfold Lim;omega) _ (HK.out v2 _ _ nF.out sS));have HR:=mj (HK.out v2 _ _ nF.out sS);clear sS
        all_goals
         go_wp2_with fail
         (with_reducible refine CA.out.mono ?_);rintro en w3 ⟨rfl,e⟩
         subst w3;go_wp2_with fail
         go_ret;exact kC.yes HT.out (nF.out.alloc nF.out.size _) HR.out
       ·have e0:(zN c == zN b)=false:=by rw [beq_eq_false_iff_ne];exact he
        rw [e0] at CS;have HT:=mj (show typeOf ns (.app m n)=none by rw [typeOf,hm,hn,Mm,Mm,rC];exact if_neg he);clear hm hn lG B0 has ET sY rC he e0 tU tQ sN aM EH iD;go_wp2_with fail
        (with_reducible refine CS.out.mono ?_);rintro en v2 ⟨rfl,me⟩
        have nF:=mj (zzT nE.out me);clear me;go_wp2_with fail
        go_ret;exact kC.no HT.out nF.out
theorem typed_ite (N:Nat) (ih:bV N) (F:Nat->Prop) (l m n:Tm) (ns:List Nm) (tv lv:Value) (w:World) (hN:zT (.ite l m n)<=N+1) (hp:TyPre F (.ite l m n) ns tv lv w):Calls KD 18 #[tv,lv] w (kC F w (typeOf ns (.ite l m n))):=by
 obtain ⟨tb,kv,slv,rfl,_,mm,_,_,i8⟩:=jf hp.rt;obtain ⟨pa,pc,rfl,_,_,ml⟩:=zP i8;simp only [xS,xT,ifW] at mm;obtain ⟨aj,aO,Kw,Kx,D6,_,Br,Az,Bc,i7⟩:=ml 0 (by simp [zo]);simp only [zo,Ol,OU,N9,N8,N1] at Az;subst Az;obtain ⟨Ax,e0⟩:=qM i7;subst e0;subst D6;obtain ⟨nB,nH,pu1,ox,lJ,_,sK,aI,az,aV⟩:=ml 1 (by simp [zo]);simp only [zo,Ol,OU,N9,N8,N1] at aI;subst aI;obtain ⟨DY,e1⟩:=qM aV;subst e1;simp only [N1,OI,and_true] at lJ;obtain ⟨rfl,rfl⟩:=lJ;obtain ⟨Ip,In,pu2,oy,lQ,_,Ay,lK,lV,iL⟩:=ml 2 (by simp [zo]);simp only [zo,Ol,OU,N9,N8,N1] at lK;subst lK;obtain ⟨Kt,e2⟩:=qM iL;subst e2;simp only [N1,OI,and_true] at lQ;obtain ⟨rfl,rfl⟩:=lQ;have t0:w.cell? ⟨tb,0,none⟩=some (str [105,102]):=by simp [GD,mm]
 have t3:w.cell? ⟨tb,3,none⟩=some (.slice (some ⟨aj,aO,none⟩) 3 pc):=by simp [GD,mm,zo]
 have nz:=hp.room;have nC:=hp.ok;rw [zT] at nz hN;obtain ⟨la,lc,rfl,_,_⟩:=AtNms.of hp.rl;have SX:Hid (∀ w',Below w.heap.size w w'->w'.cell? ⟨tb,3,none⟩=some (.slice (some ⟨aj,aO,none⟩) 3 pc)/\w'.cell? ⟨aj,aO,none⟩=some (.pointer (some ⟨Ax,0,none⟩))/\w'.cell? ⟨aj,aO+1,none⟩=some (.pointer (some ⟨DY,0,none⟩))/\w'.cell? ⟨aj,aO+2,none⟩=some (.pointer (some ⟨Kt,0,none⟩))):=by
  show ∀ w',_->_;intro w' nW;exact ⟨(nW.cell (mx w _ t3)).trans t3,(nW.cell Br).trans Bc,(nW.cell sK).trans az,(nW.cell Ay).trans lV⟩
 have C0:=mj (fun wz (hz:Below w.heap.size w wz)=>ih F l ns (.pointer (some ⟨Ax,0,none⟩)) (.slice la ns.length lc) wz (by omega) ⟨Rep.below hz (fun _ h=>h) i7,Rep.below hz (fun _ h=>h) hp.rl,nC.1,hp.n15,by omega⟩);have C1:=mj (fun wz (hz:Below w.heap.size w wz)=>ih F m ns (.pointer (some ⟨DY,0,none⟩)) (.slice la ns.length lc) wz (by omega) ⟨Rep.below hz (fun _ h=>h) aV,Rep.below hz (fun _ h=>h) hp.rl,nC.2.1,hp.n15,by omega⟩);have C2:=mj (fun wz (hz:Below w.heap.size w wz)=>ih F n ns (.pointer (some ⟨Kt,0,none⟩)) (.slice la ns.length lc) wz (by omega) ⟨Rep.below hz (fun _ h=>h) iL,Rep.below hz (fun _ h=>h) hp.rl,nC.2.2,hp.n15,by omega⟩);have HN:=mj hp.n15;clear hp ml i8 mm nC hN ih i7 Bc Br aV az sK iL lV Ay;go_enter PC,Pw;go_wp2_with fail
 refine wp_region_noPanic ?_;refine zB (fun w'=>Below w.heap.size w w') (fun _=>false) (by kernel_rfl) ?_;have mt:(fun w'=>Below w.heap.size w w') w.drew:=Below.drew (mw _ _);refine tC [0,1,2,3,4,5,6,8,9,10,11,12,13,14,16,17,18,19,20,21,22] mt ?_;iterate 21 (refine tl (fun w' nP=>SX.out w' nP) ?_)
 refine tz ?_;(refine on 7 ?_;intro o ho K' hK;simp at ho;subst ho;go_simp);go_at_call 18;(with_reducible refine (C0.out _ mt).mono ?_);rintro en v0 ⟨x0,rfl,nN,hn0,oh⟩;have sA:Hid (Below w.heap.size w v0):=mt.trans nN;have E9:Hid ((typeOf ns l=none->x0=.pointer none)/\(∀ k,typeOf ns l=some k->Rep (fun i=>F i\/w.heap.size<=i) v0 (jT k) x0)):=⟨hn0,fun k h=>(oh k h).weak fun i h=>by rcases h with h | h;exact .inl h;exact .inr (h)⟩;have Kq:=mj nN;clear nN hn0 oh;(refine hK.out _ _ (fun _=>sA.out) ?_;clear hK K';try simp only [pQ,pN,pZ,pS]);have DP:=sA.out;(refine on 15 ?_;intro o ho K' hK;simp at ho;subst ho;go_simp);go_at_call 18;(with_reducible refine (C1.out _ sA.out).mono ?_);rintro en v1 ⟨x1,rfl,mi,nh,nf⟩;have nE:Hid (Below w.heap.size w v1):=zzT sA.out mi;have E8:Hid ((typeOf ns m=none->x1=.pointer none)/\(∀ k,typeOf ns m=some k->Rep (fun i=>F i\/w.heap.size<=i) v1 (jT k) x1)):=⟨nh,fun k h=>(nf k h).weak fun i h=>by rcases h with h | h;exact .inl h;exact .inr (mh sA.out.size h)⟩;have DR:=mj mi;clear mi nh nf;(refine hK.out _ _ (fun _=>nE.out) ?_;clear hK K';try simp only [pQ,pN,pZ,pS]);have EX:=nE.out;(refine on 23 ?_;intro o ho K' hK;simp at ho;subst ho;go_simp);go_at_call 18;(with_reducible refine (C2.out _ nE.out).mono ?_);rintro en v2 ⟨x2,rfl,me,aK,iO⟩;have nF:Hid (Below w.heap.size w v2):=zzT nE.out me;have Hg:Hid ((typeOf ns n=none->x2=.pointer none)/\(∀ k,typeOf ns n=some k->Rep (fun i=>F i\/w.heap.size<=i) v2 (jT k) x2)):=⟨aK,fun k h=>(iO k h).weak fun i h=>by rcases h with h | h;exact .inl h;exact .inr (mh nE.out.size h)⟩;have NQ:=mj me;clear me aK iO;(refine hK.out _ _ (fun _=>nF.out) ?_;clear hK K';try simp only [pQ,pN,pZ,pS]);have Jk:=nF.out;refine tC [24,25,26] Jk ?_;iterate 3 (refine tx ?_)
 refine tz ?_;refine zY (by kernel_rfl) (NoPanic.normal ?_) _;clear t3 C0 C1 C2;cases hl:typeOf ns l with
 | none =>
   obtain rfl:=E9.out.1 hl;have HQ:=mj (show typeOf ns (.ite l m n)=none by rw [typeOf,hl];rfl);clear hl;go_wp2_with fail
   go_ret;exact kC.no HQ.out nF.out
 | some a =>
   have lG:=Rep.below (F':=fun i=>F i\/w.heap.size<=i) NQ.out (fun _ h=>h) (Rep.below (F':=fun i=>F i\/w.heap.size<=i) DR.out (fun _ h=>h) (E9.out.2 a hl));obtain ⟨ab,ak,e,_,B0,has⟩:=zi lG;subst e;cases hm:typeOf ns m with
   | none =>
     obtain rfl:=E8.out.1 hm;have HQ:=mj (show typeOf ns (.ite l m n)=none by rw [typeOf,hl,hm];rfl);clear hl hm lG B0 has;go_wp2_with fail
     go_ret;exact kC.no HQ.out nF.out
   | some b =>
     have sY:=Rep.below (F':=fun i=>F i\/w.heap.size<=i) NQ.out (fun _ h=>h) (E8.out.2 b hm);obtain ⟨bb,_,e,_⟩:=zi sY;subst e;cases hn:typeOf ns n with
     | none =>
       obtain rfl:=Hg.out.1 hn;have HQ:=mj (show typeOf ns (.ite l m n)=none by rw [typeOf,hl,hm,hn];rfl);clear hl hm hn lG B0 has sY;go_wp2_with fail
       go_ret;exact kC.no HQ.out nF.out
     | some c =>
       have FT:=Hg.out.2 c hn;obtain ⟨cb,_,e,_⟩:=zi FT;subst e;have aM:=qV m ns b HN.out hm;have iD:=qV n ns c HN.out hn;have q0:v2.cell? ⟨ab,0,none⟩=some ak:=by simp [GD,B0]
       obtain ⟨aa,ac,rfl,_,_,_⟩:=zP has;cases rC:a.args with
       | cons d ds =>
         have hd:((((d::ds).length:Nat):Int) == 0)=false:=by rw [beq_eq_false_iff_ne];simp;omega
         rw [rC] at q0;generalize (d::ds).length=L at *;have HQ:=mj (show typeOf ns (.ite l m n)=none by rw [typeOf,hl,hm,hn,Mm,Mm,Mm,if_neg (by rw [rC];simp)]);clear hl hm hn lG B0 has sY FT rC;go_wp2_with fail
         go_ret;exact kC.no HQ.out nF.out
       | nil =>
         rw [rC] at q0;have CS:=mj (same_any _ b c _ _ v2 sY FT aM iD);have CA:=mj (fun wz (h:Below v2.heap.size v2 wz)=>uG _ wz 15 b aM (by unfold Lim;omega) _ (Rep.below (F':=fun i=>F i\/w.heap.size<=i) h (fun _ h=>h) sY));have HR:=mj sY;by_cases he:zN b=zN c
         ·have e0:(zN b == zN c)=true:=by rw [beq_iff_eq];exact he
          rw [e0] at CS;have HT:=mj (show typeOf ns (.ite l m n)=some b by rw [typeOf,hl,hm,hn,Mm,Mm,Mm,if_pos ⟨rC,he⟩]);have hA:¬ (15:Int)<(zJ b:Int):=by omega
          clear hl hm hn lG B0 has sY FT rC he e0 aM iD;go_wp2_with fail
          (with_reducible refine CS.out.mono ?_);rintro en w3 ⟨rfl,nZ⟩
          have sg:=mj (zzT nF.out nZ);have HR3:=mj (Rep.below (F':=fun i=>F i\/w.heap.size<=i) nZ (fun _ h=>h) HR.out);have CA3:=mj (CA.out w3 nZ);clear nZ;go_wp2_with fail
          (with_reducible refine CA3.out.mono ?_);rintro en w4 ⟨rfl,e⟩
          subst w4;go_wp2_with fail
          go_ret;exact kC.yes HT.out sg.out HR3.out
         ·have e0:(zN b == zN c)=false:=by rw [beq_eq_false_iff_ne];exact he
          rw [e0] at CS;have HT:=mj (show typeOf ns (.ite l m n)=none by rw [typeOf,hl,hm,hn,Mm,Mm,Mm,if_neg (fun h=>he h.2)]);clear hl hm hn lG B0 has sY FT rC he e0 aM iD;go_wp2_with fail
          (with_reducible refine CS.out.mono ?_);rintro en w3 ⟨rfl,nZ⟩
          have sg:=mj (zzT nF.out nZ);clear nZ;go_wp2_with fail
          go_ret;exact kC.no HT.out sg.out
theorem gz (N:Nat):bV N:=by
 induction N with
 | zero=>exact fun F t ns tv lv w h=>by have:=fN t;omega
 | succ N ih =>
   intro F t ns tv lv w h hp;cases t with
   | nm x=>exact typed_nm F x ns tv lv w hp
   | wd u=>exact typed_wd F u ns tv lv w hp
   | lam x k t=>exact typed_lam N ih F x k t ns tv lv w h hp
   | app m n=>exact typed_app N ih F m n ns tv lv w h hp
   | ite l m n=>exact typed_ite N ih F l m n ns tv lv w h hp
end Go.Proofs.YtpgiohmcggllgaaGreatDoor

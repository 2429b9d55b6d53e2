/- Walks. -/
import Derived.Deep.Cut
import Derived.Test.YtdhaafoiokkbnabGreatDoorQ6
import Derived.Test.YtdhaafoiokkbnabGreatDoorQ7
set_option linter.unusedVariables false
set_option linter.unusedSimpArgs false
set_option maxHeartbeats 8000000
set_option maxRecDepth 100000
open Go.Proofs.YtdhaafoiokkbnabGreatDoor renaming ev->Qw
open Go.Addr.mk renaming injEq->Pn
open Go.Proofs.Tryz renaming func101->TG,func118->Qc,func18->Qb,ntmps101->Tj,ntmps118->P_,ntmps18->P6,prog->No,underlying162->PO
open Go.Value renaming oneCell'->OR,ownBlock->OG,slice->Ox
open Go.Value.slice renaming injEq->OK
open Go.World renaming cell?->Li,ownsRow_nil->Pq
open List renaming append_assoc->Pi,append_nil->OY,drop->Q_,eq_nil_of_length_eq_zero->OQ,getElem?_append_left->OJ,getElem?_append_right->OF,getElem?_cons_succ->OE,getElem?_cons_zero->OH,getElem?_eq_some_iff->OB,length_append->Ov,length_cons->OD,map_cons->OU,map_nil->Pz,mem_append->O_,mem_cons->OX,mem_of_getElem?->OI,take_succ_cons->PE,take_zero->QS
open List.cons renaming injEq->OL
open Option renaming bind_eq_some_iff->N0,bind_some->Lx,map_eq_some_iff->OA
open Option.some renaming inj->OM,injEq->Oz
namespace Go.Proofs.YtdhaafoiokkbnabGreatDoor
open Go.RowKit
theorem ev_zero (d:Nat) (b:Bd) (env:List Mn) (n:Nat) (st:List Gf):Qw d 0 b env n st=none:=by
 cases d with
 | zero=>rw [ev.eq_def]
 | succ d=>rw [ev.eq_def]
theorem owns_take {env:List Mn}:∀ (ts:List Ty) (ss:List Bd) (k:Nat) (t:Ty) (s:Bd),ts[k]? = some t->ss[k]? = some s->owns env (ts.take (k+1)) (ss.take (k+1))=owns env (ts.take k) (ss.take k)++[.bd t s env]
 | [],ss,k,t,s,h,_=>by simp at h
 | t'::ts,[],k,t,s,_,h=>by simp at h
 | t'::ts,s'::ss,k,t,s,h1,h2=>by
   cases k with
   | zero =>
     simp at h1 h2;subst h1;subst h2;simp only [PE,QS,owns];rfl
   | succ k =>
     simp only [OE] at h1 h2;rw [PE,PE,PE,PE,owns,owns,owns_take ts ss k t s h1 h2];rfl
theorem uy.form {F:Nat->Prop} {w:World} {aa n:Nat}:∀ {st:List Gf} {on:Value},uy F w aa n st on->on=.nilFunc\/∃ cs,on=.func (.func 135) #[] cs
 | [],on,h=>.inl h
 | f::st,on,h=>by
   obtain ⟨b1,b2,b3,b4,b5,bp,ev,o5,vv,ss,e,_⟩:=h;exact .inr ⟨_,e⟩
theorem Tryz.goesNil (w:World):Sem.run No (binOp .eql 210 .nilFunc .nilFunc) w=.ok (.bool true) w:=by kernel_rfl
theorem Tryz.goesFn (f:Fn) (a b:Array Value) (w:World):Sem.run No (binOp .eql 210 (.func f a b) .nilFunc) w=.ok (.bool false) w:=by kernel_rfl
theorem boxes5 (w:World) (p b e l o:Value) (T1 T2 T3 T4 T5:TypeId):∃ W,((((w.alloc (.cells #[p] T1)).alloc (.cells #[b] T2)).alloc (.cells #[e] T3)).alloc (.cells #[l] T4)).alloc (.cells #[o] T5)=W/\Below w.heap.size w W/\w.heap.size+5<=W.heap.size /\
 W.cell? ⟨w.heap.size,0,none⟩=some p/\W.cell? ⟨w.heap.size+1,0,none⟩=some b/\W.cell? ⟨w.heap.size+1+1,0,none⟩=some e/\W.cell? ⟨w.heap.size+1+1+1,0,none⟩=some l/\W.cell? ⟨w.heap.size+1+1+1+1,0,none⟩=some o:=by
 have key:∀ (w:World) (v:Value) (T:TypeId),(w.alloc (.cells #[v] T)).cell? ⟨w.heap.size,0,none⟩=some v:=fun w v T=>by simp
 have k1:=key w p T1;have k2:=key (w.alloc (.cells #[p] T1)) b T2;have k3:=key ((w.alloc (.cells #[p] T1)).alloc (.cells #[b] T2)) e T3;have k4:=key (((w.alloc (.cells #[p] T1)).alloc (.cells #[b] T2)).alloc (.cells #[e] T3)) l T4;have k5:=key ((((w.alloc (.cells #[p] T1)).alloc (.cells #[b] T2)).alloc (.cells #[e] T3)).alloc (.cells #[l] T4)) o T5;simp only [zK] at k2 k3 k4 k5;refine ⟨_,rfl,?_,by simp only [zK];omega,zV (zV (zV (zV k1))),zV (zV (zV k2)),zV (zV k3),zV k4,k5⟩;exact (((((rZ w.heap.size w).alloc (n9 _) _).alloc (by simp only [zK];omega) _).alloc (by simp only [zK];omega) _).alloc (by simp only [zK];omega) _).alloc (by simp only [zK];omega) _
theorem eval_out (F:Nat->Prop) (aa d n bb:Nat) (ea:Option Addr) (el ec:Nat) (b:Bd) (env:List Mn) (st:List Gf) (on:Value) (w:World) (BD:on=.nilFunc\/∃ cs,on=.func (.func 135) #[] cs) (hg:xR w) (hng:aa≠0) (ha:Apl w aa 0) :
 Calls No 118 #[.pointer (some ⟨aa,0,none⟩),.pointer (some ⟨bb,0,none⟩),.slice ea el ec,.int .i64 (n:Nat),on] w (kO F aa (Qw d 0 b env n st) w):=by
 rw [ev_zero];obtain ⟨W,hW,rF,iE,q1,q2,q3,q4,q5⟩:=boxes5 w (.pointer (some ⟨aa,0,none⟩)) (.pointer (some ⟨bb,0,none⟩)) (.slice ea el ec) (.int .i64 (n:Nat)) on 188 33 162 3 210;obtain ⟨c0,f0,lt0⟩:=(ha.below rF).cell;have c0':W.cell? ⟨aa,0,none⟩=some (.int .i64 0):=c0;obtain ⟨a0,iS⟩:=hg;have aH:=(rF.cell (n_ w _ iS)).trans iS;have HG:=n7 (n8 iS (n8 hW rF));clear ha c0 iS hW rF;rcases BD with rfl | ⟨cs,rfl⟩
 all_goals
  go_enter Qc,P_;go_upto_region 1 with (fail)
  rw [HG.out.2.1];go_wp2_with fail
  go_quiet (fail);go_wp2_with fail
  go_ret2
  refine kO.none rfl ?_ HG.out.1;exact But.ofBelow (vF HG.out.2.2 _)
theorem px {w:World} {aa l n bb:Nat} {ea:Option Addr} {el ec:Nat} {on:Value} {T1 T2 T3 T4 T5:TypeId} (ha:Apl w aa (l+1)) :
 ∃ W W2,((((w.alloc (.cells #[.pointer (some ⟨aa,0,none⟩)] T1)).alloc (.cells #[.pointer (some ⟨bb,0,none⟩)] T2)).alloc (.cells #[.slice ea el ec] T3)).alloc (.cells #[.int .i64 (n:Nat)] T4)).alloc (.cells #[on] T5)=W/\W.setCell ⟨aa,0,none⟩ (.int .i64 (l:Nat))=W2 /\
   W.cell? ⟨w.heap.size,0,none⟩=some (.pointer (some ⟨aa,0,none⟩))/\W.cell? ⟨aa,0,none⟩=some (.int .i64 ((l+1:Nat):Int))/\W.frozen? ⟨aa,0,none⟩=false /\
   But (· = aa) w W2/\Apl W2 aa l/\w.heap.size+5<=W2.heap.size /\
   W2.cell? ⟨w.heap.size,0,none⟩=some (.pointer (some ⟨aa,0,none⟩))/\W2.cell? ⟨w.heap.size+1,0,none⟩=some (.pointer (some ⟨bb,0,none⟩))/\W2.cell? ⟨w.heap.size+1+1,0,none⟩=some (.slice ea el ec)/\W2.cell? ⟨w.heap.size+1+1+1,0,none⟩=some (.int .i64 (n:Nat))/\W2.cell? ⟨w.heap.size+1+1+1+1,0,none⟩=some on:=by
 obtain ⟨W,hW,rF,iE,q1,q2,q3,q4,q5⟩:=boxes5 w (.pointer (some ⟨aa,0,none⟩)) (.pointer (some ⟨bb,0,none⟩)) (.slice ea el ec) (.int .i64 (n:Nat)) on T1 T2 T3 T4 T5;have haW:=ha.below rF;obtain ⟨c0,f0,lt0⟩:=haW.cell;have rH:=ha.cell.2.2;have rY:But (· = aa) W (W.setCell ⟨aa,0,none⟩ (.int .i64 (l:Nat))):=(But.refl (· = aa) W).setCell (p:=⟨aa,0,none⟩) (.inl rfl) _;have past:∀ (b:Nat) (v:Value),w.heap.size<=b->W.cell? ⟨b,0,none⟩=some v->(W.setCell ⟨aa,0,none⟩ (.int .i64 (l:Nat))).cell? ⟨b,0,none⟩=some v:=fun b v hb hc=>(rY.cell (n_ W _ hc) (fun e=>by have e:b=aa:=e;omega)).trans hc;refine ⟨W,_,hW,rfl,q1,c0,f0,(But.ofBelow rF).trans rY,?_,by simpa [World.setCell] using iE,past _ _ (by omega) q1,past _ _ (by omega) q2,past _ _ (by omega) q3,past _ _ (by omega) q4,past _ _ (by omega) q5⟩;unfold Apl at *;rw [zg haW];rfl
theorem eval_end (F:Nat->Prop) (aa d l n bb:Nat) (ea:Option Addr) (el ec:Nat) (c:UInt8) (env:List Mn) (st:List Gf) (on:Value) (w:World) (hF:∀ i,F i->i≠aa) (ha:Apl w aa (l+1)) (hl:l<=20000) (rb:Rep F w (k_ (.leaf c)) (.pointer (some ⟨bb,0,none⟩)))
 (h:(c=117/\(on=.nilFunc\/∃ cs,on=.func (.func 135) #[] cs))\/(c≠117/\on=.nilFunc/\st=[])) :
 Calls No 118 #[.pointer (some ⟨aa,0,none⟩),.pointer (some ⟨bb,0,none⟩),.slice ea el ec,.int .i64 (n:Nat),on] w (kO F aa (Qw (d+1) (l+1) (.leaf c) env n st) w):=by
 have hev:Qw (d+1) (l+1) (.leaf c) env n st=some (.leaf c,l):=by
  rcases h with ⟨rfl,_⟩ | ⟨hc,_,rfl⟩
  ·rw [ev_u]
  ·rw [cp]
 rw [hev];clear hev;obtain ⟨W,W2,hW,sC,q0,q1,f1,rY,oU,tg,p0,p1,p2,p3,p4⟩:=px (n:=n) (bb:=bb) (ea:=ea) (el:=el) (ec:=ec) (on:=on) (T1:=188) (T2:=33) (T3:=162) (T4:=3) (T5:=210) ha;have o7:Rep F W2 (k_ (.leaf c)) (.pointer (some ⟨bb,0,none⟩)):=rb.but rY (fun b hb=>⟨hF b hb,hb⟩);obtain ⟨b',sl,e,_,rV,_⟩:=xp o7;cases e;have r0:W2.cell? ⟨bb,0,none⟩=some (str [c]):=by simp [Li,rV]
 have q1':W.cell? ⟨aa,0,none⟩=some (.int .i64 ((l:Int)+1)):=q1;have Gy:((l:Int)+1 == 0)=false:=by rw [beq_eq_false_iff_ne];omega
 have HW:=n7 (n8 hW (n8 sC (n8 rY (n8 oU o7))));have CL:=n7 (yK F W2 c (.pointer (some ⟨bb,0,none⟩)) o7);clear hW sC rY oU o7 rb ha q1 rV;rcases h with ⟨rfl,rfl | ⟨cs,rfl⟩⟩ | ⟨hc,rfl,rfl⟩
 ·go_enter Qc,P_;go_upto_region 1 with (fail)
  rw [HW.out.1];go_upto_region 4 with (fail)
  rw [HW.out.2.1];go_wp2_with fail
  go_ret2
  exact kO.some rfl HW.out.2.2.1 HW.out.2.2.2.1 (HW.out.2.2.2.2.weak fun i h=>.inl h)
 ·go_enter Qc,P_;go_upto_region 1 with (fail)
  rw [HW.out.1];go_upto_region 4 with (fail)
  rw [HW.out.2.1];go_wp2_with fail
  go_ret2
  exact kO.some rfl HW.out.2.2.1 HW.out.2.2.2.1 (HW.out.2.2.2.2.weak fun i h=>.inl h)
 ·have hcc:([c] == [117])=false:=by simpa using hc
  have hgn:=Tryz.goesNil;go_enter Qc,P_;go_upto_region 1 with (fail)
  rw [HW.out.1];go_upto_region 4 with (fail)
  rw [HW.out.2.1];go_wp2_with fail
  (with_reducible refine CL.out.mono ?_);rintro en w3 ⟨rfl,rfl⟩
  go_wp2_with fail
  go_ret2
  exact kO.some rfl HW.out.2.2.1 HW.out.2.2.2.1 (HW.out.2.2.2.2.weak fun i h=>.inl h)
theorem dI {F:Nat->Prop} {aa:Nat} {o:Option (Bd×Nat)} {w:World} {a0:Addr} (hc:w.cell? ⟨0,0,none⟩=some (.iface 237 (.pointer (some a0)))) {P:Program} {f:FuncId} {args:Array Value} (h:Calls P f args w (kO F aa o w)) :
 (o=none->Calls P f args w fun en w'=>en=.returned (.tuple #[.pointer none,.iface 237 (.pointer (some a0))])/\But (· = aa) w w') /\
 (∀ x,o=some x->Calls P f args w fun en w'=>∃ vb,en=.returned (.tuple #[.pointer (some ⟨vb,0,none⟩),.nilIface])/\But (· = aa) w w'/\Apl w' aa x.2/\Rep (fun i=>F i\/w.heap.size<=i) w' (k_ x.1) (.pointer (some ⟨vb,0,none⟩))):=by
 refine ⟨fun ho=>h.mono ?_,fun x ho=>h.mono ?_⟩
 ·rintro en w' ⟨hb,hn,_⟩;obtain ⟨a,rfl,ha⟩:=hn ho;rw [hc] at ha;simp at ha;subst ha;exact ⟨rfl,hb⟩
 ·rintro en w' ⟨hb,_,hy⟩;obtain ⟨v,rfl,ha,hr⟩:=hy x.1 x.2 ho;obtain ⟨vb,rfl⟩:=zd hr;exact ⟨vb,rfl,hb,ha,hr⟩
theorem eval_back (d:Nat) (ih:pX d) (F:Nat->Prop) (aa l n bb:Nat) (H:List Ty) (ea:Option Addr) (el ec:Nat) (c:UInt8) (env:List Mn) (f:Gf) (st:List Gf) (on:Value) (w:World) (hc:c≠117)
 (h:pm F aa (l+1) (d+1) n H (.leaf c) env (f::st) (.pointer (some ⟨bb,0,none⟩)) (.slice ea el ec) on w) :
 Calls No 118 #[.pointer (some ⟨aa,0,none⟩),.pointer (some ⟨bb,0,none⟩),.slice ea el ec,.int .i64 (n:Nat),on] w (kO F aa (Qw (d+1) (l+1) (.leaf c) env n (f::st)) w):=by
 rw [bw hc];obtain ⟨b1,b2,b3,b4,b5,bp,ev5,on5,vv5,ss5,e,⟨n1,n2,n3,n4,n5⟩,c1,r1,c2,c3,r3,c4,c5,r5⟩:=h.ro;subst e;have Cv:=h.ld;have GH:=h.d20;have Av:=h.okg.1;have AG:=h.nl;obtain ⟨W,W2,hW,sC,q0,q1,f1,rY,oU,tg,p0,p1,p2,p3,p4⟩:=px (n:=n) (bb:=bb) (ea:=ea) (el:=el) (ec:=ec) (on:=.func (.func 135) #[] #[.pointer (some ⟨b1,0,none⟩),.pointer (some ⟨b2,0,none⟩),.pointer (some ⟨b3,0,none⟩),.pointer (some ⟨b4,0,none⟩),.pointer (some ⟨b5,0,none⟩)]) (T1:=188) (T2:=33) (T3:=162) (T4:=3) (T5:=210) h.apl;have hF:∀ b,F b->¬ (b=aa)/\F b:=fun b hb=>⟨h.hF b hb,hb⟩;have o7:Rep F W2 (k_ (.leaf c)) (.pointer (some ⟨bb,0,none⟩)):=h.rb.but rY hF;obtain ⟨b',sl,e,Fu,rV,_⟩:=xp o7;cases e;have r0:W2.cell? ⟨bb,0,none⟩=some (str [c]):=by simp [Li,rV]
 have q1':W.cell? ⟨aa,0,none⟩=some (.int .i64 ((l:Int)+1)):=q1;have Gy:((l:Int)+1 == 0)=false:=by rw [beq_eq_false_iff_ne];omega
 have CL:=n7 (yK F W2 c (.pointer (some ⟨bb,0,none⟩)) o7);have rE:But (· = aa) w W2.drew:=rY.drew;have kX:∀ {b:Nat} {x:Value},F b->w.cell? ⟨b,0,none⟩=some x->W2.drew.cell? ⟨b,0,none⟩=some x:=fun hb hc=>(rE.cell (n_ w _ hc) (h.hF _ hb)).trans hc;have MH:=h.glob.but rE (fun e=>h.ng e.symm);obtain ⟨a0,iS⟩:=MH
 have C:=after_any d ih F aa l n H f st b1 b2 b3 b4 b5 bp ev5 on5 vv5 ss5 W2.drew c ⟨a0,iS⟩ h.hF h.ng oU (by omega) (by omega) (h.fit.back c) h.hn (by omega) (by omega) (qP (by omega) _ h.okg.2.1) (vg (by omega) _ h.okg.2.2)
  (kX n1 c1) (r1.but rE hF) (kX n2 c2) (kX n3 c3) (r3.but rE hF) (kX n4 c4) (kX n5 c5) (uy.but rE hF _ _ r5)
 have Fk:w.cell? ⟨0,0,none⟩=some (.iface 237 (.pointer (some a0))):=by
  obtain ⟨a1,h1⟩:=h.glob;have:=(rE.cell (n_ w _ h1) (fun e=>h.ng e.symm)).trans h1;rw [this] at iS;rw [h1];exact iS
 have CT:=dI iS C;have hcc:([c] == [117])=false:=by simpa using hc
 have hgn:=Tryz.goesFn;have Kn:w.heap.size<=W2.drew.heap.size:=rE.size;have Ie:=h.apl.cell.2.2;have Ft:=h.hF _ Fu;have KS:Hid (∀ w',But (· = aa) W2.drew w'->w'.cell? ⟨w.heap.size+1+1+1+1,0,none⟩=some (.func (.func 135) #[] #[.pointer (some ⟨b1,0,none⟩),.pointer (some ⟨b2,0,none⟩),.pointer (some ⟨b3,0,none⟩),.pointer (some ⟨b4,0,none⟩),.pointer (some ⟨b5,0,none⟩)])/\w'.cell? ⟨w.heap.size+1,0,none⟩=some (.pointer (some ⟨bb,0,none⟩))/\w'.cell? ⟨bb,0,none⟩=some (str [c])):=by
  show ∀ w',_->_;intro w' hb;have k:∀ (b:Nat) (v:Value),b≠aa->W2.cell? ⟨b,0,none⟩=some v->w'.cell? ⟨b,0,none⟩=some v:=fun b v hn hc=>(hb.cell (n_ W2 _ hc) hn).trans hc;exact ⟨k _ _ (by omega) p4,k _ _ (by omega) p1,k _ _ Ft r0⟩
 have HW:=n7 (n8 hW (n8 sC (n8 rE Fk)));clear hW sC rY rE oU o7 q1 rV C iS Fk kX hF c1 r1 c2 c3 r3 c4 c5 r5 n1 n2 n3 n4 n5 h ih;generalize Ib:decide (c=116)=bo at *;have KF:([c] == [116])=bo:=by rw [<- Ib,Bool.eq_iff_iff];simp
 clear Ib;generalize Qw d l (if c=116 then f.yes else f.no) f.env n st=o at *;cases o with
 | none =>
   have C:=n7 (CT.1 rfl);clear CT;have HBO:=n7 KF;clear KF;go_enter Qc,P_;go_upto_region 1 with (fail)
   rw [HW.out.1];go_upto_region 4 with (fail)
   rw [HW.out.2.1];go_wp2_with fail
   (with_reducible refine CL.out.mono ?_);rintro en w3 ⟨rfl,rfl⟩
   go_wp2_with fail
   (with_reducible refine CL.out.mono ?_);rintro en w4 ⟨rfl,rfl⟩
   have KF:=HBO.out;go_wp2_with fail
   go_region_held3 (fun w'=>w'.cell? ⟨w.heap.size+1+1+1+1,0,none⟩=some (.func (.func 135) #[] #[.pointer (some ⟨b1,0,none⟩),.pointer (some ⟨b2,0,none⟩),.pointer (some ⟨b3,0,none⟩),.pointer (some ⟨b4,0,none⟩),.pointer (some ⟨b5,0,none⟩)])/\w'.cell? ⟨w.heap.size+1,0,none⟩=some (.pointer (some ⟨bb,0,none⟩))/\w'.cell? ⟨bb,0,none⟩=some (str [c]))
    (first
     | exact ⟨p4,p1,r0⟩
     | exact KS.out _ rx
     | go_keep)
    (first
     | (go_at_call 135;(with_reducible refine C.out.mono ?_);rintro en w5 ⟨rfl,rx⟩))
   have HF:=n7 (HW.out.2.2.1.trans rx);clear rx;go_wp2_with fail
   go_ret2
   exact kO.none rfl HF.out HW.out.2.2.2
 | some x =>
   have C:=n7 (CT.2 x rfl);clear CT;have HBO:=n7 KF;clear KF;go_enter Qc,P_;go_upto_region 1 with (fail)
   rw [HW.out.1];go_upto_region 4 with (fail)
   rw [HW.out.2.1];go_wp2_with fail
   (with_reducible refine CL.out.mono ?_);rintro en w3 ⟨rfl,rfl⟩
   go_wp2_with fail
   (with_reducible refine CL.out.mono ?_);rintro en w4 ⟨rfl,rfl⟩
   have KF:=HBO.out;go_wp2_with fail
   go_region_held3 (fun w'=>w'.cell? ⟨w.heap.size+1+1+1+1,0,none⟩=some (.func (.func 135) #[] #[.pointer (some ⟨b1,0,none⟩),.pointer (some ⟨b2,0,none⟩),.pointer (some ⟨b3,0,none⟩),.pointer (some ⟨b4,0,none⟩),.pointer (some ⟨b5,0,none⟩)])/\w'.cell? ⟨w.heap.size+1,0,none⟩=some (.pointer (some ⟨bb,0,none⟩))/\w'.cell? ⟨bb,0,none⟩=some (str [c]))
    (first
     | exact ⟨p4,p1,r0⟩
     | exact KS.out _ rx
     | go_keep)
    (first
     | (go_at_call 135;(with_reducible refine C.out.mono ?_);rintro en w5 ⟨vb,rfl,rx,ha5,E4⟩))
   have HF:=n7 (n8 (HW.out.2.2.1.trans rx) (n8 ha5 E4));clear rx ha5 E4;go_wp2_with fail
   go_ret2
   exact kO.some rfl HF.out.1 HF.out.2.1 (HF.out.2.2.weak fun i h=>h.imp id fun h=>by omega)
structure AskAt (F:Nat->Prop) (aa l n bb v eb eo el ec:Nat) (on x0 x1 x2 x3:Value) (w w':World):Prop where
 p0:w'.cell? ⟨w.heap.size,0,none⟩=some (.pointer (some ⟨aa,0,none⟩))
 p1:w'.cell? ⟨w.heap.size+1,0,none⟩=some (.pointer (some ⟨bb,0,none⟩))
 p2:w'.cell? ⟨w.heap.size+1+1,0,none⟩=some (.slice (some ⟨eb,eo,none⟩) el ec)
 p3:w'.cell? ⟨w.heap.size+1+1+1,0,none⟩=some (.int .i64 (n:Nat))
 p4:w'.cell? ⟨w.heap.size+1+1+1+1,0,none⟩=some on
 q1:w'.cell? ⟨bb,1,none⟩=some (.int .i64 (v:Nat))
 m0:w'.cell? ⟨eb,eo+v*4,none⟩=some x0
 m1:w'.cell? ⟨eb,eo+v*4+1,none⟩=some x1
 m2:w'.cell? ⟨eb,eo+v*4+2,none⟩=some x2
 m3:w'.cell? ⟨eb,eo+v*4+3,none⟩=some x3
theorem eval_op (d:Nat) (ih:pX d) (F:Nat->Prop) (aa l n bb v o:Nat) (t:Ty) (H:List Ty) (ea:Option Addr) (el ec:Nat) (ss:List Bd) (y no:Bd) (env:List Mn) (st:List Gf) (on:Value) (w:World) (hv:env[v]? = some (.op o t))
 (h:pm F aa (l+1) (d+1) n H (.ask v ss y no) env st (.pointer (some ⟨bb,0,none⟩)) (.slice ea el ec) on w) :
 Calls No 118 #[.pointer (some ⟨aa,0,none⟩),.pointer (some ⟨bb,0,none⟩),.slice ea el ec,.int .i64 (n:Nat),on] w (kO F aa (Qw (d+1) (l+1) (.ask v ss y no) env n st) w):=by
 obtain ⟨eb,eo,ecap,x0,x1,x2,x3,e,JC,hew,m0,m1,m2,m3,LU⟩:=mean_at h.re hv;simp only [OK] at e;obtain ⟨rfl,rfl,rfl⟩:=e;simp only [dh,zQ,zC,zH] at LU;obtain ⟨_,_,e,rfl,kv,_,rfl,hk,_,_,rfl,rfl,_,_,rfl,rfl,rfl⟩:=LU;simp only [OL,and_true] at e;obtain ⟨rfl,rfl,rfl,rfl⟩:=e;obtain ⟨kb,rfl⟩:=e_ hk;have hF:∀ b,F b->¬ (b=aa)/\F b:=fun b hb=>⟨h.hF b hb,hb⟩;obtain ⟨W,W2,hW,sC,q0,q1,f1,rY,oU,tg,p0,p1,p2,p3,p4⟩:=px (n:=n) (bb:=bb) (ea:=some ⟨eb,eo,none⟩) (el:=env.length) (ec:=ec) (on:=on) (T1:=188) (T2:=33) (T3:=162) (T4:=3) (T5:=210) h.apl;have o7:Rep F W2 (k_ (.ask v ss y no)) (.pointer (some ⟨bb,0,none⟩)):=h.rb.but rY hF;obtain ⟨b',sl,yv,nv,e,Fu,rV,_,_,_⟩:=uu o7;cases e;have Ie:=h.apl.cell.2.2;have Cv:=h.ld;have GH:=h.d20;have Ft:=h.hF _ Fu;have oq:=h.hF _ JC;have r0:W2.cell? ⟨bb,0,none⟩=some (str []):=by simp [Li,rV]
 have r1:W2.cell? ⟨bb,1,none⟩=some (.int .i64 (v:Nat)):=by simp [Li,rV]
 have q1':W.cell? ⟨aa,0,none⟩=some (.int .i64 ((l:Int)+1)):=q1;have Gy:((l:Int)+1 == 0)=false:=by rw [beq_eq_false_iff_ne];omega
 have CL:=n7 (yh F W2 v ss y no (.pointer (some ⟨bb,0,none⟩)) o7);have kX:∀ {j:Nat} {x:Value},w.cell? ⟨eb,j,none⟩=some x->W2.cell? ⟨eb,j,none⟩=some x:=fun hc=>(rY.cell (n_ w _ hc) oq).trans hc;have rX:AskAt F aa l n bb v eb eo env.length ec on (.int .i64 (o:Nat)) (.pointer (some ⟨kb,0,none⟩)) (.pointer none) (.slice none 0 0) w W2:=⟨p0,p1,p2,p3,p4,r1,kX m0,kX m1,kX m2,kX m3⟩;have KS:Hid (∀ w',But (· = aa) W2 w'->AskAt F aa l n bb v eb eo env.length ec on (.int .i64 (o:Nat)) (.pointer (some ⟨kb,0,none⟩)) (.pointer none) (.slice none 0 0) w w'):=by
  show ∀ w',_->_;intro w' hb;have k:∀ {b j:Nat} {v:Value},b≠aa->W2.cell? ⟨b,j,none⟩=some v->w'.cell? ⟨b,j,none⟩=some v:=fun hn hc=>(hb.cell (n_ W2 _ hc) hn).trans hc;exact ⟨k (by omega) rX.p0,k (by omega) rX.p1,k (by omega) rX.p2,k (by omega) rX.p3,k (by omega) rX.p4,k Ft rX.q1,k oq rX.m0,k oq rX.m1,k oq rX.m2,k oq rX.m3⟩
 have B3:=(OB.1 hv).1;have Dv:(0:Int)<=(v:Int):=by omega
 have lE:(v:Int)<(env.length:Int):=by omega
 have BD:=uy.form h.ro;have HW:=n7 (n8 hW (n8 sC (n8 rY (n8 oU (n8 o7 (n8 hk rX))))));have HP:=n7 (n8 h (n8 hv ih));clear hW sC rY oU o7 hk rX q1 rV m0 m1 m2 m3 kX hF h hv ih p0 p1 p2 p3 p4 r1;rcases BD with rfl | ⟨cs,rfl⟩
 all_goals
  go_enter Qc,P_;go_upto_region 1 with (fail)
  rw [HW.out.1];go_upto_region 4 with (fail)
  rw [HW.out.2.1];have p1:=(KS.out W2 (But.refl _ _)).p1;go_wp2_with fail
  (with_reducible refine CL.out.mono ?_);rintro en w3 ⟨rfl,rfl⟩
  go_wp2_with fail
  (with_reducible refine CL.out.mono ?_);rintro en w4 ⟨rfl,rfl⟩
  go_wp2_with fail
  have A4:=KS.out w4 (But.refl _ _);have s1:=A4.p1;have s2:=A4.p2;have s3:=A4.q1;have s4:=A4.m0;have s5:=A4.m1;have s6:=A4.m2;have s7:=A4.m3;clear A4
  go_region_held3 (fun w'=>w'.cell? ⟨w.heap.size+1+1,0,none⟩=some (.slice (some ⟨eb,eo,none⟩) env.length ec)/\w'.cell? ⟨w.heap.size+1,0,none⟩=some (.pointer (some ⟨bb,0,none⟩))/\w'.cell? ⟨bb,1,none⟩=some (.int .i64 (v:Nat))/\w'.cell? ⟨eb,eo+v*4,none⟩=some (.int .i64 (o:Nat))/\w'.cell? ⟨eb,eo+v*4+1,none⟩=some (.pointer (some ⟨kb,0,none⟩))/\w'.cell? ⟨eb,eo+v*4+2,none⟩=some (.pointer none)/\w'.cell? ⟨eb,eo+v*4+3,none⟩=some (.slice none 0 0))
   (first
    | exact ⟨s2,s1,s3,s4,s5,s6,s7⟩
    | exact ⟨zV (w:=w4.drew) s2,zV (w:=w4.drew) s1,zV (w:=w4.drew) s3,zV (w:=w4.drew) s4,zV (w:=w4.drew) s5,zV (w:=w4.drew) s6,zV (w:=w4.drew) s7⟩
    | go_keep)
   (fail)
  obtain ⟨W5,GS⟩:=zzN ((w4.alloc (.cells #[.int .i64 (o:Nat),.pointer (some ⟨kb,0,none⟩),.pointer none,.slice none 0 0] 165)).drew);have tm:Below w4.heap.size w4 W5:=by rw [<- GS];exact ((rZ _ _).alloc (n9 _) _).drew
  have iT:W5.heap[w4.heap.size]? = some (.cells #[.int .i64 (o:Nat),.pointer (some ⟨kb,0,none⟩),.pointer none,.slice none 0 0] 165 (0,0)):=by rw [<- GS];exact zG w4 _
  rw [GS];clear GS s1 s2 s3 s4 s5 s6 s7;obtain ⟨y0,y1,y2,y3⟩:=kR iT;have A5:=KS.out W5 (But.ofBelow tm);have lh:But (· = aa) w W5:=HW.out.2.2.1.trans (But.ofBelow tm);have rM:=HP.out.1;have BS:∀ i,F i->¬ (i=aa)/\(F i\/w.heap.size<=i):=fun i hi=>⟨rM.hF i hi,.inl hi⟩;have Es:=rM.fit.keep HP.out.2.1;have hK:KeptPre (fun i=>F i\/w.heap.size<=i) aa l d n o v H t ss y no env st (.pointer (some ⟨bb,0,none⟩)) (.pointer (some ⟨kb,0,none⟩)) (.slice (some ⟨eb,eo,none⟩) env.length ec) (.func (.func 135) #[] #[.pointer (some ⟨w.heap.size+1,0,none⟩),.pointer (some ⟨w.heap.size,0,none⟩),.pointer (some ⟨w.heap.size+1+1,0,none⟩),.pointer (some ⟨w.heap.size+1+1+1,0,none⟩),.pointer (some ⟨w.heap.size+1+1+1+1,0,none⟩)]) W5:=by
   have L6:=bE _ rM.ok v _ HP.out.2.1;rw [okM] at L6;have tH:=rM.rb.but lh BS;have E2:=rM.re.but lh BS;have hFF:∀ i,(F i\/w.heap.size<=i)->i≠aa:=by
    intro i hi;rcases hi with hi | hi
    ·exact rM.hF i hi
    ·omega
   exact { glob:=rM.glob.but lh (fun e=>rM.ng e.symm),hF:=hFF,ng:=rM.ng,apl:=(HW.out.2.2.2.1).below tm,ld:=by omega,d20:=by omega,
           hlen:=Es.1,at15:=L6.1,sub:=Es.2.2.1,fy:=Es.2.2.2.1,fn:=Es.2.2.2.2,hn:=rM.hn,el:=rM.el,nl:=rM.nl,ok:=rM.ok,okg:=rM.okg,rb:=tH,
           rk:=(HW.out.2.2.2.2.2.1).but lh BS,re:=E2,
           ro:=⟨_,_,_,_,_,_,_,_,v,ss,rfl,⟨.inr (by omega),.inr (by omega),.inr (by omega),.inr (by omega),.inr (by omega)⟩,A5.p1,tH,A5.p0,A5.p2,E2,A5.p3,A5.p4,uy.but lh BS _ _ rM.ro⟩ }
  have C:=kept_any d HP.out.2.2 _ aa l n o v H t ss y no env st _ _ _ _ W5 hK;obtain ⟨a0,iS⟩:=rM.glob;have DI:=(lh.cell (n_ w _ iS) (fun e=>rM.ng e.symm)).trans iS;have CT:=dI DI C;have hev:Qw (d+1) (l+1) (.ask v ss y no) env n st=x6 d l n o t ss y no env st:=ev_op HP.out.2.1;clear C hK DI;generalize x6 d l n o t ss y no env st=oo at *;have s0:=A5.p0;have s1:=A5.p1;have s2:=A5.p2;have s3:=A5.p3;have HX:=n7 (n8 lh iS);clear lh iS A5 BS Es rM tm iT;cases oo with
  | none =>
    have C:=n7 (CT.1 rfl);clear CT;have HE:=n7 hev;clear hev;go_wp2_with fail
    (with_reducible refine C.out.mono ?_);rintro en w6 ⟨rfl,rC⟩
    have HF:=n7 (HX.out.1.trans rC);clear rC;go_wp2_with fail
    go_ret2
    exact kO.none HE.out HF.out HX.out.2
  | some x =>
    have C:=n7 (CT.2 x rfl);clear CT;have HE:=n7 hev;clear hev;have hz5:=HX.out.1.size;go_wp2_with fail
    (with_reducible refine C.out.mono ?_);rintro en w6 ⟨vb,rfl,rC,Nw,tB⟩
    have HF:=n7 (n8 (HX.out.1.trans rC) (n8 Nw tB));clear rC Nw tB;go_wp2_with fail
    go_ret2
    exact kO.some HE.out HF.out.1 HF.out.2.1 (HF.out.2.2.weak fun i h=>by
     rcases h with (h | h) | h
     ·exact .inl h
     ·exact .inr h
     ·exact .inr (by omega))
structure BInv (G:Nat->Prop) (e env:List Mn) (t:Ty) (ss:List Bd) (W:World) (k:Nat) (a:Option Addr) (c:Nat) (xs:List Value) (wr:World):Prop where
 own:Own wr 165 4 (.slice a (e.length+k) c) (e.length+k) xs
 rep:zW (fun i=>G i/\i<W.heap.size) wr (jZ (e++owns env (t.args.take k) (ss.take k))) xs
 bel:Below W.heap.size W wr
 fr:∀ g,(Ox a (e.length+k) c).ownBlock=some g->W.heap.size<=g
theorem wh {env:List Mn}:∀ (ts:List Ty) (ss:List Bd),ss.length=ts.length->(owns env ts ss).length=ts.length
 | [],[],_=>by simp [owns]
 | [],s::ss,h=>by simp at h
 | t::ts,[],h=>by simp at h
 | t::ts,s::ss,h=>by rw [owns,OD,OD,wh ts ss (by simpa using h)]
theorem eval_bd (d:Nat) (ih:pX d) (F:Nat->Prop) (aa l n bb v:Nat) (t:Ty) (H:List Ty) (ea:Option Addr) (el ec:Nat) (ss:List Bd) (y no b':Bd) (env e':List Mn) (st:List Gf) (on:Value) (w:World) (hv:env[v]? = some (.bd t b' e'))
 (h:pm F aa (l+1) (d+1) n H (.ask v ss y no) env st (.pointer (some ⟨bb,0,none⟩)) (.slice ea el ec) on w) :
 Calls No 118 #[.pointer (some ⟨aa,0,none⟩),.pointer (some ⟨bb,0,none⟩),.slice ea el ec,.int .i64 (n:Nat),on] w (kO F aa (Qw (d+1) (l+1) (.ask v ss y no) env n st) w):=by
 obtain ⟨eb,eo,ecap,x0,x1,x2,x3,e,JC,hew,m0,m1,m2,m3,LU⟩:=mean_at h.re hv;simp only [OK] at e;obtain ⟨rfl,rfl,rfl⟩:=e;simp only [dh,zQ,zC,zH] at LU;obtain ⟨_,_,e,rfl,_,_,rfl,rfl,bv2,_,rfl,hk,sv2,_,rfl,iQ,rfl⟩:=LU;simp only [OL,and_true] at e;obtain ⟨rfl,rfl,rfl,rfl⟩:=e;obtain ⟨kb,rfl⟩:=zd hk;obtain ⟨news,sg,sE⟩:=zu.ofRep iQ (vp e');obtain ⟨a2,c2,e⟩:=sE.slice;subst e;have hF:∀ b,F b->¬ (b=aa)/\F b:=fun b hb=>⟨h.hF b hb,hb⟩;obtain ⟨W,W2,hW,sC,q0,q1,f1,rY,oU,tg,p0,p1,p2,p3,p4⟩:=px (n:=n) (bb:=bb) (ea:=some ⟨eb,eo,none⟩) (el:=env.length) (ec:=ec) (on:=on) (T1:=188) (T2:=33) (T3:=162) (T4:=3) (T5:=210) h.apl;have o7:Rep F W2 (k_ (.ask v ss y no)) (.pointer (some ⟨bb,0,none⟩)):=h.rb.but rY hF;obtain ⟨b9,sl,yv,nv,e,Fu,rV,tN,_,_⟩:=uu o7;cases e;obtain ⟨sa,sc,e,_,_,ES⟩:=zP tN;subst e;have Ie:=h.apl.cell.2.2;have Cv:=h.ld;have GH:=h.d20;have Ft:=h.hF _ Fu;have oq:=h.hF _ JC;have r0:W2.cell? ⟨bb,0,none⟩=some (str []):=by simp [Li,rV]
 have r1:W2.cell? ⟨bb,1,none⟩=some (.int .i64 (v:Nat)):=by simp [Li,rV]
 have r2:W2.cell? ⟨bb,2,none⟩=some (.slice sa ss.length sc):=by simp [Li,rV]
 have q1':W.cell? ⟨aa,0,none⟩=some (.int .i64 ((l:Int)+1)):=q1;have Gy:((l:Int)+1 == 0)=false:=by rw [beq_eq_false_iff_ne];omega
 have CL:=n7 (yh F W2 v ss y no (.pointer (some ⟨bb,0,none⟩)) o7);have kX:∀ {j:Nat} {x:Value},w.cell? ⟨eb,j,none⟩=some x->W2.cell? ⟨eb,j,none⟩=some x:=fun hc=>(rY.cell (n_ w _ hc) oq).trans hc;have rX:AskAt F aa l n bb v eb eo env.length ec on (.int .i64 0) (.pointer none) (.pointer (some ⟨kb,0,none⟩)) (.slice a2 e'.length c2) w W2:=⟨p0,p1,p2,p3,p4,r1,kX m0,kX m1,kX m2,kX m3⟩;have KS:Hid (∀ w',But (· = aa) W2 w'->AskAt F aa l n bb v eb eo env.length ec on (.int .i64 0) (.pointer none) (.pointer (some ⟨kb,0,none⟩)) (.slice a2 e'.length c2) w w'):=by
  show ∀ w',_->_;intro w' hb;have k:∀ {b j:Nat} {v:Value},b≠aa->W2.cell? ⟨b,j,none⟩=some v->w'.cell? ⟨b,j,none⟩=some v:=fun hn hc=>(hb.cell (n_ W2 _ hc) hn).trans hc;exact ⟨k (by omega) rX.p0,k (by omega) rX.p1,k (by omega) rX.p2,k (by omega) rX.p3,k (by omega) rX.p4,k Ft rX.q1,k oq rX.m0,k oq rX.m1,k oq rX.m2,k oq rX.m3⟩
 have B3:=(OB.1 hv).1;have Dv:(0:Int)<=(v:Int):=by omega
 have lE:(v:Int)<(env.length:Int):=by omega
 have BD:=uy.form h.ro;have HW:=n7 (n8 hW (n8 sC (n8 rY (n8 oU (n8 o7 (n8 hk (n8 rX (n8 r2 (n8 ES (n8 iQ (n8 sg sE)))))))))));have HP:=n7 (n8 h (n8 hv ih));have Fp:=h.fit.call hv;have se:=bE _ h.ok v _ hv;rw [okM] at se;have Ar:=Fp.1;have Jt:=(kQ se.1).2;have hl16s:ss.length<=15:=by omega
 have hel2:=se.2.1;have Av:=h.el;have HL:=n7 (n8 Fp se);clear hW sC rY oU o7 hk rX r2 ES iQ sg sE Fp se tN Ar q1 rV m0 m1 m2 m3 kX hF h hv ih p0 p1 p2 p3 p4 r1;rcases BD with rfl | ⟨cs,rfl⟩
 all_goals
  go_enter Qc,P_;go_upto_region 1 with (fail)
  rw [HW.out.1];go_upto_region 4 with (fail)
  rw [HW.out.2.1];have p1:=(KS.out W2 (But.refl _ _)).p1;go_wp2_with fail
  (with_reducible refine CL.out.mono ?_);rintro en w3 ⟨rfl,rfl⟩
  go_wp2_with fail
  (with_reducible refine CL.out.mono ?_);rintro en w4 ⟨rfl,rfl⟩
  go_wp2_with fail
  have A4:=KS.out w4 (But.refl _ _);have s1:=A4.p1;have s2:=A4.p2;have s3:=A4.q1;have s4:=A4.m0;have s5:=A4.m1;have s6:=A4.m2;have s7:=A4.m3;clear A4
  go_region_held3 (fun w'=>w'.cell? ⟨w.heap.size+1+1,0,none⟩=some (.slice (some ⟨eb,eo,none⟩) env.length ec)/\w'.cell? ⟨w.heap.size+1,0,none⟩=some (.pointer (some ⟨bb,0,none⟩))/\w'.cell? ⟨bb,1,none⟩=some (.int .i64 (v:Nat))/\w'.cell? ⟨eb,eo+v*4,none⟩=some (.int .i64 0)/\w'.cell? ⟨eb,eo+v*4+1,none⟩=some (.pointer none)/\w'.cell? ⟨eb,eo+v*4+2,none⟩=some (.pointer (some ⟨kb,0,none⟩))/\w'.cell? ⟨eb,eo+v*4+3,none⟩=some (.slice a2 e'.length c2))
   (first
    | exact ⟨s2,s1,s3,s4,s5,s6,s7⟩
    | exact ⟨zV (w:=w4.drew) s2,zV (w:=w4.drew) s1,zV (w:=w4.drew) s3,zV (w:=w4.drew) s4,zV (w:=w4.drew) s5,zV (w:=w4.drew) s6,zV (w:=w4.drew) s7⟩
    | go_keep)
   (fail)
  obtain ⟨W5,GS⟩:=zzN ((w4.alloc (.cells #[.int .i64 0,.pointer none,.pointer (some ⟨kb,0,none⟩),.slice a2 e'.length c2] 165)).drew);have tm:Below w4.heap.size w4 W5:=by rw [<- GS];exact ((rZ _ _).alloc (n9 _) _).drew
  have iT:W5.heap[w4.heap.size]? = some (.cells #[.int .i64 0,.pointer none,.pointer (some ⟨kb,0,none⟩),.slice a2 e'.length c2] 165 (0,0)):=by rw [<- GS];exact zG w4 _
  rw [GS];clear GS s1 s2 s3 s4 s5 s6 s7;have hz45:w4.heap.size<W5.heap.size:=zZ iT;obtain ⟨y0,y1,y2,y3⟩:=kR iT;have A5:=KS.out W5 (But.ofBelow tm);have lh:But (· = aa) w W5:=HW.out.2.2.1.trans (But.ofBelow tm);have rM:=HP.out.1;have BS:∀ i,F i->¬ (i=aa)/\(F i\/w.heap.size<=i):=fun i hi=>⟨rM.hF i hi,.inl hi⟩;have hev:Qw (d+1) (l+1) (.ask v ss y no) env n st=Qw d l b' (e'++owns env t.args ss) n (⟨y,no,env⟩::st):=ev_bd HP.out.2.1;have Hl:zu 4 (.slice a2 e'.length c2) e'.length news W5:=bV lh (fun b hb=>rM.hF b hb) HW.out.2.2.2.2.2.2.2.2.2.1 HW.out.2.2.2.2.2.2.2.2.2.2.2;have z2:W5.cell? ⟨bb,2,none⟩=some (.slice sa ss.length sc):=(tm.cell (n_ w4 _ HW.out.2.2.2.2.2.2.2.1)).trans HW.out.2.2.2.2.2.2.2.1;have HX:=n7 (n8 lh (n8 tm (n8 iT (n8 hev Hl))));clear lh tm iT hev Hl;have s1:=A5.p1;have s2:=A5.p2;have HA5:=n7 A5;clear A5;go_wp2_with (at_builtin;refine zM rfl _ _ 162 rfl 165 (.agg #[.int .i64 0,.pointer none,.pointer none,.slice none 0 0]) 4 48 PO Tryz.infoMn rfl (by decide) (.slice none 0 0) 0 [] rfl ?a1 _ e'.length news rfl ?a2 ?a3 ?a4 ?_)
  case a1=>exact Pq _ _ _ _
  case a2=>exact HX.out.2.2.2.2
  case a3=>unfold maxLen;omega
  case a4=>omega
  intro a6 c6 w6 F2 rC F7;have lU:Below W5.heap.size W5 w6:=rC.toBelow (n9 _) (fun i _ e=>by simp [OG] at e);have H_:∀ g,(Ox a6 e'.length c6).ownBlock=some g->W5.heap.size<=g:=fun g hg=>by
   rcases F7 g hg with h | h
   ·simp [OG] at h
   ·omega
  have tB:zW (fun i=>(F i\/w.heap.size<=i)/\i<W5.heap.size) w6 (jZ (e'++owns env (t.args.take 0) (ss.take 0))) news:=by
   have h0:=(zW.low HW.out.2.2.2.2.2.2.2.2.2.2.1).but HX.out.1 (F':=fun i=>(F i\/w.heap.size<=i)/\i<W5.heap.size) (fun b hb=>⟨rM.hF b hb.1,.inl hb.1,by have:=HX.out.1.size;omega⟩);rw [QS,QS,owns.eq_def,OY];exact (Rep.keep fun b o hf hh=>⟨hf,by rw [lU.block b hf.2];exact hh⟩).2 _ _ h0
  have HI0:=n7 (show BInv (fun i=>F i\/w.heap.size<=i) e' env t ss W5 0 a6 c6 news w6 from ⟨F2,tB,lU,H_⟩);have z2:=(lU.cell (n_ W5 _ z2)).trans z2;have s1:=(lU.cell (n_ W5 _ s1)).trans s1;clear F2 tB lU H_ rC F7 rM BS;go_wp2_with fail
  go_loopw [14,78] (fun o i wr=>∃ k:Nat,k<=ss.length/\i=.int .i64 k/\∃ a c xs,o=.slice a (e'.length+k:Nat) c/\BInv (fun i=>F i\/w.heap.size<=i) e' env t ss W5 k a c xs wr) (fun _ i _=>ss.length-(intOf i).toNat)
  case atStart=>exact ⟨0,Nat.zero_le _,rfl,a6,c6,news,rfl,HI0.out⟩
  case round =>
   rename_i wr;obtain ⟨k,hk,rfl,a,c,xs,rfl,rD⟩:=hrel;have HI:=n7 rD;clear rD;have rM:=HP.out.1;have Dc:Below w4.heap.size w4 wr:=HX.out.2.1.trans (HI.out.bel.mono (by omega));have oy:But (· = aa) w wr:=HW.out.2.2.1.trans (But.ofBelow Dc);have hz5:=HX.out.1.size;have AR:=KS.out wr (But.ofBelow Dc);by_cases rH:k<ss.length
   ·have sS:(k:Int)<(ss.length:Int):=by omega
    obtain ⟨sb,so,u,d1,e,BS,FW,CQ,aH,tq⟩:=HW.out.2.2.2.2.2.2.2.2.1 k rH;subst e;rw [xE,OA] at CQ;obtain ⟨s,hs,rfl⟩:=CQ;obtain ⟨ub,rfl⟩:=zd tq;have Hv:k<t.args.length:=by have:=HL.out.1.1;omega
    obtain ⟨ta,lK⟩:∃ ta,t.args[k]? = some ta:=⟨_,List.getElem?_eq_getElem Hv⟩;have q0:=(Dc.cell (n_ w4 _ aH)).trans aH;have q1:=AR.p2;have HK:=n7 (n8 hs (n8 tq (n8 lK (n8 Dc oy))));clear hs tq lK Dc oy aH rM AR;go_wp2_with (at_builtin;refine zM rfl _ _ 162 rfl 165 (.agg #[.int .i64 0,.pointer none,.pointer none,.slice none 0 0]) 4 48 PO Tryz.infoMn rfl (by decide) (.slice a (e'.length+k) c) (e'.length+k) xs rfl ?c1 _ 1 [.int .i64 0,.pointer none,.pointer (some ⟨ub,0,none⟩),.slice (some ⟨eb,eo,none⟩) env.length ec] rfl ?c2 ?c3 ?c4 ?_)
    case c1=>exact HI.out.own.alloc _
    case c2=>exact zu.lit1 #[.int .i64 0,.pointer none,.pointer (some ⟨ub,0,none⟩),.slice (some ⟨eb,eo,none⟩) env.length ec] rfl (by simp [OR]) _ (by simp)
    case c3=>unfold maxLen;omega
    case c4=>omega
    intro a7 c7 w7 r_ rP rL;have Lo:=HI.out.bel.size;have GP:Below W5.heap.size W5 w7:=by
     refine (HI.out.bel.alloc Lo _).trans (rP.toBelow (by rw [zK];omega) fun i hi e=>?_);have:=HI.out.fr i e;omega
    have Au:∀ g,(Ox a7 (e'.length+(k+1)) c7).ownBlock=some g->W5.heap.size<=g:=by
     intro g h;rcases rL g h with h | h
     ·exact HI.out.fr g h
     ·omega
    have aw:∀ (b:Nat) (o:Obj),b<w4.heap.size->w4.heap[b]? = some o->w7.heap[b]? = some o:=fun b o hb hh=>by
     rw [GP.block b (by omega),HX.out.2.1.block b hb];exact hh
    have iq:zW (fun i=>(F i\/w.heap.size<=i)/\i<W5.heap.size) w7 (jZ (e'++owns env (t.args.take (k+1)) (ss.take (k+1)))) (xs++[.int .i64 0,.pointer none,.pointer (some ⟨ub,0,none⟩),.slice (some ⟨eb,eo,none⟩) env.length ec]):=by
     rw [owns_take _ _ _ _ _ HK.out.2.2.1 HK.out.1,<- Pi,uE,encMs_one];refine zW.append ?_ ?_
     ·exact (Rep.keep fun b o hf ho=>⟨hf,by rw [GP.block b hf.2,<- HI.out.bel.block b hf.2];exact ho⟩).2 _ _ HI.out.rep
     ·rw [dh];have hre4:=HP.out.1.re.but (F':=F) HW.out.2.2.1 (fun b hb=>⟨HP.out.1.hF b hb,hb⟩);have kk:=(Rep.keep (F:=F) (F':=fun i=>(F i\/w.heap.size<=i)/\i<W5.heap.size) (w:=w4) (w':=w7) fun b o hf hh=>⟨⟨.inl hf,by have:=zZ hh;omega⟩,aw b o (zZ hh) hh⟩).1;refine zQ.2 ⟨_,_,rfl,zH.2 rfl,zQ.2 ⟨_,_,rfl,zH.2 rfl,zQ.2 ⟨_,_,rfl,kk _ _ HK.out.2.1,zQ.2 ⟨_,_,rfl,kk _ _ hre4,zC.2 rfl⟩⟩⟩⟩
    have HN:=n7 (show BInv (fun i=>F i\/w.heap.size<=i) e' env t ss W5 (k+1) a7 c7 _ w7 from ⟨r_,iq,GP,Au⟩);clear r_ iq GP Au rP rL aw;go_wp2_with fail
    go_roundw
    case rel=>exact ⟨k+1,by omega,by go_num,a7,c7,_,rfl,HN.out⟩
    case measure=>simp [intOf];omega
   ·obtain rfl:k=ss.length:=by omega
    have iJ:=HI.out.rep;have Ar:=HL.out.1.1;rw [List.take_length,List.take_of_length_le (by omega)] at iJ;have hlen:(e'++owns env t.args ss).length=e'.length+ss.length:=by rw [Ov,wh _ _ Ar,Ar]
    have BS:∀ i,F i->¬ (i=aa)/\(F i\/w.heap.size<=i):=fun i hi=>⟨rM.hF i hi,.inl hi⟩;have hFF:∀ i,(F i\/w.heap.size<=i)->i≠aa:=by
     intro i hi;rcases hi with hi | hi
     ·exact rM.hF i hi
     ·omega
    have E0:Rep (fun i=>F i\/w.heap.size<=i) wr (.sl 165 4 (e'++owns env t.args ss).length (jZ (e'++owns env t.args ss))) (.slice a (e'.length+ss.length) c):=by
     rw [hlen];exact HI.out.own.rep (fun g hg=>.inr (by have:=HI.out.fr g hg;omega)) ((Rep.keep fun b o hf ho=>⟨hf.1,ho⟩).2 _ _ iJ)
    have tH:=rM.rb.but oy BS;have E2:=rM.re.but oy BS;have se:=HL.out.2;have AG:=rM.nl;have hK:pm (fun i=>F i\/w.heap.size<=i) aa l d n H b' (e'++owns env t.args ss) (⟨y,no,env⟩::st) (.pointer (some ⟨kb,0,none⟩)) (.slice a (e'.length+ss.length) c) (.func (.func 135) #[] #[.pointer (some ⟨w.heap.size+1,0,none⟩),.pointer (some ⟨w.heap.size,0,none⟩),.pointer (some ⟨w.heap.size+1+1,0,none⟩),.pointer (some ⟨w.heap.size+1+1+1,0,none⟩),.pointer (some ⟨w.heap.size+1+1+1+1,0,none⟩)]) wr:=by
     exact { glob:=rM.glob.but oy (fun e=>rM.ng e.symm),hF:=hFF,ng:=rM.ng,apl:=(HW.out.2.2.2.1).below Dc,ld:=by omega,d20:=by omega,
             fit:=HL.out.1.2,hn:=rM.hn,el:=by rw [hlen];omega,nl:=by omega,
             ok:=jg _ _ (qP (by omega) _ se.2.2) (wt (qP (by omega) _ rM.ok) (by omega) _ _ (kQ se.1).1),
             okg:=⟨by show env.length<=_;omega,qP (by omega) _ rM.ok,vg (by omega) _ rM.okg⟩,rb:=HW.out.2.2.2.2.2.1.but oy BS,re:=E0,
             ro:=⟨_,_,_,_,_,_,_,_,v,ss,rfl,⟨.inr (by omega),.inr (by omega),.inr (by omega),.inr (by omega),.inr (by omega)⟩,AR.p1,tH,AR.p0,AR.p2,E2,AR.p3,AR.p4,uy.but oy BS _ _ rM.ro⟩ }
    have C:=HP.out.2.2 _ aa l n H b' (e'++owns env t.args ss) (⟨y,no,env⟩::st) _ _ _ wr hK;obtain ⟨a0,iS⟩:=rM.glob;have DI:=(oy.cell (n_ w _ iS) (fun e=>rM.ng e.symm)).trans iS;have CT:=dI DI C;have hev:=HX.out.2.2.2.1;clear C hK DI iJ E0 tH E2;generalize Qw d l b' (e'++owns env t.args ss) n (⟨y,no,env⟩::st)=oo at *;have s0:=AR.p0;have s3:=AR.p3;have iT:=(HI.out.bel.block w4.heap.size (by omega)).trans HX.out.2.2.1;obtain ⟨y0,y1,y2,y3⟩:=kR iT;have Lo:=oy.size;have HY:=n7 (n8 oy iS);clear oy iS AR BS rM iT Dc y0 y1 y3 hlen se Ar;cases oo with
    | none =>
      have C:=n7 (CT.1 rfl);clear CT;have HE:=n7 hev;clear hev;go_wp2_with fail
      (with_reducible refine C.out.mono ?_);rintro en w6' ⟨rfl,rC⟩
      have HF:=n7 (HY.out.1.trans rC);clear rC;go_wp2_with fail
      go_ret2
      exact kO.none HE.out HF.out HY.out.2
    | some x =>
      have C:=n7 (CT.2 x rfl);clear CT;have HE:=n7 hev;clear hev;go_wp2_with fail
      (with_reducible refine C.out.mono ?_);rintro en w6' ⟨vb,rfl,rC,Nw,tB⟩
      have HF:=n7 (n8 (HY.out.1.trans rC) (n8 Nw tB));clear rC Nw tB;go_wp2_with fail
      go_ret2
      exact kO.some HE.out HF.out.1 HF.out.2.1 (HF.out.2.2.weak fun i h=>by
       rcases h with (h | h) | h
       ·exact .inl h
       ·exact .inr h
       ·exact .inr (by omega))
theorem eval_any (d:Nat):pX d:=by
 induction d with
 | zero =>
   intro F aa l n H b env st bv ev on w h;obtain rfl:l=0:=by have:=h.ld;omega
   obtain ⟨bb,rfl⟩:=zd h.rb;obtain ⟨_,a,c,rfl,_⟩:=zh.1 h.re;exact eval_out F aa 0 n bb a _ c b env st on w h.ro.form h.glob h.ng h.apl
 | succ d ih =>
   intro F aa l n H b env st bv ev on w h;obtain ⟨bb,rfl⟩:=zd h.rb;obtain ⟨_,a,c,rfl,_⟩:=zh.1 h.re;cases l with
   | zero=>exact eval_out F aa (d+1) n bb a _ c b env st on w h.ro.form h.glob h.ng h.apl
   | succ l =>
     have Cv:=h.ld;have hd:=h.d20;cases b with
     | leaf x =>
       by_cases hx:x=117
       ·exact eval_end F aa d l n bb a _ c x env st on w h.hF h.apl (by omega) h.rb (.inl ⟨hx,h.ro.form⟩)
       ·cases st with
        | nil=>exact eval_end F aa d l n bb a _ c x env [] on w h.hF h.apl (by omega) h.rb (.inr ⟨hx,h.ro,rfl⟩)
        | cons f st=>exact eval_back d ih F aa l n bb H a _ c x env f st on w hx h
     | ask v ss y no =>
       obtain ⟨m,t,hh,hm,_⟩:=h.fit.ask;cases m with
       | op o t=>exact eval_op d ih F aa l n bb v o t H a _ c ss y no env st on w hm h
       | bd t b' e'=>exact eval_bd d ih F aa l n bb v t H a _ c ss y no b' env e' st on w hm h
theorem fw {d:Nat} (ih:∀ (l:Nat) (b:Bd) (env:List Mn) (n:Nat) (st:List Gf) (r:Bd) (l':Nat),Qw d l b env n st=some (r,l')->zU r+l'<=l) {env:List Mn} {n:Nat} :
 ∀ (ts:List Ty) (ss:List Bd) (l:Nat) (xs:List Bd) (l':Nat),kV (Qw d) env n l ts ss=some (xs,l')->zE xs+l'<=l
 | [],ss,l,xs,l',h=>by simp [kV] at h;obtain ⟨rfl,rfl⟩:=h;simp [zE]
 | t::ts,[],l,xs,l',h=>by simp [kV] at h;obtain ⟨rfl,rfl⟩:=h;simp [zE]
 | t::ts,s::ss,l,xs,l',h=>by
   simp only [kV,Option.bind_eq_bind,N0,Prod.exists] at h;obtain ⟨x,l1,h1,ys,l2,h2,h3⟩:=h;simp at h3;obtain ⟨rfl,rfl⟩:=h3;have k1:=ih _ _ _ _ _ _ _ h1;have k2:=fw ih ts ss _ _ _ h2;rw [zE];omega
theorem ev_size (d:Nat):∀ (l:Nat) (b:Bd) (env:List Mn) (n:Nat) (st:List Gf) (r:Bd) (l':Nat),Qw d l b env n st=some (r,l')->zU r+l'<=l:=by
 induction d with
 | zero=>intro l b env n st r l' h;simp [Qw] at h
 | succ d ih =>
   intro l b env n st r l' h;cases l with
   | zero=>rw [ev.eq_def] at h;simp at h
   | succ l =>
     cases b with
     | leaf c =>
       by_cases hc:c=117
       ·subst hc;rw [ev_u] at h;simp at h;obtain ⟨rfl,rfl⟩:=h;rw [zU];omega
       ·cases st with
        | nil=>rw [cp] at h;simp at h;obtain ⟨rfl,rfl⟩:=h;rw [zU];omega
        | cons f st=>rw [bw hc] at h;have:=ih _ _ _ _ _ _ _ h;omega
     | ask v ss y no =>
       cases hv:env[v]? with
       | none=>rw [ev.eq_def] at h;simp [hv] at h
       | some m =>
         cases m with
         | bd t b' e=>rw [ev_bd hv] at h;have:=ih _ _ _ _ _ _ _ h;omega
         | op o t =>
           rw [ev_op hv] at h;simp only [N0,Prod.exists] at h;obtain ⟨xs,l1,h1,x,l2,h2,z,l3,h3,h4⟩:=h;simp at h4;obtain ⟨rfl,rfl⟩:=h4;have k1:=fw ih _ _ _ _ _ h1;have k2:=ih _ _ _ _ _ _ _ h2;have k3:=ih _ _ _ _ _ _ _ h3;rw [zU];omega
theorem fits_any (F:Nat->Prop) (w:World) (b:Bd) (v:Value) (hv:Rep F w (k_ b) v) (hn:zU b<=20000) :
 Calls No 58 #[v] w fun en w'=>en=.returned (.bool (decide (zU b<=200/\kr b<=100)))/\Below w.heap.size w w':=by
 obtain ⟨vb,rfl⟩:=zd hv;have hL:Lim 20000:=by unfold Lim;omega
 have C1:=n7 (size_any 20000 b hn hL F w _ hv);go_enter Tryz.func58,Tryz.ntmps58;go_wp2_with fail
 (with_reducible refine C1.out.mono ?_)
 rintro en w1 ⟨rfl,rW⟩;have C2:=n7 (depth_any 20000 b hn hL F w1 _ (Rep.below rW (fun _ h=>h) hv));have HB:=n7 rW;clear rW;by_cases iY:zU b<=200
 ·have h1:decide ((zU b:Int)<=200)=true:=decide_eq_true (by omega);go_wp2_with fail
  (with_reducible refine C2.out.mono ?_);rintro en w2 ⟨rfl,rY⟩
  have hb:=zzT HB.out rY;clear rY;by_cases li:kr b<=100
  focus
   have h2:decide ((kr b:Int)<=100)=true:=decide_eq_true (by omega);have HE:=n7 (n8 (show decide (zU b<=200/\kr b<=100)=true from decide_eq_true ⟨iY,li⟩) hb);clear hb
  rotate_left
  focus
   have h2:decide ((kr b:Int)<=100)=false:=decide_eq_false (by omega);have HE:=n7 (n8 (show decide (zU b<=200/\kr b<=100)=false from decide_eq_false (by omega)) hb);clear hb
  all_goals
   go_wp2_with fail
   go_ret;rw [HE.out.1];exact ⟨rfl,HE.out.2⟩
 ·have h1:decide ((zU b:Int)<=200)=false:=decide_eq_false (by omega);have HE:=n7 (show decide (zU b<=200/\kr b<=100)=false from decide_eq_false (by omega));go_wp2_with fail
  go_ret;rw [HE.out];exact ⟨rfl,HB.out⟩
def qz (F:Nat->Prop) (w:World) (o:Option Bd) (en:Ending) (w':World):Prop :=
 ∃ v,en=.returned v/\Below w.heap.size w w'/\(o=none->v=.pointer none)/\∀ b,o=some b->Rep (fun i=>F i\/w.heap.size<=i) w' (k_ b) v
structure BecPre (F:Nat->Prop) (n:Nat) (H:List Ty) (b:Bd) (env:List Mn) (bv ev:Value) (w:World):Prop where
 glob:xR w
 fit:ji H b env []
 hn:H.length=n
 nl:n<=1000
 el:env.length<=1000
 ok:xH 1000 env
 rb:Rep F w (k_ b) bv
 re:Rep F w (.sl 165 4 env.length (jZ env)) ev
theorem become_any (F:Nat->Prop) (n:Nat) (H:List Ty) (b:Bd) (env:List Mn) (bv ev:Value) (w:World) (h:BecPre F n H b env bv ev w) :
 Calls No 101 #[bv,ev,.int .i64 (n:Nat)] w (qz F w (j_ b env n)):=by
 obtain ⟨bb,rfl⟩:=zd h.rb;obtain ⟨_,ea,ec,rfl,_⟩:=zh.1 h.re;obtain ⟨a0,iS⟩:=h.glob;have Fc:=n_ w _ iS;have hlt1:0<w.heap.size:=Fc;have aB:Below w.heap.size w (w.alloc (.cells #[.int .i64 20000] 190)):=(rZ _ _).alloc (n9 _) _;have hrbA:=Rep.below aB (fun _ h=>h) h.rb;have hreA:=Rep.below aB (fun _ h=>h) h.re;have GI:=(aB.cell Fc).trans iS;have kA:∀ {dv:DV} {v:Value},Rep F w dv v->Rep (fun i=>F i/\i<w.heap.size) (w.alloc (.cells #[.int .i64 20000] 190)) dv v:=fun h=>(Rep.keep fun b o hf ho=>⟨⟨hf,zZ ho⟩,zY ho⟩).1 _ _ h;have AG:=h.nl;have Av:=h.el
 have hE:pm (fun i=>F i/\i<w.heap.size) w.heap.size 20000 20000 n H b env [] (.pointer (some ⟨bb,0,none⟩)) (.slice ea env.length ec) .nilFunc (w.alloc (.cells #[.int .i64 20000] 190)) :=
  { glob:=⟨a0,GI⟩,hF:=fun i hi e=>by have:=hi.2;omega,ng:=by omega,apl:=zG _ _,ld:=n9 _,d20:=n9 _,fit:=h.fit,hn:=h.hn,el:=by omega,nl:=by omega,
    ok:=qP (by omega) _ h.ok,okg:=trivial,rb:=kA h.rb,re:=kA h.re,ro:=rfl }
 have C:=eval_any 20000 _ _ _ _ _ _ _ _ _ _ _ _ hE;have CT:=dI GI C;have hsz:=ev_size 20000 20000 b env n [];have Nf:(Qw 20000 20000 b env n []=none->j_ b env n=none)/\∀ x,Qw 20000 20000 b env n []=some x->((zU x.1<=200/\kr x.1<=100)->j_ b env n=some x.1)/\(¬ (zU x.1<=200/\kr x.1<=100)->j_ b env n=none):=by
  unfold j_;refine ⟨fun h=>by rw [h],fun x h=>?_⟩;rw [h];exact ⟨fun h=>if_pos h,fun h=>if_neg h⟩
 clear hE C kA hrbA hreA h;generalize j_ b env n=r at *;generalize Qw 20000 20000 b env n []=oo at *;have HS:=n7 (n8 hsz (n8 aB (n8 iS Nf)));clear hsz aB iS GI Nf;cases oo with
 | none =>
   have C:=n7 (CT.1 rfl);clear CT;go_enter TG,Tj;go_wp2_with fail
   (with_reducible refine C.out.mono ?_);rintro en w1 ⟨rfl,rW⟩
   have rY:Below w.heap.size w w1:=HS.out.2.1.trans (rW.toBelow (by rw [zK];omega) fun i hi e=>by have e:i=w.heap.size:=e;omega);have aH:=(rY.cell Fc).trans HS.out.2.2.1;have C2:=n7 (is_same a0 w1);have HB:=n7 rY;clear rW rY;go_wp2_with fail
   (with_reducible refine C2.out.mono ?_);rintro en w2 ⟨rfl,rfl⟩
   go_wp2_with fail
   go_ret;exact ⟨_,rfl,HB.out,fun _=>rfl,fun b h=>by have h0:r=none:=HS.out.2.2.2.1 (by simp);rw [h0] at h;simp at h⟩
 | some x =>
   have C:=n7 (CT.2 x rfl);clear CT;go_enter TG,Tj;go_wp2_with fail
   (with_reducible refine C.out.mono ?_);rintro en w1 ⟨vb,rfl,rW,_,tX⟩
   have rY:Below w.heap.size w w1:=HS.out.2.1.trans (rW.toBelow (by rw [zK];omega) fun i hi e=>by have e:i=w.heap.size:=e;omega);have aH:=(rY.cell Fc).trans HS.out.2.2.1;have C2:=n7 (is_nil a0 w1);have hz:=HS.out.1 x.1 x.2 rfl;have C3:=n7 (fits_any _ w1 x.1 _ tX (by omega));have HB:=n7 (n8 rY tX);clear rW rY tX hz;go_wp2_with fail
   (with_reducible refine C2.out.mono ?_);rintro en w2 ⟨rfl,rfl⟩
   by_cases tR:zU x.1<=200/\kr x.1<=100
   ·rw [decide_eq_true tR] at C3;have HF:=n7 tR;clear tR;go_wp2_with fail
    (with_reducible refine C3.out.mono ?_);rintro en w3 ⟨rfl,rE⟩
    have aZ:=n7 rE;clear rE;go_wp2_with fail
    go_ret;have hr:=(HS.out.2.2.2.2 x rfl).1 HF.out;refine ⟨_,rfl,zzT HB.out.1 aZ.out,fun h=>?_,fun b h=>?_⟩
    ·rw [hr] at h;simp at h
    ·rw [hr] at h;obtain rfl:=OM h;refine Rep.weak (Rep.below aZ.out (fun _ h=>h) HB.out.2) fun i h=>?_;rcases h with h | h
     ·exact .inl h.1
     ·rw [zK] at h;exact .inr (by omega)
   ·rw [decide_eq_false tR] at C3;have HF:=n7 tR;clear tR;go_wp2_with fail
    (with_reducible refine C3.out.mono ?_);rintro en w3 ⟨rfl,rE⟩
    have aZ:=n7 rE;clear rE;go_wp2_with fail
    go_ret;exact ⟨_,rfl,zzT HB.out.1 aZ.out,fun _=>rfl,fun b h=>by rw [(HS.out.2.2.2.2 x rfl).2 HF.out] at h;simp at h⟩
def zq (bs:List Ty) (a:Ty) (n:Bd) (rest:List Ty):List Mn:=opens 0 bs++(.bd a n (opens 0 bs)::opens bs.length rest)
structure AppPre (F:Nat->Prop) (bs rest:List Ty) (a:Ty) (m n:Bd) (mv nv bv rv:Value) (w:World):Prop where
 glob:xR w
 fit:ji (bs++rest) m (zq bs a n rest) []
 a15:zJ a<=15
 bl:bs.length<=100
 rl:rest.length<=100
 b15:∀ t∈bs,zJ t<=15
 r15:∀ t∈rest,zJ t<=15
 rm:Rep F w (k_ m) mv
 rn:Rep F w (k_ n) nv
 rb:Rep F w (.sl 32 1 bs.length (qH bs)) bv
 rr:Rep F w (.sl 32 1 rest.length (qH rest)) rv
theorem apply_any (F:Nat->Prop) (bs rest:List Ty) (a:Ty) (m n:Bd) (mv nv bv rv:Value) (w:World) (h:AppPre F bs rest a m n mv nv bv rv w) :
 Calls No 80 #[mv,nv,bv,rv] w (qz F w (j_ m (zq bs a n rest) (bs.length+rest.length))):=by
 obtain ⟨mb,rfl⟩:=zd h.rm;obtain ⟨nb,rfl⟩:=zd h.rn;obtain ⟨_,ba,bc,rfl,_⟩:=zh.1 h.rb;obtain ⟨_,ra,rc,rfl,_⟩:=zh.1 h.rr;have JI:=h.bl;have Hr:=h.rl;have C1:Calls No 100 #[.int .i64 0,.slice ba bs.length bc] w (FreshV w 165 4 bs.length fun w' xs=>zW F w' (jZ (opens 0 bs)) xs):=eN F 0 bs _ w h.rb (by omega) (by omega);have C1:=n7 C1;have HP:=n7 h;clear h;go_enter Tryz.func80,Tryz.ntmps80;go_wp2_with fail
 (with_reducible refine C1.out.mono ?_)
 rintro en w1 ⟨a1,c1,xs1,rfl,Ku,tX,rW,MX⟩;have tJ:=Ku.src (vp _ _ tX);have H1:=n7 (n8 Ku (n8 tX (n8 rW (n8 MX tJ))));clear Ku tX rW MX tJ C1;go_wp2_with (at_builtin;refine zM rfl _ _ 162 rfl 165 (.agg #[.int .i64 0,.pointer none,.pointer none,.slice none 0 0]) 4 48 PO Tryz.infoMn rfl (by decide) (.slice none 0 0) 0 [] rfl ?a1 _ bs.length xs1 rfl ?a2 ?a3 ?a4 ?_)
 case a1=>exact Pq _ _ _ _
 case a2=>exact H1.out.2.2.2.2
 case a3=>unfold maxLen;omega
 case a4=>omega
 intro a2 c2 w2 ho2 rY DD;have Nc:Below w1.heap.size w1 w2:=rY.toBelow (n9 _) (fun i _ e=>by simp [OG] at e);have hf2:∀ g,(Ox a2 bs.length c2).ownBlock=some g->w1.heap.size<=g:=fun g hg=>by
  rcases DD g hg with h | h
  ·simp [OG] at h
  ·omega
 have H2:=n7 (n8 ho2 (n8 Nc hf2));clear ho2 rY DD Nc hf2;go_wp2_with (at_builtin;refine zM rfl _ _ 162 rfl 165 (.agg #[.int .i64 0,.pointer none,.pointer none,.slice none 0 0]) 4 48 PO Tryz.infoMn rfl (by decide) (.slice a2 bs.length c2) bs.length xs1 rfl ?b1 _ 1 [.int .i64 0,.pointer none,.pointer (some ⟨nb,0,none⟩),.slice a1 bs.length c1] rfl ?b2 ?b3 ?b4 ?_)
 case b1=>exact H2.out.1.alloc _
 case b2=>exact zu.lit1 #[.int .i64 0,.pointer none,.pointer (some ⟨nb,0,none⟩),.slice a1 bs.length c1] rfl (by simp [OR]) _ (by simp)
 case b3=>unfold maxLen;omega
 case b4=>omega
 intro a3 c3 w3 ho3 rE B4;have tg:=H2.out.2.1.size;have Am:=H1.out.2.2.1.size;have JH:Below w1.heap.size w1 w3:=(H2.out.2.1.alloc tg _).trans (rE.toBelow (by rw [zK];omega) fun i hi e=>by have:=H2.out.2.2 i e;omega);have hf3:∀ g,(Ox a3 (bs.length+1) c3).ownBlock=some g->w1.heap.size<=g:=fun g hg=>by
  rcases B4 g hg with h | h
  ·exact H2.out.2.2 g h
  ·omega
 have JM:Below w.heap.size w w3:=H1.out.2.2.1.trans (JH.mono Am);have C4:=n7 (eN (fun i=>F i/\i<w.heap.size) bs.length rest _ w3 (Rep.below JM (fun _ h=>h) (Rep.low HP.out.rr)) (by omega) (by omega));have H3:=n7 (n8 ho3 (n8 JH (n8 hf3 JM)));clear ho3 rE B4 JH hf3 JM;go_wp2_with fail
 (with_reducible refine C4.out.mono ?_)
 rintro en w4 ⟨a4,c4,xs4,rfl,ho4,D0,rq,hf4⟩;clear C4;have aW:=ho4.src (vp _ _ D0);have L9:Own w4 165 4 (.slice a3 (bs.length+1) c3) (bs.length+1) (xs1++[.int .i64 0,.pointer none,.pointer (some ⟨nb,0,none⟩),.slice a1 bs.length c1]):=H3.out.1.keep fun g o hg hh=>by rw [rq.block g (zZ hh)];exact hh
 have H4:=n7 (n8 L9 (n8 aW (n8 D0 (n8 rq hf4))));clear L9 aW D0 rq hf4 ho4;go_wp2_with (at_builtin;refine zM rfl _ _ 162 rfl 165 (.agg #[.int .i64 0,.pointer none,.pointer none,.slice none 0 0]) 4 48 PO Tryz.infoMn rfl (by decide) (.slice a3 (bs.length+1) c3) (bs.length+1) (xs1++[.int .i64 0,.pointer none,.pointer (some ⟨nb,0,none⟩),.slice a1 bs.length c1]) rfl ?d1 _ rest.length xs4 rfl ?d2 ?d3 ?d4 ?_)
 case d1=>exact H4.out.1
 case d2=>exact H4.out.2.1
 case d3=>unfold maxLen;omega
 case d4=>omega
 intro a5 c5 w5 i1 rx i6;have ig:=H3.out.2.1.size;have hz4:=H4.out.2.2.2.1.size;have GL:Below w1.heap.size w1 w5:=(H3.out.2.1.trans (H4.out.2.2.2.1.mono ig)).trans (rx.toBelow (by omega) fun i hi e=>by have:=H3.out.2.2.1 i e;omega);have hf5:∀ g,(Ox a5 (bs.length+1+rest.length) c5).ownBlock=some g->w1.heap.size<=g:=fun g hg=>by
  rcases i6 g hg with h | h
  ·exact H3.out.2.2.1 g h
  ·omega
 have BN:Below w.heap.size w w5:=H1.out.2.2.1.trans (GL.mono Am);have hlen:(zq bs a n rest).length=bs.length+1+rest.length:=by unfold zq;simp [z_];omega
 have E0:Rep (fun i=>F i\/w.heap.size<=i) w5 (.sl 165 4 (zq bs a n rest).length (jZ (zq bs a n rest))) (.slice a5 (bs.length+1+rest.length) c5):=by
  rw [hlen];refine i1.rep (fun g hg=>.inr (by have:=hf5 g hg;omega)) ?_;have e:jZ (zq bs a n rest)=jZ (opens 0 bs)++(dh (.bd a n (opens 0 bs))++jZ (opens bs.length rest)):=by unfold zq;rw [uE,jZ]
  rw [e];have k1:∀ {ds:List DV} {us:List Value},zW F w1 ds us->zW (fun i=>F i\/w.heap.size<=i) w5 ds us:=fun h=>(Rep.keep fun b o hf hh=>⟨.inl hf,by rw [GL.block b (zZ hh)];exact hh⟩).2 _ _ h;refine zW.append (k1 H1.out.2.1) (zW.append (vs:=[.int .i64 0,.pointer none,.pointer (some ⟨nb,0,none⟩),.slice a1 bs.length c1]) (us:=xs4) ?_ ?_)
  ·rw [dh];have r1:Rep (fun i=>F i\/w.heap.size<=i) w5 (k_ n) (.pointer (some ⟨nb,0,none⟩)):=(Rep.below BN (fun _ h=>h) HP.out.rn).weak fun i h=>.inl h;have r2:Rep (fun i=>F i\/w.heap.size<=i) w5 (.sl 165 4 (opens 0 bs).length (jZ (opens 0 bs))) (.slice a1 bs.length c1):=by
    rw [z_];refine (H1.out.1.keep fun g o hg hh=>?_).rep (fun g hg=>.inr (H1.out.2.2.2.1 g hg)) (k1 H1.out.2.1);rw [GL.block g (zZ hh)];exact hh
   exact zQ.2 ⟨_,_,rfl,zH.2 rfl,zQ.2 ⟨_,_,rfl,zH.2 rfl,zQ.2 ⟨_,_,rfl,r1,zQ.2 ⟨_,_,rfl,r2,zC.2 rfl⟩⟩⟩⟩
  ·refine (Rep.keep fun b o hf hh=>⟨.inl hf.1,?_⟩).2 _ _ H4.out.2.2.1;have rH:=hf.2;rw [rx.block b (zZ hh) (fun e=>by have:=H3.out.2.2.1 b e;omega)];exact hh
 have hE:BecPre (fun i=>F i\/w.heap.size<=i) (bs.length+rest.length) (bs++rest) m (zq bs a n rest) (.pointer (some ⟨mb,0,none⟩)) (.slice a5 (bs.length+1+rest.length) c5) w5 :=
  { glob:=HP.out.glob.below BN,fit:=HP.out.fit,hn:=Ov ..,nl:=by omega,el:=by omega,
    ok:=jg _ _ (jk _ _ HP.out.b15 (by omega)) ⟨⟨HP.out.a15,by rw [z_];omega,jk _ _ HP.out.b15 (by omega)⟩,jk _ _ HP.out.r15 (by omega)⟩,
    rb:=(Rep.below BN (fun _ h=>h) HP.out.rm).weak fun i h=>.inl h,re:=E0 }
 have C6:=become_any _ _ _ _ _ _ _ w5 hE;rw [Int.natCast_add] at C6;generalize j_ m (zq bs a n rest) (bs.length+rest.length)=r at *;have C6:=n7 C6;have HB:=n7 BN;clear E0 hE hlen BN GL hf5 i1 rx i6;go_wp2_with fail
 (with_reducible refine C6.out.mono ?_)
 rintro en w6 ⟨v,rfl,rC,lN,lC⟩;have H6:=n7 (n8 rC (n8 lN lC));clear rC lN lC;go_wp2_with fail
 go_ret;refine ⟨v,rfl,zzT HB.out H6.out.1,H6.out.2.1,fun b h=>(H6.out.2.2 b h).weak fun i h=>?_⟩;have hz:=HB.out.size;rcases h with (h | h) | h
 ·exact .inl h
 ·exact .inr h
 ·exact .inr (by omega)
theorem ph {F:Nat->Prop} {w:World} {e:TypeId} {n b o cap:Nat} {d:DV} {ds:List DV} (h:Rep F w (.sl e 1 (n+1) (d::ds)) (.slice (some ⟨b,o,none⟩) (n+1) cap)) :
 Rep F w (.sl e 1 n ds) (.slice (some ⟨b,o+1,none⟩) n (cap-1)):=by
 rw [zh] at h ⊢;obtain ⟨hl,a,c,e1,hn,hz,h⟩:=h;simp only [OK] at e1;obtain ⟨rfl,_,rfl⟩:=e1;refine ⟨by simpa using hl,_,_,rfl,by omega,fun h=>by simp at h,.inr ?_⟩;rcases h with h0 | ⟨b',o',cs,fr,e2,hb,hcs,hr⟩
 ·omega
 simp only [Oz,Pn,and_true] at e2;obtain ⟨rfl,rfl⟩:=e2;refine ⟨_,_,cs,fr,rfl,hb,hcs,?_⟩;have h2:=hr;rw [zQ] at h2;obtain ⟨v,vs,e3,_,h4⟩:=h2;have:vs=List.take (n*1) (Q_ (o+1) cs.toList):=by
  have h5:=congrArg (Q_ 1) e3;rw [List.drop_take,List.drop_drop] at h5;simpa using h5.symm
 rw [<- this];exact h4
theorem nF:∀ (ss:List Bd),(∀ s∈ss,2*kr s+1<=zU s)->ss≠[]->2*qK ss<=zE ss+1
 | [],_,h=>absurd rfl h
 | [s],hs,_=>by
   have:=hs s (by simp);simp only [qK,zE];omega
 | s::t::ss,hs,_=>by
   have h1:=hs s (by simp);have h2:=nF (t::ss) (fun x hx=>hs x (List.mem_cons_of_mem _ hx)) (by simp);rw [qK,zE];omega
theorem pO:∀ (n:Nat) (b:Bd),zU b<=n->2*kr b+1<=zU b
 | 0,b,h=>by have:=ze b;omega
 | n+1,.leaf c,_=>by simp [kr,zU]
 | n+1,.ask v ss y no,h=>by
   rw [zU] at h;have py:=ze y;have pn:=ze no;have hy:=pO n y (by omega);have hn:=pO n no (by omega);rw [kr,zU];by_cases hs:ss=[]
   ·subst hs;simp only [qK,zE];omega
   ·have:=nF ss (fun s lQ=>pO n s (by have:=vz lQ;omega)) hs;omega
theorem dd {b:Bd} (h:zU b<=200):kr b<=100:=by
 have:=pO _ b (n9 _);omega
theorem become_writes (b:Bd) (env:List Mn) (n:Nat):yR b env n=j_ b env n:=by
 rw [writes_eq];unfold j_;cases ev 20000 20000 b env n [] with
 | none=>rfl
 | some x =>
   obtain ⟨out,l⟩:=x;simp only;by_cases hs:zU out<=200
   ·rw [if_pos hs,if_pos ⟨hs,dd hs⟩]
   ·rw [if_neg hs,if_neg (fun h=>hs h.1)]
def uL (b:Bd):Option Bd:=if zU b<=200 then some b else none
mutual
def kW (b:Bd) (n k:Nat):Bd:=match b with
 | .leaf c=>.leaf c
 | .ask v ss y no=>.ask (if n<=v then v+k else v) (za ss n k) (kW y n k) (kW no n k)
def za (bs:List Bd) (n k:Nat):List Bd:=match bs with
 | []=>[]
 | b::bs=>kW b n k::za bs n k
end
def qV (b yes no:Bd):Bd:=match b with
 | .leaf c=>if c=116 then yes else if c=102 then no else .leaf c
 | .ask v ss y n=>.ask v ss (qV y yes no) (qV n yes no)
mutual
theorem bX:∀ (b:Bd) (H A X:List Ty),qj (H++X) b->qj (H++A++X) (kW b H.length A.length)
 | .leaf c,H,A,X,h=>by simp [kW,qj]
 | .ask v ss y no,H,A,X,h=>by
   rw [qj] at h;obtain ⟨t,ht,h1,h2,h3⟩:=h;rw [kW,qj];refine ⟨t,?_,mA ss t.args H A X h1,bX y H A X h2,bX no H A X h3⟩;by_cases hv:H.length<=v
   ·rw [if_pos hv];rw [OF hv] at ht;rw [Pi,OF (by omega),OF (by omega),show v+A.length-H.length-A.length=v-H.length from by omega];exact ht
   ·rw [if_neg hv];rw [OJ (by omega)] at ht;rw [Pi,OJ (by omega)];exact ht
theorem mA:∀ (bs:List Bd) (ts:List Ty) (H A X:List Ty),qU (kD (H++X) ts) bs->qU (kD (H++A++X) ts) (za bs H.length A.length)
 | [],ts,H,A,X,h=>by
   have:=kh _ _ h;rw [kL] at this;obtain rfl:ts=[]:=OQ this;rw [za,qU];rfl
 | b::bs,[],H,A,X,h=>by
   have:=kh _ _ h;rw [kL] at this;simp at this
 | b::bs,t::ts,H,A,X,h=>by
   rw [qU] at h;obtain ⟨h',lQ,e,f1,f2⟩:=h;simp only [kD,OU,OL] at e;obtain ⟨rfl,rfl⟩:=e;rw [za,qU];refine ⟨H++A++X++t.args,kD (H++A++X) ts,rfl,?_,mA bs ts H A X f2⟩;have:=bX b H A (X++t.args) (by rw [<- Pi];exact f1);rw [<- Pi] at this;exact this
end
mutual
theorem wk:∀ (b:Bd) (n k:Nat),wfB b->wfB (kW b n k)
 | .leaf c,n,k,h=>by rw [kW];exact h
 | .ask v ss y no,n,k,h=>by
   rw [wfB] at h;rw [kW,wfB];exact ⟨shift_wfs ss n k h.1,wk y n k h.2.1,wk no n k h.2.2⟩
theorem shift_wfs:∀ (bs:List Bd) (n k:Nat),vl bs->vl (za bs n k)
 | [],n,k,h=>by rw [za];exact h
 | b::bs,n,k,h=>by
   rw [vl] at h;rw [za,vl];exact ⟨wk b n k h.1,shift_wfs bs n k h.2⟩
end
theorem ed:∀ (b yes no:Bd) (H:List Ty),qj H b->qj H yes->qj H no->qj H (qV b yes no)
 | .leaf c,yes,no,H,h,h1,h2=>by
   rw [qV];split
   ·exact h1
   ·split
    ·exact h2
    ·exact h
 | .ask v ss y n,yes,no,H,h,h1,h2=>by
   rw [qj] at h;obtain ⟨t,ht,k1,k2,k3⟩:=h;rw [qV,qj];exact ⟨t,ht,k1,ed y yes no H k2 h1 h2,ed n yes no H k3 h1 h2⟩
theorem nP:∀ (b yes no:Bd),wfB b->wfB yes->wfB no->wfB (qV b yes no)
 | .leaf c,yes,no,h,h1,h2=>by
   rw [qV];split
   ·exact h1
   ·split
    ·exact h2
    ·exact h
 | .ask v ss y n,yes,no,h,h1,h2=>by
   rw [wfB] at h;rw [qV,wfB];exact ⟨h.1,nP y yes no h.2.1 h1 h2,nP n yes no h.2.2 h1 h2⟩
abbrev Nm:=Bs×Ty
def qM (ns:List Nm) (x:Bs):Nat->Option Nat
 | 0=>none
 | n+1=>if ns[n]?.map Prod.fst=some x then some n else qM ns x n
def jI (ns:List Nm) (x:Bs):Option Nat:=qM ns x ns.length
theorem findAt_lt {ns:List Nm} {x:Bs}:∀ {n i:Nat},qM ns x n=some i->i<n/\∃ k,ns[i]? = some (x,k)
 | 0,i,h=>by simp [qM] at h
 | n+1,i,h=>by
   rw [qM] at h;split at h
   ·rename_i hc;obtain rfl:=OM h;rw [OA] at hc;obtain ⟨⟨a,k⟩,h1,rfl⟩:=hc;exact ⟨by omega,k,h1⟩
   ·obtain ⟨h1,h2⟩:=findAt_lt h;exact ⟨by omega,h2⟩
def kinds (ns:List Nm):List Ty:=ns.map Prod.snd
def typeOf (ns:List Nm):Tm->Option Ty
 | .nm x=>(jI ns x).bind fun i=>ns[i]?.map Prod.snd
 | .wd _=>some (.mk [])
 | .lam x k t=>if 15<zJ k then none else (typeOf (ns++[(x,k)]) t).bind fun b=>if 15<zJ (z9 k b) then none else some (z9 k b)
 | .app m n=>(typeOf ns m).bind fun a=>(typeOf ns n).bind fun b=>match a.args with
   | []=>none
   | c::cs=>if zL c=zL b then some (.mk cs) else none
 | .ite l m n=>(typeOf ns l).bind fun a=>(typeOf ns m).bind fun b=>(typeOf ns n).bind fun c=>if a.args=[]/\zL b=zL c then some b else none
def zT (ns:List Nm):Tm->Option Bd
 | .nm x=>(jI ns x).bind fun i=>ns[i]?.bind fun p=>uL (eta p.2 i ns.length)
 | .wd w=>some (.leaf (w.headD 0))
 | .lam x k t=>zT (ns++[(x,k)]) t
 | .app m n=>(zT ns m).bind fun a=>(zT ns n).bind fun b=>(typeOf ns m).bind fun t=>match t.args with
   | []=>none
   | k::rest=>j_ a (zq (kinds ns) k b rest) (ns.length+rest.length)
 | .ite l m n=>(zT ns l).bind fun a=>(zT ns m).bind fun b=>(zT ns n).bind fun c=>(typeOf ns m).bind fun t=>uL (qV (kW a ns.length t.args.length) b c)
theorem eJ {a b:Ty} (h:zL a=zL b):a=b:=by
 have k1:=gD (zJ a+zJ b) a [] (by omega);have k2:=gD (zJ a+zJ b) b [] (by omega);rw [h,k2] at k1;exact (Prod.mk.inj (OM k1)).1.symm
theorem gb {bs rest:List Ty} {a:Ty} {n m:Bd} (hn:qj (bs++a.args) n) (hm:qj (bs++a::rest) m):ji (bs++rest) m (zq bs a n rest) []:=by
 refine ⟨⟨bs++a::rest,?_,hm⟩,by simp⟩;have h1:jX (bs++rest) (opens 0 bs) bs:=eM bs 0 fun i t h=>by rw [Nat.zero_add,OJ (OB.1 h).1];exact h
 refine y9 _ _ _ _ h1 ?_;rw [jX];refine ⟨a,rest,rfl,?_,cX bs rest⟩;rw [wV];exact ⟨rfl,bs,h1,hn⟩
theorem between_wf {bs rest:List Ty} {a:Ty} {n:Bd} (hn:wfB n):wS (zq bs a n rest):=by
 unfold zq;refine jp _ _ (jz bs 0) ?_;exact ⟨⟨hn,jz bs 0⟩,jz rest bs.length⟩
theorem pG {b c:Bd} (h:uL b=some c):c=b/\zU b<=200:=by
 unfold uL at h;split at h
 ·exact ⟨(OM h).symm,by assumption⟩
 ·simp at h
theorem jq (ns:List Nm) (x:Bs) (k:Ty):kinds (ns++[(x,k)])=kinds ns++[k]:=by simp [kinds]
theorem qe (ns:List Nm):(kinds ns).length=ns.length:=by simp [kinds]
theorem uj {ns:List Nm} {i:Nat} {x:Bs} {k:Ty} (h:ns[i]? = some (x,k)):(kinds ns)[i]? = some k:=by simp [kinds,h]
theorem qW:∀ (t:Tm) (ns:List Nm) (k:Ty),(∀ a∈kinds ns,zJ a<=15)->typeOf ns t=some k->zJ k<=15
 | .nm x,ns,k,hn,h=>by
   rw [typeOf,N0] at h;obtain ⟨i,_,h2⟩:=h;rw [OA] at h2;obtain ⟨⟨y,a⟩,h3,rfl⟩:=h2;exact hn a (OI (uj h3))
 | .wd w,ns,k,_,h=>by
   rw [typeOf] at h;obtain rfl:=OM h;decide
 | .lam x k t,ns,k',hn,h=>by
   rw [typeOf] at h;split at h
   ·simp at h
   ·rw [N0] at h;obtain ⟨b,_,h2⟩:=h;split at h2
    ·simp at h2
    ·obtain rfl:=OM h2;omega
 | .app m n,ns,k,hn,h=>by
   rw [typeOf,N0] at h;obtain ⟨a,h1,h⟩:=h;rw [N0] at h;obtain ⟨b,_,h⟩:=h;have ha:=qW m ns a hn h1;split at h
   ·simp at h
   ·rename_i c cs hc;split at h
    ·obtain rfl:=OM h;have:=cC hc;omega
    ·simp at h
 | .ite l m n,ns,k,hn,h=>by
   rw [typeOf,N0] at h;obtain ⟨a,_,h⟩:=h;rw [N0] at h;obtain ⟨b,h1,h⟩:=h;rw [N0] at h;obtain ⟨c,_,h⟩:=h;split at h
   ·obtain rfl:=OM h;exact qW m ns _ hn h1
   ·simp at h
theorem ce {ns:List Nm} {m n:Tm} {k:Ty} (h:typeOf ns (.app m n)=some k):∃ a b rest,typeOf ns m=some a/\typeOf ns n=some b/\a.args=b::rest/\k=.mk rest:=by
 rw [typeOf,N0] at h;obtain ⟨a,h1,h⟩:=h;rw [N0] at h;obtain ⟨b,h2,h⟩:=h;split at h
 ·simp at h
 ·rename_i c cs hc;split at h
  ·rename_i he;obtain rfl:=OM h;obtain rfl:=eJ he;exact ⟨a,c,cs,h1,h2,hc,rfl⟩
  ·simp at h
theorem cm {ns:List Nm} {l m n:Tm} {k:Ty} (h:typeOf ns (.ite l m n)=some k):typeOf ns l=some (.mk [])/\typeOf ns m=some k/\typeOf ns n=some k:=by
 rw [typeOf,N0] at h;obtain ⟨a,h1,h⟩:=h;rw [N0] at h;obtain ⟨b,h2,h⟩:=h;rw [N0] at h;obtain ⟨c,h3,h⟩:=h;split at h
 ·rename_i he;obtain rfl:=OM h;obtain rfl:=eJ he.2;refine ⟨?_,h2,h3⟩;rw [h1];cases a with
  | mk ts=>have:=he.1;simp only [Ty.args] at this;subst this;rfl
 ·simp at h
theorem cf {ns:List Nm} {x:Bs} {a:Ty} {t:Tm} {k:Ty} (h:typeOf ns (.lam x a t)=some k):zJ a<=15/\∃ b,typeOf (ns++[(x,a)]) t=some b/\k=z9 a b:=by
 rw [typeOf] at h;split at h
 ·simp at h
 ·rw [N0] at h;obtain ⟨b,h1,h2⟩:=h;split at h2
  ·simp at h2
  ·obtain rfl:=OM h2;exact ⟨by omega,b,h1,rfl⟩
theorem jf:∀ (t:Tm) (ns:List Nm) (k:Ty) (b:Bd),xG t->(∀ a∈kinds ns,zJ a<=15)->typeOf ns t=some k->zT ns t=some b->qj (kinds ns++k.args) b/\wfB b/\zU b<=200
 | .nm x,ns,k,b,_,hn,ht,h=>by
   rw [typeOf,N0] at ht;obtain ⟨i,hi,ht⟩:=ht;rw [zT,hi,Lx,N0] at h;obtain ⟨⟨y,a⟩,h1,h2⟩:=h;rw [h1] at ht;simp at ht;subst ht;obtain ⟨rfl,hs⟩:=pG h2;exact ⟨eta_fit a i ns.length (kinds ns) (qe ns) (uj h1),eta_wf a i ns.length,hs⟩
 | .wd w,ns,k,b,ho,hn,ht,h=>by
   rw [zT] at h;obtain rfl:=OM h;refine ⟨by simp [qj],?_,by simp [zU]⟩;rw [wfB];have:jP w=true:=ho;simp only [jP,Bool.or_eq_true,beq_iff_eq] at this;rcases this with (rfl | rfl) | rfl
   ·exact .inl rfl
   ·exact .inr (.inl rfl)
   ·exact .inr (.inr rfl)
 | .lam x a t,ns,k,b,ho,hn,ht,h=>by
   obtain ⟨ha,c,hc,rfl⟩:=cf ht;rw [zT] at h;have:=jf t (ns++[(x,a)]) c b ho.2 (fun y hy=>by
    rw [jq] at hy;rcases O_.1 hy with hy | hy
    ·exact hn y hy
    ·simp at hy;subst hy;exact ha) hc h
   rw [jq,Pi] at this;exact this
 | .app m n,ns,k,b,ho,hn,ht,h=>by
   obtain ⟨a,c,rest,h1,h2,h3,rfl⟩:=ce ht;rw [zT,N0] at h;obtain ⟨p,hp,h⟩:=h;rw [N0] at h;obtain ⟨q,hq,h⟩:=h;rw [h1,Lx,h3] at h;simp only at h;obtain ⟨f1,w1,s1⟩:=jf m ns a p ho.1 hn h1 hp;obtain ⟨f2,w2,s2⟩:=jf n ns c q ho.2 hn h2 hq;rw [h3] at f1;have hf:=gb f2 f1;have hlen:ns.length+rest.length=(kinds ns++rest).length:=by rw [Ov,qe]
   rw [hlen] at h;unfold j_ at h;cases hv:ev 20000 20000 p (zq (kinds ns) c q rest) (kinds ns++rest).length [] with
   | none=>rw [hv] at h;simp at h
   | some x =>
     obtain ⟨o,l⟩:=x;rw [hv] at h;simp only at h;split at h
     ·rename_i hs;obtain rfl:=OM h;exact ⟨ev_fit _ _ _ _ _ _ _ _ hf hv,ev_wf _ _ _ _ _ _ _ _ w1 (between_wf w2) (by simp) hv,hs.1⟩
     ·simp at h
 | .ite l m n,ns,k,b,ho,hn,ht,h=>by
   obtain ⟨h1,h2,h3⟩:=cm ht;rw [zT,N0] at h;obtain ⟨p,hp,h⟩:=h;rw [N0] at h;obtain ⟨q,hq,h⟩:=h;rw [N0] at h;obtain ⟨r,hr,h⟩:=h;rw [h2,Lx] at h;obtain ⟨rfl,hs⟩:=pG h;obtain ⟨f1,w1,_⟩:=jf l ns _ p ho.1 hn h1 hp;obtain ⟨f2,w2,_⟩:=jf m ns _ q ho.2.1 hn h2 hq;obtain ⟨f3,w3,_⟩:=jf n ns _ r ho.2.2 hn h3 hr;have LJ:=bX p (kinds ns) k.args [] (show qj (kinds ns++[]) p from f1);rw [OY,qe] at LJ;exact ⟨ed _ _ _ _ LJ f2 f3,nP _ _ _ (wk _ _ _ w1) w2 w3,hs⟩
theorem gS {t:Tm} {k:Ty} {b:Bd} (ho:xG t) (ht:typeOf [] t=some k) (h:zT [] t=some b):fB k b:=by
 obtain ⟨h1,h2,h3⟩:=jf t [] k b ho (by simp [kinds]) ht h;exact ⟨qW t [] k (by simp [kinds]) ht,by simpa [kinds] using h1,h2,h3,dd h3⟩
def jy (s:Bs):Option (Ty×Bd):=(qC s).bind fun t=>(typeOf [] t).bind fun k=>(zT [] t).map fun b=>(k,b)
def wA (s:Bs):Option Ty:=(qC s).bind fun t=>typeOf [] t
theorem dF {s:Bs} {k:Ty} {b:Bd} (h:jy s=some (k,b)):wA s=some k/\fB k b:=by
 unfold jy at h;simp only [N0,OA,Prod.mk.injEq] at h;obtain ⟨t,h1,k',h2,b',h3,rfl,rfl⟩:=h;obtain ⟨_,ho,_⟩:=jh h1;exact ⟨by unfold wA;rw [h1];exact h2,gS ho h2 h3⟩
theorem xJ:∀ (t:Tm) (ns:List Nm) (k:Ty),typeOf ns t=some k->z8 t=true
 | .nm x,ns,k,h=>by rw [z8]
 | .wd w,ns,k,h=>by rw [z8]
 | .lam x a t,ns,k,h=>by
   obtain ⟨ha,b,hb,_⟩:=cf h;rw [z8,decide_eq_true ha,xJ t _ b hb];rfl
 | .app m n,ns,k,h=>by
   obtain ⟨a,b,rest,h1,h2,_⟩:=ce h;rw [z8,xJ m ns a h1,xJ n ns b h2];rfl
 | .ite l m n,ns,k,h=>by
   obtain ⟨h1,h2,h3⟩:=cm h;rw [z8,xJ l ns _ h1,xJ m ns _ h2,xJ n ns _ h3];rfl
theorem Tryz.infoBound:(No.info? 99).map (fun i=>(i.zero,i.size,i.bytes))=some (some (.agg #[str [],.pointer none]),2,24):=by kernel_rfl
def jt:List Nm->List DV
 | []=>[]
 | p::ps=>.val (str p.1)::jA p.2::jt ps
theorem cB (a b:List Nm):jt (a++b)=jt a++jt b:=by
 induction a with
 | nil=>rfl
 | cons p ps ih=>rw [List.cons_append,jt,jt,ih];rfl
theorem encNms_at:∀ (ns:List Nm) (i:Nat) (p:Nm),ns[i]? = some p->(jt ns)[i*2]? = some (.val (str p.1))/\(jt ns)[i*2+1]? = some (jA p.2)
 | [],i,p,h=>by simp at h
 | q::ps,0,p,h=>by simp at h;subst h;rw [jt];exact ⟨rfl,rfl⟩
 | q::ps,i+1,p,h=>by
   have:=encNms_at ps i p (by simpa using h);rw [jt,show (i+1)*2=i*2+1+1 from by omega,show i*2+1+1+1=(i*2+1)+1+1 from rfl];simpa using this
theorem oneNm {F:Nat->Prop} {w:World}:∀ (ns:List Nm) (us:List Value),zW F w (jt ns) us->∀ u∈us,u.oneCell'=true
 | [],us,h,u,hu=>by rw [jt,zC] at h;subst h;simp at hu
 | p::ps,us,h,u,hu=>by
   rw [jt,zQ] at h;obtain ⟨v1,vs,rfl,h1,h2⟩:=h;rw [zQ] at h2;obtain ⟨v2,vs2,rfl,h3,h4⟩:=h2;rw [zH] at h1;subst h1;obtain ⟨b,_,rfl,_⟩:=zc h3;rcases OX.1 hu with rfl | hu
   ·simp [str,OR]
   rcases OX.1 hu with rfl | hu
   ·simp [OR]
   ·exact oneNm ps vs2 h4 u hu
def AtNm (F:Nat->Prop) (w:World) (ns:List Nm) (a:Option Addr) (k:Nat):Prop :=
 ∃ b o x t kb,a=some ⟨b,o,none⟩/\b<w.heap.size/\ns[k]? = some (x,t)/\w.cell? ⟨b,o+k*2,none⟩=some (str x)/\w.cell? ⟨b,o+k*2+1,none⟩=some (.pointer (some ⟨kb,0,none⟩))/\Rep F w (jA t) (.pointer (some ⟨kb,0,none⟩))
theorem AtNms.of {F:Nat->Prop} {w:World} {ns:List Nm} {v:Value} (h:Rep F w (.sl 99 2 ns.length (jt ns)) v):∃ a c,v=.slice a ns.length c/\ns.length<=c/\∀ k,k<ns.length->AtNm F w ns a k:=by
 obtain ⟨hl,a,c,rfl,hn,hz,h⟩:=zh.1 h;refine ⟨a,c,rfl,hn,fun k hk=>?_⟩;rcases h with h | ⟨b,o,cs,fr,rfl,hb,hc,hr⟩
 ·omega
 ·obtain ⟨⟨x,t⟩,hp⟩:∃ p,ns[k]? = some p:=⟨ns[k],by simp [hk]⟩;obtain ⟨g1,g2⟩:=encNms_at ns k (x,t) hp;obtain ⟨v1,e1,r1⟩:=zW.at hr g1;obtain ⟨v2,e2,r2⟩:=zW.at hr g2;rw [zH] at r1;subst r1;obtain ⟨kb,_,rfl,_⟩:=zc r2;have rX:∀ j u,((cs.toList.drop o).take (ns.length*2))[j]? = some u->w.cell? ⟨b,o+j,none⟩=some u:=by
   intro j u hu;rw [List.getElem?_take] at hu;split at hu
   ·rw [List.getElem?_drop] at hu;simp only [Li,hc];simpa using hu
   ·simp at hu
  exact ⟨b,o,x,t,kb,rfl,zZ hc,hp,rX _ _ e1,by have:=rX _ _ e2;rwa [<- Nat.add_assoc] at this,r2⟩
def f7:Option Nat->Int
 | some i=>i
 | none=>-1
theorem mN (t:Tm):0<zS t:=by cases t <;> simp only [zS] <;> omega
def FoundAt (ns:List Nm) (x:Bs) (k:Nat):Prop:=jI ns x=qM ns x k
theorem find_any (F:Nat->Prop) (ns:List Nm) (x:Bs) (lv:Value) (w:World) (hn:ns.length<=1000) (hr:Rep F w (.sl 99 2 ns.length (jt ns)) lv) :
 Calls No 47 #[lv,str x] w fun en w'=>en=.returned (.int .i64 (f7 (jI ns x)))/\w'=w:=by
 obtain ⟨a,c,rfl,hc,rX⟩:=AtNms.of hr;have AT:=n7 rX;clear rX hr;go_enter Tryz.func47,Tryz.ntmps47;go_wp2_with fail
 go_loop [5] (fun i=>∃ k:Nat,k<=ns.length/\i=.int .i64 ((k:Int)-1)/\FoundAt ns x k) (fun i=>(intOf i+1).toNat)
 case atStart=>exact ⟨ns.length,n9 _,rfl,rfl⟩
 case round =>
  obtain ⟨k,hk,rfl,hf⟩:=hrel;cases k with
  | zero =>
    have hz:((0:Nat):Int)-1 = -1:=rfl;rw [hz];go_wp2_with fail
    go_ret;refine ⟨?_,rfl⟩;rw [show jI ns x=none from hf];rfl
  | succ j =>
    have hj:j<ns.length:=by omega
    rw [show ((j+1:Nat):Int)-1=(j:Int) from by omega];obtain ⟨b,o,y,t,kb,e,hb,hp,h1,h2,_⟩:=AT.out j hj;subst e;have ME:(j:Int)<(ns.length:Int):=by omega
    have rA:qM ns x (j+1)=if y=x then some j else qM ns x j:=by
     rw [qM,hp];simp
    by_cases o_:y=x
    ·subst o_;have q:(y == y)=true:=by simp
     have HS:=n7 (show jI ns y=some j by rw [show jI ns y=qM ns y (j+1) from hf,rA,if_pos rfl]);clear hf rA hp h2;go_wp2_with fail
     go_ret;exact ⟨by rw [HS.out];rfl,rfl⟩
    ·have q:(y == x)=false:=by rw [beq_eq_false_iff_ne];exact o_
     have HS:=n7 (show jI ns x=qM ns x j by rw [show jI ns x=qM ns x (j+1) from hf,rA,if_neg o_]);clear hf rA hp h2 o_;go_wp2_with fail
     go_round
     case rel=>exact ⟨j,by omega,by go_num,HS.out⟩
     case measure=>simp only [intOf];omega
theorem same_any (F:Nat->Prop) (a b:Ty) (va vb:Value) (w:World) (ha:Rep F w (jA a) va) (hb:Rep F w (jA b) vb) (tL:zJ a<=15) (iA:zJ b<=15) :
 Calls No 50 #[va,vb] w fun en w'=>en=.returned (.bool (zL a == zL b))/\Below w.heap.size w w':=by
 obtain ⟨ab,_,rfl,_⟩:=zc ha;obtain ⟨bb,_,rfl,_⟩:=zc hb;have C1:=n7 (bJ 15 a tL (by omega) F w _ ha);have C2:=n7 (fun w1 (h:Below w.heap.size w w1)=>bJ 15 b iA (by omega) F w1 _ (Rep.below (F':=F) h (fun _ h=>h) hb));clear ha hb;go_enter Tryz.func50,Tryz.ntmps50;go_wp2_with fail
 (with_reducible refine C1.out.mono ?_)
 rintro en w1 ⟨rfl,rW⟩;have sZ:=n7 rW;clear rW;go_wp2_with fail
 (with_reducible refine (C2.out w1 sZ.out).mono ?_)
 rintro en w2 ⟨rfl,rY⟩;have rh:=n7 (zzT sZ.out rY);clear rY;go_wp2_with fail
 go_ret;exact ⟨rfl,rh.out⟩
def kH (F:Nat->Prop) (w:World) (o:Option Ty) (en:Ending) (w':World):Prop :=
 ∃ v,en=.returned v/\Below w.heap.size w w'/\(o=none->v=.pointer none)/\(∀ k,o=some k->Rep (fun i=>F i\/w.heap.size<=i) w' (jA k) v)
structure TyPre (F:Nat->Prop) (t:Tm) (ns:List Nm) (tv lv:Value) (w:World):Prop where
 rt:Rep F w (jO t) tv
 rl:Rep F w (.sl 99 2 ns.length (jt ns)) lv
 ok:xG t
 n15:∀ a∈kinds ns,zJ a<=15
 room:ns.length+zS t<=1000
def b8 (N:Nat):Prop:=∀ (F:Nat->Prop) (t:Tm) (ns:List Nm) (tv lv:Value) (w:World),zS t<=N->TyPre F t ns tv lv w->Calls No 18 #[tv,lv] w (kH F w (typeOf ns t))
theorem wG {F:Nat->Prop} {w:World} (hF:F w.heap.size):Rep F (w.alloc (.cells #[.slice none 0 0] 102)) (jA (.mk [])) (.pointer (some ⟨w.heap.size,0,none⟩)) :=
 bf hF (zG _ _) (zh.2 ⟨rfl,none,0,rfl,n9 _,fun _=>rfl,.inl rfl⟩)
theorem uB.alloc {w:World} {size n:Nat} {v:Value} {xs:List Value} (h:uB size v n xs w) (o:Obj):uB size v n xs (w.alloc o) :=
 ⟨h.1,h.2.elim (fun ⟨b,e,hc⟩=>.inl ⟨b,e,fun j u hj=>zV (hc j u hj)⟩) .inr⟩
theorem kH.no {F:Nat->Prop} {w w':World} {o:Option Ty} (ho:o=none) (hb:Below w.heap.size w w'):kH F w o (.returned (.pointer none)) w' :=
 ⟨_,rfl,hb,fun _=>rfl,fun k h=>by rw [ho] at h;simp at h⟩
theorem kH.yes {F:Nat->Prop} {w w':World} {o:Option Ty} {k:Ty} {v:Value} (ho:o=some k) (hb:Below w.heap.size w w') (hr:Rep (fun i=>F i\/w.heap.size<=i) w' (jA k) v):kH F w o (.returned v) w' :=
 ⟨_,rfl,hb,fun h=>by rw [ho] at h;simp at h,fun k' h=>by rw [ho] at h;obtain rfl:=OM h;exact hr⟩
theorem typed_nm (F:Nat->Prop) (x:Bs) (ns:List Nm) (tv lv:Value) (w:World) (hp:TyPre F (.nm x) ns tv lv w):Calls No 18 #[tv,lv] w (kH F w (typeOf ns (.nm x))):=by
 obtain ⟨tb,kv,slv,rfl,_,rV,_,_,_⟩:=js hp.rt;simp only [xd,xf] at rV;have t0:w.cell? ⟨tb,0,none⟩=some (str []):=by simp [Li,rV]
 have t1:w.cell? ⟨tb,1,none⟩=some (str x):=by simp [Li,rV]
 have hn:ns.length<=1000:=by have:=hp.room;omega
 have CF:=find_any F ns x lv w hn hp.rl;obtain ⟨la,lc,rfl,Kx,rX⟩:=AtNms.of hp.rl;have AT:=n7 rX;have HP:=n7 hp;clear hp rX rV;cases hq:jI ns x with
 | none =>
   have HT:=n7 (show typeOf ns (.nm x)=none by rw [typeOf,hq];rfl);rw [hq] at CF;simp only [f7] at CF;have CF':=n7 CF;clear hq CF Kx;go_enter Qb,P6;go_wp2_with fail
   (with_reducible refine CF'.out.mono ?_);rintro en w1 ⟨rfl,e⟩
   subst w1;go_wp2_with fail
   go_ret;exact kH.no HT.out (rZ _ _)
 | some i =>
   obtain ⟨rH,k,hk⟩:=findAt_lt hq;obtain ⟨b,o,y,t,kb,e,hb,Ep,h1,h2,sT⟩:=AT.out i rH;subst e;have rR:=HP.out.n15 t (OI (uj Ep));have HT:=n7 (show typeOf ns (.nm x)=some t by rw [typeOf,hq,Lx,Ep];rfl);have CA:=n7 (uN F w 15 t rR (by unfold Lim;omega) _ sT);have HR:=n7 sT;rw [hq] at CF;simp only [f7] at CF;have CF':=n7 CF;have hi:(i:Int)<(ns.length:Int):=by omega
   have hA:¬ (15:Int)<(zJ t:Int):=by omega
   clear hq CF Kx hk Ep h1 sT hb;go_enter Qb,P6;go_wp2_with fail
   (with_reducible refine CF'.out.mono ?_);rintro en w1 ⟨rfl,e⟩
   subst w1;go_wp2_with fail
   (with_reducible refine CA.out.mono ?_);rintro en w1 ⟨rfl,e⟩
   subst w1;go_wp2_with fail
   go_ret;exact kH.yes HT.out (rZ _ _) (HR.out.weak fun _ h=>.inl h)
theorem typed_wd (F:Nat->Prop) (u:Bs) (ns:List Nm) (tv lv:Value) (w:World) (hp:TyPre F (.wd u) ns tv lv w):Calls No 18 #[tv,lv] w (kH F w (typeOf ns (.wd u))):=by
 obtain ⟨tb,kv,slv,rfl,_,rV,_,_,_⟩:=js hp.rt;simp only [xd,xf] at rV;have t0:w.cell? ⟨tb,0,none⟩=some (str u):=by simp [Li,rV]
 have rj:jP u=true:=hp.ok;simp only [jP,Bool.or_eq_true,beq_iff_eq] at rj;obtain ⟨la,lc,rfl,_,_⟩:=AtNms.of hp.rl;have HT:=n7 (show typeOf ns (.wd u)=some (.mk []) by rw [typeOf]);have CA:=n7 (uN (fun _=>True) (w.alloc (.cells #[.slice none 0 0] 102)) 15 (.mk []) (by decide) (by unfold Lim;omega) _ (wG trivial));have eA:((zJ (.mk []):Nat):Int)=1:=by decide
 rw [eA] at CA;clear hp rV eA;rcases rj with (rfl | rfl) | rfl
 all_goals
  go_enter Qb,P6;go_wp2_with fail
  (with_reducible refine CA.out.mono ?_);rintro en w1 ⟨rfl,e⟩
  subst w1;go_wp2_with fail
  go_ret;exact kH.yes HT.out ((rZ _ _).alloc (n9 _) _) (wG (.inr (n9 _)))
theorem typed_lam (N:Nat) (ih:b8 N) (F:Nat->Prop) (x:Bs) (k:Ty) (t:Tm) (ns:List Nm) (tv lv:Value) (w:World) (hN:zS (.lam x k t)<=N+1) (hp:TyPre F (.lam x k t) ns tv lv w):Calls No 18 #[tv,lv] w (kH F w (typeOf ns (.lam x k t))):=by
 obtain ⟨tb,kv,slv,rfl,_,rV,_,Bi,oQ⟩:=js hp.rt;have hk:=Bi k rfl;obtain ⟨kb,_,e,_⟩:=zc hk;subst e;obtain ⟨pa,pc,rfl,_,_,rX⟩:=zP oQ;simp only [xd,xf,jo] at rV;obtain ⟨iw,iu,Lc,Ld,EL,_,Ca,Bv,B1,oZ⟩:=rX 0 (by simp [kZ]);simp only [kZ,OU,Pz,OH,OE,Oz] at Bv;subst Bv;obtain ⟨Bt,e0⟩:=qF oZ;subst e0;subst EL;have t0:w.cell? ⟨tb,0,none⟩=some (str [108,97,109]):=by simp [Li,rV]
 have t1:w.cell? ⟨tb,1,none⟩=some (str x):=by simp [Li,rV]
 have t2:w.cell? ⟨tb,2,none⟩=some (.pointer (some ⟨kb,0,none⟩)):=by simp [Li,rV]
 have t3:w.cell? ⟨tb,3,none⟩=some (.slice (some ⟨iw,iu,none⟩) 1 pc):=by simp [Li,rV,kZ]
 have sK:=hp.room;have rj:=hp.ok;rw [zS] at sK hN;have hak:=ke k;have CK:=n7 (uN F w 1000 k (by omega) (by unfold Lim;omega) _ hk);have hlen:ns.length<=999:=by omega
 by_cases rR:15<zJ k
 ·have HT:=n7 (show typeOf ns (.lam x k t)=none by rw [typeOf,if_pos rR]);have hA:(15:Int)<(zJ k:Int):=by omega
  obtain ⟨la,lc,rfl,_,_⟩:=AtNms.of hp.rl;clear hp rX oQ hk Bi rV rR oZ B1 rj hN;go_enter Qb,P6;go_wp2_with fail
  (with_reducible refine CK.out.mono ?_);rintro en w1 ⟨rfl,e⟩
  subst w1;go_wp2_with fail
  go_ret;exact kH.no HT.out (rZ _ _)
 have hA:¬ (15:Int)<(zJ k:Int):=by omega
 have hT:typeOf ns (.lam x k t)=(typeOf (ns++[(x,k)]) t).bind fun b=>if 15<zJ (z9 k b) then none else some (z9 k b):=by rw [typeOf,if_neg rR]
 have HT:=n7 hT;obtain ⟨xs,Ao,sB⟩:∃ xs,zW F w (jt ns) xs/\∃ a c,lv=.slice a ns.length c/\uB 2 (.slice a ns.length ns.length) ns.length xs w:=by
  obtain ⟨a,c,e,_,_⟩:=AtNms.of hp.rl;have hr:=hp.rl;rw [e] at hr;obtain ⟨xs,h1,h2⟩:=uB.ofRep hr (oneNm ns);exact ⟨xs,h1,a,c,e,h2⟩
 obtain ⟨la,lc,rfl,sB⟩:=sB;have Kx:ns.length<=lc:=by obtain ⟨a,c,e,h,_⟩:=AtNms.of hp.rl;simp only [OK] at e;obtain ⟨_,_,rfl⟩:=e;exact h
 have SX:Hid (∀ w',Below w.heap.size w w'->w'.cell? ⟨tb,1,none⟩=some (str x)/\w'.cell? ⟨tb,2,none⟩=some (.pointer (some ⟨kb,0,none⟩))/\w'.cell? ⟨tb,3,none⟩=some (.slice (some ⟨iw,iu,none⟩) 1 pc)/\w'.cell? ⟨iw,iu,none⟩=some (.pointer (some ⟨Bt,0,none⟩))):=by
  show ∀ w',_->_;intro w' rS;exact ⟨(rS.cell (n_ w _ t1)).trans t1,(rS.cell (n_ w _ t2)).trans t2,(rS.cell (n_ w _ t3)).trans t3,(rS.cell Ca).trans B1⟩
 have HX:=n7 (n8 Ao sB);have HP:=n7 (n8 hp (n8 hk oZ));have IH:=n7 ih;have HK:=n7 (n8 rR (n8 rj hN));have BU:ns.length+1<=maxLen:=by unfold maxLen;omega
 have tC:(ns.length+1)*24<=140737488355328:=by omega
 clear hp rX oQ hk Bi rV rR oZ Ao sB rj ih hN hT;go_enter Qb,P6;go_wp2_with fail
 (with_reducible refine CK.out.mono ?_);rintro en w1 ⟨rfl,e⟩
 subst w1;go_wp2_with fail
 refine wp_region_noPanic ?_;refine zB (fun w'=>Below w.heap.size w w') (fun _=>false) (by kernel_rfl) ?_;have rU:(fun w'=>Below w.heap.size w w') w.drew:=Below.drew (rZ _ _);refine tk [0,1,2,3,4,5,6,7,8,9,10,11,12,13,14,15,16,17,18,19,20] rU ?_;(intro d hd;simp [tkD] at hd;subst hd;simp only [tks,pQ,pZ,pS]);iterate 21 (refine ⟨?_,?_,?_⟩;rotate_left;· (intro oi ho;simp at ho;subst ho;refine Or.inl ⟨by rfl,fun w' rB=>?_⟩;obtain ⟨e0,e1,e2,e3⟩:=SX.out w' rB;go_simp;try with_reducible rfl))
 (refine on 21 ?_;intro o ho K' hK;simp at ho;subst ho;go_simp);(refine hK.out _ _ (fun _=>rU.alloc (n9 _) _) ?_;clear hK K';try simp only [pQ,pN,pZ,pS]);(refine on 22 ?_;intro o ho K' hK;simp at ho;subst ho);have Gq:zu 2 (.slice (some ⟨w.heap.size,0,none⟩) 1 1) 1 [str x,.pointer (some ⟨kb,0,none⟩)] (w.drew.alloc (.cells #[str x,.pointer (some ⟨kb,0,none⟩)] 99)):=zu.lit1 #[str x,.pointer (some ⟨kb,0,none⟩)] rfl (by simp [str,OR]) _ (by rfl)
 have iR:uB 2 (.slice la ns.length ns.length) ns.length xs (w.drew.alloc (.cells #[str x,.pointer (some ⟨kb,0,none⟩)] 99)):=HX.out.2.drew.alloc _;refine yO (by rfl) _ _ _ (by rfl) 99 (.agg #[str [],.pointer none]) 2 24 Tryz.underlying93 Tryz.infoBound rfl (.slice la ns.length ns.length) ns.length xs (by rfl) iR _ 1 _ (by rfl) Gq (by omega) BU tC ?_;intro c7 w7 r_ rP;have e8:(w.alloc (.cells #[str x,.pointer (some ⟨kb,0,none⟩)] 99)).drew.heap.size=w.heap.size+1:=by simp
 rw [e8] at r_;have tI:Below w.heap.size w w7:=(rU.alloc (n9 _) _).trans (rP.mono (rU.alloc (n9 _) _).size);(refine hK.out _ _ (fun _=>tI) ?_;clear hK K';try simp only [pQ,pN,pZ,pS]);(refine on 23 ?_;intro o ho K' hK;simp at ho;subst ho);have iq:Rep (fun i=>F i\/w.heap.size<=i) w7 (.sl 99 2 (ns++[(x,k)]).length (jt (ns++[(x,k)]))) (.slice (some ⟨w.heap.size+1,0,none⟩) (ns.length+1) c7):=by
  rw [Ov,cB];refine r_.rep (fun g hg=>.inr (by simp [OG] at hg;subst hg;exact Nat.le_succ _)) ?_;exact (zW.below tI (fun _ h=>.inl h) HX.out.1).append (zQ.2 ⟨_,_,rfl,zH.2 rfl,zQ.2 ⟨_,_,rfl,Rep.below tI (fun _ h=>.inl h) HP.out.2.1,zC.2 rfl⟩⟩)
 have CT:=n7 (IH.out (fun i=>F i\/w.heap.size<=i) t (ns++[(x,k)]) (.pointer (some ⟨Bt,0,none⟩)) _ w7 (by have:=HK.out.2.2;omega) ⟨Rep.below tI (fun _ h=>.inl h) HP.out.2.2,iq,HK.out.2.1.2,(fun a ha=>by
  rw [jq] at ha;rcases O_.1 ha with ha | ha
  ·exact HP.out.1.n15 a ha
  ·simp at ha;subst ha;have:=HK.out.1;omega),by rw [Ov];simp;omega⟩)
 have Ak:=n7 tI;clear iq r_ rP tI;go_simp;go_at_call 18;(with_reducible refine CT.out.mono ?_);rintro en w9 ⟨bv,rfl,sh,Cu,Cf⟩;have Ex:=n7 (zzT Ak.out sh);have HY:=n7 (n8 Cu Cf);have z7:=Ak.out.size;clear sh Cu Cf;(refine hK.out _ _ (fun _=>Ex.out) ?_;clear hK K';try simp only [pQ,pN,pZ,pS]);(refine on 24 ?_;intro o ho K' hK;simp at ho;subst ho;go_simp);(refine hK.out _ _ (fun _=>Ex.out) ?_;clear hK K';try simp only [pQ,pN,pZ,pS]);refine zX (by kernel_rfl) (NoPanic.normal ?_) _;cases hq:typeOf (ns++[(x,k)]) t with
 | none =>
   obtain rfl:=HY.out.1 hq;have HN:=n7 (show typeOf ns (.lam x k t)=none by rw [HT.out,hq];rfl);clear hq;go_wp2_with fail
   go_ret;exact kH.no HN.out Ex.out
 | some b =>
   have tH:=HY.out.2 b hq;obtain ⟨bb,_,e,_⟩:=zc tH;subst e;have iA:zJ b<=15:=qW t _ b (fun a ha=>by
    rw [jq] at ha;rcases O_.1 ha with ha | ha
    ·exact HP.out.1.n15 a ha
    ·simp at ha;subst ha;have:=HK.out.1;omega) hq
   have JI:=jH iA;have CW:=n7 (arrow_any (fun i=>F i\/w.heap.size<=i) k b (.pointer (some ⟨kb,0,none⟩)) (.pointer (some ⟨bb,0,none⟩)) w9 (Rep.below Ex.out (fun _ h=>.inl h) HP.out.2.1) (tH.weak fun i h=>by rcases h with h | h;exact h;exact .inr (by omega)) (show _<=_ by omega));have HQ:=n7 (show typeOf ns (.lam x k t)=if 15<zJ (z9 k b) then none else some (z9 k b) by rw [HT.out,hq];rfl);obtain ⟨e0,e1,e2,e3⟩:=SX.out w9 Ex.out;have B7:zJ (z9 k b)<=1000:=by
    have h1:=HK.out.1;have:zJ (z9 k b)=1+zJ k+zJ b:=xw k b;omega
   clear hq tH;go_wp2_with fail
   (with_reducible refine CW.out.mono ?_);rintro en Al ⟨av,rfl,ie,BC⟩
   have On:=n7 (zzT Ex.out ie);have Dy:Rep (fun i=>F i\/w.heap.size<=i) Al (jA (z9 k b)) av:=BC.weak fun i h=>by rcases h with h | h;exact h;exact .inr (by have:=Ex.out.size;omega)
   obtain ⟨ab,_,e,_⟩:=zc Dy;subst e;have CA:=n7 (uN _ Al 1000 (z9 k b) B7 (by unfold Lim;omega) _ Dy);have HR:=n7 Dy;clear ie BC Dy e0 e1 e2 e3;by_cases rR:15<zJ (z9 k b)
   ·have hA2:(15:Int)<(zJ (z9 k b):Int):=by omega
    have HN:=n7 (show typeOf ns (.lam x k t)=none by rw [HQ.out,if_pos rR]);generalize zJ (z9 k b)=A at *;clear rR;go_wp2_with fail
    (with_reducible refine CA.out.mono ?_);rintro en iz ⟨rfl,e⟩
    subst iz;go_wp2_with fail
    go_ret;exact kH.no HN.out On.out
   ·have hA2:¬ (15:Int)<(zJ (z9 k b):Int):=by omega
    have HN:=n7 (show typeOf ns (.lam x k t)=some (z9 k b) by rw [HQ.out,if_neg rR]);generalize zJ (z9 k b)=A at *;clear rR;go_wp2_with fail
    (with_reducible refine CA.out.mono ?_);rintro en iz ⟨rfl,e⟩
    subst iz;go_wp2_with fail
    go_ret;exact kH.yes HN.out On.out HR.out
theorem typed_app (N:Nat) (ih:b8 N) (F:Nat->Prop) (m n:Tm) (ns:List Nm) (tv lv:Value) (w:World) (hN:zS (.app m n)<=N+1) (hp:TyPre F (.app m n) ns tv lv w):Calls No 18 #[tv,lv] w (kH F w (typeOf ns (.app m n))):=by
 obtain ⟨tb,kv,slv,rfl,_,rV,_,_,oQ⟩:=js hp.rt;obtain ⟨pa,pc,rfl,_,_,rX⟩:=zP oQ;simp only [xd,xf,vo] at rV;obtain ⟨iw,iu,Lc,Ld,EL,_,Ca,Bv,B1,oZ⟩:=rX 0 (by simp [kZ]);simp only [kZ,OU,Pz,OH,OE,Oz] at Bv;subst Bv;obtain ⟨Bt,e0⟩:=qF oZ;subst e0;subst EL;obtain ⟨rO,rI,pu1,AS,oP,_,tU,iv,iy,iW⟩:=rX 1 (by simp [kZ]);simp only [kZ,OU,Pz,OH,OE,Oz] at iv;subst iv;obtain ⟨ED,e1⟩:=qF iW;subst e1;simp only [Oz,Pn,and_true] at oP;obtain ⟨rfl,rfl⟩:=oP;have t0:w.cell? ⟨tb,0,none⟩=some (str [97,112,112]):=by simp [Li,rV]
 have t3:w.cell? ⟨tb,3,none⟩=some (.slice (some ⟨iw,iu,none⟩) 2 pc):=by simp [Li,rV,kZ]
 have sK:=hp.room;have rj:=hp.ok;rw [zS] at sK hN;obtain ⟨la,lc,rfl,_,_⟩:=AtNms.of hp.rl;have SX:Hid (∀ w',Below w.heap.size w w'->w'.cell? ⟨tb,3,none⟩=some (.slice (some ⟨iw,iu,none⟩) 2 pc)/\w'.cell? ⟨iw,iu,none⟩=some (.pointer (some ⟨Bt,0,none⟩))/\w'.cell? ⟨iw,iu+1,none⟩=some (.pointer (some ⟨ED,0,none⟩))):=by
  show ∀ w',_->_;intro w' rS;exact ⟨(rS.cell (n_ w _ t3)).trans t3,(rS.cell Ca).trans B1,(rS.cell tU).trans iy⟩
 have C0:=n7 (fun wz (hz:Below w.heap.size w wz)=>ih F m ns (.pointer (some ⟨Bt,0,none⟩)) (.slice la ns.length lc) wz (by omega) ⟨Rep.below hz (fun _ h=>h) oZ,Rep.below hz (fun _ h=>h) hp.rl,rj.1,hp.n15,by omega⟩);have C1:=n7 (fun wz (hz:Below w.heap.size w wz)=>ih F n ns (.pointer (some ⟨ED,0,none⟩)) (.slice la ns.length lc) wz (by omega) ⟨Rep.below hz (fun _ h=>h) iW,Rep.below hz (fun _ h=>h) hp.rl,rj.2,hp.n15,by omega⟩);have HN:=n7 hp.n15;clear hp rX oQ rV rj hN ih oZ B1 Ca iW iy tU;go_enter Qb,P6;go_wp2_with fail
 refine wp_region_noPanic ?_;refine zB (fun w'=>Below w.heap.size w w') (fun _=>false) (by kernel_rfl) ?_;have rU:(fun w'=>Below w.heap.size w w') w.drew:=Below.drew (rZ _ _);refine tk [0,1,2,3,4,5,6,8,9,10,11,12,13,14] rU ?_;(intro d hd;simp [tkD] at hd;subst hd;simp only [tks,pQ,pZ,pS]);iterate 14 (refine ⟨?_,?_,?_⟩;rotate_left;· (intro oi ho;simp at ho;subst ho;refine Or.inl ⟨by rfl,fun w' rB=>?_⟩;obtain ⟨e0,e1,e2⟩:=SX.out w' rB;go_simp;try with_reducible rfl))
 (refine on 7 ?_;intro o ho K' hK;simp at ho;subst ho;go_simp);go_at_call 18
 (with_reducible refine (C0.out _ rU).mono ?_);rintro en v0 ⟨x0,rfl,ru,lp,AW⟩
 have tw:Hid (Below w.heap.size w v0):=rU.trans ru;have FM:Hid ((typeOf ns m=none->x0=.pointer none)/\(∀ k,typeOf ns m=some k->Rep (fun i=>F i\/w.heap.size<=i) v0 (jA k) x0)):=⟨lp,fun k h=>(AW k h).weak fun i h=>by rcases h with h | h;exact .inl h;exact .inr (h)⟩;have K6:=n7 ru;clear ru lp AW;(refine hK.out _ _ (fun _=>tw.out) ?_;clear hK K';try simp only [pQ,pN,pZ,pS]);have Ev:=tw.out;(refine on 15 ?_;intro o ho K' hK;simp at ho;subst ho;go_simp);go_at_call 18;(with_reducible refine (C1.out _ tw.out).mono ?_);rintro en v1 ⟨x1,rfl,rW,sU,sY⟩;have sZ:Hid (Below w.heap.size w v1):=zzT tw.out rW;have FL:Hid ((typeOf ns n=none->x1=.pointer none)/\(∀ k,typeOf ns n=some k->Rep (fun i=>F i\/w.heap.size<=i) v1 (jA k) x1)):=⟨sU,fun k h=>(sY k h).weak fun i h=>by rcases h with h | h;exact .inl h;exact .inr (rJ tw.out.size h)⟩;have B_:=n7 rW;clear rW sU sY;(refine hK.out _ _ (fun _=>sZ.out) ?_;clear hK K';try simp only [pQ,pN,pZ,pS]);have FB:=sZ.out;refine tk [16,17] FB ?_;(intro d hd;simp [tkD] at hd;subst hd;simp only [tks,pQ,pZ,pS]);iterate 2 (refine ⟨?_,?_,?_⟩;rotate_left;· (intro oi ho;simp at ho;subst ho;refine Or.inl ⟨by rfl,fun w' rB=>?_⟩;go_simp;try with_reducible rfl))
 refine zX (by kernel_rfl) (NoPanic.normal ?_) _;clear t3 C0 C1;cases hm:typeOf ns m with
 | none =>
   obtain rfl:=FM.out.1 hm;have HQ:=n7 (show typeOf ns (.app m n)=none by rw [typeOf,hm];rfl);clear hm;go_wp2_with fail
   go_ret;exact kH.no HQ.out sZ.out
 | some a =>
   have oF:=Rep.below (F':=fun i=>F i\/w.heap.size<=i) B_.out (fun _ h=>h) (FM.out.2 a hm);obtain ⟨ab,ak,e,_,Df,has⟩:=zc oF;subst e;cases hn:typeOf ns n with
   | none =>
     obtain rfl:=FL.out.1 hn;have HQ:=n7 (show typeOf ns (.app m n)=none by rw [typeOf,hm,hn];rfl);clear hm hn oF Df has;go_wp2_with fail
     go_ret;exact kH.no HQ.out sZ.out
   | some b =>
     have tH:=FL.out.2 b hn;obtain ⟨bb,_,e,_⟩:=zc tH;subst e;have tL:=qW m ns a HN.out hm;have iA:=qW n ns b HN.out hn;have q0:v1.cell? ⟨ab,0,none⟩=some ak:=by simp [Li,Df]
     obtain ⟨aa,ac,rfl,hac,_,Fy⟩:=zP has;have Ie:=zZ Df;cases hts:a.args with
     | nil =>
       rw [hts] at q0;have HQ:=n7 (show typeOf ns (.app m n)=none by rw [typeOf,hm,hn,Lx,Lx,hts]);clear hm hn oF Df has Fy tH hts hac;go_wp2_with fail
       go_ret;exact kH.no HQ.out sZ.out
     | cons c cs =>
       rw [hts] at q0 has Fy hac;obtain ⟨B2,DT,u,d1,e,_,hkw2,CQ,aH,tq⟩:=Fy 0 (by simp);subst e;simp only [qH,OH,Oz] at CQ;subst CQ;obtain ⟨cb,_,e,_⟩:=zc tq;subst e;have hc1':v1.cell? ⟨B2,DT,none⟩=some (.pointer (some ⟨cb,0,none⟩)):=aH;have lV:zJ c<=15:=qw tL c (by rw [hts];simp);have Fm:zJ (.mk cs)<=15:=by have:=cC hts;omega
       have B5:cs.length<=14:=by have:=jH tL;rw [hts] at this;simp at this;omega
       have CS:=n7 (same_any _ c b _ _ v1 tq tH lV iA);by_cases he:zL c=zL b
       ·have e0:(zL c == zL b)=true:=by rw [beq_iff_eq];exact he
        rw [e0] at CS;have HT:=n7 (show typeOf ns (.app m n)=some (.mk cs) by rw [typeOf,hm,hn,Lx,Lx,hts];exact if_pos he);have HS:=n7 has;have GR:cs.length+1<=ac:=by simpa using hac
        have KEY:∀ (v2:World) (ra:Option Addr) (rc:Nat),Below w.heap.size w v2->Rep (fun i=>F i\/w.heap.size<=i) v2 (.sl 32 1 cs.length (qH cs)) (.slice ra cs.length rc) ->
         Rep (fun i=>F i\/w.heap.size<=i) (v2.alloc (.cells #[.slice ra cs.length rc] 102)) (jA (.mk cs)) (.pointer (some ⟨v2.heap.size,0,none⟩)):=fun v2 ra rc h hr =>
         bf (.inr h.size) (zG _ _) (Rep.below ((rZ _ _).alloc (n9 _) _) (fun _ h=>h) hr)
        have HK:=n7 KEY;have hA:¬ (15:Int)<(zJ (.mk cs):Int):=by omega
        have Ot:=n7 Fm;clear hm hn oF Df has Fy tH hts he e0 aH tq tL iA Fm lV KEY hac;go_wp2_with fail
        (with_reducible refine CS.out.mono ?_);rintro en v2 ⟨rfl,rY⟩
        have q0':=(rY.cell (p:=⟨ab,0,none⟩) Ie).trans q0;have rh:=n7 (zzT sZ.out rY);have Oe:=n7 (Rep.below (F':=fun i=>F i\/w.heap.size<=i) rY (fun _ h=>h) HS.out);clear rY q0 hc1';by_cases hac1:ac=1
        focus
         subst hac1;have hcs:cs.length=0:=by omega
         obtain rfl:=OQ hcs;have tx:Rep (fun i=>F i\/w.heap.size<=i) v2 (.sl 32 1 ([]:List Ty).length (qH [])) (.slice (some ⟨B2,DT,none⟩) ([]:List Ty).length 0):=zh.2 ⟨rfl,_,_,rfl,n9 _,fun h=>by simp at h,.inl rfl⟩;have lw:Rep (fun i=>F i\/w.heap.size<=i) (v2.alloc (.cells #[.slice (some ⟨B2,DT,none⟩) 0 0] 102)) (jA (.mk [])) (.pointer (some ⟨v2.heap.size,0,none⟩)):=HK.out v2 _ _ rh.out tx;have CA:=n7 (uN _ _ 15 (.mk []) Ot.out (by unfold Lim;omega) _ lw);have HR:=n7 lw;clear tx lw hcs
        rotate_left
        focus
         have tx:Rep (fun i=>F i\/w.heap.size<=i) v2 (.sl 32 1 cs.length (qH cs)) (.slice (some ⟨B2,DT+1,none⟩) cs.length (ac-1)):=ph (d:=jA c) Oe.out;have CA:=n7 (uN _ _ 15 (.mk cs) Ot.out (by unfold Lim;omega) _ (HK.out v2 _ _ rh.out tx));have HR:=n7 (HK.out v2 _ _ rh.out tx);clear tx
        all_goals
         go_wp2_with fail
         (with_reducible refine CA.out.mono ?_);rintro en w3 ⟨rfl,e⟩
         subst w3;go_wp2_with fail
         go_ret;exact kH.yes HT.out (rh.out.alloc rh.out.size _) HR.out
       ·have e0:(zL c == zL b)=false:=by rw [beq_eq_false_iff_ne];exact he
        rw [e0] at CS;have HT:=n7 (show typeOf ns (.app m n)=none by rw [typeOf,hm,hn,Lx,Lx,hts];exact if_neg he);clear hm hn oF Df has Fy tH hts he e0 aH tq tL iA Fm lV;go_wp2_with fail
        (with_reducible refine CS.out.mono ?_);rintro en v2 ⟨rfl,rY⟩
        have rh:=n7 (zzT sZ.out rY);clear rY;go_wp2_with fail
        go_ret;exact kH.no HT.out rh.out
theorem typed_ite (N:Nat) (ih:b8 N) (F:Nat->Prop) (l m n:Tm) (ns:List Nm) (tv lv:Value) (w:World) (hN:zS (.ite l m n)<=N+1) (hp:TyPre F (.ite l m n) ns tv lv w):Calls No 18 #[tv,lv] w (kH F w (typeOf ns (.ite l m n))):=by
 obtain ⟨tb,kv,slv,rfl,_,rV,_,_,oQ⟩:=js hp.rt;obtain ⟨pa,pc,rfl,_,_,rX⟩:=zP oQ;simp only [xd,xf,ifW] at rV;obtain ⟨iw,iu,Lc,Ld,EL,_,Ca,Bv,B1,oZ⟩:=rX 0 (by simp [kZ]);simp only [kZ,OU,Pz,OH,OE,Oz] at Bv;subst Bv;obtain ⟨Bt,e0⟩:=qF oZ;subst e0;subst EL;obtain ⟨rO,rI,pu1,AS,oP,_,tU,iv,iy,iW⟩:=rX 1 (by simp [kZ]);simp only [kZ,OU,Pz,OH,OE,Oz] at iv;subst iv;obtain ⟨ED,e1⟩:=qF iW;subst e1;simp only [Oz,Pn,and_true] at oP;obtain ⟨rfl,rfl⟩:=oP;obtain ⟨IY,IW,pu2,AQ,oW,_,Bu,oX,oG,lB⟩:=rX 2 (by simp [kZ]);simp only [kZ,OU,Pz,OH,OE,Oz] at oX;subst oX;obtain ⟨K_,e2⟩:=qF lB;subst e2;simp only [Oz,Pn,and_true] at oW;obtain ⟨rfl,rfl⟩:=oW;have t0:w.cell? ⟨tb,0,none⟩=some (str [105,102]):=by simp [Li,rV]
 have t3:w.cell? ⟨tb,3,none⟩=some (.slice (some ⟨iw,iu,none⟩) 3 pc):=by simp [Li,rV,kZ]
 have sK:=hp.room;have rj:=hp.ok;rw [zS] at sK hN;obtain ⟨la,lc,rfl,_,_⟩:=AtNms.of hp.rl;have SX:Hid (∀ w',Below w.heap.size w w'->w'.cell? ⟨tb,3,none⟩=some (.slice (some ⟨iw,iu,none⟩) 3 pc)/\w'.cell? ⟨iw,iu,none⟩=some (.pointer (some ⟨Bt,0,none⟩))/\w'.cell? ⟨iw,iu+1,none⟩=some (.pointer (some ⟨ED,0,none⟩))/\w'.cell? ⟨iw,iu+2,none⟩=some (.pointer (some ⟨K_,0,none⟩))):=by
  show ∀ w',_->_;intro w' rS;exact ⟨(rS.cell (n_ w _ t3)).trans t3,(rS.cell Ca).trans B1,(rS.cell tU).trans iy,(rS.cell Bu).trans oG⟩
 have C0:=n7 (fun wz (hz:Below w.heap.size w wz)=>ih F l ns (.pointer (some ⟨Bt,0,none⟩)) (.slice la ns.length lc) wz (by omega) ⟨Rep.below hz (fun _ h=>h) oZ,Rep.below hz (fun _ h=>h) hp.rl,rj.1,hp.n15,by omega⟩);have C1:=n7 (fun wz (hz:Below w.heap.size w wz)=>ih F m ns (.pointer (some ⟨ED,0,none⟩)) (.slice la ns.length lc) wz (by omega) ⟨Rep.below hz (fun _ h=>h) iW,Rep.below hz (fun _ h=>h) hp.rl,rj.2.1,hp.n15,by omega⟩);have C2:=n7 (fun wz (hz:Below w.heap.size w wz)=>ih F n ns (.pointer (some ⟨K_,0,none⟩)) (.slice la ns.length lc) wz (by omega) ⟨Rep.below hz (fun _ h=>h) lB,Rep.below hz (fun _ h=>h) hp.rl,rj.2.2,hp.n15,by omega⟩);have HN:=n7 hp.n15;clear hp rX oQ rV rj hN ih oZ B1 Ca iW iy tU lB oG Bu;go_enter Qb,P6;go_wp2_with fail
 refine wp_region_noPanic ?_;refine zB (fun w'=>Below w.heap.size w w') (fun _=>false) (by kernel_rfl) ?_;have rU:(fun w'=>Below w.heap.size w w') w.drew:=Below.drew (rZ _ _);refine tk [0,1,2,3,4,5,6,8,9,10,11,12,13,14,16,17,18,19,20,21,22] rU ?_;(intro d hd;simp [tkD] at hd;subst hd;simp only [tks,pQ,pZ,pS]);iterate 21 (refine ⟨?_,?_,?_⟩;rotate_left;· (intro oi ho;simp at ho;subst ho;refine Or.inl ⟨by rfl,fun w' rB=>?_⟩;obtain ⟨e0,e1,e2,e3⟩:=SX.out w' rB;go_simp;try with_reducible rfl))
 (refine on 7 ?_;intro o ho K' hK;simp at ho;subst ho;go_simp);go_at_call 18
 (with_reducible refine (C0.out _ rU).mono ?_);rintro en v0 ⟨x0,rfl,ru,lp,AW⟩
 have tw:Hid (Below w.heap.size w v0):=rU.trans ru;have FM:Hid ((typeOf ns l=none->x0=.pointer none)/\(∀ k,typeOf ns l=some k->Rep (fun i=>F i\/w.heap.size<=i) v0 (jA k) x0)):=⟨lp,fun k h=>(AW k h).weak fun i h=>by rcases h with h | h;exact .inl h;exact .inr (h)⟩;have K6:=n7 ru;clear ru lp AW;(refine hK.out _ _ (fun _=>tw.out) ?_;clear hK K';try simp only [pQ,pN,pZ,pS]);have Ev:=tw.out;(refine on 15 ?_;intro o ho K' hK;simp at ho;subst ho;go_simp);go_at_call 18;(with_reducible refine (C1.out _ tw.out).mono ?_);rintro en v1 ⟨x1,rfl,rW,sU,sY⟩;have sZ:Hid (Below w.heap.size w v1):=zzT tw.out rW;have FL:Hid ((typeOf ns m=none->x1=.pointer none)/\(∀ k,typeOf ns m=some k->Rep (fun i=>F i\/w.heap.size<=i) v1 (jA k) x1)):=⟨sU,fun k h=>(sY k h).weak fun i h=>by rcases h with h | h;exact .inl h;exact .inr (rJ tw.out.size h)⟩;have B_:=n7 rW;clear rW sU sY;(refine hK.out _ _ (fun _=>sZ.out) ?_;clear hK K';try simp only [pQ,pN,pZ,pS]);have FB:=sZ.out;(refine on 23 ?_;intro o ho K' hK;simp at ho;subst ho;go_simp);go_at_call 18;(with_reducible refine (C2.out _ sZ.out).mono ?_);rintro en v2 ⟨x2,rfl,rY,iU,lD⟩;have rh:Hid (Below w.heap.size w v2):=zzT sZ.out rY;have Ik:Hid ((typeOf ns n=none->x2=.pointer none)/\(∀ k,typeOf ns n=some k->Rep (fun i=>F i\/w.heap.size<=i) v2 (jA k) x2)):=⟨iU,fun k h=>(lD k h).weak fun i h=>by rcases h with h | h;exact .inl h;exact .inr (rJ sZ.out.size h)⟩;have Kc:=n7 rY;clear rY iU lD;(refine hK.out _ _ (fun _=>rh.out) ?_;clear hK K';try simp only [pQ,pN,pZ,pS]);have JT:=rh.out;refine tk [24,25,26] JT ?_;(intro d hd;simp [tkD] at hd;subst hd;simp only [tks,pQ,pZ,pS]);iterate 3 (refine ⟨?_,?_,?_⟩;rotate_left;· (intro oi ho;simp at ho;subst ho;refine Or.inl ⟨by rfl,fun w' rB=>?_⟩;go_simp;try with_reducible rfl))
 refine zX (by kernel_rfl) (NoPanic.normal ?_) _;clear t3 C0 C1 C2;cases hl:typeOf ns l with
 | none =>
   obtain rfl:=FM.out.1 hl;have HQ:=n7 (show typeOf ns (.ite l m n)=none by rw [typeOf,hl];rfl);clear hl;go_wp2_with fail
   go_ret;exact kH.no HQ.out rh.out
 | some a =>
   have oF:=Rep.below (F':=fun i=>F i\/w.heap.size<=i) Kc.out (fun _ h=>h) (Rep.below (F':=fun i=>F i\/w.heap.size<=i) B_.out (fun _ h=>h) (FM.out.2 a hl));obtain ⟨ab,ak,e,_,Df,has⟩:=zc oF;subst e;cases hm:typeOf ns m with
   | none =>
     obtain rfl:=FL.out.1 hm;have HQ:=n7 (show typeOf ns (.ite l m n)=none by rw [typeOf,hl,hm];rfl);clear hl hm oF Df has;go_wp2_with fail
     go_ret;exact kH.no HQ.out rh.out
   | some b =>
     have tH:=Rep.below (F':=fun i=>F i\/w.heap.size<=i) Kc.out (fun _ h=>h) (FL.out.2 b hm);obtain ⟨bb,_,e,_⟩:=zc tH;subst e;cases hn:typeOf ns n with
     | none =>
       obtain rfl:=Ik.out.1 hn;have HQ:=n7 (show typeOf ns (.ite l m n)=none by rw [typeOf,hl,hm,hn];rfl);clear hl hm hn oF Df has tH;go_wp2_with fail
       go_ret;exact kH.no HQ.out rh.out
     | some c =>
       have Gt:=Ik.out.2 c hn;obtain ⟨cb,_,e,_⟩:=zc Gt;subst e;have iA:=qW m ns b HN.out hm;have lV:=qW n ns c HN.out hn;have q0:v2.cell? ⟨ab,0,none⟩=some ak:=by simp [Li,Df]
       obtain ⟨aa,ac,rfl,_,_,_⟩:=zP has;cases hts:a.args with
       | cons d ds =>
         have hd:((((d::ds).length:Nat):Int) == 0)=false:=by rw [beq_eq_false_iff_ne];simp;omega
         rw [hts] at q0;generalize (d::ds).length=L at *;have HQ:=n7 (show typeOf ns (.ite l m n)=none by rw [typeOf,hl,hm,hn,Lx,Lx,Lx,if_neg (by rw [hts];simp)]);clear hl hm hn oF Df has tH Gt hts;go_wp2_with fail
         go_ret;exact kH.no HQ.out rh.out
       | nil =>
         rw [hts] at q0;have CS:=n7 (same_any _ b c _ _ v2 tH Gt iA lV);have CA:=n7 (fun wz (h:Below v2.heap.size v2 wz)=>uN _ wz 15 b iA (by unfold Lim;omega) _ (Rep.below (F':=fun i=>F i\/w.heap.size<=i) h (fun _ h=>h) tH));have HR:=n7 tH;by_cases he:zL b=zL c
         ·have e0:(zL b == zL c)=true:=by rw [beq_iff_eq];exact he
          rw [e0] at CS;have HT:=n7 (show typeOf ns (.ite l m n)=some b by rw [typeOf,hl,hm,hn,Lx,Lx,Lx,if_pos ⟨hts,he⟩]);have hA:¬ (15:Int)<(zJ b:Int):=by omega
          clear hl hm hn oF Df has tH Gt hts he e0 iA lV;go_wp2_with fail
          (with_reducible refine CS.out.mono ?_);rintro en w3 ⟨rfl,rE⟩
          have aZ:=n7 (zzT rh.out rE);have HR3:=n7 (Rep.below (F':=fun i=>F i\/w.heap.size<=i) rE (fun _ h=>h) HR.out);have CA3:=n7 (CA.out w3 rE);clear rE;go_wp2_with fail
          (with_reducible refine CA3.out.mono ?_);rintro en w4 ⟨rfl,e⟩
          subst w4;go_wp2_with fail
          go_ret;exact kH.yes HT.out aZ.out HR3.out
         ·have e0:(zL b == zL c)=false:=by rw [beq_eq_false_iff_ne];exact he
          rw [e0] at CS;have HT:=n7 (show typeOf ns (.ite l m n)=none by rw [typeOf,hl,hm,hn,Lx,Lx,Lx,if_neg (fun h=>he h.2)]);clear hl hm hn oF Df has tH Gt hts he e0 iA lV;go_wp2_with fail
          (with_reducible refine CS.out.mono ?_);rintro en w3 ⟨rfl,rE⟩
          have aZ:=n7 (zzT rh.out rE);clear rE;go_wp2_with fail
          go_ret;exact kH.no HT.out aZ.out
theorem h_ (N:Nat):b8 N:=by
 induction N with
 | zero=>exact fun F t ns tv lv w h=>by have:=mN t;omega
 | succ N ih =>
   intro F t ns tv lv w h hp;cases t with
   | nm x=>exact typed_nm F x ns tv lv w hp
   | wd u=>exact typed_wd F u ns tv lv w hp
   | lam x k t=>exact typed_lam N ih F x k t ns tv lv w h hp
   | app m n=>exact typed_app N ih F m n ns tv lv w h hp
   | ite l m n=>exact typed_ite N ih F l m n ns tv lv w h hp
end Go.Proofs.YtdhaafoiokkbnabGreatDoor

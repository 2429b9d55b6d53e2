import Derived.Test.YtapjaflnmklmeaaGreatDoorA5
import Derived.Deep.QuietTactic
import Derived.BigQuiet
import Derived.Deep.Cut
import Derived.Deep.RegionHeld3
import Derived.Test.YtapjaflnmklmeaaGreatDoorW15
import Derived.Test.YtapjaflnmklmeaaGreatDoorW9a
/- The walk of impl's eval. -/
set_option linter.unusedVariables false
set_option linter.unusedSimpArgs false
namespace Go.Proofs.YtapjaflnmklmeaaGreatDoor
open Go.RowKit
theorem ev_zero (d:Nat) (b:Bd) (env:List Mn) (n:Nat) (st:List Gf):Go.Proofs.YtapjaflnmklmeaaGreatDoor.ev d 0 b env n st=none:=by
 cases d with
 | zero=>rw [ev.eq_def]
 | succ d=>rw [ev.eq_def]
theorem owns_take {env:List Mn}:∀ (ts:List Ty) (ss:List Bd) (k:Nat) (t:Ty) (s:Bd),ts[k]? = some t→ss[k]? = some s→owns env (ts.take (k+1)) (ss.take (k+1))=owns env (ts.take k) (ss.take k)++[.bd t s env]
 | [],ss,k,t,s,h,_=>by simp at h
 | t'::ts,[],k,t,s,_,h=>by simp at h
 | t'::ts,s'::ss,k,t,s,h1,h2=>by
   cases k with
   | zero =>
     simp at h1 h2;subst h1;subst h2
     simp only [List.take_succ_cons,List.take_zero,owns]
     rfl
   | succ k =>
     simp only [List.getElem?_cons_succ] at h1 h2
     rw [List.take_succ_cons,List.take_succ_cons,List.take_succ_cons,List.take_succ_cons,owns,owns,owns_take ts ss k t s h1 h2];rfl
theorem OnRep.form {F:Nat→Prop} {w:World} {aa n:Nat}:∀ {st:List Gf} {on:Value},OnRep F w aa n st on→on=.nilFunc∨∃ cs,on=.func (.func 110) #[] cs
 | [],on,h=>.inl h
 | f::st,on,h=>by
   obtain ⟨b1,b2,b3,b4,b5,bp,ev,o5,vv,ss,e,_⟩:=h
   exact .inr ⟨_,e⟩
theorem Tryz.goesNil (w:World):Sem.run Tryz.prog (binOp .eql 180 .nilFunc .nilFunc) w=.ok (.bool true) w:=by kernel_rfl
theorem Tryz.goesFn (f:Fn) (a b:Array Value) (w:World):Sem.run Tryz.prog (binOp .eql 180 (.func f a b) .nilFunc) w=.ok (.bool false) w:=by kernel_rfl
theorem boxes5 (w:World) (p b e l o:Value) (T1 T2 T3 T4 T5:TypeId):∃ W,((((w.alloc (.cells #[p] T1)).alloc (.cells #[b] T2)).alloc (.cells #[e] T3)).alloc (.cells #[l] T4)).alloc (.cells #[o] T5)=W∧Below w.heap.size w W∧w.heap.size+5≤W.heap.size ∧
 W.cell? ⟨w.heap.size,0,none⟩=some p∧W.cell? ⟨w.heap.size+1,0,none⟩=some b∧W.cell? ⟨w.heap.size+1+1,0,none⟩=some e∧W.cell? ⟨w.heap.size+1+1+1,0,none⟩=some l∧W.cell? ⟨w.heap.size+1+1+1+1,0,none⟩=some o:=by
 have key:∀ (w:World) (v:Value) (T:TypeId),(w.alloc (.cells #[v] T)).cell? ⟨w.heap.size,0,none⟩=some v:=fun w v T=>by simp
 have k1:=key w p T1
 have k2:=key (w.alloc (.cells #[p] T1)) b T2
 have k3:=key ((w.alloc (.cells #[p] T1)).alloc (.cells #[b] T2)) e T3
 have k4:=key (((w.alloc (.cells #[p] T1)).alloc (.cells #[b] T2)).alloc (.cells #[e] T3)) l T4
 have k5:=key ((((w.alloc (.cells #[p] T1)).alloc (.cells #[b] T2)).alloc (.cells #[e] T3)).alloc (.cells #[l] T4)) o T5
 simp only [size_alloc] at k2 k3 k4 k5
 refine ⟨_,rfl,?_,by simp only [size_alloc];omega,cell_alloc (cell_alloc (cell_alloc (cell_alloc k1))),cell_alloc (cell_alloc (cell_alloc k2)),cell_alloc (cell_alloc k3),cell_alloc k4,k5⟩
 exact (((((Below.refl w.heap.size w).alloc (Nat.le_refl _) _).alloc (by simp only [size_alloc];omega) _).alloc (by simp only [size_alloc];omega) _).alloc (by simp only [size_alloc];omega) _).alloc (by simp only [size_alloc];omega) _
set_option maxRecDepth 100000 in
set_option maxHeartbeats 4000000 in
theorem eval_out (F:Nat→Prop) (aa d n bb:Nat) (ea:Option Addr) (el ec:Nat) (b:Bd) (env:List Mn) (st:List Gf) (on:Value) (w:World) (hon:on=.nilFunc∨∃ cs,on=.func (.func 110) #[] cs) (hg:GlobE w) (hng:aa≠0) (ha:Apl w aa 0) :
 Calls Tryz.prog 98 #[.pointer (some ⟨aa,0,none⟩),.pointer (some ⟨bb,0,none⟩),.slice ea el ec,.int .i64 (n:Nat),on] w (EvalPost F aa (Go.Proofs.YtapjaflnmklmeaaGreatDoor.ev d 0 b env n st) w):=by
 rw [ev_zero]
 obtain ⟨W,hW,hbW,hzW,q1,q2,q3,q4,q5⟩:=boxes5 w (.pointer (some ⟨aa,0,none⟩)) (.pointer (some ⟨bb,0,none⟩)) (.slice ea el ec) (.int .i64 (n:Nat)) on 163 44 142 3 180
 obtain ⟨c0,f0,lt0⟩:=(ha.below hbW).cell
 have c0':W.cell? ⟨aa,0,none⟩=some (.int .i64 0):=c0
 obtain ⟨a0,hc0⟩:=hg
 have hc1:=(hbW.cell (World.block_lt_of_cell? w _ hc0)).trans hc0
 have HG:=Lib.hid (And.intro hc0 (And.intro hW hbW))
 clear ha c0 hc0 hW hbW
 rcases hon with rfl | ⟨cs,rfl⟩
 all_goals
  go_enter Tryz.func98,Tryz.ntmps98
  go_upto_region 1 with (fail)
  rw [HG.out.2.1]
  go_wp2_with fail
  go_quiet (fail)
  go_wp2_with fail
  go_ret2
  refine EvalPost.none rfl ?_ HG.out.1
  exact But.ofBelow (below_dN HG.out.2.2 _)
theorem boxes_less {w:World} {aa l n bb:Nat} {ea:Option Addr} {el ec:Nat} {on:Value} {T1 T2 T3 T4 T5:TypeId} (ha:Apl w aa (l+1)) :
 ∃ W W2,((((w.alloc (.cells #[.pointer (some ⟨aa,0,none⟩)] T1)).alloc (.cells #[.pointer (some ⟨bb,0,none⟩)] T2)).alloc (.cells #[.slice ea el ec] T3)).alloc (.cells #[.int .i64 (n:Nat)] T4)).alloc (.cells #[on] T5)=W∧W.setCell ⟨aa,0,none⟩ (.int .i64 (l:Nat))=W2 ∧
   W.cell? ⟨w.heap.size,0,none⟩=some (.pointer (some ⟨aa,0,none⟩))∧W.cell? ⟨aa,0,none⟩=some (.int .i64 ((l+1:Nat):Int))∧W.frozen? ⟨aa,0,none⟩=false ∧
   But (· = aa) w W2∧Apl W2 aa l∧w.heap.size+5≤W2.heap.size ∧
   W2.cell? ⟨w.heap.size,0,none⟩=some (.pointer (some ⟨aa,0,none⟩))∧W2.cell? ⟨w.heap.size+1,0,none⟩=some (.pointer (some ⟨bb,0,none⟩))∧W2.cell? ⟨w.heap.size+1+1,0,none⟩=some (.slice ea el ec)∧W2.cell? ⟨w.heap.size+1+1+1,0,none⟩=some (.int .i64 (n:Nat))∧W2.cell? ⟨w.heap.size+1+1+1+1,0,none⟩=some on:=by
 obtain ⟨W,hW,hbW,hzW,q1,q2,q3,q4,q5⟩:=boxes5 w (.pointer (some ⟨aa,0,none⟩)) (.pointer (some ⟨bb,0,none⟩)) (.slice ea el ec) (.int .i64 (n:Nat)) on T1 T2 T3 T4 T5
 have haW:=ha.below hbW
 obtain ⟨c0,f0,lt0⟩:=haW.cell
 have hlt:=ha.cell.2.2
 have hb2:But (· = aa) W (W.setCell ⟨aa,0,none⟩ (.int .i64 (l:Nat))):=(But.refl (· = aa) W).setCell (p:=⟨aa,0,none⟩) (.inl rfl) _
 have past:∀ (b:Nat) (v:Value),w.heap.size≤b→W.cell? ⟨b,0,none⟩=some v→(W.setCell ⟨aa,0,none⟩ (.int .i64 (l:Nat))).cell? ⟨b,0,none⟩=some v:=fun b v hb hc=>(hb2.cell (World.block_lt_of_cell? W _ hc) (fun e=>by have e:b=aa:=e;omega)).trans hc
 refine ⟨W,_,hW,rfl,q1,c0,f0,(But.ofBelow hbW).trans hb2,?_,by simpa [World.setCell] using hzW,past _ _ (by omega) q1,past _ _ (by omega) q2,past _ _ (by omega) q3,past _ _ (by omega) q4,past _ _ (by omega) q5⟩
 unfold Apl at *
 rw [setCell_at haW];rfl
set_option maxRecDepth 100000 in
set_option maxHeartbeats 4000000 in
theorem eval_end (F:Nat→Prop) (aa d l n bb:Nat) (ea:Option Addr) (el ec:Nat) (c:UInt8) (env:List Mn) (st:List Gf) (on:Value) (w:World) (hF:∀ i,F i→i≠aa) (ha:Apl w aa (l+1)) (hl:l≤20000) (rb:Rep F w (encB (.leaf c)) (.pointer (some ⟨bb,0,none⟩)))
 (h:(c=117∧(on=.nilFunc∨∃ cs,on=.func (.func 110) #[] cs))∨(c≠117∧on=.nilFunc∧st=[])) :
 Calls Tryz.prog 98 #[.pointer (some ⟨aa,0,none⟩),.pointer (some ⟨bb,0,none⟩),.slice ea el ec,.int .i64 (n:Nat),on] w (EvalPost F aa (Go.Proofs.YtapjaflnmklmeaaGreatDoor.ev (d+1) (l+1) (.leaf c) env n st) w):=by
 have hev:Go.Proofs.YtapjaflnmklmeaaGreatDoor.ev (d+1) (l+1) (.leaf c) env n st=some (.leaf c,l):=by
  rcases h with ⟨rfl,_⟩ | ⟨hc,_,rfl⟩
  ·rw [ev_u]
  ·rw [ev_end]
 rw [hev]
 clear hev
 obtain ⟨W,W2,hW,hW2,q0,q1,f1,hb2,ha2,hz2,p0,p1,p2,p3,p4⟩:=boxes_less (n:=n) (bb:=bb) (ea:=ea) (el:=el) (ec:=ec) (on:=on) (T1:=163) (T2:=44) (T3:=142) (T4:=3) (T5:=180) ha
 have rb2:Rep F W2 (encB (.leaf c)) (.pointer (some ⟨bb,0,none⟩)):=rb.but hb2 (fun b hb=>⟨hF b hb,hb⟩)
 obtain ⟨b',sl,e,_,hblk,_⟩:=leaf_open rb2
 cases e
 have r0:W2.cell? ⟨bb,0,none⟩=some (str [c]):=by simp [World.cell?,hblk]
 have q1':W.cell? ⟨aa,0,none⟩=some (.int .i64 ((l:Int)+1)):=q1
 have hne0:((l:Int)+1 == 0)=false:=by rw [beq_eq_false_iff_ne];omega
 have HW:=Lib.hid (And.intro hW (And.intro hW2 (And.intro hb2 (And.intro ha2 rb2))))
 have CL:=Lib.hid (isList_leaf F W2 c (.pointer (some ⟨bb,0,none⟩)) rb2)
 clear hW hW2 hb2 ha2 rb2 rb ha q1 hblk
 rcases h with ⟨rfl,rfl | ⟨cs,rfl⟩⟩ | ⟨hc,rfl,rfl⟩
 ·go_enter Tryz.func98,Tryz.ntmps98
  go_upto_region 1 with (fail)
  rw [HW.out.1]
  go_upto_region 4 with (fail)
  rw [HW.out.2.1]
  go_wp2_with fail
  go_ret2
  exact EvalPost.some rfl HW.out.2.2.1 HW.out.2.2.2.1 (HW.out.2.2.2.2.weak fun i h=>.inl h)
 ·go_enter Tryz.func98,Tryz.ntmps98
  go_upto_region 1 with (fail)
  rw [HW.out.1]
  go_upto_region 4 with (fail)
  rw [HW.out.2.1]
  go_wp2_with fail
  go_ret2
  exact EvalPost.some rfl HW.out.2.2.1 HW.out.2.2.2.1 (HW.out.2.2.2.2.weak fun i h=>.inl h)
 ·have hcc:([c] == [117])=false:=by simpa using hc
  have hgn:=Tryz.goesNil
  go_enter Tryz.func98,Tryz.ntmps98
  go_upto_region 1 with (fail)
  rw [HW.out.1]
  go_upto_region 4 with (fail)
  rw [HW.out.2.1]
  go_wp2_with fail
  (with_reducible refine CL.out.mono ?_)
  rintro en w3 ⟨rfl,rfl⟩
  go_wp2_with fail
  go_ret2
  exact EvalPost.some rfl HW.out.2.2.1 HW.out.2.2.2.1 (HW.out.2.2.2.2.weak fun i h=>.inl h)
end Go.Proofs.YtapjaflnmklmeaaGreatDoor
namespace Go.Proofs.YtapjaflnmklmeaaGreatDoor
open Go.RowKit
theorem evalTell {F:Nat→Prop} {aa:Nat} {o:Option (Bd×Nat)} {w:World} {a0:Addr} (hc:w.cell? ⟨0,0,none⟩=some (.iface 200 (.pointer (some a0)))) {P:Program} {f:FuncId} {args:Array Value} (h:Calls P f args w (EvalPost F aa o w)) :
 (o=none→Calls P f args w fun en w'=>en=.returned (.tuple #[.pointer none,.iface 200 (.pointer (some a0))])∧But (· = aa) w w') ∧
 (∀ x,o=some x→Calls P f args w fun en w'=>∃ vb,en=.returned (.tuple #[.pointer (some ⟨vb,0,none⟩),.nilIface])∧But (· = aa) w w'∧Apl w' aa x.2∧Rep (fun i=>F i∨w.heap.size≤i) w' (encB x.1) (.pointer (some ⟨vb,0,none⟩))):=by
 refine ⟨fun ho=>h.mono ?_,fun x ho=>h.mono ?_⟩
 ·rintro en w' ⟨hb,hn,_⟩
  obtain ⟨a,rfl,ha⟩:=hn ho
  rw [hc] at ha
  simp at ha;subst ha
  exact ⟨rfl,hb⟩
 ·rintro en w' ⟨hb,_,hy⟩
  obtain ⟨v,rfl,ha,hr⟩:=hy x.1 x.2 ho
  obtain ⟨vb,rfl⟩:=encB_ptr hr
  exact ⟨vb,rfl,hb,ha,hr⟩
set_option maxRecDepth 100000 in
set_option maxHeartbeats 8000000 in
theorem eval_back (d:Nat) (ih:EvalSaid d) (F:Nat→Prop) (aa l n bb:Nat) (H:List Ty) (ea:Option Addr) (el ec:Nat) (c:UInt8) (env:List Mn) (f:Gf) (st:List Gf) (on:Value) (w:World) (hc:c≠117)
 (h:EvalPre F aa (l+1) (d+1) n H (.leaf c) env (f::st) (.pointer (some ⟨bb,0,none⟩)) (.slice ea el ec) on w) :
 Calls Tryz.prog 98 #[.pointer (some ⟨aa,0,none⟩),.pointer (some ⟨bb,0,none⟩),.slice ea el ec,.int .i64 (n:Nat),on] w (EvalPost F aa (Go.Proofs.YtapjaflnmklmeaaGreatDoor.ev (d+1) (l+1) (.leaf c) env n (f::st)) w):=by
 rw [ev_back hc]
 obtain ⟨b1,b2,b3,b4,b5,bp,ev5,on5,vv5,ss5,e,⟨n1,n2,n3,n4,n5⟩,c1,r1,c2,c3,r3,c4,c5,r5⟩:=h.ro
 subst e
 have hld:=h.ld
 have hd20:=h.d20
 have hel:=h.okg.1
 have hnl:=h.nl
 obtain ⟨W,W2,hW,hW2,q0,q1,f1,hb2,ha2,hz2,p0,p1,p2,p3,p4⟩:=boxes_less (n:=n) (bb:=bb) (ea:=ea) (el:=el) (ec:=ec) (on:=.func (.func 110) #[] #[.pointer (some ⟨b1,0,none⟩),.pointer (some ⟨b2,0,none⟩),.pointer (some ⟨b3,0,none⟩),.pointer (some ⟨b4,0,none⟩),.pointer (some ⟨b5,0,none⟩)]) (T1:=163) (T2:=44) (T3:=142) (T4:=3) (T5:=180) h.apl
 have hF:∀ b,F b→¬ (b=aa)∧F b:=fun b hb=>⟨h.hF b hb,hb⟩
 have rb2:Rep F W2 (encB (.leaf c)) (.pointer (some ⟨bb,0,none⟩)):=h.rb.but hb2 hF
 obtain ⟨b',sl,e,hbbF,hblk,_⟩:=leaf_open rb2
 cases e
 have r0:W2.cell? ⟨bb,0,none⟩=some (str [c]):=by simp [World.cell?,hblk]
 have q1':W.cell? ⟨aa,0,none⟩=some (.int .i64 ((l:Int)+1)):=q1
 have hne0:((l:Int)+1 == 0)=false:=by rw [beq_eq_false_iff_ne];omega
 have CL:=Lib.hid (isList_leaf F W2 c (.pointer (some ⟨bb,0,none⟩)) rb2)
 have hb3:But (· = aa) w W2.drew:=hb2.drew
 have kX:∀ {b:Nat} {x:Value},F b→w.cell? ⟨b,0,none⟩=some x→W2.drew.cell? ⟨b,0,none⟩=some x:=fun hb hc=>(hb3.cell (World.block_lt_of_cell? w _ hc) (h.hF _ hb)).trans hc
 have hglob:=h.glob.but hb3 (fun e=>h.ng e.symm)
 obtain ⟨a0,hc0⟩:=hglob
 have C:=after_any d ih F aa l n H f st b1 b2 b3 b4 b5 bp ev5 on5 vv5 ss5 W2.drew c ⟨a0,hc0⟩ h.hF h.ng ha2 (by omega) (by omega) (h.fit.back c) h.hn (by omega) (by omega) (okMs_mono (by omega) _ h.okg.2.1) (okGs_mono (by omega) _ h.okg.2.2)
  (kX n1 c1) (r1.but hb3 hF) (kX n2 c2) (kX n3 c3) (r3.but hb3 hF) (kX n4 c4) (kX n5 c5) (OnRep.but hb3 hF _ _ r5)
 have hcw:w.cell? ⟨0,0,none⟩=some (.iface 200 (.pointer (some a0))):=by
  obtain ⟨a1,h1⟩:=h.glob
  have:=(hb3.cell (World.block_lt_of_cell? w _ h1) (fun e=>h.ng e.symm)).trans h1
  rw [this] at hc0
  rw [h1];exact hc0
 have CT:=evalTell hc0 C
 have hcc:([c] == [117])=false:=by simpa using hc
 have hgn:=Tryz.goesFn
 have hzz:w.heap.size≤W2.drew.heap.size:=hb3.size
 have haw:=h.apl.cell.2.2
 have hbba:=h.hF _ hbbF
 have KS:Hid (∀ w',But (· = aa) W2.drew w'→w'.cell? ⟨w.heap.size+1+1+1+1,0,none⟩=some (.func (.func 110) #[] #[.pointer (some ⟨b1,0,none⟩),.pointer (some ⟨b2,0,none⟩),.pointer (some ⟨b3,0,none⟩),.pointer (some ⟨b4,0,none⟩),.pointer (some ⟨b5,0,none⟩)])∧w'.cell? ⟨w.heap.size+1,0,none⟩=some (.pointer (some ⟨bb,0,none⟩))∧w'.cell? ⟨bb,0,none⟩=some (str [c])):=by
  show ∀ w',_→_
  intro w' hb
  have k:∀ (b:Nat) (v:Value),b≠aa→W2.cell? ⟨b,0,none⟩=some v→w'.cell? ⟨b,0,none⟩=some v:=fun b v hn hc=>(hb.cell (World.block_lt_of_cell? W2 _ hc) hn).trans hc
  exact ⟨k _ _ (by omega) p4,k _ _ (by omega) p1,k _ _ hbba r0⟩
 have HW:=Lib.hid (And.intro hW (And.intro hW2 (And.intro hb3 hcw)))
 clear hW hW2 hb2 hb3 ha2 rb2 q1 hblk C hc0 hcw kX hF c1 r1 c2 c3 r3 c4 c5 r5 n1 n2 n3 n4 n5 h ih
 generalize hbool:decide (c=116)=bo at *
 have hbo:([c] == [116])=bo:=by rw [← hbool,Bool.eq_iff_iff];simp
 clear hbool
 generalize Go.Proofs.YtapjaflnmklmeaaGreatDoor.ev d l (if c=116 then f.yes else f.no) f.env n st=o at *
 cases o with
 | none =>
   have C:=Lib.hid (CT.1 rfl);clear CT
   have HBO:=Lib.hid hbo;clear hbo
   go_enter Tryz.func98,Tryz.ntmps98
   go_upto_region 1 with (fail)
   rw [HW.out.1]
   go_upto_region 4 with (fail)
   rw [HW.out.2.1]
   go_wp2_with fail
   (with_reducible refine CL.out.mono ?_)
   rintro en w3 ⟨rfl,rfl⟩
   go_wp2_with fail
   (with_reducible refine CL.out.mono ?_)
   rintro en w4 ⟨rfl,rfl⟩
   have hbo:=HBO.out
   go_wp2_with fail
   go_region_held3 (fun w'=>w'.cell? ⟨w.heap.size+1+1+1+1,0,none⟩=some (.func (.func 110) #[] #[.pointer (some ⟨b1,0,none⟩),.pointer (some ⟨b2,0,none⟩),.pointer (some ⟨b3,0,none⟩),.pointer (some ⟨b4,0,none⟩),.pointer (some ⟨b5,0,none⟩)])∧w'.cell? ⟨w.heap.size+1,0,none⟩=some (.pointer (some ⟨bb,0,none⟩))∧w'.cell? ⟨bb,0,none⟩=some (str [c]))
    (first
     | exact ⟨p4,p1,r0⟩
     | exact KS.out _ hb5
     | go_keep)
    (first
     | (go_at_call 110;(with_reducible refine C.out.mono ?_);rintro en w5 ⟨rfl,hb5⟩))
   have HF:=Lib.hid (HW.out.2.2.1.trans hb5);clear hb5
   go_wp2_with fail
   go_ret2
   exact EvalPost.none rfl HF.out HW.out.2.2.2
 | some x =>
   have C:=Lib.hid (CT.2 x rfl);clear CT
   have HBO:=Lib.hid hbo;clear hbo
   go_enter Tryz.func98,Tryz.ntmps98
   go_upto_region 1 with (fail)
   rw [HW.out.1]
   go_upto_region 4 with (fail)
   rw [HW.out.2.1]
   go_wp2_with fail
   (with_reducible refine CL.out.mono ?_)
   rintro en w3 ⟨rfl,rfl⟩
   go_wp2_with fail
   (with_reducible refine CL.out.mono ?_)
   rintro en w4 ⟨rfl,rfl⟩
   have hbo:=HBO.out
   go_wp2_with fail
   go_region_held3 (fun w'=>w'.cell? ⟨w.heap.size+1+1+1+1,0,none⟩=some (.func (.func 110) #[] #[.pointer (some ⟨b1,0,none⟩),.pointer (some ⟨b2,0,none⟩),.pointer (some ⟨b3,0,none⟩),.pointer (some ⟨b4,0,none⟩),.pointer (some ⟨b5,0,none⟩)])∧w'.cell? ⟨w.heap.size+1,0,none⟩=some (.pointer (some ⟨bb,0,none⟩))∧w'.cell? ⟨bb,0,none⟩=some (str [c]))
    (first
     | exact ⟨p4,p1,r0⟩
     | exact KS.out _ hb5
     | go_keep)
    (first
     | (go_at_call 110;(with_reducible refine C.out.mono ?_);rintro en w5 ⟨vb,rfl,hb5,ha5,hr5⟩))
   have HF:=Lib.hid (And.intro (HW.out.2.2.1.trans hb5) (And.intro ha5 hr5));clear hb5 ha5 hr5
   go_wp2_with fail
   go_ret2
   exact EvalPost.some rfl HF.out.1 HF.out.2.1 (HF.out.2.2.weak fun i h=>h.imp id fun h=>by omega)
end Go.Proofs.YtapjaflnmklmeaaGreatDoor
namespace Go.Proofs.YtapjaflnmklmeaaGreatDoor
open Go.RowKit
structure AskAt (F:Nat→Prop) (aa l n bb v eb eo el ec:Nat) (on x0 x1 x2 x3:Value) (w w':World):Prop where
 p0:w'.cell? ⟨w.heap.size,0,none⟩=some (.pointer (some ⟨aa,0,none⟩))
 p1:w'.cell? ⟨w.heap.size+1,0,none⟩=some (.pointer (some ⟨bb,0,none⟩))
 p2:w'.cell? ⟨w.heap.size+1+1,0,none⟩=some (.slice (some ⟨eb,eo,none⟩) el ec)
 p3:w'.cell? ⟨w.heap.size+1+1+1,0,none⟩=some (.int .i64 (n:Nat))
 p4:w'.cell? ⟨w.heap.size+1+1+1+1,0,none⟩=some on
 q1:w'.cell? ⟨bb,1,none⟩=some (.int .i64 (v:Nat))
 m0:w'.cell? ⟨eb,eo+v*4,none⟩=some x0
 m1:w'.cell? ⟨eb,eo+v*4+1,none⟩=some x1
 m2:w'.cell? ⟨eb,eo+v*4+2,none⟩=some x2
 m3:w'.cell? ⟨eb,eo+v*4+3,none⟩=some x3
set_option maxRecDepth 100000 in
set_option maxHeartbeats 8000000 in
theorem eval_op (d:Nat) (ih:EvalSaid d) (F:Nat→Prop) (aa l n bb v o:Nat) (t:Ty) (H:List Ty) (ea:Option Addr) (el ec:Nat) (ss:List Bd) (y no:Bd) (env:List Mn) (st:List Gf) (on:Value) (w:World) (hv:env[v]? = some (.op o t))
 (h:EvalPre F aa (l+1) (d+1) n H (.ask v ss y no) env st (.pointer (some ⟨bb,0,none⟩)) (.slice ea el ec) on w) :
 Calls Tryz.prog 98 #[.pointer (some ⟨aa,0,none⟩),.pointer (some ⟨bb,0,none⟩),.slice ea el ec,.int .i64 (n:Nat),on] w (EvalPost F aa (Go.Proofs.YtapjaflnmklmeaaGreatDoor.ev (d+1) (l+1) (.ask v ss y no) env n st) w):=by
 obtain ⟨eb,eo,ecap,x0,x1,x2,x3,e,heF,hew,m0,m1,m2,m3,hrm⟩:=mean_at h.re hv
 simp only [Value.slice.injEq] at e
 obtain ⟨rfl,rfl,rfl⟩:=e
 simp only [encM,Reps_cons,Reps_nil,Rep_val] at hrm
 obtain ⟨_,_,e,rfl,kv,_,rfl,hk,_,_,rfl,rfl,_,_,rfl,rfl,rfl⟩:=hrm
 simp only [List.cons.injEq,and_true] at e
 obtain ⟨rfl,rfl,rfl,rfl⟩:=e
 obtain ⟨kb,rfl⟩:=encK_ptr' hk
 have hF:∀ b,F b→¬ (b=aa)∧F b:=fun b hb=>⟨h.hF b hb,hb⟩
 obtain ⟨W,W2,hW,hW2,q0,q1,f1,hb2,ha2,hz2,p0,p1,p2,p3,p4⟩:=boxes_less (n:=n) (bb:=bb) (ea:=some ⟨eb,eo,none⟩) (el:=env.length) (ec:=ec) (on:=on) (T1:=163) (T2:=44) (T3:=142) (T4:=3) (T5:=180) h.apl
 have rb2:Rep F W2 (encB (.ask v ss y no)) (.pointer (some ⟨bb,0,none⟩)):=h.rb.but hb2 hF
 obtain ⟨b',sl,yv,nv,e,hbbF,hblk,_,_,_⟩:=ask_open rb2
 cases e
 have haw:=h.apl.cell.2.2
 have hld:=h.ld
 have hd20:=h.d20
 have hbba:=h.hF _ hbbF
 have heba:=h.hF _ heF
 have r0:W2.cell? ⟨bb,0,none⟩=some (str []):=by simp [World.cell?,hblk]
 have r1:W2.cell? ⟨bb,1,none⟩=some (.int .i64 (v:Nat)):=by simp [World.cell?,hblk]
 have q1':W.cell? ⟨aa,0,none⟩=some (.int .i64 ((l:Int)+1)):=q1
 have hne0:((l:Int)+1 == 0)=false:=by rw [beq_eq_false_iff_ne];omega
 have CL:=Lib.hid (isList_ask F W2 v ss y no (.pointer (some ⟨bb,0,none⟩)) rb2)
 have kX:∀ {j:Nat} {x:Value},w.cell? ⟨eb,j,none⟩=some x→W2.cell? ⟨eb,j,none⟩=some x:=fun hc=>(hb2.cell (World.block_lt_of_cell? w _ hc) heba).trans hc
 have hat:AskAt F aa l n bb v eb eo env.length ec on (.int .i64 (o:Nat)) (.pointer (some ⟨kb,0,none⟩)) (.pointer none) (.slice none 0 0) w W2:=⟨p0,p1,p2,p3,p4,r1,kX m0,kX m1,kX m2,kX m3⟩
 have KS:Hid (∀ w',But (· = aa) W2 w'→AskAt F aa l n bb v eb eo env.length ec on (.int .i64 (o:Nat)) (.pointer (some ⟨kb,0,none⟩)) (.pointer none) (.slice none 0 0) w w'):=by
  show ∀ w',_→_
  intro w' hb
  have k:∀ {b j:Nat} {v:Value},b≠aa→W2.cell? ⟨b,j,none⟩=some v→w'.cell? ⟨b,j,none⟩=some v:=fun hn hc=>(hb.cell (World.block_lt_of_cell? W2 _ hc) hn).trans hc
  exact ⟨k (by omega) hat.p0,k (by omega) hat.p1,k (by omega) hat.p2,k (by omega) hat.p3,k (by omega) hat.p4,k hbba hat.q1,k heba hat.m0,k heba hat.m1,k heba hat.m2,k heba hat.m3⟩
 have hvl:=(List.getElem?_eq_some_iff.1 hv).1
 have hv0:(0:Int)≤(v:Int):=by omega
 have hv1:(v:Int)<(env.length:Int):=by omega
 have hon:=OnRep.form h.ro
 have HW:=Lib.hid (And.intro hW (And.intro hW2 (And.intro hb2 (And.intro ha2 (And.intro rb2 (And.intro hk hat))))))
 have HP:=Lib.hid (And.intro h (And.intro hv ih))
 clear hW hW2 hb2 ha2 rb2 hk hat q1 hblk m0 m1 m2 m3 kX hF h hv ih p0 p1 p2 p3 p4 r1
 rcases hon with rfl | ⟨cs,rfl⟩
 all_goals
  go_enter Tryz.func98,Tryz.ntmps98
  go_upto_region 1 with (fail)
  rw [HW.out.1]
  go_upto_region 4 with (fail)
  rw [HW.out.2.1]
  have p1:=(KS.out W2 (But.refl _ _)).p1
  go_wp2_with fail
  (with_reducible refine CL.out.mono ?_)
  rintro en w3 ⟨rfl,rfl⟩
  go_wp2_with fail
  (with_reducible refine CL.out.mono ?_)
  rintro en w4 ⟨rfl,rfl⟩
  go_wp2_with fail
  have A4:=KS.out w4 (But.refl _ _)
  have s1:=A4.p1;have s2:=A4.p2;have s3:=A4.q1;have s4:=A4.m0;have s5:=A4.m1;have s6:=A4.m2;have s7:=A4.m3;clear A4
  go_region_held3 (fun w'=>w'.cell? ⟨w.heap.size+1+1,0,none⟩=some (.slice (some ⟨eb,eo,none⟩) env.length ec)∧w'.cell? ⟨w.heap.size+1,0,none⟩=some (.pointer (some ⟨bb,0,none⟩))∧w'.cell? ⟨bb,1,none⟩=some (.int .i64 (v:Nat))∧w'.cell? ⟨eb,eo+v*4,none⟩=some (.int .i64 (o:Nat))∧w'.cell? ⟨eb,eo+v*4+1,none⟩=some (.pointer (some ⟨kb,0,none⟩))∧w'.cell? ⟨eb,eo+v*4+2,none⟩=some (.pointer none)∧w'.cell? ⟨eb,eo+v*4+3,none⟩=some (.slice none 0 0))
   (first
    | exact ⟨s2,s1,s3,s4,s5,s6,s7⟩
    | exact ⟨cell_alloc (w:=w4.drew) s2,cell_alloc (w:=w4.drew) s1,cell_alloc (w:=w4.drew) s3,cell_alloc (w:=w4.drew) s4,cell_alloc (w:=w4.drew) s5,cell_alloc (w:=w4.drew) s6,cell_alloc (w:=w4.drew) s7⟩
    | go_keep)
   (fail)
  obtain ⟨W5,hW5⟩:∃ W5,(w4.alloc (.cells #[.int .i64 (o:Nat),.pointer (some ⟨kb,0,none⟩),.pointer none,.slice none 0 0] 145)).drew=W5:=⟨_,rfl⟩
  have hb45:Below w4.heap.size w4 W5:=by rw [← hW5];exact ((Below.refl _ _).alloc (Nat.le_refl _) _).drew
  have hbx:W5.heap[w4.heap.size]? = some (.cells #[.int .i64 (o:Nat),.pointer (some ⟨kb,0,none⟩),.pointer none,.slice none 0 0] 145 (0,0)):=by rw [← hW5];exact heap_new w4 _
  rw [hW5]
  clear hW5 s1 s2 s3 s4 s5 s6 s7
  obtain ⟨y0,y1,y2,y3⟩:=cells4 hbx
  have A5:=KS.out W5 (But.ofBelow hb45)
  have hbw5:But (· = aa) w W5:=HW.out.2.2.1.trans (But.ofBelow hb45)
  have hpre:=HP.out.1
  have hF1:∀ i,F i→¬ (i=aa)∧(F i∨w.heap.size≤i):=fun i hi=>⟨hpre.hF i hi,.inl hi⟩
  have hkp:=hpre.fit.keep HP.out.2.1
  have hK:KeptPre (fun i=>F i∨w.heap.size≤i) aa l d n o v H t ss y no env st (.pointer (some ⟨bb,0,none⟩)) (.pointer (some ⟨kb,0,none⟩)) (.slice (some ⟨eb,eo,none⟩) env.length ec) (.func (.func 110) #[] #[.pointer (some ⟨w.heap.size+1,0,none⟩),.pointer (some ⟨w.heap.size,0,none⟩),.pointer (some ⟨w.heap.size+1+1,0,none⟩),.pointer (some ⟨w.heap.size+1+1+1,0,none⟩),.pointer (some ⟨w.heap.size+1+1+1+1,0,none⟩)]) W5:=by
   have hokv:=okMs_at _ hpre.ok v _ HP.out.2.1
   rw [okM] at hokv
   have hrb:=hpre.rb.but hbw5 hF1
   have hre:=hpre.re.but hbw5 hF1
   have hFF:∀ i,(F i∨w.heap.size≤i)→i≠aa:=by
    intro i hi
    rcases hi with hi | hi
    ·exact hpre.hF i hi
    ·omega
   exact { glob:=hpre.glob.but hbw5 (fun e=>hpre.ng e.symm),hF:=hFF,ng:=hpre.ng,apl:=(HW.out.2.2.2.1).below hb45,ld:=by omega,d20:=by omega,
           hlen:=hkp.1,at15:=hokv.1,sub:=hkp.2.2.1,fy:=hkp.2.2.2.1,fn:=hkp.2.2.2.2,hn:=hpre.hn,el:=hpre.el,nl:=hpre.nl,ok:=hpre.ok,okg:=hpre.okg,rb:=hrb,
           rk:=(HW.out.2.2.2.2.2.1).but hbw5 hF1,re:=hre,
           ro:=⟨_,_,_,_,_,_,_,_,v,ss,rfl,⟨.inr (by omega),.inr (by omega),.inr (by omega),.inr (by omega),.inr (by omega)⟩,A5.p1,hrb,A5.p0,A5.p2,hre,A5.p3,A5.p4,OnRep.but hbw5 hF1 _ _ hpre.ro⟩ }
  have C:=kept_any d HP.out.2.2 _ aa l n o v H t ss y no env st _ _ _ _ W5 hK
  obtain ⟨a0,hc0⟩:=hpre.glob
  have hc5:=(hbw5.cell (World.block_lt_of_cell? w _ hc0) (fun e=>hpre.ng e.symm)).trans hc0
  have CT:=evalTell hc5 C
  have hev:Go.Proofs.YtapjaflnmklmeaaGreatDoor.ev (d+1) (l+1) (.ask v ss y no) env n st=keptOf d l n o t ss y no env st:=ev_op HP.out.2.1
  clear C hK hc5
  generalize keptOf d l n o t ss y no env st=oo at *
  have s0:=A5.p0;have s1:=A5.p1;have s2:=A5.p2;have s3:=A5.p3
  have HX:=Lib.hid (And.intro hbw5 hc0);clear hbw5 hc0 A5 hF1 hkp hpre hb45 hbx
  cases oo with
  | none =>
    have C:=Lib.hid (CT.1 rfl);clear CT
    have HE:=Lib.hid hev;clear hev
    go_wp2_with fail
    (with_reducible refine C.out.mono ?_)
    rintro en w6 ⟨rfl,hb6⟩
    have HF:=Lib.hid (HX.out.1.trans hb6);clear hb6
    go_wp2_with fail
    go_ret2
    exact EvalPost.none HE.out HF.out HX.out.2
  | some x =>
    have C:=Lib.hid (CT.2 x rfl);clear CT
    have HE:=Lib.hid hev;clear hev
    have hz5:=HX.out.1.size
    go_wp2_with fail
    (with_reducible refine C.out.mono ?_)
    rintro en w6 ⟨vb,rfl,hb6,ha6,hr6⟩
    have HF:=Lib.hid (And.intro (HX.out.1.trans hb6) (And.intro ha6 hr6));clear hb6 ha6 hr6
    go_wp2_with fail
    go_ret2
    exact EvalPost.some HE.out HF.out.1 HF.out.2.1 (HF.out.2.2.weak fun i h=>by
     rcases h with (h | h) | h
     ·exact .inl h
     ·exact .inr h
     ·exact .inr (by omega))
end Go.Proofs.YtapjaflnmklmeaaGreatDoor
namespace Go.Proofs.YtapjaflnmklmeaaGreatDoor
open Go.RowKit
structure BInv (G:Nat→Prop) (e env:List Mn) (t:Ty) (ss:List Bd) (W:World) (k:Nat) (a:Option Addr) (c:Nat) (xs:List Value) (wr:World):Prop where
 own:Own wr 145 4 (.slice a (e.length+k) c) (e.length+k) xs
 rep:Reps (fun i=>G i∧i<W.heap.size) wr (encMs (e++owns env (t.args.take k) (ss.take k))) xs
 bel:Below W.heap.size W wr
 fr:∀ g,(Value.slice a (e.length+k) c).ownBlock=some g→W.heap.size≤g
theorem owns_len {env:List Mn}:∀ (ts:List Ty) (ss:List Bd),ss.length=ts.length→(owns env ts ss).length=ts.length
 | [],[],_=>by simp [owns]
 | [],s::ss,h=>by simp at h
 | t::ts,[],h=>by simp at h
 | t::ts,s::ss,h=>by rw [owns,List.length_cons,List.length_cons,owns_len ts ss (by simpa using h)]
set_option maxRecDepth 100000 in
set_option maxHeartbeats 8000000 in
theorem eval_bd (d:Nat) (ih:EvalSaid d) (F:Nat→Prop) (aa l n bb v:Nat) (t:Ty) (H:List Ty) (ea:Option Addr) (el ec:Nat) (ss:List Bd) (y no b':Bd) (env e':List Mn) (st:List Gf) (on:Value) (w:World) (hv:env[v]? = some (.bd t b' e'))
 (h:EvalPre F aa (l+1) (d+1) n H (.ask v ss y no) env st (.pointer (some ⟨bb,0,none⟩)) (.slice ea el ec) on w) :
 Calls Tryz.prog 98 #[.pointer (some ⟨aa,0,none⟩),.pointer (some ⟨bb,0,none⟩),.slice ea el ec,.int .i64 (n:Nat),on] w (EvalPost F aa (Go.Proofs.YtapjaflnmklmeaaGreatDoor.ev (d+1) (l+1) (.ask v ss y no) env n st) w):=by
 obtain ⟨eb,eo,ecap,x0,x1,x2,x3,e,heF,hew,m0,m1,m2,m3,hrm⟩:=mean_at h.re hv
 simp only [Value.slice.injEq] at e
 obtain ⟨rfl,rfl,rfl⟩:=e
 simp only [encM,Reps_cons,Reps_nil,Rep_val] at hrm
 obtain ⟨_,_,e,rfl,_,_,rfl,rfl,bv2,_,rfl,hk,sv2,_,rfl,hs2,rfl⟩:=hrm
 simp only [List.cons.injEq,and_true] at e
 obtain ⟨rfl,rfl,rfl,rfl⟩:=e
 obtain ⟨kb,rfl⟩:=encB_ptr hk
 obtain ⟨news,hnews,hsrc⟩:=SrcSl.ofRep hs2 (oneCell_encMs e')
 obtain ⟨a2,c2,e⟩:=hsrc.slice
 subst e
 have hF:∀ b,F b→¬ (b=aa)∧F b:=fun b hb=>⟨h.hF b hb,hb⟩
 obtain ⟨W,W2,hW,hW2,q0,q1,f1,hb2,ha2,hz2,p0,p1,p2,p3,p4⟩:=boxes_less (n:=n) (bb:=bb) (ea:=some ⟨eb,eo,none⟩) (el:=env.length) (ec:=ec) (on:=on) (T1:=163) (T2:=44) (T3:=142) (T4:=3) (T5:=180) h.apl
 have rb2:Rep F W2 (encB (.ask v ss y no)) (.pointer (some ⟨bb,0,none⟩)):=h.rb.but hb2 hF
 obtain ⟨b9,sl,yv,nv,e,hbbF,hblk,hsl,_,_⟩:=ask_open rb2
 cases e
 obtain ⟨sa,sc,e,_,_,hsat⟩:=Rep_sl1_open hsl
 subst e
 have haw:=h.apl.cell.2.2
 have hld:=h.ld
 have hd20:=h.d20
 have hbba:=h.hF _ hbbF
 have heba:=h.hF _ heF
 have r0:W2.cell? ⟨bb,0,none⟩=some (str []):=by simp [World.cell?,hblk]
 have r1:W2.cell? ⟨bb,1,none⟩=some (.int .i64 (v:Nat)):=by simp [World.cell?,hblk]
 have r2:W2.cell? ⟨bb,2,none⟩=some (.slice sa ss.length sc):=by simp [World.cell?,hblk]
 have q1':W.cell? ⟨aa,0,none⟩=some (.int .i64 ((l:Int)+1)):=q1
 have hne0:((l:Int)+1 == 0)=false:=by rw [beq_eq_false_iff_ne];omega
 have CL:=Lib.hid (isList_ask F W2 v ss y no (.pointer (some ⟨bb,0,none⟩)) rb2)
 have kX:∀ {j:Nat} {x:Value},w.cell? ⟨eb,j,none⟩=some x→W2.cell? ⟨eb,j,none⟩=some x:=fun hc=>(hb2.cell (World.block_lt_of_cell? w _ hc) heba).trans hc
 have hat:AskAt F aa l n bb v eb eo env.length ec on (.int .i64 0) (.pointer none) (.pointer (some ⟨kb,0,none⟩)) (.slice a2 e'.length c2) w W2:=⟨p0,p1,p2,p3,p4,r1,kX m0,kX m1,kX m2,kX m3⟩
 have KS:Hid (∀ w',But (· = aa) W2 w'→AskAt F aa l n bb v eb eo env.length ec on (.int .i64 0) (.pointer none) (.pointer (some ⟨kb,0,none⟩)) (.slice a2 e'.length c2) w w'):=by
  show ∀ w',_→_
  intro w' hb
  have k:∀ {b j:Nat} {v:Value},b≠aa→W2.cell? ⟨b,j,none⟩=some v→w'.cell? ⟨b,j,none⟩=some v:=fun hn hc=>(hb.cell (World.block_lt_of_cell? W2 _ hc) hn).trans hc
  exact ⟨k (by omega) hat.p0,k (by omega) hat.p1,k (by omega) hat.p2,k (by omega) hat.p3,k (by omega) hat.p4,k hbba hat.q1,k heba hat.m0,k heba hat.m1,k heba hat.m2,k heba hat.m3⟩
 have hvl:=(List.getElem?_eq_some_iff.1 hv).1
 have hv0:(0:Int)≤(v:Int):=by omega
 have hv1:(v:Int)<(env.length:Int):=by omega
 have hon:=OnRep.form h.ro
 have HW:=Lib.hid (And.intro hW (And.intro hW2 (And.intro hb2 (And.intro ha2 (And.intro rb2 (And.intro hk (And.intro hat (And.intro r2 (And.intro hsat (And.intro hs2 (And.intro hnews hsrc)))))))))))
 have HP:=Lib.hid (And.intro h (And.intro hv ih))
 have hcall:=h.fit.call hv
 have hokb:=okMs_at _ h.ok v _ hv
 rw [okM] at hokb
 have hss:=hcall.1
 have hl16:=(args_atoms hokb.1).2
 have hl16s:ss.length≤15:=by omega
 have hel2:=hokb.2.1
 have hel:=h.el
 have HL:=Lib.hid (And.intro hcall hokb)
 clear hW hW2 hb2 ha2 rb2 hk hat r2 hsat hs2 hnews hsrc hcall hokb hsl hss q1 hblk m0 m1 m2 m3 kX hF h hv ih p0 p1 p2 p3 p4 r1
 rcases hon with rfl | ⟨cs,rfl⟩
 all_goals
  go_enter Tryz.func98,Tryz.ntmps98
  go_upto_region 1 with (fail)
  rw [HW.out.1]
  go_upto_region 4 with (fail)
  rw [HW.out.2.1]
  have p1:=(KS.out W2 (But.refl _ _)).p1
  go_wp2_with fail
  (with_reducible refine CL.out.mono ?_)
  rintro en w3 ⟨rfl,rfl⟩
  go_wp2_with fail
  (with_reducible refine CL.out.mono ?_)
  rintro en w4 ⟨rfl,rfl⟩
  go_wp2_with fail
  have A4:=KS.out w4 (But.refl _ _)
  have s1:=A4.p1;have s2:=A4.p2;have s3:=A4.q1;have s4:=A4.m0;have s5:=A4.m1;have s6:=A4.m2;have s7:=A4.m3;clear A4
  go_region_held3 (fun w'=>w'.cell? ⟨w.heap.size+1+1,0,none⟩=some (.slice (some ⟨eb,eo,none⟩) env.length ec)∧w'.cell? ⟨w.heap.size+1,0,none⟩=some (.pointer (some ⟨bb,0,none⟩))∧w'.cell? ⟨bb,1,none⟩=some (.int .i64 (v:Nat))∧w'.cell? ⟨eb,eo+v*4,none⟩=some (.int .i64 0)∧w'.cell? ⟨eb,eo+v*4+1,none⟩=some (.pointer none)∧w'.cell? ⟨eb,eo+v*4+2,none⟩=some (.pointer (some ⟨kb,0,none⟩))∧w'.cell? ⟨eb,eo+v*4+3,none⟩=some (.slice a2 e'.length c2))
   (first
    | exact ⟨s2,s1,s3,s4,s5,s6,s7⟩
    | exact ⟨cell_alloc (w:=w4.drew) s2,cell_alloc (w:=w4.drew) s1,cell_alloc (w:=w4.drew) s3,cell_alloc (w:=w4.drew) s4,cell_alloc (w:=w4.drew) s5,cell_alloc (w:=w4.drew) s6,cell_alloc (w:=w4.drew) s7⟩
    | go_keep)
   (fail)
  obtain ⟨W5,hW5⟩:∃ W5,(w4.alloc (.cells #[.int .i64 0,.pointer none,.pointer (some ⟨kb,0,none⟩),.slice a2 e'.length c2] 145)).drew=W5:=⟨_,rfl⟩
  have hb45:Below w4.heap.size w4 W5:=by rw [← hW5];exact ((Below.refl _ _).alloc (Nat.le_refl _) _).drew
  have hbx:W5.heap[w4.heap.size]? = some (.cells #[.int .i64 0,.pointer none,.pointer (some ⟨kb,0,none⟩),.slice a2 e'.length c2] 145 (0,0)):=by rw [← hW5];exact heap_new w4 _
  rw [hW5]
  clear hW5 s1 s2 s3 s4 s5 s6 s7
  have hz45:w4.heap.size<W5.heap.size:=lt_of_heap hbx
  obtain ⟨y0,y1,y2,y3⟩:=cells4 hbx
  have A5:=KS.out W5 (But.ofBelow hb45)
  have hbw5:But (· = aa) w W5:=HW.out.2.2.1.trans (But.ofBelow hb45)
  have hpre:=HP.out.1
  have hF1:∀ i,F i→¬ (i=aa)∧(F i∨w.heap.size≤i):=fun i hi=>⟨hpre.hF i hi,.inl hi⟩
  have hev:Go.Proofs.YtapjaflnmklmeaaGreatDoor.ev (d+1) (l+1) (.ask v ss y no) env n st=Go.Proofs.YtapjaflnmklmeaaGreatDoor.ev d l b' (e'++owns env t.args ss) n (⟨y,no,env⟩::st):=ev_bd HP.out.2.1
  have hsrc5:SrcSl 4 (.slice a2 e'.length c2) e'.length news W5:=srcSl_but hbw5 (fun b hb=>hpre.hF b hb) HW.out.2.2.2.2.2.2.2.2.2.1 HW.out.2.2.2.2.2.2.2.2.2.2.2
  have z2:W5.cell? ⟨bb,2,none⟩=some (.slice sa ss.length sc):=(hb45.cell (World.block_lt_of_cell? w4 _ HW.out.2.2.2.2.2.2.2.1)).trans HW.out.2.2.2.2.2.2.2.1
  have HX:=Lib.hid (And.intro hbw5 (And.intro hb45 (And.intro hbx (And.intro hev hsrc5))));clear hbw5 hb45 hbx hev hsrc5
  have s1:=A5.p1;have s2:=A5.p2
  have HA5:=Lib.hid A5;clear A5
  go_wp2_with (at_builtin;refine wpList_append_gen rfl _ _ 142 rfl 145 (.agg #[.int .i64 0,.pointer none,.pointer none,.slice none 0 0]) 4 48 Tryz.underlying142 Tryz.infoMn rfl (by decide) (.slice none 0 0) 0 [] rfl ?a1 _ e'.length news rfl ?a2 ?a3 ?a4 ?_)
  case a1=>exact World.ownsRow_nil _ _ _ _
  case a2=>exact HX.out.2.2.2.2
  case a3=>unfold maxLen;omega
  case a4=>omega
  intro a6 c6 w6 ho6 hb6 hg6
  have hbl6:Below W5.heap.size W5 w6:=hb6.toBelow (Nat.le_refl _) (fun i _ e=>by simp [Value.ownBlock] at e)
  have hf6:∀ g,(Value.slice a6 e'.length c6).ownBlock=some g→W5.heap.size≤g:=fun g hg=>by
   rcases hg6 g hg with h | h
   ·simp [Value.ownBlock] at h
   ·omega
  have hr6:Reps (fun i=>(F i∨w.heap.size≤i)∧i<W5.heap.size) w6 (encMs (e'++owns env (t.args.take 0) (ss.take 0))) news:=by
   have h0:=(Reps.low HW.out.2.2.2.2.2.2.2.2.2.2.1).but HX.out.1 (F':=fun i=>(F i∨w.heap.size≤i)∧i<W5.heap.size) (fun b hb=>⟨hpre.hF b hb.1,.inl hb.1,by have:=HX.out.1.size;omega⟩)
   rw [List.take_zero,List.take_zero,owns.eq_def,List.append_nil]
   exact (Rep.keep fun b o hf hh=>⟨hf,by rw [hbl6.block b hf.2];exact hh⟩).2 _ _ h0
  have HI0:=Lib.hid (show BInv (fun i=>F i∨w.heap.size≤i) e' env t ss W5 0 a6 c6 news w6 from ⟨ho6,hr6,hbl6,hf6⟩)
  have z2:=(hbl6.cell (World.block_lt_of_cell? W5 _ z2)).trans z2
  have s1:=(hbl6.cell (World.block_lt_of_cell? W5 _ s1)).trans s1
  clear ho6 hr6 hbl6 hf6 hb6 hg6 hpre hF1
  go_wp2_with fail
  go_loopw [14,78] (fun o i wr=>∃ k:Nat,k≤ss.length∧i=.int .i64 k∧∃ a c xs,o=.slice a (e'.length+k:Nat) c∧BInv (fun i=>F i∨w.heap.size≤i) e' env t ss W5 k a c xs wr) (fun _ i _=>ss.length-(intOf i).toNat)
  case atStart=>exact ⟨0,Nat.zero_le _,rfl,a6,c6,news,rfl,HI0.out⟩
  case round =>
   rename_i wr
   obtain ⟨k,hk,rfl,a,c,xs,rfl,hinv⟩:=hrel
   have HI:=Lib.hid hinv;clear hinv
   have hpre:=HP.out.1
   have hb4r:Below w4.heap.size w4 wr:=HX.out.2.1.trans (HI.out.bel.mono (by omega))
   have hbwr:But (· = aa) w wr:=HW.out.2.2.1.trans (But.ofBelow hb4r)
   have hz5:=HX.out.1.size
   have AR:=KS.out wr (But.ofBelow hb4r)
   by_cases hlt:k<ss.length
   ·have hlt':(k:Int)<(ss.length:Int):=by omega
    obtain ⟨sb,so,u,d1,e,hF1,hw1,hd1,hc1,hru⟩:=HW.out.2.2.2.2.2.2.2.2.1 k hlt
    subst e
    rw [encBs_at,Option.map_eq_some_iff] at hd1
    obtain ⟨s,hs,rfl⟩:=hd1
    obtain ⟨ub,rfl⟩:=encB_ptr hru
    have hkt:k<t.args.length:=by have:=HL.out.1.1;omega
    obtain ⟨ta,hta⟩:∃ ta,t.args[k]? = some ta:=⟨_,List.getElem?_eq_getElem hkt⟩
    have q0:=(hb4r.cell (World.block_lt_of_cell? w4 _ hc1)).trans hc1
    have q1:=AR.p2
    have HK:=Lib.hid (And.intro hs (And.intro hru (And.intro hta (And.intro hb4r hbwr))));clear hs hru hta hb4r hbwr hc1 hpre AR
    go_wp2_with (at_builtin;refine wpList_append_gen rfl _ _ 142 rfl 145 (.agg #[.int .i64 0,.pointer none,.pointer none,.slice none 0 0]) 4 48 Tryz.underlying142 Tryz.infoMn rfl (by decide) (.slice a (e'.length+k) c) (e'.length+k) xs rfl ?c1 _ 1 [.int .i64 0,.pointer none,.pointer (some ⟨ub,0,none⟩),.slice (some ⟨eb,eo,none⟩) env.length ec] rfl ?c2 ?c3 ?c4 ?_)
    case c1=>exact HI.out.own.alloc _
    case c2=>exact SrcSl.lit1 #[.int .i64 0,.pointer none,.pointer (some ⟨ub,0,none⟩),.slice (some ⟨eb,eo,none⟩) env.length ec] rfl (by simp [Value.oneCell']) _ (by simp)
    case c3=>unfold maxLen;omega
    case c4=>omega
    intro a7 c7 w7 ho7 hb7 hg7
    have hzr:=HI.out.bel.size
    have hb57:Below W5.heap.size W5 w7:=by
     refine (HI.out.bel.alloc hzr _).trans (hb7.toBelow (by rw [size_alloc];omega) fun i hi e=>?_)
     have:=HI.out.fr i e;omega
    have hf7:∀ g,(Value.slice a7 (e'.length+(k+1)) c7).ownBlock=some g→W5.heap.size≤g:=by
     intro g h
     rcases hg7 g h with h | h
     ·exact HI.out.fr g h
     ·omega
    have hkeep:∀ (b:Nat) (o:Obj),b<w4.heap.size→w4.heap[b]? = some o→w7.heap[b]? = some o:=fun b o hb hh=>by
     rw [hb57.block b (by omega),HX.out.2.1.block b hb];exact hh
    have hr7:Reps (fun i=>(F i∨w.heap.size≤i)∧i<W5.heap.size) w7 (encMs (e'++owns env (t.args.take (k+1)) (ss.take (k+1)))) (xs++[.int .i64 0,.pointer none,.pointer (some ⟨ub,0,none⟩),.slice (some ⟨eb,eo,none⟩) env.length ec]):=by
     rw [owns_take _ _ _ _ _ HK.out.2.2.1 HK.out.1,← List.append_assoc,encMs_append,encMs_one]
     refine Reps.append ?_ ?_
     ·exact (Rep.keep fun b o hf ho=>⟨hf,by rw [hb57.block b hf.2,← HI.out.bel.block b hf.2];exact ho⟩).2 _ _ HI.out.rep
     ·rw [encM]
      have hre4:=HP.out.1.re.but (F':=F) HW.out.2.2.1 (fun b hb=>⟨HP.out.1.hF b hb,hb⟩)
      have kk:=(Rep.keep (F:=F) (F':=fun i=>(F i∨w.heap.size≤i)∧i<W5.heap.size) (w:=w4) (w':=w7) fun b o hf hh=>⟨⟨.inl hf,by have:=lt_of_heap hh;omega⟩,hkeep b o (lt_of_heap hh) hh⟩).1
      refine Reps_cons.2 ⟨_,_,rfl,Rep_val.2 rfl,Reps_cons.2 ⟨_,_,rfl,Rep_val.2 rfl,Reps_cons.2 ⟨_,_,rfl,kk _ _ HK.out.2.1,Reps_cons.2 ⟨_,_,rfl,kk _ _ hre4,Reps_nil.2 rfl⟩⟩⟩⟩
    have HN:=Lib.hid (show BInv (fun i=>F i∨w.heap.size≤i) e' env t ss W5 (k+1) a7 c7 _ w7 from ⟨ho7,hr7,hb57,hf7⟩);clear ho7 hr7 hb57 hf7 hb7 hg7 hkeep
    go_wp2_with fail
    go_roundw
    case rel=>exact ⟨k+1,by omega,by go_num,a7,c7,_,rfl,HN.out⟩
    case measure=>simp [intOf];omega
   ·obtain rfl:k=ss.length:=by omega
    have hrep:=HI.out.rep
    have hss:=HL.out.1.1
    rw [List.take_length,List.take_of_length_le (by omega)] at hrep
    have hlen:(e'++owns env t.args ss).length=e'.length+ss.length:=by rw [List.length_append,owns_len _ _ hss,hss]
    have hF1:∀ i,F i→¬ (i=aa)∧(F i∨w.heap.size≤i):=fun i hi=>⟨hpre.hF i hi,.inl hi⟩
    have hFF:∀ i,(F i∨w.heap.size≤i)→i≠aa:=by
     intro i hi
     rcases hi with hi | hi
     ·exact hpre.hF i hi
     ·omega
    have hre5:Rep (fun i=>F i∨w.heap.size≤i) wr (.sl 145 4 (e'++owns env t.args ss).length (encMs (e'++owns env t.args ss))) (.slice a (e'.length+ss.length) c):=by
     rw [hlen]
     exact HI.out.own.rep (fun g hg=>.inr (by have:=HI.out.fr g hg;omega)) ((Rep.keep fun b o hf ho=>⟨hf.1,ho⟩).2 _ _ hrep)
    have hrb:=hpre.rb.but hbwr hF1
    have hre:=hpre.re.but hbwr hF1
    have hokb:=HL.out.2
    have hnl:=hpre.nl
    have hK:EvalPre (fun i=>F i∨w.heap.size≤i) aa l d n H b' (e'++owns env t.args ss) (⟨y,no,env⟩::st) (.pointer (some ⟨kb,0,none⟩)) (.slice a (e'.length+ss.length) c) (.func (.func 110) #[] #[.pointer (some ⟨w.heap.size+1,0,none⟩),.pointer (some ⟨w.heap.size,0,none⟩),.pointer (some ⟨w.heap.size+1+1,0,none⟩),.pointer (some ⟨w.heap.size+1+1+1,0,none⟩),.pointer (some ⟨w.heap.size+1+1+1+1,0,none⟩)]) wr:=by
     exact { glob:=hpre.glob.but hbwr (fun e=>hpre.ng e.symm),hF:=hFF,ng:=hpre.ng,apl:=(HW.out.2.2.2.1).below hb4r,ld:=by omega,d20:=by omega,
             fit:=HL.out.1.2,hn:=hpre.hn,el:=by rw [hlen];omega,nl:=by omega,
             ok:=okMs_append _ _ (okMs_mono (by omega) _ hokb.2.2) (okMs_owns (okMs_mono (by omega) _ hpre.ok) (by omega) _ _ (args_atoms hokb.1).1),
             okg:=⟨by show env.length≤_;omega,okMs_mono (by omega) _ hpre.ok,okGs_mono (by omega) _ hpre.okg⟩,rb:=HW.out.2.2.2.2.2.1.but hbwr hF1,re:=hre5,
             ro:=⟨_,_,_,_,_,_,_,_,v,ss,rfl,⟨.inr (by omega),.inr (by omega),.inr (by omega),.inr (by omega),.inr (by omega)⟩,AR.p1,hrb,AR.p0,AR.p2,hre,AR.p3,AR.p4,OnRep.but hbwr hF1 _ _ hpre.ro⟩ }
    have C:=HP.out.2.2 _ aa l n H b' (e'++owns env t.args ss) (⟨y,no,env⟩::st) _ _ _ wr hK
    obtain ⟨a0,hc0⟩:=hpre.glob
    have hc5:=(hbwr.cell (World.block_lt_of_cell? w _ hc0) (fun e=>hpre.ng e.symm)).trans hc0
    have CT:=evalTell hc5 C
    have hev:=HX.out.2.2.2.1
    clear C hK hc5 hrep hre5 hrb hre
    generalize Go.Proofs.YtapjaflnmklmeaaGreatDoor.ev d l b' (e'++owns env t.args ss) n (⟨y,no,env⟩::st)=oo at *
    have s0:=AR.p0;have s3:=AR.p3
    have hbx:=(HI.out.bel.block w4.heap.size (by omega)).trans HX.out.2.2.1
    obtain ⟨y0,y1,y2,y3⟩:=cells4 hbx
    have hzr:=hbwr.size
    have HY:=Lib.hid (And.intro hbwr hc0);clear hbwr hc0 AR hF1 hpre hbx hb4r y0 y1 y3 hlen hokb hss
    cases oo with
    | none =>
      have C:=Lib.hid (CT.1 rfl);clear CT
      have HE:=Lib.hid hev;clear hev
      go_wp2_with fail
      (with_reducible refine C.out.mono ?_)
      rintro en w6' ⟨rfl,hb6⟩
      have HF:=Lib.hid (HY.out.1.trans hb6);clear hb6
      go_wp2_with fail
      go_ret2
      exact EvalPost.none HE.out HF.out HY.out.2
    | some x =>
      have C:=Lib.hid (CT.2 x rfl);clear CT
      have HE:=Lib.hid hev;clear hev
      go_wp2_with fail
      (with_reducible refine C.out.mono ?_)
      rintro en w6' ⟨vb,rfl,hb6,ha6,hr6⟩
      have HF:=Lib.hid (And.intro (HY.out.1.trans hb6) (And.intro ha6 hr6));clear hb6 ha6 hr6
      go_wp2_with fail
      go_ret2
      exact EvalPost.some HE.out HF.out.1 HF.out.2.1 (HF.out.2.2.weak fun i h=>by
       rcases h with (h | h) | h
       ·exact .inl h
       ·exact .inr h
       ·exact .inr (by omega))
end Go.Proofs.YtapjaflnmklmeaaGreatDoor
namespace Go.Proofs.YtapjaflnmklmeaaGreatDoor
open Go.RowKit
theorem eval_any (d:Nat):EvalSaid d:=by
 induction d with
 | zero =>
   intro F aa l n H b env st bv ev on w h
   obtain rfl:l=0:=by have:=h.ld;omega
   obtain ⟨bb,rfl⟩:=encB_ptr h.rb
   obtain ⟨_,a,c,rfl,_⟩:=Rep_sl.1 h.re
   exact eval_out F aa 0 n bb a _ c b env st on w h.ro.form h.glob h.ng h.apl
 | succ d ih =>
   intro F aa l n H b env st bv ev on w h
   obtain ⟨bb,rfl⟩:=encB_ptr h.rb
   obtain ⟨_,a,c,rfl,_⟩:=Rep_sl.1 h.re
   cases l with
   | zero=>exact eval_out F aa (d+1) n bb a _ c b env st on w h.ro.form h.glob h.ng h.apl
   | succ l =>
     have hld:=h.ld
     have hd:=h.d20
     cases b with
     | leaf x =>
       by_cases hx:x=117
       ·exact eval_end F aa d l n bb a _ c x env st on w h.hF h.apl (by omega) h.rb (.inl ⟨hx,h.ro.form⟩)
       ·cases st with
        | nil=>exact eval_end F aa d l n bb a _ c x env [] on w h.hF h.apl (by omega) h.rb (.inr ⟨hx,h.ro,rfl⟩)
        | cons f st=>exact eval_back d ih F aa l n bb H a _ c x env f st on w hx h
     | ask v ss y no =>
       obtain ⟨m,t,hh,hm,_⟩:=h.fit.ask
       cases m with
       | op o t=>exact eval_op d ih F aa l n bb v o t H a _ c ss y no env st on w hm h
       | bd t b' e'=>exact eval_bd d ih F aa l n bb v t H a _ c ss y no b' env e' st on w hm h
end Go.Proofs.YtapjaflnmklmeaaGreatDoor
namespace Go.Proofs.YtapjaflnmklmeaaGreatDoor
open Go.RowKit
theorem evSubs_size {d:Nat} (ih:∀ (l:Nat) (b:Bd) (env:List Mn) (n:Nat) (st:List Gf) (r:Bd) (l':Nat),Go.Proofs.YtapjaflnmklmeaaGreatDoor.ev d l b env n st=some (r,l')→sizeB r+l'≤l) {env:List Mn} {n:Nat} :
 ∀ (ts:List Ty) (ss:List Bd) (l:Nat) (xs:List Bd) (l':Nat),evSubs (Go.Proofs.YtapjaflnmklmeaaGreatDoor.ev d) env n l ts ss=some (xs,l')→sizeBs xs+l'≤l
 | [],ss,l,xs,l',h=>by simp [evSubs] at h;obtain ⟨rfl,rfl⟩:=h;simp [sizeBs]
 | t::ts,[],l,xs,l',h=>by simp [evSubs] at h;obtain ⟨rfl,rfl⟩:=h;simp [sizeBs]
 | t::ts,s::ss,l,xs,l',h=>by
   simp only [evSubs,Option.bind_eq_bind,Option.bind_eq_some_iff,Prod.exists] at h
   obtain ⟨x,l1,h1,ys,l2,h2,h3⟩:=h
   simp at h3
   obtain ⟨rfl,rfl⟩:=h3
   have k1:=ih _ _ _ _ _ _ _ h1
   have k2:=evSubs_size ih ts ss _ _ _ h2
   rw [sizeBs]
   omega
theorem ev_size (d:Nat):∀ (l:Nat) (b:Bd) (env:List Mn) (n:Nat) (st:List Gf) (r:Bd) (l':Nat),Go.Proofs.YtapjaflnmklmeaaGreatDoor.ev d l b env n st=some (r,l')→sizeB r+l'≤l:=by
 induction d with
 | zero=>intro l b env n st r l' h;simp [Go.Proofs.YtapjaflnmklmeaaGreatDoor.ev] at h
 | succ d ih =>
   intro l b env n st r l' h
   cases l with
   | zero=>rw [ev.eq_def] at h;simp at h
   | succ l =>
     cases b with
     | leaf c =>
       by_cases hc:c=117
       ·subst hc;rw [ev_u] at h;simp at h;obtain ⟨rfl,rfl⟩:=h;rw [sizeB];omega
       ·cases st with
        | nil=>rw [ev_end] at h;simp at h;obtain ⟨rfl,rfl⟩:=h;rw [sizeB];omega
        | cons f st=>rw [ev_back hc] at h;have:=ih _ _ _ _ _ _ _ h;omega
     | ask v ss y no =>
       cases hv:env[v]? with
       | none=>rw [ev.eq_def] at h;simp [hv] at h
       | some m =>
         cases m with
         | bd t b' e=>rw [ev_bd hv] at h;have:=ih _ _ _ _ _ _ _ h;omega
         | op o t =>
           rw [ev_op hv] at h
           simp only [Option.bind_eq_some_iff,Prod.exists] at h
           obtain ⟨xs,l1,h1,x,l2,h2,z,l3,h3,h4⟩:=h
           simp at h4
           obtain ⟨rfl,rfl⟩:=h4
           have k1:=evSubs_size ih _ _ _ _ _ h1
           have k2:=ih _ _ _ _ _ _ _ h2
           have k3:=ih _ _ _ _ _ _ _ h3
           rw [sizeB]
           omega
set_option maxHeartbeats 1000000 in
theorem fits_any (F:Nat→Prop) (w:World) (b:Bd) (v:Value) (hv:Rep F w (encB b) v) (hn:sizeB b≤20000) :
 Calls Tryz.prog 53 #[v] w fun en w'=>en=.returned (.bool (decide (sizeB b≤200∧depthB b≤100)))∧Below w.heap.size w w':=by
 obtain ⟨vb,rfl⟩:=encB_ptr hv
 have hL:Lim 20000:=by unfold Lim;omega
 have C1:=Lib.hid (size_any 20000 b hn hL F w _ hv)
 go_enter Tryz.func53,Tryz.ntmps53
 go_wp2_with fail
 (with_reducible refine C1.out.mono ?_)
 rintro en w1 ⟨rfl,hb1⟩
 have C2:=Lib.hid (depth_any 20000 b hn hL F w1 _ (Rep.below hb1 (fun _ h=>h) hv))
 have HB:=Lib.hid hb1;clear hb1
 by_cases h200:sizeB b≤200
 ·have h1:decide ((sizeB b:Int)≤200)=true:=decide_eq_true (by omega)
  go_wp2_with fail
  (with_reducible refine C2.out.mono ?_)
  rintro en w2 ⟨rfl,hb2⟩
  have hb:=HB.out.trans (hb2.mono HB.out.size)
  clear hb2
  by_cases h100:depthB b≤100
  ·have h2:decide ((depthB b:Int)≤100)=true:=decide_eq_true (by omega)
   have HE:=Lib.hid (And.intro (show decide (sizeB b≤200∧depthB b≤100)=true from decide_eq_true ⟨h200,h100⟩) hb);clear hb
   go_wp2_with fail
   go_ret
   rw [HE.out.1]
   exact ⟨rfl,HE.out.2⟩
  ·have h2:decide ((depthB b:Int)≤100)=false:=decide_eq_false (by omega)
   have HE:=Lib.hid (And.intro (show decide (sizeB b≤200∧depthB b≤100)=false from decide_eq_false (by omega)) hb);clear hb
   go_wp2_with fail
   go_ret
   rw [HE.out.1]
   exact ⟨rfl,HE.out.2⟩
 ·have h1:decide ((sizeB b:Int)≤200)=false:=decide_eq_false (by omega)
  have HE:=Lib.hid (show decide (sizeB b≤200∧depthB b≤100)=false from decide_eq_false (by omega))
  go_wp2_with fail
  go_ret
  rw [HE.out]
  exact ⟨rfl,HB.out⟩
end Go.Proofs.YtapjaflnmklmeaaGreatDoor
namespace Go.Proofs.YtapjaflnmklmeaaGreatDoor
open Go.RowKit
def BecPost (F:Nat→Prop) (w:World) (o:Option Bd) (en:Ending) (w':World):Prop :=
 ∃ v,en=.returned v∧Below w.heap.size w w'∧(o=none→v=.pointer none)∧∀ b,o=some b→Rep (fun i=>F i∨w.heap.size≤i) w' (encB b) v
structure BecPre (F:Nat→Prop) (n:Nat) (H:List Ty) (b:Bd) (env:List Mn) (bv ev:Value) (w:World):Prop where
 glob:GlobE w
 fit:EvFit H b env []
 hn:H.length=n
 nl:n≤1000
 el:env.length≤1000
 ok:okMs 1000 env
 rb:Rep F w (encB b) bv
 re:Rep F w (.sl 145 4 env.length (encMs env)) ev
set_option maxRecDepth 100000 in
set_option maxHeartbeats 2000000 in
theorem become_any (F:Nat→Prop) (n:Nat) (H:List Ty) (b:Bd) (env:List Mn) (bv ev:Value) (w:World) (h:BecPre F n H b env bv ev w) :
 Calls Tryz.prog 86 #[bv,ev,.int .i64 (n:Nat)] w (BecPost F w (become b env n)):=by
 obtain ⟨bb,rfl⟩:=encB_ptr h.rb
 obtain ⟨_,ea,ec,rfl,_⟩:=Rep_sl.1 h.re
 obtain ⟨a0,hc0⟩:=h.glob
 have hlt0:=World.block_lt_of_cell? w _ hc0
 have hlt1:0<w.heap.size:=hlt0
 have hbA:Below w.heap.size w (w.alloc (.cells #[.int .i64 20000] 165)):=(Below.refl _ _).alloc (Nat.le_refl _) _
 have hrbA:=Rep.below hbA (fun _ h=>h) h.rb
 have hreA:=Rep.below hbA (fun _ h=>h) h.re
 have hcA:=(hbA.cell hlt0).trans hc0
 have kA:∀ {dv:DV} {v:Value},Rep F w dv v→Rep (fun i=>F i∧i<w.heap.size) (w.alloc (.cells #[.int .i64 20000] 165)) dv v:=fun h=>(Rep.keep fun b o hf ho=>⟨⟨hf,lt_of_heap ho⟩,heap_past ho⟩).1 _ _ h
 have hnl:=h.nl
 have hel:=h.el
 have hE:EvalPre (fun i=>F i∧i<w.heap.size) w.heap.size 20000 20000 n H b env [] (.pointer (some ⟨bb,0,none⟩)) (.slice ea env.length ec) .nilFunc (w.alloc (.cells #[.int .i64 20000] 165)) :=
  { glob:=⟨a0,hcA⟩,hF:=fun i hi e=>by have:=hi.2;omega,ng:=by omega,apl:=heap_new _ _,ld:=Nat.le_refl _,d20:=Nat.le_refl _,fit:=h.fit,hn:=h.hn,el:=by omega,nl:=by omega,
    ok:=okMs_mono (by omega) _ h.ok,okg:=trivial,rb:=kA h.rb,re:=kA h.re,ro:=rfl }
 have C:=eval_any 20000 _ _ _ _ _ _ _ _ _ _ _ _ hE
 have CT:=evalTell hcA C
 have hsz:=ev_size 20000 20000 b env n []
 have hbec:(Go.Proofs.YtapjaflnmklmeaaGreatDoor.ev 20000 20000 b env n []=none→become b env n=none)∧∀ x,Go.Proofs.YtapjaflnmklmeaaGreatDoor.ev 20000 20000 b env n []=some x→((sizeB x.1≤200∧depthB x.1≤100)→become b env n=some x.1)∧(¬ (sizeB x.1≤200∧depthB x.1≤100)→become b env n=none):=by
  unfold become
  refine ⟨fun h=>by rw [h],fun x h=>?_⟩
  rw [h]
  exact ⟨fun h=>if_pos h,fun h=>if_neg h⟩
 clear hE C kA hrbA hreA h
 generalize become b env n=r at *
 generalize Go.Proofs.YtapjaflnmklmeaaGreatDoor.ev 20000 20000 b env n []=oo at *
 have HS:=Lib.hid (And.intro hsz (And.intro hbA (And.intro hc0 hbec)));clear hsz hbA hc0 hcA hbec
 cases oo with
 | none =>
   have C:=Lib.hid (CT.1 rfl);clear CT
   go_enter Tryz.func86,Tryz.ntmps86
   go_wp2_with fail
   (with_reducible refine C.out.mono ?_)
   rintro en w1 ⟨rfl,hb1⟩
   have hb2:Below w.heap.size w w1:=HS.out.2.1.trans (hb1.toBelow (by rw [size_alloc];omega) fun i hi e=>by have e:i=w.heap.size:=e;omega)
   have hc1:=(hb2.cell hlt0).trans HS.out.2.2.1
   have C2:=Lib.hid (is_same a0 w1)
   have HB:=Lib.hid hb2;clear hb1 hb2
   go_wp2_with fail
   (with_reducible refine C2.out.mono ?_)
   rintro en w2 ⟨rfl,rfl⟩
   go_wp2_with fail
   go_ret
   exact ⟨_,rfl,HB.out,fun _=>rfl,fun b h=>by have h0:r=none:=HS.out.2.2.2.1 (by simp);rw [h0] at h;simp at h⟩
 | some x =>
   have C:=Lib.hid (CT.2 x rfl);clear CT
   go_enter Tryz.func86,Tryz.ntmps86
   go_wp2_with fail
   (with_reducible refine C.out.mono ?_)
   rintro en w1 ⟨vb,rfl,hb1,_,hr1⟩
   have hb2:Below w.heap.size w w1:=HS.out.2.1.trans (hb1.toBelow (by rw [size_alloc];omega) fun i hi e=>by have e:i=w.heap.size:=e;omega)
   have hc1:=(hb2.cell hlt0).trans HS.out.2.2.1
   have C2:=Lib.hid (is_nil a0 w1)
   have hz:=HS.out.1 x.1 x.2 rfl
   have C3:=Lib.hid (fits_any _ w1 x.1 _ hr1 (by omega))
   have HB:=Lib.hid (And.intro hb2 hr1);clear hb1 hb2 hr1 hz
   go_wp2_with fail
   (with_reducible refine C2.out.mono ?_)
   rintro en w2 ⟨rfl,rfl⟩
   by_cases hfit:sizeB x.1≤200∧depthB x.1≤100
   ·rw [decide_eq_true hfit] at C3
    have HF:=Lib.hid hfit;clear hfit
    go_wp2_with fail
    (with_reducible refine C3.out.mono ?_)
    rintro en w3 ⟨rfl,hb3⟩
    have HB3:=Lib.hid hb3;clear hb3
    go_wp2_with fail
    go_ret
    have hr:=(HS.out.2.2.2.2 x rfl).1 HF.out
    refine ⟨_,rfl,HB.out.1.trans (HB3.out.mono HB.out.1.size),fun h=>?_,fun b h=>?_⟩
    ·rw [hr] at h;simp at h
    ·rw [hr] at h
     obtain rfl:=Option.some.inj h
     refine Rep.weak (Rep.below HB3.out (fun _ h=>h) HB.out.2) fun i h=>?_
     rcases h with h | h
     ·exact .inl h.1
     ·rw [size_alloc] at h;exact .inr (by omega)
   ·rw [decide_eq_false hfit] at C3
    have HF:=Lib.hid hfit;clear hfit
    go_wp2_with fail
    (with_reducible refine C3.out.mono ?_)
    rintro en w3 ⟨rfl,hb3⟩
    have HB3:=Lib.hid hb3;clear hb3
    go_wp2_with fail
    go_ret
    exact ⟨_,rfl,HB.out.1.trans (HB3.out.mono HB.out.1.size),fun _=>rfl,fun b h=>by rw [(HS.out.2.2.2.2 x rfl).2 HF.out] at h;simp at h⟩
end Go.Proofs.YtapjaflnmklmeaaGreatDoor
namespace Go.Proofs.YtapjaflnmklmeaaGreatDoor
open Go.RowKit
def betweenEnv (bs:List Ty) (a:Ty) (n:Bd) (rest:List Ty):List Mn:=opens 0 bs++(.bd a n (opens 0 bs)::opens bs.length rest)
structure AppPre (F:Nat→Prop) (bs rest:List Ty) (a:Ty) (m n:Bd) (mv nv bv rv:Value) (w:World):Prop where
 glob:GlobE w
 fit:EvFit (bs++rest) m (betweenEnv bs a n rest) []
 a15:atomsT a≤15
 bl:bs.length≤100
 rl:rest.length≤100
 b15:∀ t∈bs,atomsT t≤15
 r15:∀ t∈rest,atomsT t≤15
 rm:Rep F w (encB m) mv
 rn:Rep F w (encB n) nv
 rb:Rep F w (.sl 43 1 bs.length (encKs bs)) bv
 rr:Rep F w (.sl 43 1 rest.length (encKs rest)) rv
set_option maxRecDepth 100000 in
set_option maxHeartbeats 4000000 in
theorem apply_any (F:Nat→Prop) (bs rest:List Ty) (a:Ty) (m n:Bd) (mv nv bv rv:Value) (w:World) (h:AppPre F bs rest a m n mv nv bv rv w) :
 Calls Tryz.prog 71 #[mv,nv,bv,rv] w (BecPost F w (become m (betweenEnv bs a n rest) (bs.length+rest.length))):=by
 obtain ⟨mb,rfl⟩:=encB_ptr h.rm
 obtain ⟨nb,rfl⟩:=encB_ptr h.rn
 obtain ⟨_,ba,bc,rfl,_⟩:=Rep_sl.1 h.rb
 obtain ⟨_,ra,rc,rfl,_⟩:=Rep_sl.1 h.rr
 have hbl:=h.bl
 have hrl:=h.rl
 have C1:Calls Tryz.prog 85 #[.int .i64 0,.slice ba bs.length bc] w (FreshV w 145 4 bs.length fun w' xs=>Reps F w' (encMs (opens 0 bs)) xs):=opens_any F 0 bs _ w h.rb (by omega) (by omega)
 have C1:=Lib.hid C1
 have HP:=Lib.hid h;clear h
 go_enter Tryz.func71,Tryz.ntmps71
 go_wp2_with fail
 (with_reducible refine C1.out.mono ?_)
 rintro en w1 ⟨a1,c1,xs1,rfl,ho1,hr1,hb1,hf1⟩
 have hs1:=ho1.src (oneCell_encMs _ _ hr1)
 have H1:=Lib.hid (And.intro ho1 (And.intro hr1 (And.intro hb1 (And.intro hf1 hs1))));clear ho1 hr1 hb1 hf1 hs1 C1
 go_wp2_with (at_builtin;refine wpList_append_gen rfl _ _ 142 rfl 145 (.agg #[.int .i64 0,.pointer none,.pointer none,.slice none 0 0]) 4 48 Tryz.underlying142 Tryz.infoMn rfl (by decide) (.slice none 0 0) 0 [] rfl ?a1 _ bs.length xs1 rfl ?a2 ?a3 ?a4 ?_)
 case a1=>exact World.ownsRow_nil _ _ _ _
 case a2=>exact H1.out.2.2.2.2
 case a3=>unfold maxLen;omega
 case a4=>omega
 intro a2 c2 w2 ho2 hb2 hg2
 have hbl2:Below w1.heap.size w1 w2:=hb2.toBelow (Nat.le_refl _) (fun i _ e=>by simp [Value.ownBlock] at e)
 have hf2:∀ g,(Value.slice a2 bs.length c2).ownBlock=some g→w1.heap.size≤g:=fun g hg=>by
  rcases hg2 g hg with h | h
  ·simp [Value.ownBlock] at h
  ·omega
 have H2:=Lib.hid (And.intro ho2 (And.intro hbl2 hf2));clear ho2 hb2 hg2 hbl2 hf2
 go_wp2_with (at_builtin;refine wpList_append_gen rfl _ _ 142 rfl 145 (.agg #[.int .i64 0,.pointer none,.pointer none,.slice none 0 0]) 4 48 Tryz.underlying142 Tryz.infoMn rfl (by decide) (.slice a2 bs.length c2) bs.length xs1 rfl ?b1 _ 1 [.int .i64 0,.pointer none,.pointer (some ⟨nb,0,none⟩),.slice a1 bs.length c1] rfl ?b2 ?b3 ?b4 ?_)
 case b1=>exact H2.out.1.alloc _
 case b2=>exact SrcSl.lit1 #[.int .i64 0,.pointer none,.pointer (some ⟨nb,0,none⟩),.slice a1 bs.length c1] rfl (by simp [Value.oneCell']) _ (by simp)
 case b3=>unfold maxLen;omega
 case b4=>omega
 intro a3 c3 w3 ho3 hb3 hg3
 have hz2:=H2.out.2.1.size
 have hz1:=H1.out.2.2.1.size
 have hbl3:Below w1.heap.size w1 w3:=(H2.out.2.1.alloc hz2 _).trans (hb3.toBelow (by rw [size_alloc];omega) fun i hi e=>by have:=H2.out.2.2 i e;omega)
 have hf3:∀ g,(Value.slice a3 (bs.length+1) c3).ownBlock=some g→w1.heap.size≤g:=fun g hg=>by
  rcases hg3 g hg with h | h
  ·exact H2.out.2.2 g h
  ·omega
 have hb03:Below w.heap.size w w3:=H1.out.2.2.1.trans (hbl3.mono hz1)
 have C4:=Lib.hid (opens_any (fun i=>F i∧i<w.heap.size) bs.length rest _ w3 (Rep.below hb03 (fun _ h=>h) (Rep.low HP.out.rr)) (by omega) (by omega))
 have H3:=Lib.hid (And.intro ho3 (And.intro hbl3 (And.intro hf3 hb03)));clear ho3 hb3 hg3 hbl3 hf3 hb03
 go_wp2_with fail
 (with_reducible refine C4.out.mono ?_)
 rintro en w4 ⟨a4,c4,xs4,rfl,ho4,hr4,hb4,hf4⟩
 clear C4
 have hs4:=ho4.src (oneCell_encMs _ _ hr4)
 have ho34:Own w4 145 4 (.slice a3 (bs.length+1) c3) (bs.length+1) (xs1++[.int .i64 0,.pointer none,.pointer (some ⟨nb,0,none⟩),.slice a1 bs.length c1]):=H3.out.1.keep fun g o hg hh=>by rw [hb4.block g (lt_of_heap hh)];exact hh
 have H4:=Lib.hid (And.intro ho34 (And.intro hs4 (And.intro hr4 (And.intro hb4 hf4))));clear ho34 hs4 hr4 hb4 hf4 ho4
 go_wp2_with (at_builtin;refine wpList_append_gen rfl _ _ 142 rfl 145 (.agg #[.int .i64 0,.pointer none,.pointer none,.slice none 0 0]) 4 48 Tryz.underlying142 Tryz.infoMn rfl (by decide) (.slice a3 (bs.length+1) c3) (bs.length+1) (xs1++[.int .i64 0,.pointer none,.pointer (some ⟨nb,0,none⟩),.slice a1 bs.length c1]) rfl ?d1 _ rest.length xs4 rfl ?d2 ?d3 ?d4 ?_)
 case d1=>exact H4.out.1
 case d2=>exact H4.out.2.1
 case d3=>unfold maxLen;omega
 case d4=>omega
 intro a5 c5 w5 ho5 hb5 hg5
 have hz3:=H3.out.2.1.size
 have hz4:=H4.out.2.2.2.1.size
 have hbl5:Below w1.heap.size w1 w5:=(H3.out.2.1.trans (H4.out.2.2.2.1.mono hz3)).trans (hb5.toBelow (by omega) fun i hi e=>by have:=H3.out.2.2.1 i e;omega)
 have hf5:∀ g,(Value.slice a5 (bs.length+1+rest.length) c5).ownBlock=some g→w1.heap.size≤g:=fun g hg=>by
  rcases hg5 g hg with h | h
  ·exact H3.out.2.2.1 g h
  ·omega
 have hb05:Below w.heap.size w w5:=H1.out.2.2.1.trans (hbl5.mono hz1)
 have hlen:(betweenEnv bs a n rest).length=bs.length+1+rest.length:=by unfold betweenEnv;simp [opens_length];omega
 have hre5:Rep (fun i=>F i∨w.heap.size≤i) w5 (.sl 145 4 (betweenEnv bs a n rest).length (encMs (betweenEnv bs a n rest))) (.slice a5 (bs.length+1+rest.length) c5):=by
  rw [hlen]
  refine ho5.rep (fun g hg=>.inr (by have:=hf5 g hg;omega)) ?_
  have e:encMs (betweenEnv bs a n rest)=encMs (opens 0 bs)++(encM (.bd a n (opens 0 bs))++encMs (opens bs.length rest)):=by unfold betweenEnv;rw [encMs_append,encMs]
  rw [e]
  have k1:∀ {ds:List DV} {us:List Value},Reps F w1 ds us→Reps (fun i=>F i∨w.heap.size≤i) w5 ds us:=fun h=>(Rep.keep fun b o hf hh=>⟨.inl hf,by rw [hbl5.block b (lt_of_heap hh)];exact hh⟩).2 _ _ h
  refine Reps.append (k1 H1.out.2.1) (Reps.append (vs:=[.int .i64 0,.pointer none,.pointer (some ⟨nb,0,none⟩),.slice a1 bs.length c1]) (us:=xs4) ?_ ?_)
  ·rw [encM]
   have r1:Rep (fun i=>F i∨w.heap.size≤i) w5 (encB n) (.pointer (some ⟨nb,0,none⟩)):=(Rep.below hb05 (fun _ h=>h) HP.out.rn).weak fun i h=>.inl h
   have r2:Rep (fun i=>F i∨w.heap.size≤i) w5 (.sl 145 4 (opens 0 bs).length (encMs (opens 0 bs))) (.slice a1 bs.length c1):=by
    rw [opens_length]
    refine (H1.out.1.keep fun g o hg hh=>?_).rep (fun g hg=>.inr (H1.out.2.2.2.1 g hg)) (k1 H1.out.2.1)
    rw [hbl5.block g (lt_of_heap hh)];exact hh
   exact Reps_cons.2 ⟨_,_,rfl,Rep_val.2 rfl,Reps_cons.2 ⟨_,_,rfl,Rep_val.2 rfl,Reps_cons.2 ⟨_,_,rfl,r1,Reps_cons.2 ⟨_,_,rfl,r2,Reps_nil.2 rfl⟩⟩⟩⟩
  ·refine (Rep.keep fun b o hf hh=>⟨.inl hf.1,?_⟩).2 _ _ H4.out.2.2.1
   have hlt:=hf.2
   rw [hb5.block b (lt_of_heap hh) (fun e=>by have:=H3.out.2.2.1 b e;omega)];exact hh
 have hE:BecPre (fun i=>F i∨w.heap.size≤i) (bs.length+rest.length) (bs++rest) m (betweenEnv bs a n rest) (.pointer (some ⟨mb,0,none⟩)) (.slice a5 (bs.length+1+rest.length) c5) w5 :=
  { glob:=HP.out.glob.below hb05,fit:=HP.out.fit,hn:=List.length_append ..,nl:=by omega,el:=by omega,
    ok:=okMs_append _ _ (okMs_opens _ _ HP.out.b15 (by omega)) ⟨⟨HP.out.a15,by rw [opens_length];omega,okMs_opens _ _ HP.out.b15 (by omega)⟩,okMs_opens _ _ HP.out.r15 (by omega)⟩,
    rb:=(Rep.below hb05 (fun _ h=>h) HP.out.rm).weak fun i h=>.inl h,re:=hre5 }
 have C6:=become_any _ _ _ _ _ _ _ w5 hE
 rw [Int.natCast_add] at C6
 generalize become m (betweenEnv bs a n rest) (bs.length+rest.length)=r at *
 have C6:=Lib.hid C6
 have HB:=Lib.hid hb05;clear hre5 hE hlen hb05 hbl5 hf5 ho5 hb5 hg5
 go_wp2_with fail
 (with_reducible refine C6.out.mono ?_)
 rintro en w6 ⟨v,rfl,hb6,hn6,hy6⟩
 have H6:=Lib.hid (And.intro hb6 (And.intro hn6 hy6));clear hb6 hn6 hy6
 go_wp2_with fail
 go_ret
 refine ⟨v,rfl,HB.out.trans (H6.out.1.mono HB.out.size),H6.out.2.1,fun b h=>(H6.out.2.2 b h).weak fun i h=>?_⟩
 have hz:=HB.out.size
 rcases h with (h | h) | h
 ·exact .inl h
 ·exact .inr h
 ·exact .inr (by omega)
end Go.Proofs.YtapjaflnmklmeaaGreatDoor
namespace Go.Proofs.YtapjaflnmklmeaaGreatDoor
open Go.RowKit
theorem Rep_sl1_tail {F:Nat→Prop} {w:World} {e:TypeId} {n b o cap:Nat} {d:DV} {ds:List DV} (h:Rep F w (.sl e 1 (n+1) (d::ds)) (.slice (some ⟨b,o,none⟩) (n+1) cap)) :
 Rep F w (.sl e 1 n ds) (.slice (some ⟨b,o+1,none⟩) n (cap-1)):=by
 rw [Rep_sl] at h ⊢
 obtain ⟨hl,a,c,e1,hn,hz,h⟩:=h
 simp only [Value.slice.injEq] at e1
 obtain ⟨rfl,_,rfl⟩:=e1
 refine ⟨by simpa using hl,_,_,rfl,by omega,fun h=>by simp at h,.inr ?_⟩
 rcases h with h0 | ⟨b',o',cs,fr,e2,hb,hcs,hr⟩
 ·omega
 simp only [Option.some.injEq,Addr.mk.injEq,and_true] at e2
 obtain ⟨rfl,rfl⟩:=e2
 refine ⟨_,_,cs,fr,rfl,hb,hcs,?_⟩
 have h2:=hr
 rw [Reps_cons] at h2
 obtain ⟨v,vs,e3,_,h4⟩:=h2
 have:vs=List.take (n*1) (List.drop (o+1) cs.toList):=by
  have h5:=congrArg (List.drop 1) e3
  rw [List.drop_take,List.drop_drop] at h5
  simpa using h5.symm
 rw [← this];exact h4
end Go.Proofs.YtapjaflnmklmeaaGreatDoor

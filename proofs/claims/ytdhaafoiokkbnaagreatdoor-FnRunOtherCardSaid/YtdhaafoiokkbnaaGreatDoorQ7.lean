/- Walks of functions that the statement reaches, and plain words. No conditions. -/
import Derived.Deep.DeepCutAuto
import Derived.Laws.MakeOwn
import Derived.RegionTactic
import Derived.Test.YtdhaafoiokkbnaaGreatDoorQ6
set_option linter.unusedVariables false
set_option linter.unusedSimpArgs false
set_option maxHeartbeats 4000000
namespace Go.Proofs.YtdhaafoiokkbnaaGreatDoor
open Go.RowKit
def w_ (t:Ty) (xs:List Bs) (w:World) (en:Ending) (w':World):Prop :=
 ∃ a n c,en=.returned (.tuple #[.slice a n c,.bool (decide (xs.length=t.args.length) && (zv t.args xs).isSome)])/\Below w.heap.size w w' /\
   (∀ bs,xs.length=t.args.length->zv t.args xs=some bs->n=bs.length/\Rep (w.heap.size<=·) w' (.sl 80 4 bs.length (zl bs)) (.slice a bs.length c))
theorem Rep.alloc {F:Nat->Prop} {w:World} {d:DV} {v:Value} (h:Rep F w d v) (o:Obj):Rep F (w.alloc o) d v:=(Rep.keep fun _ _ hf ho=>⟨hf,zY ho⟩).1 _ _ h
theorem below_ad2 {w wc:World} {o o':Obj} (h:Below ((w.alloc o).alloc o').drew.heap.size ((w.alloc o).alloc o').drew wc):Below w.heap.size w wc:=by
 have h1:=b8 (w:=w.alloc o) h
 exact ((cE w.heap.size w).alloc (cC _) o).trans (h1.mono (by rw [zK];omega))
theorem early1 {w wc:World} {o:Obj} (h:Below (w.alloc o).drew.heap.size (w.alloc o).drew wc):wc.heap[w.heap.size]? = some o:=by
 rw [h.block _ (by show _<(w.alloc o).heap.size;rw [zK];omega)];exact zT w o
theorem gL {w wc:World} {o:Obj} (h:Below (w.alloc o).heap.size (w.alloc o) wc):wc.heap[w.heap.size]? = some o:=by
 rw [h.block _ (by rw [zK];omega)];exact zT w o
theorem early2 {w wc:World} {o o':Obj} (h:Below ((w.alloc o).alloc o').drew.heap.size ((w.alloc o).alloc o').drew wc):wc.heap[w.heap.size]? = some o/\wc.heap[w.heap.size+1]? = some o':=by
 have hz:((w.alloc o).alloc o').drew.heap.size=w.heap.size+2:=by show ((w.alloc o).alloc o').heap.size=_;rw [zK,zK]
 refine ⟨by rw [h.block _ (by omega)];exact zY (zT w o),?_⟩
 rw [h.block _ (by omega)]
 have:=zT (w.alloc o) o'
 rw [zK] at this;exact this
theorem gA {w wc:World} {o o':Obj} (h:Below ((w.alloc o).alloc o').heap.size ((w.alloc o).alloc o') wc):wc.heap[w.heap.size]? = some o/\wc.heap[w.heap.size+1]? = some o':=by
 have hz:((w.alloc o).alloc o').heap.size=w.heap.size+2:=by rw [zK,zK]
 refine ⟨by rw [h.block _ (by omega)];exact zY (zT w o),?_⟩
 rw [h.block _ (by omega)]
 have:=zT (w.alloc o) o'
 rw [zK] at this;exact this
theorem uZ {X wc:World} {b:Nat} {x:Obj} (hb:Below X.heap.size X wc) (hX:X.heap[b]? = some x):wc.heap[b]? = some x:=by
 rw [hb.block b (zZ hX)];exact hX
theorem vB {w:World} {b:Nat} {u:Value} {T:TypeId} (h:w.heap[b]? = some (.cells #[u] T (0,0))):w.cell? ⟨b,0,none⟩=some u/\w.frozen? ⟨b,0,none⟩=false/\b<w.heap.size:=⟨by simp [World.cell?,h],by simp [World.frozen?,h],zZ h⟩
theorem vH {w:World} {b:Nat} {u0 u1 u2 u3:Value} {T:TypeId} (h:w.heap[b]? = some (.cells #[u0,u1,u2,u3] T (0,0))):w.cell? ⟨b,0,none⟩=some u0/\w.cell? ⟨b,1,none⟩=some u1/\w.cell? ⟨b,2,none⟩=some u2/\w.cell? ⟨b,3,none⟩=some u3/\w.frozen? ⟨b,0,none⟩=false/\w.frozen? ⟨b,1,none⟩=false/\w.frozen? ⟨b,2,none⟩=false/\w.frozen? ⟨b,3,none⟩=false/\b<w.heap.size :=
 ⟨by simp [World.cell?,h],by simp [World.cell?,h],by simp [World.cell?,h],by simp [World.cell?,h],by simp [World.frozen?,h],by simp [World.frozen?,h],by simp [World.frozen?,h],by simp [World.frozen?,h],zZ h⟩
theorem pB {w:World} {o:Obj} {g:Nat} (h:g=w.heap.size):(w.alloc o).heap[g]? = some o:=by subst h;exact zT w o
theorem sizeS (w:World) (p:Addr) (u:Value):w.heap.size=(w.setCell p u).heap.size:=by simp [World.setCell]
theorem sizeA (w:World) (o:Obj):w.heap.size+1=(w.alloc o).heap.size:=(zK w o).symm
theorem heap_new2 (w:World) (o o':Obj):((w.alloc o).alloc o').heap[w.heap.size+1]? = some o':=by
 have:=zT (w.alloc o) o'
 rw [zK] at this;exact this
theorem gO {B:Nat} {y0 y1 y2 y3:Value} {T:TypeId} {w:World} (h:w.heap[B]? = some (.cells #[y0,y1,y2,y3] T (0,0))) (x0 x1 x2 x3:Value):((((w.setCell ⟨B,0,none⟩ x0).setCell ⟨B,1,none⟩ x1).setCell ⟨B,2,none⟩ x2).setCell ⟨B,3,none⟩ x3).heap[B]? = some (.cells #[x0,x1,x2,x3] T (0,0)):=boxPut_at h x0 x1 x2 x3
theorem heap_ne {w:World} {b i:Nat} {o:Nat} {u:Value} {x:Obj} (h:w.heap[i]? = some x) (hi:¬ i=b):(w.setCell ⟨b,o,none⟩ u).heap[i]? = some x:=by
 rw [cF _ _ _ _ hi];exact h
def ArgCut (wr:World) (X x:Bs) (s9 s10:Value) (wx:World):Prop :=
 ∃ g s' v' a2 n2 c2 a3 n3 c3,s9=.pointer (some ⟨g,0,none⟩)/\s10=.bool (zI X x).isSome/\wr.heap.size<=g/\wx.heap[g]? = some (.cells #[str s',.int .i64 v',.slice a2 n2 c2,.slice a3 n3 c3] 80 (0,0))/\Below wr.heap.size wr wx /\
   (∀ b,zI X x=some b->zH (fun i=>wr.heap.size<=i/\i≠g) wx (kT b) [str s',.int .i64 v',.slice a2 n2 c2,.slice a3 n3 c3])
theorem encNs_snoc (bs:List Bd) (b:Bd):zl (bs++[b])=zl bs++kT b:=by rw [k9];simp [zl]
set_option maxRecDepth 100000 in
theorem l4Args_any (F:Nat->Prop) (t:Ty) (tv:Value) (xs:List Bs) (a:Option Addr) (c:Nat) (w:World) (ht:Rep F w (jA t) tv) (cj:zU t<=15) (hx:jQ w a xs) (mJ:∀ x∈xs,Lim x.length) (n5:Lim xs.length) :
 Calls Tryz.prog 31 #[.agg #[tv],.slice a xs.length c] w (w_ t xs w):=by
 have hxl':=n5.le
 have mX:t.args.length<=15:=by have:=zg t;have:=zd t.args;omega
 have eI:=ht
 rw [qE] at eI
 obtain ⟨ka,kc,e,_,_,lC⟩:=zC eI
 subst e
 have H:=cH (cB lC (cB hx (cB mJ cj)));clear lC hx mJ n5 ht eI
 by_cases cA:xs.length=t.args.length
 rotate_left
 ·have hd:((xs.length:Int) != (t.args.length:Int))=true:=by rw [bne_iff_ne];omega
  have HL:=cH cA;clear cA
  go_enter Tryz.func31,Tryz.ntmps31
  go_wp2_with fail
  go_ret2
  unfold w_
  rw [decide_eq_false HL.out]
  exact ⟨_,_,_,rfl,((cE _ _).alloc (cC _) _).alloc (by simp) _,fun bs h=>absurd h HL.out⟩
 have hd:((xs.length:Int) != (t.args.length:Int))=false:=by rw [cA];simp
 have HL:=cH cA;clear cA
 have tr:((w.alloc (.cells #[.slice ka t.args.length kc] 77)).alloc (.cells #[] 80)).cell? ⟨w.heap.size,0,none⟩=some (.slice ka t.args.length kc):=by simp
 have dm:Below w.heap.size w ((w.alloc (.cells #[.slice ka t.args.length kc] 77)).alloc (.cells #[] 80)):=((cE _ _).alloc (cC _) _).alloc (by simp) _
 have DI:Own ((w.alloc (.cells #[.slice ka t.args.length kc] 77)).alloc (.cells #[] 80)) 80 4 (.slice (some ⟨w.heap.size+1,0,none⟩) 0 0) 0 []:=Own.litAt #[] 0 _ (by simp) (by decide) rfl
 have HA:=cH (cB tr (cB dm DI));clear tr dm DI
 go_enter Tryz.func31,Tryz.ntmps31
 go_wp2_with fail
 go_loopw [6,7] (fun l i wr=>∃ (k:Nat) (a':Option Addr) (c':Nat) (us:List Value) (bs:List Bd),k<=xs.length/\i=.int .i64 k/\l=.slice a' k c'/\Own wr 80 4 (.slice a' k c') k us/\zH (fun i=>w.heap.size<=i/\(Value.slice a' k c').ownBlock≠some i) wr (zl bs) us/\bs.length=k/\zv (t.args.take k) (xs.take k)=some bs/\Below w.heap.size w wr /\
  (∀ g,(Value.slice a' k c').ownBlock=some g->w.heap.size+1<=g)/\wr.cell? ⟨w.heap.size,0,none⟩=some (.slice ka t.args.length kc)) (fun _ i _=>xs.length-(intOf i).toNat)
 case atStart=>exact ⟨0,_,_,[],[],Nat.zero_le _,rfl,rfl,HA.out.2.2,by rw [zl];exact zF.2 rfl,rfl,by simp [zv],HA.out.2.1,fun g h=>by simp [Value.ownBlock] at h;omega,HA.out.1⟩
 case round =>
  obtain ⟨k,a',c',us,bs,hk,rfl,rfl,ho,hr,dr,dT,hb,hf,rW⟩:=hrel
  have HO:=cH (cB ho (cB hr (cB dT (cB hf (cB hb dr)))));clear ho hr dT hf hb dr
  by_cases cL:k<xs.length
  ·obtain ⟨x,iH⟩:∃ x,xs[k]? = some x:=⟨xs[k],by simp [cL]⟩
   obtain ⟨bs1,os1,es1,sH⟩:=H.out.2.1.below HO.out.2.2.2.2.1 k x iH
   subst es1
   have oA:=H.out.2.2.1 x (List.mem_of_getElem? iH)
   have Cr:k<t.args.length:=by have:=HL.out;omega
   obtain ⟨bk,ok,uk,dk,eka,_,Ab,rv,td,mf⟩:=H.out.1 k Cr
   subst eka
   rw [js,Option.map_eq_some_iff] at rv
   obtain ⟨tk,d6,rfl⟩:=rv
   obtain ⟨ua,uc,e⟩:=kJ mf
   subst e
   have sD:wr.cell? ⟨bk,ok+k,none⟩=some (.slice ua tk.args.length uc):=by rw [HO.out.2.2.2.2.1.cell Ab];exact td
   have sV:=Rep.below (F':=fun _=>True) HO.out.2.2.2.2.1 (fun _ _=>trivial) mf
   have sA:zU tk<=15:=by have:=H.out.2.2.2;have hm:=zg t;have:=qO (List.mem_of_getElem? d6);omega
   have Cq:(k:Int)<(t.args.length:Int):=by omega
   have d8:(k:Int)<(xs.length:Int):=by omega
   obtain ⟨X,hX⟩:=zzM (zq tk)
   have hXl:Lim X.length:=by rw [hX];have:=kn 15 tk sA;show _<=_;omega
   have C1:=cH (fun wz (hz:Rep (fun _=>True) wz (jA tk) (.slice ua tk.args.length uc))=>bT 15 tk sA (by omega) _ wz _ hz)
   rw [<- hX] at C1
   have R0:=cH sV.drew
   have R1:=cH (fun o=>(sV.alloc o).drew)
   have R2:=cH (fun o o'=>((sV.alloc o).alloc o').drew)
   have C2:=cH (fun wz=>y7 X x hXl oA wz)
   have HS:=cH (cB iH (cB d6 (cB hX sA)));clear iH d6 hX sA td mf sV hXl oA
   have sg:bk<wr.heap.size:=cD wr _ sD
   have sq:bs1<wr.heap.size:=cD wr _ sH
   have h0b:w.heap.size<wr.heap.size:=cD wr _ rW
   go_upto_region 7 with (fail)
   go_cut [9,10] (fun s9 s10 wx=>ArgCut wr X x s9 s10 wx)
   case first =>
    have nk0:¬ wr.heap.size<=w.heap.size:=by omega
    have nk1:¬ wr.heap.size<=bk:=by omega
    have nk2:¬ wr.heap.size<=bs1:=by omega
    go_region_held3 (fun w'=>w'.cell? ⟨w.heap.size,0,none⟩=some (.slice (some ⟨bk,ok,none⟩) t.args.length kc)/\w'.cell? ⟨bk,ok+k,none⟩=some (.slice ua tk.args.length uc)/\w'.cell? ⟨bs1,os1+k,none⟩=some (str x))
     (first
      | (refine pE (m:=fun i=>wr.heap.size<=i) ?_ rW sD sH nk0 nk1 nk2;(repeat' (first | with_reducible exact But.ofBelow eL.out | with_reducible refine But.alloc ?_ _ | with_reducible refine But.drew ?_ | with_reducible refine But.setCell ?_ (.inr ?_) _));all_goals ((try dsimp only);omega))
      | (refine pE (m:=fun i=>wr.heap.size<=i) ?_ rW sD sH nk0 nk1 nk2;(repeat' (first | with_reducible exact But.ofBelow dD.out | with_reducible refine But.alloc ?_ _ | with_reducible refine But.drew ?_ | with_reducible refine But.setCell ?_ (.inr ?_) _));all_goals ((try dsimp only);omega))
      | (refine pE (m:=fun i=>wr.heap.size<=i) ?_ rW sD sH nk0 nk1 nk2;(repeat' (first | with_reducible exact (But.refl (fun i=>wr.heap.size<=i) wr) | with_reducible refine But.alloc ?_ _ | with_reducible refine But.drew ?_ | with_reducible refine But.setCell ?_ (.inr ?_) _));all_goals ((try dsimp only);omega))
      | go_keep)
     (first
      | (go_at_call 30;have D5:=ri;have _t1:=Eh;(with_reducible refine (C2.out w1).mono ?_);rintro en w2 ⟨sa,sc,s',v',a2,n2,c2,a3,n3,c3,rfl,cS,dy,dX⟩;have F8:w2.heap[wr.heap.size]? = some (.cells #[.slice none 0 0] 77 (0,0)):=uZ cS ri.out;have F9:w2.heap[(wr.heap.size+1)]? = some (.cells #[str [],.int .i64 0,.slice none 0 0,.slice none 0 0] 80 (0,0)):=uZ cS Eh.out;have eL:=cH ((dD.out).trans (cS.mono (dD.out).size));have z2:=cS.size;(try rw [zK] at z2);(try rw [zK] at z2);have q0:=zZ ri.out;have q1:=zZ Eh.out;have r9:¬ wr.heap.size=(wr.heap.size+1):=(by omega);have ro:¬ (wr.heap.size+1)=wr.heap.size:=(by omega);obtain ⟨l7,ld,l8⟩:=vB F8;have F8:=cH F8;obtain ⟨l6,l5,li,lr,lh,lp,lw,ly,l9⟩:=vH F9;have F9:=cH F9;have dS:=cH (cB cS dX);clear cS dX dy)
      | (go_at_call 30;have D5:=rt;have _t1:=Ei;(with_reducible refine (C2.out w1).mono ?_);rintro en w2 ⟨sa,sc,s',v',a2,n2,c2,a3,n3,c3,rfl,cS,dy,dX⟩;have F9:w2.heap[wr.heap.size]? = some (.cells #[str [],.int .i64 0,.slice none 0 0,.slice none 0 0] 80 (0,0)):=uZ cS rt.out;have F8:w2.heap[(wr.heap.size+1)]? = some (.cells #[.slice none 0 0] 77 (0,0)):=uZ cS Ei.out;have eL:=cH ((dD.out).trans (cS.mono (dD.out).size));have z2:=cS.size;(try rw [zK] at z2);(try rw [zK] at z2);have q0:=zZ rt.out;have q1:=zZ Ei.out;have r9:¬ (wr.heap.size+1)=wr.heap.size:=(by omega);have ro:¬ wr.heap.size=(wr.heap.size+1):=(by omega);obtain ⟨l7,ld,l8⟩:=vB F8;have F8:=cH F8;obtain ⟨l6,l5,li,lr,lh,lp,lw,ly,l9⟩:=vH F9;have F9:=cH F9;have dS:=cH (cB cS dX);clear cS dX dy)
      | (go_at_call 30;have D5:=ri;(with_reducible refine (C2.out w1).mono ?_);rintro en w2 ⟨sa,sc,s',v',a2,n2,c2,a3,n3,c3,rfl,cS,dy,dX⟩;have F8:w2.heap[wr.heap.size]? = some (.cells #[.slice none 0 0] 77 (0,0)):=uZ cS ri.out;have eL:=cH ((dD.out).trans (cS.mono (dD.out).size));have z2:=cS.size;(try rw [zK] at z2);(try rw [zK] at z2);have q0:=zZ ri.out;obtain ⟨l7,ld,l8⟩:=vB F8;have F8:=cH F8;have dS:=cH (cB cS dX);clear cS dX dy)
      | (go_at_call 30;have D5:=ri;(with_reducible refine (C2.out (w1.alloc (.cells #[str [],.int .i64 0,.slice none 0 0,.slice none 0 0] 80))).mono ?_);rintro en w2 ⟨sa,sc,s',v',a2,n2,c2,a3,n3,c3,rfl,cS,dy,dX⟩;have F8:w2.heap[wr.heap.size]? = some (.cells #[.slice none 0 0] 77 (0,0)):=uZ cS (zY ri.out);have F9:w2.heap[w1.heap.size]? = some (.cells #[str [],.int .i64 0,.slice none 0 0,.slice none 0 0] 80 (0,0)):=gL cS;have eL:=cH ((dD.out.alloc dD.out.size _).trans (cS.mono (dD.out.alloc dD.out.size _).size));have z2:=cS.size;(try rw [zK] at z2);(try rw [zK] at z2);have q0:=zZ ri.out;have r9:¬ wr.heap.size=w1.heap.size:=(by omega);have ro:¬ w1.heap.size=wr.heap.size:=(by omega);obtain ⟨l7,ld,l8⟩:=vB F8;have F8:=cH F8;obtain ⟨l6,l5,li,lr,lh,lp,lw,ly,l9⟩:=vH F9;have F9:=cH F9;have dS:=cH (cB cS dX);clear cS dX dy)
      | (go_at_call 30;have D5:=rt;(with_reducible refine (C2.out w1).mono ?_);rintro en w2 ⟨sa,sc,s',v',a2,n2,c2,a3,n3,c3,rfl,cS,dy,dX⟩;have F9:w2.heap[wr.heap.size]? = some (.cells #[str [],.int .i64 0,.slice none 0 0,.slice none 0 0] 80 (0,0)):=uZ cS rt.out;have eL:=cH ((dD.out).trans (cS.mono (dD.out).size));have z2:=cS.size;(try rw [zK] at z2);(try rw [zK] at z2);have q0:=zZ rt.out;obtain ⟨l6,l5,li,lr,lh,lp,lw,ly,l9⟩:=vH F9;have F9:=cH F9;have dS:=cH (cB cS dX);clear cS dX dy)
      | (go_at_call 30;have D5:=rt;(with_reducible refine (C2.out (w1.alloc (.cells #[.slice none 0 0] 77))).mono ?_);rintro en w2 ⟨sa,sc,s',v',a2,n2,c2,a3,n3,c3,rfl,cS,dy,dX⟩;have F9:w2.heap[wr.heap.size]? = some (.cells #[str [],.int .i64 0,.slice none 0 0,.slice none 0 0] 80 (0,0)):=uZ cS (zY rt.out);have F8:w2.heap[w1.heap.size]? = some (.cells #[.slice none 0 0] 77 (0,0)):=gL cS;have eL:=cH ((dD.out.alloc dD.out.size _).trans (cS.mono (dD.out.alloc dD.out.size _).size));have z2:=cS.size;(try rw [zK] at z2);(try rw [zK] at z2);have q0:=zZ rt.out;have r9:¬ w1.heap.size=wr.heap.size:=(by omega);have ro:¬ wr.heap.size=w1.heap.size:=(by omega);obtain ⟨l7,ld,l8⟩:=vB F8;have F8:=cH F8;obtain ⟨l6,l5,li,lr,lh,lp,lw,ly,l9⟩:=vH F9;have F9:=cH F9;have dS:=cH (cB cS dX);clear cS dX dy)
      | (go_at_call 30;(with_reducible refine (C2.out w1).mono ?_);rintro en w2 ⟨sa,sc,s',v',a2,n2,c2,a3,n3,c3,rfl,cS,dy,dX⟩;have eL:=cH ((dD.out).trans (cS.mono (dD.out).size));have z2:=cS.size;(try rw [zK] at z2);(try rw [zK] at z2);have dS:=cH (cB cS dX);clear cS dX dy)
      | (go_at_call 30;(with_reducible refine (C2.out (w1.alloc (.cells #[.slice none 0 0] 77))).mono ?_);rintro en w2 ⟨sa,sc,s',v',a2,n2,c2,a3,n3,c3,rfl,cS,dy,dX⟩;have F8:w2.heap[w1.heap.size]? = some (.cells #[.slice none 0 0] 77 (0,0)):=gL cS;have eL:=cH ((dD.out.alloc dD.out.size _).trans (cS.mono (dD.out.alloc dD.out.size _).size));have z2:=cS.size;(try rw [zK] at z2);(try rw [zK] at z2);obtain ⟨l7,ld,l8⟩:=vB F8;have F8:=cH F8;have dS:=cH (cB cS dX);clear cS dX dy)
      | (go_at_call 30;(with_reducible refine (C2.out (w1.alloc (.cells #[str [],.int .i64 0,.slice none 0 0,.slice none 0 0] 80))).mono ?_);rintro en w2 ⟨sa,sc,s',v',a2,n2,c2,a3,n3,c3,rfl,cS,dy,dX⟩;have F9:w2.heap[w1.heap.size]? = some (.cells #[str [],.int .i64 0,.slice none 0 0,.slice none 0 0] 80 (0,0)):=gL cS;have eL:=cH ((dD.out.alloc dD.out.size _).trans (cS.mono (dD.out.alloc dD.out.size _).size));have z2:=cS.size;(try rw [zK] at z2);(try rw [zK] at z2);obtain ⟨l6,l5,li,lr,lh,lp,lw,ly,l9⟩:=vH F9;have F9:=cH F9;have dS:=cH (cB cS dX);clear cS dX dy)
      | (go_at_call 30;(with_reducible refine (C2.out ((w1.alloc (.cells #[.slice none 0 0] 77)).alloc (.cells #[str [],.int .i64 0,.slice none 0 0,.slice none 0 0] 80))).mono ?_);rintro en w2 ⟨sa,sc,s',v',a2,n2,c2,a3,n3,c3,rfl,cS,dy,dX⟩;have F8:w2.heap[w1.heap.size]? = some (.cells #[.slice none 0 0] 77 (0,0)):=(gA cS).1;have F9:w2.heap[(w1.heap.size+1)]? = some (.cells #[str [],.int .i64 0,.slice none 0 0,.slice none 0 0] 80 (0,0)):=(gA cS).2;have eL:=cH (((dD.out.alloc dD.out.size _).alloc (dD.out.alloc dD.out.size _).size _).trans (cS.mono ((dD.out.alloc dD.out.size _).alloc (dD.out.alloc dD.out.size _).size _).size));have z2:=cS.size;(try rw [zK] at z2);(try rw [zK] at z2);have r9:¬ w1.heap.size=(w1.heap.size+1):=(by omega);have ro:¬ (w1.heap.size+1)=w1.heap.size:=(by omega);obtain ⟨l7,ld,l8⟩:=vB F8;have F8:=cH F8;obtain ⟨l6,l5,li,lr,lh,lp,lw,ly,l9⟩:=vH F9;have F9:=cH F9;have dS:=cH (cB cS dX);clear cS dX dy)
      | (go_at_call 30;(with_reducible refine (C2.out ((w1.alloc (.cells #[str [],.int .i64 0,.slice none 0 0,.slice none 0 0] 80)).alloc (.cells #[.slice none 0 0] 77))).mono ?_);rintro en w2 ⟨sa,sc,s',v',a2,n2,c2,a3,n3,c3,rfl,cS,dy,dX⟩;have F9:w2.heap[w1.heap.size]? = some (.cells #[str [],.int .i64 0,.slice none 0 0,.slice none 0 0] 80 (0,0)):=(gA cS).1;have F8:w2.heap[(w1.heap.size+1)]? = some (.cells #[.slice none 0 0] 77 (0,0)):=(gA cS).2;have eL:=cH (((dD.out.alloc dD.out.size _).alloc (dD.out.alloc dD.out.size _).size _).trans (cS.mono ((dD.out.alloc dD.out.size _).alloc (dD.out.alloc dD.out.size _).size _).size));have z2:=cS.size;(try rw [zK] at z2);(try rw [zK] at z2);have r9:¬ (w1.heap.size+1)=w1.heap.size:=(by omega);have ro:¬ w1.heap.size=(w1.heap.size+1):=(by omega);obtain ⟨l7,ld,l8⟩:=vB F8;have F8:=cH F8;obtain ⟨l6,l5,li,lr,lh,lp,lw,ly,l9⟩:=vH F9;have F9:=cH F9;have dS:=cH (cB cS dX);clear cS dX dy)
      | (go_at_call 45;(with_reducible refine (C1.out wr.drew (R0.out)).mono ?_);rintro en w1 ⟨rfl,cT⟩;have dD:=cH (wm cT);have z1:=dD.out.size;have da:=cH cT;clear cT)
      | (go_at_call 45;(with_reducible refine (C1.out (wr.alloc (.cells #[.slice none 0 0] 77)).drew (R1.out _)).mono ?_);rintro en w1 ⟨rfl,cT⟩;have ri:w1.heap[wr.heap.size]? = some (.cells #[.slice none 0 0] 77 (0,0)):=early1 cT;have ri:=cH ri;have dD:=cH (b8 cT);have z1:=dD.out.size;have da:=cH cT;clear cT)
      | (go_at_call 45;(with_reducible refine (C1.out (wr.alloc (.cells #[str [],.int .i64 0,.slice none 0 0,.slice none 0 0] 80)).drew (R1.out _)).mono ?_);rintro en w1 ⟨rfl,cT⟩;have rt:w1.heap[wr.heap.size]? = some (.cells #[str [],.int .i64 0,.slice none 0 0,.slice none 0 0] 80 (0,0)):=early1 cT;have rt:=cH rt;have dD:=cH (b8 cT);have z1:=dD.out.size;have da:=cH cT;clear cT)
      | (go_at_call 45;(with_reducible refine (C1.out ((wr.alloc (.cells #[.slice none 0 0] 77)).alloc (.cells #[str [],.int .i64 0,.slice none 0 0,.slice none 0 0] 80)).drew (R2.out _ _)).mono ?_);rintro en w1 ⟨rfl,cT⟩;have ri:w1.heap[wr.heap.size]? = some (.cells #[.slice none 0 0] 77 (0,0)):=(early2 cT).1;have Eh:w1.heap[(wr.heap.size+1)]? = some (.cells #[str [],.int .i64 0,.slice none 0 0,.slice none 0 0] 80 (0,0)):=(early2 cT).2;have ri:=cH ri;have Eh:=cH Eh;have dD:=cH (below_ad2 cT);have z1:=dD.out.size;have da:=cH cT;clear cT)
      | (go_at_call 45;(with_reducible refine (C1.out ((wr.alloc (.cells #[str [],.int .i64 0,.slice none 0 0,.slice none 0 0] 80)).alloc (.cells #[.slice none 0 0] 77)).drew (R2.out _ _)).mono ?_);rintro en w1 ⟨rfl,cT⟩;have rt:w1.heap[wr.heap.size]? = some (.cells #[str [],.int .i64 0,.slice none 0 0,.slice none 0 0] 80 (0,0)):=(early2 cT).1;have Ei:w1.heap[(wr.heap.size+1)]? = some (.cells #[.slice none 0 0] 77 (0,0)):=(early2 cT).2;have rt:=cH rt;have Ei:=cH Ei;have dD:=cH (below_ad2 cT);have z1:=dD.out.size;have da:=cH cT;clear cT))
    all_goals (go_wp2_with fail;go_meet)
    all_goals
     have hHB2:=dS.out.2
     refine ⟨_,s',v',a2,n2,c2,a3,n3,c3,rfl,rfl,?_,?_,?_,fun b hb=>?_⟩
     ·omega
     ·first
       | with_reducible exact gO F9.out _ _ _ _
       | with_reducible exact zY (gO F9.out _ _ _ _)
       | with_reducible exact gO (heap_ne F9.out r9) _ _ _ _
       | with_reducible exact gO (heap_ne F9.out ro) _ _ _ _
       | ((with_reducible refine pB ?_);first | with_reducible exact Eq.refl w2.heap.size | with_reducible exact sizeS _ _ _ | with_reducible exact sizeA _ _)
       | ((with_reducible refine zY (pB ?_));with_reducible exact Eq.refl w2.heap.size)
     ·refine But.toBelow (m:=fun i=>wr.heap.size<=i) ?_ (cC _) (fun i hi h=>by omega)
      (repeat' (first | with_reducible exact But.ofBelow eL.out | with_reducible refine But.alloc ?_ _ | with_reducible refine But.drew ?_ | with_reducible refine But.setCell ?_ (.inr ?_) _));all_goals ((try dsimp only);omega)
     ·have nG:=hHB2 b hb
      refine (Rep.keep fun i o hi ho=>?_).2 _ _ nG
      have cL:=zZ ho
      replace hi:_<=i:=hi
      (try rw [zK] at hi)
      (try rw [zK] at hi)
      refine ⟨⟨by omega,by omega⟩,?_⟩
      (repeat' (first | with_reducible exact ho | with_reducible refine zY ?_ | with_reducible refine heap_ne ?_ ?_))
      all_goals omega
   case rest =>
    rename World=>wx
    obtain ⟨g,s',v',a2,n2,c2,a3,n3,c3,rfl,rfl,rj,AP,fu,BA⟩:=hcut
    have hSQ:zI X x=kE tk x:=by rw [vu HS.out.2.2.2,HS.out.2.2.1]
    have mI:zv (t.args.take (k+1)) (xs.take (k+1))=(kE tk x).map fun b=>bs++[b]:=by
     have h1:t.args.take (k+1)=t.args.take k++[tk]:=by rw [List.take_add_one,HS.out.2.1];rfl
     have h2:xs.take (k+1)=xs.take k++[x]:=by rw [List.take_add_one,HS.out.1];rfl
     rw [h1,h2,yQ _ _ _ _ (by rw [List.length_take,List.length_take];omega),HO.out.2.2.1];rfl
    rw [<- hSQ] at mI
    have aD:=cH mI;clear mI hSQ
    have hzx:=fu.size
    have g0:wx.cell? ⟨g,0,none⟩=some (str s'):=by simp [World.cell?,AP]
    have g1:wx.cell? ⟨g,1,none⟩=some (.int .i64 v'):=by simp [World.cell?,AP]
    have g2:wx.cell? ⟨g,2,none⟩=some (.slice a2 n2 c2):=by simp [World.cell?,AP]
    have g3:wx.cell? ⟨g,3,none⟩=some (.slice a3 n3 c3):=by simp [World.cell?,AP]
    have oo:wx.cell? ⟨w.heap.size,0,none⟩=some (.slice (some ⟨bk,ok,none⟩) t.args.length kc):=(fu.cell (p:=⟨w.heap.size,0,none⟩) h0b).trans rW
    have Ed:=cH (cB fu (cB AP BA));clear fu AP BA C1 C2 R0 R1 R2 rW sD sH
    cases hq:zI X x with
    | none =>
      have hR:zv t.args xs=none:=yJ _ _ (k+1) (by rw [aD.out,hq];rfl)
      have HR:=cH hR;clear hR hq
      simp only [Option.isSome_none]
      go_wp2_with fail
      go_ret2
      unfold w_
      rw [HR.out,Option.isSome_none,Bool.and_false]
      exact ⟨_,_,_,rfl,zzT HO.out.2.2.2.2.1 Ed.out.1,fun bs' _ h=>by simp at h⟩
    | some b =>
      have HB:=cH (cB hq (Ed.out.2.2 b hq));clear hq
      simp only [Option.isSome_some]
      go_wp2_with (at_builtin;refine zG rfl _ _ 78 rfl 80 (.agg #[str [],.int .i64 0,.slice none 0 0,.slice none 0 0]) 4 72 Tryz.underlying78 Tryz.infoN rfl (by decide) (.slice a' k c') k us rfl ?c1 _ 1 [str s',.int .i64 v',.slice a2 n2 c2,.slice a3 n3 c3] rfl ?c2 ?c3 ?c4 ?_)
      case c1=>exact (HO.out.1.keep fun g o _ ho=>by rw [Ed.out.1.block g (zZ ho)];exact ho).alloc _
      case c2=>exact zM.lit4 #[str s',.int .i64 v',.slice a2 n2 c2,.slice a3 n3 c3] rfl (by simp [str,Value.oneCell']) _ (by simp)
      case c3=>unfold maxLen;omega
      case c4=>omega
      intro a7 c7 w7 dB cq ci
      have oZ:=HO.out.2.2.2.2.1.size
      have tW:∀ i,(Value.slice a' k c').ownBlock=some i->i<wr.heap.size:=fun i hi=>HO.out.1.lt hi
      have dG:Below w.heap.size w w7:=by
       have h1:Below w.heap.size w wx:=HO.out.2.2.2.2.1.trans (Ed.out.1.mono oZ)
       refine (h1.alloc h1.size _).trans (cq.toBelow (by rw [zK];have:=h1.size;omega) fun i hi e=>?_)
       have:=HO.out.2.2.2.1 i e;omega
      have eE:∀ i,(Value.slice a7 (k+1) c7).ownBlock=some i->(Value.slice a' k c').ownBlock=some i\/i=wx.heap.size+1:=by
       intro i hi
       rcases ci i hi with h | h
       ·exact .inl h
       ·exact .inr (by simpa using h)
      have eB:∀ (i:Nat) (o:Obj),(Value.slice a' k c').ownBlock≠some i->wx.heap[i]? = some o->w7.heap[i]? = some o:=by
       intro i o hf ho
       rw [cq.block i (by rw [zK];have:=zZ ho;omega) hf];exact zY ho
      have rI:zH (fun i=>w.heap.size<=i/\(Value.slice a7 (k+1) c7).ownBlock≠some i) w7 (zl (bs++[b])) (us++[str s',.int .i64 v',.slice a2 n2 c2,.slice a3 n3 c3]):=by
       rw [encNs_snoc]
       refine zH.append ?_ ?_
       ·exact (Rep.keep fun i o hf ho=>⟨⟨hf.1,fun e=>by
         have:=zZ ho
         rcases eE i e with h | h
         ·exact hf.2 h
         ·omega⟩,eB i o hf.2 (by rw [Ed.out.1.block i (zZ ho)];exact ho)⟩).2 _ _ HO.out.2.1
       ·exact (Rep.keep fun i o hf ho=>⟨⟨by have:=hf.1;omega,fun e=>by
         have:=zZ ho
         rcases eE i e with h | h
         ·have:=tW i h;have:=hf.1;omega
         ·omega⟩,eB i o (fun e=>by have:=tW i e;have:=hf.1;omega) ho⟩).2 _ _ HB.out.2
      have dz:∀ i,(Value.slice a7 (k+1) c7).ownBlock=some i->w.heap.size+1<=i:=by
       intro i hi
       rcases eE i hi with h | h
       ·exact HO.out.2.2.2.1 i h
       ·omega
      have fh:zv (t.args.take (k+1)) (xs.take (k+1))=some (bs++[b]):=by rw [aD.out,HB.out.1];rfl
      have Dl:(bs++[b]).length=k+1:=by rw [List.length_append,HO.out.2.2.2.2.2];rfl
      have se:w7.cell? ⟨w.heap.size,0,none⟩=some (.slice (some ⟨bk,ok,none⟩) t.args.length kc):=by
       rw [cq.cell (p:=⟨w.heap.size,0,none⟩) (by rw [zK];show w.heap.size<_;omega) (fun e=>by have h5:w.heap.size+1<=w.heap.size:=HO.out.2.2.2.1 _ e;omega)]
       exact zX oo
      have H7:=cH (cB dB (cB rI (cB Dl (cB fh (cB dG (cB dz se))))));clear dB rI Dl fh dG dz se cq ci eE eB oo g0 g1 g2 g3
      go_wp2_with fail
      go_roundw
      case rel=>exact ⟨k+1,a7,c7,_,_,by omega,by go_num,rfl,H7.out.1,H7.out.2.1,H7.out.2.2.1,H7.out.2.2.2.1,H7.out.2.2.2.2.1,H7.out.2.2.2.2.2.1,H7.out.2.2.2.2.2.2⟩
      case measure=>simp [intOf];omega
  ·obtain rfl:k=xs.length:=by omega
   have oN:¬ (xs.length:Int)<(xs.length:Int):=by omega
   have dT:=HO.out.2.2.1
   rw [List.take_of_length_le (by rw [HL.out];exact cC _),List.take_length] at dT
   have HRD:=cH dT;clear dT rW
   go_wp2_with fail
   go_ret2
   unfold w_
   rw [decide_eq_true HL.out,HRD.out]
   refine ⟨_,_,_,rfl,HO.out.2.2.2.2.1,fun bs' _ h=>?_⟩
   simp only [Option.some.injEq] at h
   subst h
   refine ⟨HO.out.2.2.2.2.2.symm,?_⟩
   rw [HO.out.2.2.2.2.2]
   exact HO.out.1.rep (fun i hi=>by have:=HO.out.2.2.2.1 i hi;omega) ((Rep.keep fun _ _ hf ho=>⟨hf.1,ho⟩).2 _ _ HO.out.2.1)
def kj (keep:Bool) (most:Nat) (s text:Bs) (xs:List Bs):Option (UInt8×List (Bs×Int)):=(zI s text).bind fun b =>
 if xs.length=(zQ s).1.args.length then (zv (zQ s).1.args xs).bind fun bs=>j0 keep (most-1) [([113],-1)] b (qA [] 0 0 (zQ s).1.args bs) 0 [] else none
def StartPost (keep:Bool) (most:Nat) (s text:Bs) (xs:List Bs) (w:World) (en:Ending) (w':World):Prop :=
 ∃ ra o ok,en=.returned (.tuple #[.pointer (some ⟨ra,0,none⟩),str o,.bool ok])/\Below w.heap.size w w'/\(kj keep most s text xs=none->ok=false) /\
   (∀ c log,kj keep most s text xs=some (c,log)->ok=true/\o=[c]/\∃ mv pt,RS keep most ra log mv pt w'/\(∀ i,MBk ra mv pt i->w.heap.size<=i))
theorem rep_empty {F:Nat->Prop} {w:World} {T:TypeId} {sz:Nat} (g c:Nat):Rep F w (.sl T sz 0 []) (.slice (some ⟨g,0,none⟩) 0 c):=by
 rw [kM]
 exact ⟨by simp,_,c,rfl,Nat.zero_le _,fun h=>by simp at h,.inl rfl⟩
theorem xd:∀ (ts:List Ty) (xs:List Bs) (bs:List Bd),ts.length=xs.length->(∀ t∈ts,zU t<=15)->zv ts xs=some bs->uY bs
 | [],[],bs,_,_,h=>by simp [zv] at h;subst h;simp [uY]
 | [],x::xs,bs,hl,_,h=>by simp at hl
 | t::ts,[],bs,hl,_,h=>by simp at hl
 | t::ts,x::xs,bs,hl,ht,h=>by
   simp only [zv,Option.bind_eq_some_iff,Option.map_eq_some_iff] at h
   obtain ⟨b,h1,bs',h2,rfl⟩:=h
   rw [uY]
   exact ⟨(wH (ht t (by simp)) h1).1.wf,xd ts xs bs' (by simpa using hl) (fun a ha=>ht a (by simp [ha])) h2⟩
theorem hand_own {M:Nat->Prop} {B:Nat} {n0:Nat} {own:List SC} {w w':World} {a:Option Addr} {c:Nat} (hM:∀ i,B<=i->¬ M i) (_:B<=B) (hw:B<=w.heap.size)
 (h:Rep (fun i=>(¬ M i/\i<n0)\/w.heap.size<=i) w' (.sl 136 9 (([]:List SC).length+own.length) (kU ([]++own))) (.slice a (([]:List SC).length+own.length) c)):Rep (fun i=>¬ M i) w' (.sl 136 9 own.length (kU own)) (.slice a own.length c):=by
 rw [List.nil_append,List.length_nil,Nat.zero_add] at h
 exact (Rep.keep fun i o hi ho=>⟨by rcases hi with h | h;exact h.1;exact hM i (by omega),ho⟩).1 _ _ h
theorem but_drewN {m:Nat->Prop} {a b:World} (h:But m a b) (n:Nat):But m a (b.drewN n):=⟨h.os,h.tape,h.output,h.size,h.block⟩
theorem gopl_start {keep:Bool} {most:Nat} {s text:Bs} {xs:List Bs} {b:Bd} {bs:List Bd} (hg:Good (zQ s).1 b) (hl:xs.length=(zQ s).1.args.length) (hr:zv (zQ s).1.args xs=some bs) (h1:1<=most)
 (hR:kj keep most s text xs=j0 keep (most-1) [([113],-1)] b (qA [] 0 0 (zQ s).1.args bs) 0 []) :
 GoPl keep (kj keep most s text xs) most b (qA [] 0 0 (zQ s).1.args bs) 0 [] [([113],-1)]/\bs.length=(zQ s).1.args.length/\bs.length<=15:=by
 have dr:=jd _ _ _ hl.symm hr
 have mA:∀ x∈(zQ s).1.args,zU x<=15:=fun x hx=>by have:=hg.atoms;have hm:=zg (zQ s).1;have:=qO hx;omega
 obtain ⟨AS,hna⟩:=vq _ _ _ hl.symm mA hr
 have ez:=vh b _ hg.fit mA
 have mU:=xd _ _ _ hl.symm mA hr
 have sN:=zd (zQ s).1.args
 have hm:=zg (zQ s).1
 have ha:=hg.atoms
 have hl15:bs.length<=15:=by omega
 have hfh:za (zp (([]:List SC).map SC.kind) (zQ s).1.args) bs:=by simpa [zp] using AS
 obtain ⟨k1,k2⟩:=gT (env:=[]) (by rw [uw];trivial) 0 (zQ s).1.args bs 0 hfh mU
 have lJ:=vG [] 0 (zQ s).1.args bs 0 (by omega)
 refine ⟨⟨.inl ⟨by simp;omega,hR⟩,hg.wf,k1,by rw [k2];exact hg.fit,ez,?_,by rw [lJ];simp;omega,by simp,by simp,by simp,?_⟩,by omega,hl15⟩
 ·exact bC (n:=1) (m:=0) (env:=[]) (by rw [uR];trivial) (by simp) (by omega) _ _ 0 (by omega) hna
 ·intro i q p hi
  rcases i with _ | i
  ·simp at hi;obtain ⟨rfl,rfl⟩:=hi;simp
  ·simp at hi
set_option maxRecDepth 100000 in
theorem l4Start_any (keep:Bool) (HM:cX keep) (HP:cU keep) (most:Nat) (s text:Bs) (xs:List Bs) (a:Option Addr) (c:Nat) (w:World) (hx:jQ w a xs) (hs:Lim s.length) (ht:Lim text.length) (mJ:∀ x∈xs,Lim x.length) (n5:Lim xs.length) (h1:1<=most) (eQ:most<=100000) :
 Calls Tryz.prog 14 #[str s,str text,.slice a xs.length c,.int .i64 (most:Nat),.bool keep] w (StartPost keep most s text xs w):=by
 have HX:=cH (cB hx (cB mJ (cB n5 (cB HM HP))));clear hx mJ n5 HM HP
 go_enter Tryz.func14,Tryz.ntmps14
 go_wp2_with fail
 refine (y7 s text hs ht w).mono ?_
 rintro en w1 ⟨ta,tc,s',v',a2,n2,c2,a3,n3,c3,rfl,cT,dy,dX⟩
 have H1:=cH (cB cT (cB dy dX));clear cT dy dX
 cases hq:zI s text with
 | none =>
   have hR:kj keep most s text xs=none:=by unfold kj;rw [hq];rfl
   have HR:=cH hR;clear hR hq
   simp only [Option.isSome_none]
   go_wp2_with fail
   go_ret3
   refine ⟨_,[],false,rfl,?_,fun _=>rfl,fun c log h=>by rw [HR.out] at h;simp at h⟩
   (repeat' (first | with_reducible exact H1.out.1 | refine Below.alloc ?_ ?_ _))
   all_goals ((try simp only [zK]);have:=H1.out.1.size;omega)
 | some b =>
   have hg:=kd hq
   have HQ:=cH (cB hq hg.1);clear hq hg
   simp only [Option.isSome_some]
   go_upto_region 5 with (fail)
   obtain ⟨W,hW⟩:=zzN (((((w1.alloc (.cells #[.slice ta (zQ s).1.args.length tc] 77)).alloc (.cells #[str s',.int .i64 v',.slice a2 n2 c2,.slice a3 n3 c3] 80)).alloc (.cells #[] 9)).alloc (.cells #[] 3)).alloc (.cells #[.slice (some ⟨w1.heap.size+2,0,none⟩) 0 0,.slice (some ⟨w1.heap.size+3,0,none⟩) 0 0,.int .i64 0,.int .i64 (most:Nat),.bool keep,.bool false] 46))
   have cO:Below w1.heap.size w1 W:=by
    rw [<- hW]
    exact (((((cE _ _).alloc (cC _) _).alloc (by simp) _).alloc (by simp;omega) _).alloc (by simp;omega) _).alloc (by simp;omega) _
   have ni:W.heap.size=w1.heap.size+5:=by rw [<- hW];simp
   have hWT:W.heap[w1.heap.size]? = some (.cells #[.slice ta (zQ s).1.args.length tc] 77 (0,0)):=by
    rw [<- hW];exact zY (zY (zY (zY (zT _ _))))
   have hWN:W.heap[w1.heap.size+1]? = some (.cells #[str s',.int .i64 v',.slice a2 n2 c2,.slice a3 n3 c3] 80 (0,0)):=by
    rw [<- hW];exact zY (zY (zY (heap_new2 _ _ _)))
   have hWR:W.heap[w1.heap.size+4]? = some (.cells #[.slice (some ⟨w1.heap.size+2,0,none⟩) 0 0,.slice (some ⟨w1.heap.size+3,0,none⟩) 0 0,.int .i64 0,.int .i64 (most:Nat),.bool keep,.bool false] 46 (0,0)):=by
    rw [<- hW]
    exact pB (by simp)
   have BC:RS keep most (w1.heap.size+4) [] (.slice (some ⟨w1.heap.size+2,0,none⟩) 0 0) (.slice (some ⟨w1.heap.size+3,0,none⟩) 0 0) W:=by
    refine ⟨?_,⟨_,_,_,_,_,_,rfl,rfl⟩,fun _ _=>⟨?_,?_⟩,fun g hg=>?_⟩
    ·rw [hWR,decide_eq_false (by simp)];rfl
    ·rw [<- hW]
     exact (((Own.litAt #[] 0 (w1.heap.size+2) (by simp) (by decide) rfl).alloc _).alloc _)
    ·rw [<- hW]
     exact ((Own.litAt #[] 0 (w1.heap.size+3) (by simp) (by decide) rfl).alloc _)
    ·simp [Value.ownBlock] at hg
     omega
   have hxW:jQ W a xs:=HX.out.1.below (zzT H1.out.1 cO)
   have dy:Rep (fun i=>i<w1.heap.size/\w.heap.size<=i) W (jA (zQ s).1) (.slice ta (zQ s).1.args.length tc) :=
    (Rep.keep fun i o hi ho=>⟨⟨zZ ho,hi⟩,by rw [cO.block i (zZ ho)];exact ho⟩).1 _ _ H1.out.2.1
   have t0:W.cell? ⟨w1.heap.size,0,none⟩=some (.slice ta (zQ s).1.args.length tc):=by simp [World.cell?,hWT]
   rw [hW]
   have HW:=cH (cB cO (cB ni (cB hWT (cB hWN (cB BC (cB hxW dy))))));clear cO ni hWT hWN hWR BC hxW dy hW
   have CA:=cH (l4Args_any _ (zQ s).1 _ xs a c W HW.out.2.2.2.2.2.2 HQ.out.2.atoms HW.out.2.2.2.2.2.1 HX.out.2.1 HX.out.2.2.1)
   go_wp2_with fail
   refine CA.out.mono ?_
   rintro en w2 ⟨la,ln,lc,rfl,cS,fC⟩
   have HY:=cH (cB cS fC);clear cS fC
   cases hv:(decide (xs.length=(zQ s).1.args.length) && (zv (zQ s).1.args xs).isSome) with
   | false =>
     have hR:kj keep most s text xs=none:=by
      unfold kj;rw [HQ.out.1];simp only [Option.bind_some]
      by_cases hl:xs.length=(zQ s).1.args.length
      ·rw [if_pos hl]
       rw [decide_eq_true hl,Bool.true_and] at hv
       cases hr:zv (zQ s).1.args xs with
       | none=>rfl
       | some y=>rw [hr] at hv;simp at hv
      ·rw [if_neg hl]
     have HR:=cH hR;clear hR hv
     go_wp2_with fail
     go_ret3
     refine ⟨_,[],false,rfl,?_,fun _=>rfl,fun c log h=>by rw [HR.out] at h;simp at h⟩
     have h1:=zzT H1.out.1 HW.out.1
     exact zzT h1 HY.out.1
   | true =>
     rw [Bool.and_eq_true,decide_eq_true_eq] at hv
     obtain ⟨hl,i6⟩:=hv
     obtain ⟨bs,nj⟩:=Option.isSome_iff_exists.1 i6
     obtain ⟨lU,AF⟩:=HY.out.2 bs hl nj
     subst lU
     have hR:kj keep most s text xs=j0 keep (most-1) [([113],-1)] b (qA [] 0 0 (zQ s).1.args bs) 0 []:=by
      unfold kj;rw [HQ.out.1];simp only [Option.bind_some];rw [if_pos hl,nj];rfl
     have HR:=cH (cB hR (cB hl (cB nj AF)));clear hR hl nj AF i6
     have BB:=HW.out.2.2.2.2.1.below HY.out.1
     have CM:=cH (HX.out.2.2.2.1 most (w1.heap.size+4) [] _ _ [113] (-1) w2 BB (Nat.zero_le _) eQ (by simp))
     clear BB
     go_wp2_with fail
     refine CM.out.mono ?_
     rintro en w3 ⟨dN,dM,rfl,cr,rO,fq⟩
     obtain ⟨dU,iA,lA⟩:=gopl_start (keep:=keep) (most:=most) HQ.out.2 HR.out.2.1 HR.out.2.2.1 h1 HR.out.1
     have h1z:=HW.out.2.1
     have rS:=HY.out.1.size
     have aN:=cr.size
     have hne:∀ i,i<w1.heap.size+2->¬ MBk (w1.heap.size+4) (.slice (some ⟨w1.heap.size+2,0,none⟩) 0 0) (.slice (some ⟨w1.heap.size+3,0,none⟩) 0 0) i:=by
      rintro i hi (h | h | h)
      ·omega
      ·simp [Value.ownBlock] at h;omega
      ·simp [Value.ownBlock] at h;omega
     have key:∀ (i:Nat) (o:Obj),i<w1.heap.size+2->W.heap[i]? = some o->w3.heap[i]? = some o:=by
      intro i o hi ho
      have h2:w2.heap[i]? = some o:=by rw [HY.out.1.block i (zZ ho)];exact ho
      rw [cr.block i (zZ h2) (hne i hi)];exact h2
     have hT3:=key _ _ (by omega) HW.out.2.2.1
     have DJ:=key _ _ (by omega) HW.out.2.2.2.1
     have rO:RS keep most (w1.heap.size+1+1+1+1) [([113],-1)] dN dM w3:=rO
     have Cg:∀ i,w1.heap.size<=i\/i<w1.heap.size->i<w2.heap.size->¬ (w1.heap.size+2<=i/\i<=w1.heap.size+4)->¬ MBk (w1.heap.size+1+1+1+1) dN dM i:=by
      intro i _ hi hn h
      rcases fq i h with h | h
      ·rcases h with h | h | h
       ·omega
       ·simp [Value.ownBlock] at h;omega
       ·simp [Value.ownBlock] at h;omega
      ·omega
     have t0:w3.cell? ⟨w1.heap.size,0,none⟩=some (.slice ta (zQ s).1.args.length tc):=by simp [World.cell?,hT3]
     have n0:w3.cell? ⟨w1.heap.size+1,0,none⟩=some (str s'):=by simp [World.cell?,DJ]
     have n1:w3.cell? ⟨w1.heap.size+1,1,none⟩=some (.int .i64 v'):=by simp [World.cell?,DJ]
     have Bg:w3.cell? ⟨w1.heap.size+1,2,none⟩=some (.slice a2 n2 c2):=by simp [World.cell?,DJ]
     have Bf:w3.cell? ⟨w1.heap.size+1,3,none⟩=some (.slice a3 n3 c3):=by simp [World.cell?,DJ]
     have lX:Rep (fun i=>¬ MBk (w1.heap.size+1+1+1+1) dN dM i/\i<w3.heap.size) w3 (.sl 80 4 bs.length (zl bs)) (.slice la bs.length lc) :=
      (Rep.keep fun i o hi ho=>by
       have hi:W.heap.size<=i:=hi
       have cL:=zZ ho
       exact ⟨⟨Cg i (.inl (by omega)) cL (by omega),by omega⟩,by
        rw [cr.block i cL (by
         rintro (h | h | h)
         ·omega
         ·simp [Value.ownBlock] at h;omega
         ·simp [Value.ownBlock] at h;omega)]
        exact ho⟩).1 _ _ HR.out.2.2.2
     have old:∀ (i:Nat) (o:Obj),i<w1.heap.size->w1.heap[i]? = some o->(¬ MBk (w1.heap.size+1+1+1+1) dN dM i/\i<w3.heap.size)/\w3.heap[i]? = some o:=by
      intro i o hi ho
      have dQ:W.heap[i]? = some o:=by rw [HW.out.1.block i hi];exact ho
      exact ⟨⟨Cg i (.inr hi) (by omega) (by omega),by omega⟩,key i o (by omega) dQ⟩
     have i1:Rep (fun i=>¬ MBk (w1.heap.size+1+1+1+1) dN dM i/\i<w3.heap.size) w3 (jA (zQ s).1) (.slice ta (zQ s).1.args.length tc) :=
      (Rep.keep fun i o hi ho=>old i o (zZ ho) ho).1 _ _ H1.out.2.1
     have tM:zH (fun i=>¬ MBk (w1.heap.size+1+1+1+1) dN dM i/\i<w3.heap.size) w3 (kT b) [str s',.int .i64 v',.slice a2 n2 c2,.slice a3 n3 c3] :=
      (Rep.keep fun i o hi ho=>old i o (zZ ho) ho).2 _ _ (H1.out.2.2 b HQ.out.1)
     obtain ⟨_,_,_,_,_,he0,_⟩:=jw tM
     simp only [List.cons.injEq] at he0
     obtain rfl:s'=z8 b:=str_inj he0.1
     have CH:Hid (∀ wz:World,Below w3.heap.size w3 wz->∀ g1 k1 g2 k2:Nat,Calls Tryz.prog 34 #[.slice (some ⟨g1,0,none⟩) 0 k1,.slice la bs.length lc,.agg #[.slice ta (zQ s).1.args.length tc],.slice (some ⟨g2,0,none⟩) 0 k2,.int .i64 0] wz (pO (fun i=>¬ MBk (w1.heap.size+1+1+1+1) dN dM i/\i<w3.heap.size) [] (qA [] 0 0 (zQ s).1.args bs) wz)):=cH (fun (wz:World) (hz:Below w3.heap.size w3 wz) (g1 k1 g2 k2:Nat)=>p_ (fun i=>¬ MBk (w1.heap.size+1+1+1+1) dN dM i/\i<w3.heap.size) [] [] bs (zQ s).1 0 (.slice (some ⟨g1,0,none⟩) 0 k1) (.slice la bs.length lc) (.slice ta (zQ s).1.args.length tc) (.slice (some ⟨g2,0,none⟩) 0 k2) wz
      (rep_empty g1 k1) (Rep.below hz (fun _ h=>h) lX) (Rep.below hz (fun _ h=>h) i1) (rep_empty g2 k2) (by simp) iA (by omega))
     have CG:Hid (∀ wz:World,Below w3.heap.size w3 wz->∀ ev:Value,Rep (fun i=>¬ MBk (w1.heap.size+1+1+1+1) dN dM i) wz (.sl 136 9 (qA [] 0 0 (zQ s).1.args bs).length (kU (qA [] 0 0 (zQ s).1.args bs))) ev->Calls Tryz.prog 33 #[.pointer (some ⟨w1.heap.size+1+1+1+1,0,none⟩),.agg #[str (z8 b),.int .i64 v',.slice a2 n2 c2,.slice a3 n3 c3],ev,.int .i64 0] wz (GoPost keep (kj keep most s text xs) most (w1.heap.size+1+1+1+1) dN dM wz)):=cH (fun (wz:World) (hz:Below w3.heap.size w3 wz) (ev:Value) (he:Rep (fun i=>¬ MBk (w1.heap.size+1+1+1+1) dN dM i) wz (.sl 136 9 (qA [] 0 0 (zQ s).1.args bs).length (kU (qA [] 0 0 (zQ s).1.args bs))) ev) =>
      l4Go_any keep HX.out.2.2.2.1 HX.out.2.2.2.2 (kj keep most s text xs) most (w1.heap.size+1+1+1+1) b (qA [] 0 0 (zQ s).1.args bs) 0 [([113],-1)] dN dM v' a2 n2 c2 a3 n3 c3 ev wz (rO.below hz) dU (zH.below hz (fun _ h=>h.1) tM) he eQ)
     have fi:∀ wz:World,Below w3.heap.size w3 wz->wz.cell? ⟨w1.heap.size,0,none⟩=some (.slice ta (zQ s).1.args.length tc)/\wz.cell? ⟨w1.heap.size+1,0,none⟩=some (str (z8 b))/\wz.cell? ⟨w1.heap.size+1,1,none⟩=some (.int .i64 v')/\wz.cell? ⟨w1.heap.size+1,2,none⟩=some (.slice a2 n2 c2)/\wz.cell? ⟨w1.heap.size+1,3,none⟩=some (.slice a3 n3 c3) :=
      fun wz hz=>⟨(hz.cell (p:=⟨w1.heap.size,0,none⟩) (by simp only;omega)).trans t0,(hz.cell (p:=⟨w1.heap.size+1,0,none⟩) (by simp only;omega)).trans n0,(hz.cell (p:=⟨w1.heap.size+1,1,none⟩) (by simp only;omega)).trans n1,(hz.cell (p:=⟨w1.heap.size+1,2,none⟩) (by simp only;omega)).trans Bg,(hz.cell (p:=⟨w1.heap.size+1,3,none⟩) (by simp only;omega)).trans Bf⟩
     have tO:∀ w5 w6:World,Below w3.heap.size w3 w5->But (MBk (w1.heap.size+1+1+1+1) dN dM) w5 w6->w6.cell? ⟨w1.heap.size,0,none⟩=some (.slice ta (zQ s).1.args.length tc)/\w6.cell? ⟨w1.heap.size+1,0,none⟩=some (str (z8 b))/\w6.cell? ⟨w1.heap.size+1,1,none⟩=some (.int .i64 v')/\w6.cell? ⟨w1.heap.size+1,2,none⟩=some (.slice a2 n2 c2)/\w6.cell? ⟨w1.heap.size+1,3,none⟩=some (.slice a3 n3 c3):=by
      intro w5 w6 h5 h6
      obtain ⟨k0,k1,k2,k3,k4⟩:=fi w5 h5
      have m0:¬ MBk (w1.heap.size+1+1+1+1) dN dM w1.heap.size:=Cg _ (.inl (cC _)) (by omega) (by omega)
      have m1:¬ MBk (w1.heap.size+1+1+1+1) dN dM (w1.heap.size+1):=Cg _ (.inl (by omega)) (by omega) (by omega)
      exact ⟨kF h6 k0 m0,kF h6 k1 m1,kF h6 k2 m1,kF h6 k3 m1,kF h6 k4 m1⟩
     have ch:∀ i,w3.heap.size<=i->¬ MBk (w1.heap.size+1+1+1+1) dN dM i:=fun i hi h=>by have:=rO.lt h;omega
     have K1:=cH fi;have K2:=cH tO;have HN:=cH (cB ch (cB iA lA))
     have lJ:=vG [] 0 (zQ s).1.args bs 0 iA.symm
     have HOL:=cH lJ
     have B0:Below w3.heap.size w3 ((w3.alloc (.cells #[] 136)).alloc (.cells #[] 136)).drew:=(((cE _ _).alloc (cC _) _).alloc (by rw [zK];omega) _).drew
     have hnw:∀ i,MBk (w1.heap.size+1+1+1+1) dN dM i->w.heap.size<=i:=by
      intro i h
      have eK:=H1.out.1.size
      rcases fq i h with h | h
      ·rcases h with h | h | h
       ·omega
       ·simp [Value.ownBlock] at h;omega
       ·simp [Value.ownBlock] at h;omega
      ·omega
     have hB3:Below w.heap.size w w3:=by
      have eK:=H1.out.1.size
      have h1:=H1.out.1.trans (HW.out.1.mono eK)
      refine (zzT h1 HY.out.1).trans (cr.toBelow (by omega) fun i hi h=>hne i (by omega) h)
     have HE:=cH (cB hnw hB3);clear hnw hB3
     have H3:=cH (cB cr (cB rO (cB fq (cB dU B0))))
     clear fi tO ch iA lA lJ dU cr rO fq lX i1 tM old key hT3 DJ Cg hne B0 he0
     go_wp2_with fail
     go_region_held3 (fun wz=>wz.cell? ⟨w1.heap.size,0,none⟩=some (.slice ta (zQ s).1.args.length tc)/\wz.cell? ⟨w1.heap.size+1,0,none⟩=some (str (z8 b))/\wz.cell? ⟨w1.heap.size+1,1,none⟩=some (.int .i64 v')/\wz.cell? ⟨w1.heap.size+1,2,none⟩=some (.slice a2 n2 c2)/\wz.cell? ⟨w1.heap.size+1,3,none⟩=some (.slice a3 n3 c3))
      (first
       | with_reducible exact k6
       | with_reducible exact k4
       | with_reducible exact ⟨t0,n0,n1,Bg,Bf⟩
       | go_keep)
      (first
       | (go_at_call 33;(with_reducible refine (CG.out w4 b4 _ he4).mono ?_);rintro en w6 ⟨mv6,pt6,log6,o6,rfl,cd,aA,rz,h6n,h6s⟩;have k6:=K2.out w4 w6 b4 cd;have HF:=cH (cB b4 (cB cd (cB aA (cB rz (cB h6n h6s)))));clear cd aA rz h6n h6s)
       | (go_at_call 34;(with_reducible refine (CH.out _ H3.out.2.2.2.2 _ _ _ _).mono ?_);rintro en w4 ⟨a4,c4,rfl,dJ,tH⟩;have b4:=zzT H3.out.2.2.2.2 dJ;have k4:=K1.out w4 b4;have he4:=hand_own HN.out.1 (cC _) H3.out.2.2.2.2.size tH;clear dJ tH))
     all_goals
      have Dn:=HF.out.2.2.1.bad
      go_wp2_with fail
      go_quiet (fail)
      go_wp2_with fail
      go_ret3
      refine ⟨_,o6,_,rfl,?_,fun h=>?_,fun c log h=>?_⟩
      ·have h4:=zzT HE.out.2 HF.out.1
       exact h4.trans ((but_drewN HF.out.2.1 _).toBelow h4.size fun i hi h=>by have:=HE.out.1 i h;omega)
      ·have:=HF.out.2.2.2.2.1 h
       simpa using this
      ·obtain ⟨e1,rfl,e3⟩:=HF.out.2.2.2.2.2 c log h
       refine ⟨by simpa using e3,e1,mv6,pt6,HF.out.2.2.1.but (m:=fun _=>False) (but_drewN (But.refl _ _) _) (fun _ _ h=>h),fun i hi=>?_⟩
       rcases HF.out.2.2.2.1 i hi with h | h
       ·exact HE.out.1 i h
       ·have:=HF.out.1.size;have:=HE.out.2.size;omega
def Made (g:Nat) (xs:List Bs) (k:Nat) (w:World):Prop :=
 ∃ Y:Array Value,w.heap[g]? = some (.cells Y 9 (0,0))/\Y.size=xs.length/\∀ (j:Nat) (s:Bs),j<k->xs[j]? = some s->Y[j]? = some (str s)
theorem Made.cell {g:Nat} {xs:List Bs} {k:Nat} {w:World} (h:Made g xs k w) (hk:k<xs.length):(∃ u,w.cell? ⟨g,k,none⟩=some u)/\w.frozen? ⟨g,k,none⟩=false:=by
 obtain ⟨Y,hY,hs,_⟩:=h
 exact ⟨⟨Y[k]'(by omega),by simp [World.cell?,hY,show k<Y.size by omega]⟩,by simp [World.frozen?,hY]⟩
theorem Made.put {g:Nat} {xs:List Bs} {k:Nat} {w:World} (h:Made g xs k w) {s:Bs} (hk:xs[k]? = some s):Made g xs (k+1) (w.setCell ⟨g,k,none⟩ (str s)):=by
 obtain ⟨Y,hY,hs,hj⟩:=h
 refine ⟨Y.setIfInBounds k (str s),zu hY,by simp [hs],fun j s' hj' fE=>?_⟩
 have cL:=(List.getElem?_eq_some_iff.1 hk).1
 rcases Nat.lt_or_ge j k with h | h
 ·rw [Array.getElem?_setIfInBounds_ne (by omega)];exact hj j s' h fE
 ·obtain rfl:j=k:=by omega
  rw [hk] at fE;simp at fE;subst fE
  rw [Array.getElem?_setIfInBounds_self_of_lt (by omega)]
def resOf {α:Type}:Option (UInt8×α)->Bs×Bool
 | none=>([],false)
 | some x=>([x.1],true)
theorem run_eq (keep:Bool) (most:Nat) (s text:Bs) (xs:List Bs):(kV most s text xs=none->kj keep most s text xs=none)/\∀ c log,kV most s text xs=some (c,log)->∃ log',kj keep most s text xs=some (c,log')/\(keep=true->log'=log):=by
 unfold kV kj
 rw [vj]
 cases hq:zI s text with
 | none=>exact ⟨fun _=>rfl,fun c log h=>by simp at h⟩
 | some b =>
   have hg:=(kd hq).1
   simp only [Option.map_some,Option.bind_some]
   by_cases hl:xs.length=(zQ s).1.args.length
   ·rw [if_pos hl,if_pos hl.symm]
    cases hr:zv (zQ s).1.args xs with
    | none=>exact ⟨fun _=>rfl,fun c log h=>by simp at h⟩
    | some bs =>
      simp only [Option.bind_some]
      have mA:∀ x∈(zQ s).1.args,zU x<=15:=fun x hx=>by have:=hg.atoms;have hm:=zg (zQ s).1;have:=qO hx;omega
      have dr:=jd _ _ _ hl.symm hr
      obtain ⟨AS,_⟩:=vq _ _ _ hl.symm mA hr
      have mU:=xd _ _ _ hl.symm mA hr
      have hfh:za (zp (([]:List SC).map SC.kind) (zQ s).1.args) bs:=by simpa [zp] using AS
      obtain ⟨k1,k2⟩:=gT (env:=[]) (by rw [uw];trivial) 0 (zQ s).1.args bs 0 hfh mU
      have ft:jH keep [([113],(-1:Int))] [] []:=by rw [jH]
      have sQ:=pX (keep:=keep) (log:=[([113],(-1:Int))]) ft (m:=0) (path:=[]) (q:=[113]) (p:=-1) (fun _=>⟨rfl,rfl⟩) (zQ s).1.args bs 0 (by omega)
      have hh:=run_same keep (most-1) [([113],-1)] b (qA [] 0 0 (zQ s).1.args bs) 0 [] (zD [] 0 [] 0 bs) [] [] hg.wf k1 (by rw [k2];exact hg.fit) (by simp) sQ rfl (fun _=>⟨[113],-1,rfl,rfl⟩)
      unfold v8
      constructor
      ·intro h
       rw [Option.map_eq_none_iff] at h
       exact hh.1 h
      ·intro c log h
       rw [Option.map_eq_some_iff] at h
       obtain ⟨⟨c',ms⟩,h1,h2⟩:=h
       simp only [Prod.mk.injEq] at h2
       obtain ⟨rfl,rfl⟩:=h2
       exact hh.2 _ _ h1
   ·rw [if_neg hl,if_neg (fun h=>hl h.symm)]
    exact ⟨fun _=>rfl,fun c log h=>by simp at h⟩
theorem res_same (keep:Bool) (most:Nat) (s text:Bs) (xs:List Bs):resOf (kj keep most s text xs)=resOf (kV most s text xs):=by
 obtain ⟨h1,h2⟩:=run_eq keep most s text xs
 cases h:kV most s text xs with
 | none=>rw [h1 h]
 | some x =>
   obtain ⟨log',h3,_⟩:=h2 x.1 x.2 h
   rw [h3];rfl
def markT (k:Nat):Bs:=109::dec k
def marksS (k n:Nat):List Value:=(List.range n).map fun i=>str (markT (k+i))
def marksI (k n:Nat):List Value:=(List.range n).map fun i:Nat=>Value.int .i64 ((k:Int)+(i:Int))
def cG (k j:Nat) (O:Bs):Prop:=dec k=(if j=0 then [] else dec j)++O/\j<=k
theorem cG.next {k j:Nat} {O:Bs} (h:cG k j O) (hj:0<j):cG k (j / 10) ([jC (j % 10)]++O):=by
 obtain ⟨h1,h2⟩:=h
 refine ⟨?_,cR (Nat.div_le_self _ _) h2⟩
 rw [if_neg (by omega)] at h1
 rw [h1]
 by_cases mQ:j<10
 ·rw [jW mQ,Nat.div_eq_of_lt mQ,Nat.mod_eq_of_lt mQ];simp
 ·rw [ud mQ,if_neg (by omega),List.append_assoc]
theorem cG.len {k j:Nat} {O:Bs} (h:cG k j O) (hk:k<=100000000):O.length<=9:=by
 have:=qn 8 k (by omega)
 rw [h.1,List.length_append] at this
 omega
theorem cG.done {k:Nat} {O:Bs} (h:cG k 0 O):dec k=O:=by have:=h.1;simpa using this
theorem Own.open1 {w:World} {e:TypeId} {a:Option Addr} {n c:Nat} {xs:List Value} (h:Own w e 1 (.slice a n c) n xs) {j:Nat} (hj:j<n) :
 ∃ g,a=some ⟨g,0,none⟩/\g<w.heap.size/\(Value.slice a n c).ownBlock=some g/\(∃ u,xs[j]? = some u/\w.cell? ⟨g,j,none⟩=some u)/\w.frozen? ⟨g,j,none⟩=false:=by
 obtain ⟨hl,⟨_,h0⟩ | ⟨g,cap,cur,hv,_,hg,nZ,_,hcs,d6⟩⟩:=h
 ·omega
 ·simp only [Value.slice.injEq] at hv
  obtain ⟨rfl,_,rfl⟩:=hv
  have hjc:j<cur.size:=by omega
  refine ⟨g,rfl,zZ hg,rfl,⟨cur[j],?_,?_⟩,?_⟩
  ·rw [<- d6,List.getElem?_take,if_pos (by omega)];simp [hjc]
  ·simp [World.cell?,hg,hjc]
  ·simp [World.frozen?,hg]
theorem Own.put1 {w:World} {e:TypeId} {g n c:Nat} {xs:List Value} (h:Own w e 1 (.slice (some ⟨g,0,none⟩) n c) n xs) (j:Nat) (u:Value):Own (w.setCell ⟨g,j,none⟩ u) e 1 (.slice (some ⟨g,0,none⟩) n c) n (xs.set j u):=by
 obtain ⟨hl,⟨h0,_⟩ | ⟨g',cap,cur,hv,h0,hg,nZ,o0,hcs,d6⟩⟩:=h
 ·cases h0
 ·simp only [Value.slice.injEq,Option.some.injEq,Addr.mk.injEq] at hv
  obtain ⟨⟨rfl,_,_⟩,_,rfl⟩:=hv
  refine ⟨by simpa using hl,.inr ⟨g,c,cur.setIfInBounds j u,rfl,h0,zu hg,nZ,o0,by simpa using hcs,?_⟩⟩
  rw [Array.toList_setIfInBounds,<- d6,List.take_set]
theorem Own.strs {w:World} {e:TypeId} {a:Option Addr} {n c:Nat} {xs:List Bs} (h:Own w e 1 (.slice a n c) n (xs.map str)):jQ w a xs:=by
 intro k s hs
 have hk:k<n:=by
  have:=h.1
  have h2:=(List.getElem?_eq_some_iff.1 hs).1
  simp at this;omega
 obtain ⟨g,rfl,_,_,⟨u,hu,hc⟩,_⟩:=h.open1 hk
 rw [List.getElem?_map,hs] at hu
 simp at hu
 exact ⟨g,0,rfl,by rw [Nat.zero_add,hu];exact hc⟩
section
variable {P:Program} {ops:Array Oper} {Q:Exit->Act->World->Prop} {md:Region.Mode}
def set1 (b:Nat->Bool) (i:Nat):Nat->Bool:=fun k=>if k=i then true else b k
def y6 (L:Array Bool):Nat->Bool:=fun k=>L.getD k false
theorem lsOf_set (L:Array Bool) (i:Nat) (h:i<L.size):y6 (L.setIfInBounds i true)=set1 (y6 L) i:=by
 funext k
 unfold y6 set1
 by_cases hk:k=i
 ·subst hk;rw [if_pos rfl];simp [h]
 ·rw [if_neg hk];simp only [Array.getD_eq_getD_getElem?];rw [Array.getElem?_setIfInBounds_ne (fun e=>hk e.symm)]
def pP (L:Array Bool):Nat:=(L.toList.filter fun x=>!x).length
theorem openOf_set (L:Array Bool) (i:Nat) (h:i<L.size) (hf:L.getD i true=false):pP (L.setIfInBounds i true)+1=pP L:=by
 unfold pP
 rw [Array.toList_setIfInBounds]
 have key:∀ (l:List Bool) (i:Nat),i<l.length->l.getD i true=false->((l.set i true).filter fun x=>!x).length+1=(l.filter fun x=>!x).length:=by
  intro l
  induction l with
  | nil=>intro i h;simp at h
  | cons x l ih =>
    intro i h hf
    cases i with
    | zero=>simp at hf;subst hf;simp
    | succ i =>
      have:=ih i (by simpa using h) (by simpa using hf)
      simp only [List.set_cons_succ,List.filter_cons]
      cases x <;> simp <;> omega
 refine key _ i (by simpa using h) ?_
 simpa [Array.getD_eq_getD_getElem?,List.getD_eq_getElem?_getD] using hf
theorem wpAny_inv {I:(Nat->Bool)->Act->World->Prop} (DC:∀ (i:Nat) (o:Oper),ops[i]? = some o->∀ e∈o.after,e.on<i)
 (step:∀ (b:Nat->Bool) (a:Act) (w:World) (i:Nat) (o:Oper),ops[i]? = some o->b i=false->(∀ e∈o.after,Region.binds md e=true->b e.on=true)->I b a w ->
  ∀ K':Act->World->Prop,(∀ a w,I (set1 b i) a w->K' a w)->if Region.wanted o (yielded ops a.tmps)=true then Oper.wp P o a w K' Q else K' (a.put o.dst undef) w)
 (done:∀ (b:Nat->Bool) (a:Act) (w:World),(∀ i,i<ops.size->b i=true)->I b a w->Q .normal a w) :
 ∀ (fuel:Nat) (L:Array Bool) (a:Act) (w:World),L.size=ops.size->pP L<=fuel->I (y6 L) a w->wpAny P md ops Q fuel L a w:=by
 have oE:∀ (L:Array Bool),L.size=ops.size->Region.ready md ops L=[]->∀ i,i<ops.size->y6 L i=true:=by
  intro L hL hr i
  induction i using Nat.strongRecOn with
  | _ i ih =>
    intro hi
    cases hb:y6 L i with
    | true=>rfl
    | false =>
      exfalso
      have:i∈Region.ready md ops L:=by
       unfold Region.ready
       rw [List.mem_filter]
       refine ⟨List.mem_range.2 hi,?_⟩
       have ho:ops[i]? = some ops[i]:=by simp [hi]
       rw [ho]
       have h1:L.getD i true=false:=by
        unfold y6 at hb
        have h2:L[i]? = some L[i]:=by simp [hL,hi]
        simp only [Array.getD_eq_getD_getElem?,h2,Option.getD_some] at hb ⊢
        exact hb
       simp only [h1,Bool.not_false,Bool.true_and,Option.map_some,Option.getD_some]
       rw [Array.all_eq_true']
       intro e he
       rw [Bool.or_eq_true]
       right
       exact ih e.on (DC i _ ho e he) (by have:=DC i _ ho e he;omega)
      rw [hr] at this;simp at this
 intro fuel
 induction fuel with
 | zero =>
   intro L a w hL hf hI
   have dC:∀ i,i<ops.size->y6 L i=true:=by
    intro i hi
    cases hb:y6 L i with
    | true=>rfl
    | false =>
      exfalso
      have:pP L=0:=by omega
      unfold pP at this
      rw [List.length_eq_zero_iff,List.filter_eq_nil_iff] at this
      unfold y6 at hb
      have h2:L[i]? = some L[i]:=by simp [hL,hi]
      simp only [Array.getD_eq_getD_getElem?,h2,Option.getD_some] at hb
      have:=this L[i] (by simp)
      rw [hb] at this;simp at this
   rw [wpAny]
   refine ⟨?_,done _ _ _ dC hI⟩
   cases hr:Region.ready md ops L with
   | nil=>rfl
   | cons i rs =>
     exfalso
     have hm:i∈Region.ready md ops L:=by rw [hr];simp
     unfold Region.ready at hm
     rw [List.mem_filter,List.mem_range] at hm
     obtain ⟨hi,h2⟩:=hm
     have:=dC i hi
     unfold y6 at this
     have h3:L[i]? = some L[i]:=by simp [hL,hi]
     simp only [Array.getD_eq_getD_getElem?,h3,Option.getD_some] at this h2
     rw [this] at h2;simp at h2
 | succ fuel ih =>
   intro L a w hL hf hI
   rw [wpAny]
   refine ⟨fun hr=>done _ _ _ (oE L hL hr) hI,fun i hi=>?_⟩
   unfold Region.ready at hi
   rw [List.mem_filter,List.mem_range] at hi
   obtain ⟨hi,h2⟩:=hi
   have ho:ops[i]? = some ops[i]:=by simp [hi]
   rw [ho] at h2
   simp only [Option.map_some,Option.getD_some,Bool.and_eq_true,Bool.not_eq_true'] at h2
   obtain ⟨h3,h4⟩:=h2
   rw [Array.all_eq_true'] at h4
   have h5:y6 L i=false:=by
    unfold y6
    have:L[i]? = some L[i]:=by simp [hL,hi]
    simp only [Array.getD_eq_getD_getElem?,this,Option.getD_some] at *
    exact h3
   refine wpOp_step ho fun K' hK=>?_
   refine step (y6 L) a w i ops[i] ho h5 (fun e he hb=>?_) hI K' fun a' w' h'=>hK a' w' (ih _ _ _ (by simpa using hL) (by have:=openOf_set L i (by omega) h3;omega) (by rw [lsOf_set L i (by omega)];exact h'))
   have:=h4 e he
   rw [hb] at this
   simpa [y6] using this
def acyB (ops:Array Oper):Bool:=(List.range ops.size).all fun i=>match ops[i]? with
 | some o=>o.after.toList.all fun e=>decide (e.on<i)
 | none=>true
theorem acy_of (h:acyB ops=true) (i:Nat) (o:Oper) (ho:ops[i]? = some o) (e) (he:e∈o.after):e.on<i:=by
 have hi:i<ops.size:=(Array.getElem?_eq_some_iff.1 ho).1
 unfold acyB at h
 rw [List.all_eq_true] at h
 have:=h i (List.mem_range.2 hi)
 rw [ho] at this
 simp only [List.all_eq_true] at this
 have:=this e (by simpa using he)
 simpa using this
end
theorem zM.slice1 {size:Nat} {x:Value} {m:Nat} {news:List Value} {w:World} (h:zM size x m news w):∃ a c,x=.slice a m c:=by
 obtain ⟨_,_,⟨a,c,rfl,_⟩ | ⟨rfl,rfl⟩⟩:=h
 ·exact ⟨_,_,rfl⟩
 ·exact ⟨_,_,rfl⟩
theorem qq {w:World} {b o:Nat} {c:Array Value} {e:TypeId} {u:Value} (h:w.heap[b]? = some (.cells c e (0,0))):(w.setCell ⟨b,o,none⟩ u).heap[b]? = some (.cells (c.setIfInBounds o u) e (0,0)):=by
 have cL:=zZ h
 have h':w.heap[b]=.cells c e (0,0):=by simpa [Array.getElem?_eq_getElem cL] using h
 show (w.heap.modify b _)[b]? = _
 rw [Array.getElem?_eq_getElem (by simpa using cL),Array.getElem_modify_self,h']
 simp
theorem uO {w:World} {P:Nat} {u v:Value} {T:TypeId} (h:w.heap[P]? = some (.cells #[u,v] T (0,0))):w.cell? ⟨P,0,none⟩=some u/\w.cell? ⟨P,1,none⟩=some v/\w.frozen? ⟨P,0,none⟩=false/\w.frozen? ⟨P,1,none⟩=false :=
 ⟨by simp [World.cell?,h],by simp [World.cell?,h],by simp [World.frozen?,h],by simp [World.frozen?,h]⟩
def Res (B:Nat) (tag:Nat->Nat) (t:Nat) (w:World) (e:TypeId) (v:Value) (n:Nat) (xs:List Value):Prop :=
 Own w e 1 v n xs/\∀ g,v.ownBlock=some g->tag g=t/\B<=g
def jB (tag:Nat->Nat) (g t:Nat):Nat->Nat:=fun i=>if i=g then t else tag i
theorem Res.alloc {B:Nat} {tag:Nat->Nat} {t:Nat} {w:World} {e:TypeId} {v:Value} {n:Nat} {xs:List Value} (h:Res B tag t w e v n xs) (o:Obj) (t':Nat):Res B (jB tag w.heap.size t') t (w.alloc o) e v n xs :=
 ⟨h.1.alloc o,fun g hg=>⟨by have:=h.1.lt hg;unfold jB;rw [if_neg (by omega)];exact (h.2 g hg).1,(h.2 g hg).2⟩⟩
theorem Res.but {B:Nat} {tag:Nat->Nat} {t:Nat} {w w':World} {e:TypeId} {v:Value} {n:Nat} {xs:List Value} (h:Res B tag t w e v n xs) {m:Nat->Prop} (hb:But m w w') (hm:∀ g,m g->tag g≠t) (t':Nat):Res B (jB tag w.heap.size t') t w' e v n xs :=
 ⟨h.1.keep fun g o hg ho=>by rw [hb.block g (zZ ho) (fun hmg=>hm g hmg (h.2 g hg).1)];exact ho,fun g hg=>⟨by have:=h.1.lt hg;unfold jB;rw [if_neg (by omega)];exact (h.2 g hg).1,(h.2 g hg).2⟩⟩
theorem Res.lit {B:Nat} (tag:Nat->Nat) (t:Nat) {w:World} (hB:B<=w.heap.size) (e:TypeId) (cs:Array Value) (n:Nat) (hm:n<=maxLen) (hs:cs.size=n):Res B (jB tag w.heap.size t) t (w.alloc (.cells cs e)) e (.slice (some ⟨w.heap.size,0,none⟩) n n) n cs.toList :=
 ⟨Own.lit cs n hm (by omega),fun g hg=>by
  simp [Value.ownBlock] at hg;subst hg
  exact ⟨by unfold jB;rw [if_pos rfl],hB⟩⟩
structure kq (B:Nat) (tag:Nat->Nat) (t1 t2:Nat) (e:TypeId) (n:Nat) (xs:List Value) (u:Value) (A C A' C':Bool) (vA vC vA' vC':Value) (w:World):Prop where
 a:A=true->C=false->(∃ g,vA=.slice (some ⟨g,0,none⟩) 0 0)/\Res B tag t1 w e vA 0 []
 c:C=true->C'=false->Res B tag t1 w e vC n xs
 a':A'=true->C'=false->(∃ g,vA'=.slice (some ⟨g,0,none⟩) 1 1)/\Res B tag t2 w e vA' 1 [u]
 c':C'=true->Res B tag t1 w e vC' (n+1) (xs++[u])
 cl:C'=true->C=true
section
variable {B:Nat} {tag:Nat->Nat} {t1 t2:Nat} {e:TypeId} {n:Nat} {xs:List Value} {u:Value} {A C A' C':Bool} {vA vC vA' vC':Value} {w:World}
theorem kq.start (B:Nat) (tag:Nat->Nat) (t1 t2:Nat) (e:TypeId) (n:Nat) (xs:List Value) (u vA vC vA' vC':Value) (w:World):kq B tag t1 t2 e n xs u false false false false vA vC vA' vC' w :=
 ⟨fun h=>Bool.noConfusion h,fun h=>Bool.noConfusion h,fun h=>Bool.noConfusion h,fun h=>Bool.noConfusion h,fun h=>Bool.noConfusion h⟩
theorem kq.alloc (h:kq B tag t1 t2 e n xs u A C A' C' vA vC vA' vC' w) (o:Obj) (t':Nat):kq B (jB tag w.heap.size t') t1 t2 e n xs u A C A' C' vA vC vA' vC' (w.alloc o) :=
 ⟨fun h1 h2=>⟨(h.a h1 h2).1,(h.a h1 h2).2.alloc o t'⟩,fun h1 h2=>(h.c h1 h2).alloc o t',fun h1 h2=>⟨(h.a' h1 h2).1,(h.a' h1 h2).2.alloc o t'⟩,fun h1=>(h.c' h1).alloc o t',h.cl⟩
theorem kq.but (h:kq B tag t1 t2 e n xs u A C A' C' vA vC vA' vC' w) {w':World} {m:Nat->Prop} (hb:But m w w') (hm:∀ g,m g->tag g≠t1/\tag g≠t2) (t':Nat):kq B (jB tag w.heap.size t') t1 t2 e n xs u A C A' C' vA vC vA' vC' w' :=
 ⟨fun h1 h2=>⟨(h.a h1 h2).1,(h.a h1 h2).2.but hb (fun g k=>(hm g k).1) t'⟩,fun h1 h2=>(h.c h1 h2).but hb (fun g k=>(hm g k).1) t',fun h1 h2=>⟨(h.a' h1 h2).1,(h.a' h1 h2).2.but hb (fun g k=>(hm g k).2) t'⟩,fun h1=>(h.c' h1).but hb (fun g k=>(hm g k).1) t',h.cl⟩
theorem Res.low {t:Nat} {v:Value} {k:Nat} {ys:List Value} (h:Res B tag t w e v k ys) {w':World} {m:Nat->Prop} (hb:But m w w') (hm:∀ g,m g->g<B):Res B tag t w' e v k ys :=
 ⟨h.1.keep fun g o hg ho=>by rw [hb.block g (zZ ho) (fun hmg=>by have:=hm g hmg;have:=(h.2 g hg).2;omega)];exact ho,h.2⟩
theorem kq.low (h:kq B tag t1 t2 e n xs u A C A' C' vA vC vA' vC' w) {w':World} {m:Nat->Prop} (hb:But m w w') (hm:∀ g,m g->g<B):kq B tag t1 t2 e n xs u A C A' C' vA vC vA' vC' w' :=
 ⟨fun h1 h2=>⟨(h.a h1 h2).1,(h.a h1 h2).2.low hb hm⟩,fun h1 h2=>(h.c h1 h2).low hb hm,fun h1 h2=>⟨(h.a' h1 h2).1,(h.a' h1 h2).2.low hb hm⟩,fun h1=>(h.c' h1).low hb hm,h.cl⟩
theorem kq.stepA (h:kq B tag t1 t2 e n xs u A C A' C' vA vC vA' vC' w) (hB:B<=w.heap.size):kq B (jB tag w.heap.size t1) t1 t2 e n xs u true C A' C' (.slice (some ⟨w.heap.size,0,none⟩) 0 0) vC vA' vC' (w.alloc (.cells #[] e)) :=
 ⟨fun _ _=>⟨⟨_,rfl⟩,Res.lit tag t1 hB e #[] 0 (Nat.zero_le _) rfl⟩,fun h1 h2=>(h.c h1 h2).alloc _ _,fun h1 h2=>⟨(h.a' h1 h2).1,(h.a' h1 h2).2.alloc _ _⟩,fun h1=>(h.c' h1).alloc _ _,h.cl⟩
theorem kq.stepA' (h:kq B tag t1 t2 e n xs u A C A' C' vA vC vA' vC' w) (hB:B<=w.heap.size):kq B (jB tag w.heap.size t2) t1 t2 e n xs u A C true C' vA vC (.slice (some ⟨w.heap.size,0,none⟩) 1 1) vC' (w.alloc (.cells #[u] e)) :=
 ⟨fun h1 h2=>⟨(h.a h1 h2).1,(h.a h1 h2).2.alloc _ _⟩,fun h1 h2=>(h.c h1 h2).alloc _ _,fun _ _=>⟨⟨_,rfl⟩,Res.lit tag t2 hB e #[u] 1 (by unfold maxLen;omega) rfl⟩,fun h1=>(h.c' h1).alloc _ _,h.cl⟩
theorem Res.app {t:Nat} {v v':Value} {k m:Nat} {ys zs:List Value} {w':World} (h:Res B tag t w e v k ys) (hB:B<=w.heap.size) (ho:Own w' e 1 v' m zs) (hg:∀ g,v'.ownBlock=some g->v.ownBlock=some g\/g=w.heap.size):Res B (jB tag w.heap.size t) t w' e v' m zs :=
 ⟨ho,fun g k=>by
  unfold jB
  rcases hg g k with k | k
  ·have:=h.1.lt k
   rw [if_neg (by omega)];exact h.2 g k
  ·rw [if_pos k];exact ⟨rfl,by omega⟩⟩
theorem kq.stepC (h:kq B tag t1 t2 e n xs u A C A' C' vA vC vA' vC' w) (hA:A=true) (hC:C=false) (ht:t1≠t2) (hB:B<=w.heap.size) {v':Value} {w':World}
 (ho:Own w' e 1 v' n xs) (hb:But (fun b=>vA.ownBlock=some b) w w') (hg:∀ g,v'.ownBlock=some g->vA.ownBlock=some g\/g=w.heap.size) :
 kq B (jB tag w.heap.size t1) t1 t2 e n xs u A true A' C' vA v' vA' vC' w':=by
 have hC':C'=false:=by
  cases C' with
  | false=>rfl
  | true=>have:=h.cl rfl;rw [hC] at this;exact this.symm
 subst hA;subst hC;subst hC'
 exact ⟨fun _ h2=>Bool.noConfusion h2,fun _ _=>(h.a rfl rfl).2.app hB ho hg,
  fun h1 h2=>⟨(h.a' h1 h2).1,(h.a' h1 h2).2.but hb (fun g k=>by rw [((h.a rfl rfl).2.2 g k).1];exact ht) t1⟩,fun h1=>Bool.noConfusion h1,fun h1=>Bool.noConfusion h1⟩
theorem kq.stepC' (h:kq B tag t1 t2 e n xs u A C A' C' vA vC vA' vC' w) (hC:C=true) (hC':C'=false) (hB:B<=w.heap.size) {v':Value} {w':World}
 (ho:Own w' e 1 v' (n+1) (xs++[u])) (hg:∀ g,v'.ownBlock=some g->vC.ownBlock=some g\/g=w.heap.size) :
 kq B (jB tag w.heap.size t1) t1 t2 e n xs u A C A' true vA vC vA' v' w':=by
 subst hC;subst hC'
 exact ⟨fun _ h2=>Bool.noConfusion h2,fun _ h2=>Bool.noConfusion h2,fun _ h2=>Bool.noConfusion h2,fun _=>(h.c rfl rfl).app hB ho hg,fun _=>rfl⟩
end
theorem Own.src1 {w:World} {e:TypeId} {g:Nat} {u:Value} (h:Own w e 1 (.slice (some ⟨g,0,none⟩) 1 1) 1 [u]) (hu:u.oneCell'=true):zM 1 (.slice (some ⟨g,0,none⟩) 1 1) 1 [u] w:=by
 obtain ⟨_,⟨h0,_⟩ | ⟨g',cap,cur,hv,_,hg,nZ,_,hcs,d6⟩⟩:=h
 ·cases h0
 ·simp only [Value.slice.injEq,Option.some.injEq,Addr.mk.injEq] at hv
  obtain ⟨⟨rfl,_,_⟩,_,rfl⟩:=hv
  refine ⟨rfl,by simpa using hu,.inl ⟨_,_,rfl,fun j v hj=>?_⟩⟩
  cases j with
  | zero =>
    simp at hj;subst hj
    have h1:cur.toList[0]? = some u:=by
     have:(cur.toList.take 1)[0]? = some u:=by rw [d6];rfl
     rwa [List.getElem?_take,if_pos (by omega)] at this
    rw [show ((⟨g,0,none⟩:Addr).add 0)=⟨g,0,none⟩ from rfl]
    unfold World.cell?
    rw [hg]
    simpa using h1
  | succ j=>simp at hj
theorem Tryz.infoInt2:(Tryz.prog.info? 3).map (fun i=>(i.zero,i.size,i.bytes))=some (some (.int .i64 0),1,8):=by kernel_rfl
theorem Tryz.infoStr2:(Tryz.prog.info? 9).map (fun i=>(i.zero,i.size,i.bytes))=some (some (str []),1,16):=by kernel_rfl
def WithPost (n m:Nat) (xs ys:List Value) (s:Bs) (p:Int) (w:World) (en:Ending) (w':World):Prop :=
 ∃ a1 c1 a2 c2,en=.returned (.agg #[.slice a1 (n+1) c1,.slice a2 (m+1) c2])/\Below w.heap.size w w'/\Own w' 9 1 (.slice a1 (n+1) c1) (n+1) (xs++[str s])/\Own w' 3 1 (.slice a2 (m+1) c2) (m+1) (ys++[.int .i64 p]) /\
   (∀ g,(Value.slice a1 (n+1) c1).ownBlock=some g->w.heap.size<=g)/\(∀ g,(Value.slice a2 (m+1) c2).ownBlock=some g->w.heap.size<=g)
structure WI (n m:Nat) (mv pt:Value) (xs ys:List Value) (s:Bs) (p:Int) (w W0:World) (b:Nat->Bool) (t7 t8 t9 fZ fL fB fH fG fA fP e_ fT fW t20 t21:Value) (tag:Nat->Nat) (wr:World):Prop where
 f1:b 1=true->t8=.pointer (some ⟨w.heap.size,0,none⟩)
 f2:b 2=true->t9=mv
 f4:b 4=true->fL=str s
 f8:b 8=true->fA=.pointer (some ⟨w.heap.size,1,none⟩)
 f9:b 9=true->fP=pt
 f11:b 11=true->fT=.int .i64 p
 f14:b 14=true->t21=.agg #[fH,t20]
 g14:b 14=true->b 6=true/\b 13=true
 g15:b 15=true->∀ k,k<15->b k=true
 r1:kq W0.heap.size tag 1 2 9 n xs (str s) (b 0) (b 3) (b 5) (b 6) t7 fZ fB fH wr
 r2:kq W0.heap.size tag 3 4 3 m ys (.int .i64 p) (b 7) (b 10) (b 12) (b 13) fG e_ fW t20 wr
 w0:b 15=false->Below W0.heap.size W0 wr
 w1:b 15=true->But (· = w.heap.size+1) W0 wr/\wr.heap[w.heap.size+1]? = some (.cells #[fH,t20] 28 (0,0))
theorem WI.not15 {n m:Nat} {mv pt:Value} {xs ys:List Value} {s:Bs} {p:Int} {w W0:World} {b:Nat->Bool} {t7 t8 t9 fZ fL fB fH fG fA fP e_ fT fW t20 t21:Value} {tag:Nat->Nat} {wr:World} (h:WI n m mv pt xs ys s p w W0 b t7 t8 t9 fZ fL fB fH fG fA fP e_ fT fW t20 t21 tag wr) {i:Nat} (hi:i<15) (hb:b i=false):b 15=false:=by
 cases cj:b 15 with
 | false=>rfl
 | true=>have:=h.g15 cj i hi;rw [hb] at this;exact this.symm
def actW (mv pt:Value) (s:Bs) (p:Int) (B:Nat) (t7 t8 t9 fZ fL fB fH fG fA fP e_ fT fW t20 t21:Value):Act :=
 { tmps:=#[.agg #[mv,pt],str s,.int .i64 p,.pointer (some ⟨B,0,none⟩),undef,undef,.pointer (some ⟨B+1,0,none⟩),t7,t8,t9,fZ,fL,fB,fH,fG,fA,fP,e_,fT,fW,t20,t21],defers:=[] }
def WIA (n m:Nat) (mv pt:Value) (xs ys:List Value) (s:Bs) (p:Int) (w W0:World) (b:Nat->Bool) (a:Act) (wr:World):Prop :=
 ∃ t7 t8 t9 fZ fL fB fH fG fA fP e_ fT fW t20 t21 tag,a=actW mv pt s p w.heap.size t7 t8 t9 fZ fL fB fH fG fA fP e_ fT fW t20 t21/\WI n m mv pt xs ys s p w W0 b t7 t8 t9 fZ fL fB fH fG fA fP e_ fT fW t20 t21 tag wr
set_option maxRecDepth 100000 in
theorem l2With_any (n m:Nat) (mv pt:Value) (xs ys:List Value) (s:Bs) (p:Int) (w:World) (hx:zM 1 mv n xs w) (hy:zM 1 pt m ys w) (hn:n<=1000000) (hm:m<=1000000) :
 Calls Tryz.prog 53 #[.agg #[mv,pt],str s,.int .i64 p] w (WithPost n m xs ys s p w):=by
 obtain ⟨ma,mc,rfl⟩:=hx.slice1
 obtain ⟨pa,pc,rfl⟩:=hy.slice1
 have HX:=cH hx;have HY:=cH hy;clear hx hy
 go_enter Tryz.func53,Tryz.ntmps53
 go_wp2_with fail
 rename_i K0 hK0
 obtain ⟨W0,e9⟩:=zzN ((w.alloc (.cells #[.slice ma n mc,.slice pa m pc] 28)).alloc (.cells #[.slice none 0 0,.slice none 0 0] 28))
 rw [e9]
 have z0:W0.heap.size=w.heap.size+1+1:=by rw [<- e9];simp
 have mM:Below w.heap.size w W0:=by rw [<- e9];exact ((cE _ _).alloc (cC _) _).alloc (by rw [zK];omega) _
 have c0:W0.cell? ⟨w.heap.size,0,none⟩=some (.slice ma n mc):=by rw [<- e9];simp
 have c1:W0.cell? ⟨w.heap.size,1,none⟩=some (.slice pa m pc):=by rw [<- e9];simp
 have h6:W0.heap[w.heap.size+1]? = some (.cells #[.slice none 0 0,.slice none 0 0] 28 (0,0)):=by rw [<- e9];have:=zT (w.alloc (.cells #[.slice ma n mc,.slice pa m pc] 28)) (.cells #[.slice none 0 0,.slice none 0 0] 28);rwa [zK] at this
 clear e9
 refine wp_region_any (by kernel_rfl) ?_
 refine wpAny_inv (I:=WIA n m (.slice ma n mc) (.slice pa m pc) xs ys s p w W0) ?acy ?step ?done _ _ _ _ rfl ?cnt ?start
 case cnt=>decide
 case acy=>exact acy_of (by kernel_rfl)
 case start =>
  refine ⟨undef,undef,undef,undef,undef,undef,undef,undef,undef,undef,undef,undef,undef,undef,undef,fun _=>0,rfl,?_⟩
  have hf:∀ k,y6 (Array.replicate 16 false) k=false:=fun k=>by
   unfold y6
   rw [Array.getD_eq_getD_getElem?,Array.getElem?_replicate]
   split <;> rfl
  have key:∀ b:Nat->Bool,(∀ k,b k=false)->WI n m (.slice ma n mc) (.slice pa m pc) xs ys s p w W0 b undef undef undef undef undef undef undef undef undef undef undef undef undef undef undef (fun _=>0) W0.drew:=by
   intro b hf
   refine { f1:=fun h=>?_,f2:=fun h=>?_,f4:=fun h=>?_,f8:=fun h=>?_,f9:=fun h=>?_,f11:=fun h=>?_,f14:=fun h=>?_,g14:=fun h=>?_,g15:=fun h=>?_,r1:=?_,r2:=?_,w0:=fun _=>(cE _ _).drew,w1:=fun h=>?_ }
   case refine_10=>rw [hf,hf,hf,hf];exact kq.start _ _ _ _ _ _ _ _ _ _ _ _ _
   case refine_11=>rw [hf,hf,hf,hf];exact kq.start _ _ _ _ _ _ _ _ _ _ _ _ _
   all_goals (rw [hf] at h;cases h)
  exact key _ hf
 case done =>
  rintro b a wr dC ⟨t7,t8,t9,fZ,fL,fB,fH,fG,fA,fP,e_,fT,fW,t20,t21,tag,rfl,hI⟩
  obtain ⟨dx,dI⟩:=hI.w1 (dC 15 (by decide))
  have R1:=hI.r1.c' (dC 6 (by decide))
  have R2:=hI.r2.c' (dC 13 (by decide))
  obtain ⟨ae,aM,DU⟩:=R1.1.slice
  obtain ⟨a20,aF,DT⟩:=R2.1.slice
  subst DU;subst DT
  obtain ⟨u0,u1,_,_⟩:=uO dI
  refine hK0 _ _ ?_
  clear hK0
  unfold actW
  have HF:=cH (cB dx (cB R1 R2));clear dx R1 R2 hI dI
  go_wp2_with fail
  refine bodyPost_ret (v:=.agg #[.slice ae (n+1) aM,.slice a20 (m+1) aF]) (by simp [results,Tryz.results53,go_sem,u0,u1]) rfl ?_
  obtain ⟨dx,R1,R2⟩:=HF.out
  exact ⟨ae,aM,a20,aF,rfl,mM.trans (dx.toBelow (by omega) fun i hi e=>by omega),R1.1,R2.1,fun g hg=>by have:=(R1.2 g hg).2;omega,fun g hg=>by have:=(R2.2 g hg).2;omega⟩
 case step =>
  rintro b a wr i o ho hb c9 ⟨t7,t8,t9,fZ,fL,fB,fH,fG,fA,fP,e_,fT,fW,t20,t21,tag,rfl,hI⟩ K' hK
  unfold actW at *
  rcases i with _ | _ | _ | _ | _ | _ | _ | _ | _ | _ | _ | _ | _ | _ | _ | _ | i
  ·simp at ho;subst ho
   have cj:=hI.not15 (i:=0) (by omega) hb
   have hB:W0.heap.size<=wr.heap.size:=(hI.w0 cj).size
   go_simp
   exact hK _ _ ⟨.slice (some ⟨wr.heap.size,0,none⟩) 0 0,t8,t9,fZ,fL,fB,fH,fG,fA,fP,e_,fT,fW,t20,t21,jB tag wr.heap.size 1,rfl,{ f1:=hI.f1,f2:=hI.f2,f4:=hI.f4,f8:=hI.f8,f9:=hI.f9,f11:=hI.f11,f14:=hI.f14,g14:=hI.g14,g15:=fun h=>absurd h (by rw [show set1 b 0 15=b 15 from rfl,cj];decide),r1:=hI.r1.stepA hB,r2:=hI.r2.alloc _ 1,w0:=fun _=>(hI.w0 cj).alloc hB _,w1:=fun h=>absurd h (by rw [show set1 b 0 15=b 15 from rfl,cj];decide) }⟩
  ·simp at ho;subst ho
   have cj:=hI.not15 (i:=1) (by omega) hb
   have hB:W0.heap.size<=wr.heap.size:=(hI.w0 cj).size
   go_simp
   exact hK _ _ ⟨t7,.pointer (some ⟨w.heap.size,0,none⟩),t9,fZ,fL,fB,fH,fG,fA,fP,e_,fT,fW,t20,t21,tag,rfl,{ f1:=fun _=>rfl,f2:=hI.f2,f4:=hI.f4,f8:=hI.f8,f9:=hI.f9,f11:=hI.f11,f14:=hI.f14,g14:=hI.g14,g15:=fun h=>absurd h (by rw [show set1 b 1 15=b 15 from rfl,cj];decide),r1:=hI.r1,r2:=hI.r2,w0:=fun _=>hI.w0 cj,w1:=fun h=>absurd h (by rw [show set1 b 1 15=b 15 from rfl,cj];decide) }⟩
  ·simp at ho;subst ho
   simp [Region.binds] at c9
   have cj:=hI.not15 (i:=2) (by omega) hb
   have hB:W0.heap.size<=wr.heap.size:=(hI.w0 cj).size
   have q8:=hI.f1 c9
   have q0:wr.cell? ⟨w.heap.size,0,none⟩=some (.slice ma n mc):=((hI.w0 cj).cell (p:=⟨w.heap.size,0,none⟩) (by rw [z0];show w.heap.size<_;omega)).trans c0
   go_simp
   exact hK _ _ ⟨t7,.pointer (some ⟨w.heap.size,0,none⟩),.slice ma n mc,fZ,fL,fB,fH,fG,fA,fP,e_,fT,fW,t20,t21,tag,rfl,{ f1:=fun _=>rfl,f2:=fun _=>rfl,f4:=hI.f4,f8:=hI.f8,f9:=hI.f9,f11:=hI.f11,f14:=hI.f14,g14:=hI.g14,g15:=fun h=>absurd h (by rw [show set1 b 2 15=b 15 from rfl,cj];decide),r1:=hI.r1,r2:=hI.r2,w0:=fun _=>hI.w0 cj,w1:=fun h=>absurd h (by rw [show set1 b 2 15=b 15 from rfl,cj];decide) }⟩
  ·simp at ho;subst ho
   simp [Region.binds] at c9
   have cj:=hI.not15 (i:=3) (by omega) hb
   have hB:W0.heap.size<=wr.heap.size:=(hI.w0 cj).size
   obtain ⟨⟨g,e7⟩,dh⟩:=hI.r1.a c9.1 hb
   have nX:=dh
   rw [e7] at nX
   have q9:=hI.f2 c9.2
   refine zc (by rfl) (.tmp 7) (.tmp 9) 23 (by rfl) 9 (str []) 1 16 Tryz.underlying23 Tryz.infoStr2 rfl (by decide) (.slice (some ⟨g,0,none⟩) 0 0) 0 [] e7 nX.1 (.slice ma n mc) n xs q9 ((HX.out.belowAll mM (cC _)).belowAll (hI.w0 cj) (cC _)) (by unfold maxLen;omega) (by omega) ?_
   intro a' c' w' ho dx hg
   rw [<- e7] at dx hg
   simp only [Nat.zero_add,List.nil_append] at ho hg ⊢
   exact hK _ _ ⟨t7,t8,t9,.slice a' n c',fL,fB,fH,fG,fA,fP,e_,fT,fW,t20,t21,jB tag wr.heap.size 1,rfl,{ f1:=hI.f1,f2:=hI.f2,f4:=hI.f4,f8:=hI.f8,f9:=hI.f9,f11:=hI.f11,f14:=hI.f14,g14:=hI.g14,g15:=fun h=>absurd h (by rw [show set1 b 3 15=b 15 from rfl,cj];decide),r1:=hI.r1.stepC c9.1 hb (by decide) hB ho dx hg,r2:=hI.r2.but dx (fun k e=>by rw [(dh.2 k e).1];decide) 1,w0:=fun _=>(hI.w0 cj).trans (dx.toBelow hB fun k hk e=>by have:=(dh.2 k e).2;omega),w1:=fun h=>absurd h (by rw [show set1 b 3 15=b 15 from rfl,cj];decide) }⟩
  ·simp at ho;subst ho
   have cj:=hI.not15 (i:=4) (by omega) hb
   have hB:W0.heap.size<=wr.heap.size:=(hI.w0 cj).size
   go_simp
   exact hK _ _ ⟨t7,t8,t9,fZ,str s,fB,fH,fG,fA,fP,e_,fT,fW,t20,t21,tag,rfl,{ f1:=hI.f1,f2:=hI.f2,f4:=fun _=>rfl,f8:=hI.f8,f9:=hI.f9,f11:=hI.f11,f14:=hI.f14,g14:=hI.g14,g15:=fun h=>absurd h (by rw [show set1 b 4 15=b 15 from rfl,cj];decide),r1:=hI.r1,r2:=hI.r2,w0:=fun _=>hI.w0 cj,w1:=fun h=>absurd h (by rw [show set1 b 4 15=b 15 from rfl,cj];decide) }⟩
  ·simp at ho;subst ho
   simp [Region.binds] at c9
   have cj:=hI.not15 (i:=5) (by omega) hb
   have hB:W0.heap.size<=wr.heap.size:=(hI.w0 cj).size
   have q11:=hI.f4 c9
   go_simp
   exact hK _ _ ⟨t7,t8,t9,fZ,str s,.slice (some ⟨wr.heap.size,0,none⟩) 1 1,fH,fG,fA,fP,e_,fT,fW,t20,t21,jB tag wr.heap.size 2,rfl,{ f1:=hI.f1,f2:=hI.f2,f4:=fun _=>rfl,f8:=hI.f8,f9:=hI.f9,f11:=hI.f11,f14:=hI.f14,g14:=hI.g14,g15:=fun h=>absurd h (by rw [show set1 b 5 15=b 15 from rfl,cj];decide),r1:=hI.r1.stepA' hB,r2:=hI.r2.alloc _ 2,w0:=fun _=>(hI.w0 cj).alloc hB _,w1:=fun h=>absurd h (by rw [show set1 b 5 15=b 15 from rfl,cj];decide) }⟩
  ·simp at ho;subst ho
   simp [Region.binds] at c9
   have cj:=hI.not15 (i:=6) (by omega) hb
   have hB:W0.heap.size<=wr.heap.size:=(hI.w0 cj).size
   have dh:=hI.r1.c c9.1 hb
   obtain ⟨⟨g,DW⟩,fg⟩:=hI.r1.a' c9.2.1 hb
   rw [DW] at fg
   refine zc (by rfl) (.tmp 10) (.tmp 12) 23 (by rfl) 9 (str []) 1 16 Tryz.underlying23 Tryz.infoStr2 rfl (by decide) fZ n xs rfl dh.1 (.slice (some ⟨g,0,none⟩) 1 1) 1 [str s] DW (fg.1.src1 (by simp [Value.oneCell'])) (by unfold maxLen;omega) (by omega) ?_
   intro a' c' w' ho dx hg
   exact hK _ _ ⟨t7,t8,t9,fZ,fL,fB,.slice a' (n+1) c',fG,fA,fP,e_,fT,fW,t20,t21,jB tag wr.heap.size 1,rfl,{ f1:=hI.f1,f2:=hI.f2,f4:=hI.f4,f8:=hI.f8,f9:=hI.f9,f11:=hI.f11,f14:=fun h=>absurd (hI.g14 h).1 (by rw [hb];decide),g14:=fun h=>⟨rfl,(hI.g14 h).2⟩,g15:=fun h=>absurd h (by rw [show set1 b 6 15=b 15 from rfl,cj];decide),r1:=hI.r1.stepC' c9.1 hb hB ho hg,r2:=hI.r2.but dx (fun k e=>by rw [(dh.2 k e).1];decide) 1,w0:=fun _=>(hI.w0 cj).trans (dx.toBelow hB fun k hk e=>by have:=(dh.2 k e).2;omega),w1:=fun h=>absurd h (by rw [show set1 b 6 15=b 15 from rfl,cj];decide) }⟩
  ·simp at ho;subst ho
   have cj:=hI.not15 (i:=7) (by omega) hb
   have hB:W0.heap.size<=wr.heap.size:=(hI.w0 cj).size
   go_simp
   exact hK _ _ ⟨t7,t8,t9,fZ,fL,fB,fH,.slice (some ⟨wr.heap.size,0,none⟩) 0 0,fA,fP,e_,fT,fW,t20,t21,jB tag wr.heap.size 3,rfl,{ f1:=hI.f1,f2:=hI.f2,f4:=hI.f4,f8:=hI.f8,f9:=hI.f9,f11:=hI.f11,f14:=hI.f14,g14:=hI.g14,g15:=fun h=>absurd h (by rw [show set1 b 7 15=b 15 from rfl,cj];decide),r1:=hI.r1.alloc _ 3,r2:=hI.r2.stepA hB,w0:=fun _=>(hI.w0 cj).alloc hB _,w1:=fun h=>absurd h (by rw [show set1 b 7 15=b 15 from rfl,cj];decide) }⟩
  ·simp at ho;subst ho
   have cj:=hI.not15 (i:=8) (by omega) hb
   have hB:W0.heap.size<=wr.heap.size:=(hI.w0 cj).size
   go_simp
   exact hK _ _ ⟨t7,t8,t9,fZ,fL,fB,fH,fG,.pointer (some ⟨w.heap.size,1,none⟩),fP,e_,fT,fW,t20,t21,tag,rfl,{ f1:=hI.f1,f2:=hI.f2,f4:=hI.f4,f8:=fun _=>rfl,f9:=hI.f9,f11:=hI.f11,f14:=hI.f14,g14:=hI.g14,g15:=fun h=>absurd h (by rw [show set1 b 8 15=b 15 from rfl,cj];decide),r1:=hI.r1,r2:=hI.r2,w0:=fun _=>hI.w0 cj,w1:=fun h=>absurd h (by rw [show set1 b 8 15=b 15 from rfl,cj];decide) }⟩
  ·simp at ho;subst ho
   simp [Region.binds] at c9
   have cj:=hI.not15 (i:=9) (by omega) hb
   have hB:W0.heap.size<=wr.heap.size:=(hI.w0 cj).size
   have q8:=hI.f8 c9
   have q0:wr.cell? ⟨w.heap.size,1,none⟩=some (.slice pa m pc):=((hI.w0 cj).cell (p:=⟨w.heap.size,1,none⟩) (by rw [z0];show w.heap.size<_;omega)).trans c1
   go_simp
   exact hK _ _ ⟨t7,t8,t9,fZ,fL,fB,fH,fG,.pointer (some ⟨w.heap.size,1,none⟩),.slice pa m pc,e_,fT,fW,t20,t21,tag,rfl,{ f1:=hI.f1,f2:=hI.f2,f4:=hI.f4,f8:=fun _=>rfl,f9:=fun _=>rfl,f11:=hI.f11,f14:=hI.f14,g14:=hI.g14,g15:=fun h=>absurd h (by rw [show set1 b 9 15=b 15 from rfl,cj];decide),r1:=hI.r1,r2:=hI.r2,w0:=fun _=>hI.w0 cj,w1:=fun h=>absurd h (by rw [show set1 b 9 15=b 15 from rfl,cj];decide) }⟩
  ·simp at ho;subst ho
   simp [Region.binds] at c9
   have cj:=hI.not15 (i:=10) (by omega) hb
   have hB:W0.heap.size<=wr.heap.size:=(hI.w0 cj).size
   obtain ⟨⟨g,e7⟩,dh⟩:=hI.r2.a c9.1 hb
   have nX:=dh
   rw [e7] at nX
   have q9:=hI.f9 c9.2.1
   refine zc (by rfl) (.tmp 14) (.tmp 16) 26 (by rfl) 3 (.int .i64 0) 1 8 Tryz.underlying26 Tryz.infoInt2 rfl (by decide) (.slice (some ⟨g,0,none⟩) 0 0) 0 [] e7 nX.1 (.slice pa m pc) m ys q9 ((HY.out.belowAll mM (cC _)).belowAll (hI.w0 cj) (cC _)) (by unfold maxLen;omega) (by omega) ?_
   intro a' c' w' ho dx hg
   rw [<- e7] at dx hg
   simp only [Nat.zero_add,List.nil_append] at ho hg ⊢
   exact hK _ _ ⟨t7,t8,t9,fZ,fL,fB,fH,fG,fA,fP,.slice a' m c',fT,fW,t20,t21,jB tag wr.heap.size 3,rfl,{ f1:=hI.f1,f2:=hI.f2,f4:=hI.f4,f8:=hI.f8,f9:=hI.f9,f11:=hI.f11,f14:=hI.f14,g14:=hI.g14,g15:=fun h=>absurd h (by rw [show set1 b 10 15=b 15 from rfl,cj];decide),r1:=hI.r1.but dx (fun k e=>by rw [(dh.2 k e).1];decide) 3,r2:=hI.r2.stepC c9.1 hb (by decide) hB ho dx hg,w0:=fun _=>(hI.w0 cj).trans (dx.toBelow hB fun k hk e=>by have:=(dh.2 k e).2;omega),w1:=fun h=>absurd h (by rw [show set1 b 10 15=b 15 from rfl,cj];decide) }⟩
  ·simp at ho;subst ho
   have cj:=hI.not15 (i:=11) (by omega) hb
   have hB:W0.heap.size<=wr.heap.size:=(hI.w0 cj).size
   go_simp
   exact hK _ _ ⟨t7,t8,t9,fZ,fL,fB,fH,fG,fA,fP,e_,.int .i64 p,fW,t20,t21,tag,rfl,{ f1:=hI.f1,f2:=hI.f2,f4:=hI.f4,f8:=hI.f8,f9:=hI.f9,f11:=fun _=>rfl,f14:=hI.f14,g14:=hI.g14,g15:=fun h=>absurd h (by rw [show set1 b 11 15=b 15 from rfl,cj];decide),r1:=hI.r1,r2:=hI.r2,w0:=fun _=>hI.w0 cj,w1:=fun h=>absurd h (by rw [show set1 b 11 15=b 15 from rfl,cj];decide) }⟩
  ·simp at ho;subst ho
   simp [Region.binds] at c9
   have cj:=hI.not15 (i:=12) (by omega) hb
   have hB:W0.heap.size<=wr.heap.size:=(hI.w0 cj).size
   have q11:=hI.f11 c9
   go_simp
   exact hK _ _ ⟨t7,t8,t9,fZ,fL,fB,fH,fG,fA,fP,e_,.int .i64 p,.slice (some ⟨wr.heap.size,0,none⟩) 1 1,t20,t21,jB tag wr.heap.size 4,rfl,{ f1:=hI.f1,f2:=hI.f2,f4:=hI.f4,f8:=hI.f8,f9:=hI.f9,f11:=fun _=>rfl,f14:=hI.f14,g14:=hI.g14,g15:=fun h=>absurd h (by rw [show set1 b 12 15=b 15 from rfl,cj];decide),r1:=hI.r1.alloc _ 4,r2:=hI.r2.stepA' hB,w0:=fun _=>(hI.w0 cj).alloc hB _,w1:=fun h=>absurd h (by rw [show set1 b 12 15=b 15 from rfl,cj];decide) }⟩
  ·simp at ho;subst ho
   simp [Region.binds] at c9
   have cj:=hI.not15 (i:=13) (by omega) hb
   have hB:W0.heap.size<=wr.heap.size:=(hI.w0 cj).size
   have dh:=hI.r2.c c9.1 hb
   obtain ⟨⟨g,DW⟩,fg⟩:=hI.r2.a' c9.2.1 hb
   rw [DW] at fg
   refine zc (by rfl) (.tmp 17) (.tmp 19) 26 (by rfl) 3 (.int .i64 0) 1 8 Tryz.underlying26 Tryz.infoInt2 rfl (by decide) e_ m ys rfl dh.1 (.slice (some ⟨g,0,none⟩) 1 1) 1 [.int .i64 p] DW (fg.1.src1 (by simp [Value.oneCell'])) (by unfold maxLen;omega) (by omega) ?_
   intro a' c' w' ho dx hg
   exact hK _ _ ⟨t7,t8,t9,fZ,fL,fB,fH,fG,fA,fP,e_,fT,fW,.slice a' (m+1) c',t21,jB tag wr.heap.size 3,rfl,{ f1:=hI.f1,f2:=hI.f2,f4:=hI.f4,f8:=hI.f8,f9:=hI.f9,f11:=hI.f11,f14:=fun h=>absurd (hI.g14 h).2 (by rw [hb];decide),g14:=fun h=>⟨(hI.g14 h).1,rfl⟩,g15:=fun h=>absurd h (by rw [show set1 b 13 15=b 15 from rfl,cj];decide),r1:=hI.r1.but dx (fun k e=>by rw [(dh.2 k e).1];decide) 3,r2:=hI.r2.stepC' c9.1 hb hB ho hg,w0:=fun _=>(hI.w0 cj).trans (dx.toBelow hB fun k hk e=>by have:=(dh.2 k e).2;omega),w1:=fun h=>absurd h (by rw [show set1 b 13 15=b 15 from rfl,cj];decide) }⟩
  ·simp at ho;subst ho
   simp [Region.binds] at c9
   have cj:=hI.not15 (i:=14) (by omega) hb
   have hB:W0.heap.size<=wr.heap.size:=(hI.w0 cj).size
   obtain ⟨ae,aM,DU⟩:=(hI.r1.c' c9.1).1.slice
   obtain ⟨a20,aF,DT⟩:=(hI.r2.c' c9.2).1.slice
   subst DU
   subst DT
   go_simp
   exact hK _ _ ⟨t7,t8,t9,fZ,fL,fB,.slice ae (n+1) aM,fG,fA,fP,e_,fT,fW,.slice a20 (m+1) aF,.agg #[.slice ae (n+1) aM,.slice a20 (m+1) aF],tag,rfl,{ f1:=hI.f1,f2:=hI.f2,f4:=hI.f4,f8:=hI.f8,f9:=hI.f9,f11:=hI.f11,f14:=fun _=>rfl,g14:=fun _=>⟨c9.1,c9.2⟩,g15:=fun h=>absurd h (by rw [show set1 b 14 15=b 15 from rfl,cj];decide),r1:=hI.r1,r2:=hI.r2,w0:=fun _=>hI.w0 cj,w1:=fun h=>absurd h (by rw [show set1 b 14 15=b 15 from rfl,cj];decide) }⟩
  ·simp at ho;subst ho
   simp [Region.binds] at c9
   obtain ⟨ae,aM,DU⟩:=(hI.r1.c' (hI.g14 c9.1).1).1.slice
   have dC:∀ k,k<15->b k=true:=fun k hk=>by
    obtain ⟨p14,p0⟩:=c9
    rcases (by omega:k=0\/k=1\/k=2\/k=3\/k=4\/k=5\/k=6\/k=7\/k=8\/k=9\/k=10\/k=11\/k=12\/k=13\/k=14) with rfl | rfl | rfl | rfl | rfl | rfl | rfl | rfl | rfl | rfl | rfl | rfl | rfl | rfl | rfl <;> simp [*]
   obtain ⟨a20,aF,DT⟩:=(hI.r2.c' (hI.g14 c9.1).2).1.slice
   subst DU;subst DT
   have q21:=hI.f14 c9.1
   have dd:wr.heap[w.heap.size+1]? = some (.cells #[.slice none 0 0,.slice none 0 0] 28 (0,0)):=by rw [(hI.w0 hb).block _ (by omega)];exact h6
   obtain ⟨u0,u1,v0,v1⟩:=uO dd
   have cO:=hI.w0 hb
   have dI:=qq (o:=1) (u:=.slice a20 (m+1) aF) (qq (o:=0) (u:=.slice ae (n+1) aM) dd)
   go_simp
   have dx:But (· = w.heap.size+1) wr ((wr.setCell ⟨w.heap.size+1,0,none⟩ (.slice ae (n+1) aM)).setCell ⟨w.heap.size+1,1,none⟩ (.slice a20 (m+1) aF)):=((But.refl (· = w.heap.size+1) wr).setCell (p:=⟨w.heap.size+1,0,none⟩) (.inl rfl) _).setCell (p:=⟨w.heap.size+1,1,none⟩) (.inl rfl) _
   exact hK _ _ ⟨t7,t8,t9,fZ,fL,fB,.slice ae (n+1) aM,fG,fA,fP,e_,fT,fW,.slice a20 (m+1) aF,.agg #[.slice ae (n+1) aM,.slice a20 (m+1) aF],tag,rfl,{ f1:=hI.f1,f2:=hI.f2,f4:=hI.f4,f8:=hI.f8,f9:=hI.f9,f11:=hI.f11,f14:=fun _=>rfl,g14:=hI.g14,g15:=fun _ k hk=>by rw [show set1 b 15 k=b k from if_neg (by omega)];exact dC k hk,r1:=hI.r1.low dx (fun k e=>by omega),r2:=hI.r2.low dx (fun k e=>by omega),w0:=fun h=>Bool.noConfusion (show true=false from h),w1:=fun _=>⟨(But.ofBelow cO).trans dx,dI⟩ }⟩
  ·simp at ho
def RnK (w:World) (ra:Nat) (mv pt:Value) (moves most:Nat) (bad:Bool):Prop:=w.heap[ra]? = some (.cells #[mv,pt,.int .i64 (moves:Nat),.int .i64 (most:Nat),.bool true,.bool bad] 46 (0,0))
theorem RnK.cells {w:World} {ra:Nat} {mv pt:Value} {moves most:Nat} {bad:Bool} (h:RnK w ra mv pt moves most bad):w.cell? ⟨ra,0,none⟩=some mv/\w.cell? ⟨ra,1,none⟩=some pt/\w.cell? ⟨ra,2,none⟩=some (.int .i64 (moves:Nat))/\w.cell? ⟨ra,3,none⟩=some (.int .i64 (most:Nat))/\w.cell? ⟨ra,4,none⟩=some (.bool true)/\w.cell? ⟨ra,5,none⟩=some (.bool bad) /\
 w.frozen? ⟨ra,0,none⟩=false/\w.frozen? ⟨ra,1,none⟩=false/\w.frozen? ⟨ra,2,none⟩=false/\w.frozen? ⟨ra,5,none⟩=false:=by
 unfold RnK at h
 exact ⟨by simp [World.cell?,h],by simp [World.cell?,h],by simp [World.cell?,h],by simp [World.cell?,h],by simp [World.cell?,h],by simp [World.cell?,h],by simp [World.frozen?,h],by simp [World.frozen?,h],by simp [World.frozen?,h],by simp [World.frozen?,h]⟩
theorem make_bad (ra:Nat) (mv pt:Value) (moves most:Nat) (s:Bs) (p:Int) (w:World) (h:RnK w ra mv pt moves most false) (hm:moves<=16777216) (hbig:most<moves+1) :
 Calls Tryz.prog 32 #[.pointer (some ⟨ra,0,none⟩),str s,.int .i64 p] w fun en w'=>en=.returned (.int .i64 (moves:Nat))/\But (· = ra) w w'/\RnK w' ra mv pt (moves+1) most true:=by
 obtain ⟨c0,c1,c2,c3,c4,c5,f0,f1,f2,f5⟩:=h.cells
 obtain ⟨W,hW⟩:=zzN (w.setCell ⟨ra,2,none⟩ (.int .i64 ((moves:Int)+1)))
 have eY:RnK W ra mv pt (moves+1) most false:=by rw [<- hW];unfold RnK;rw [qq h];rfl
 have dV:But (· = ra) w W:=by rw [<- hW];exact But.setCell (m:=(· = ra)) (p:=⟨ra,2,none⟩) (But.refl _ _) (.inl rfl) _
 obtain ⟨d0,d1,d2,d3,d4,d5,g0,g1,g2,g5⟩:=eY.cells
 have d2':W.cell? ⟨ra,2,none⟩=some (.int .i64 ((moves:Int)+1)):=d2
 have HW:=cH hW;have HP:=cH eY;have HB:=cH dV
 clear h eY dV hW d2
 have hd:(most:Int)<(moves:Int)+1:=by omega
 have HD:=cH hbig;clear hbig
 go_enter Tryz.func32,Tryz.ntmps32
 go_upto_region 2 with (fail)
 rw [HW.out]
 clear c0 c1 c2 c3 c4 c5 f0 f1 f2 f5
 go_quiet (fail)
 have sY:RnK ((W.drewN nq).setCell ⟨ra,5,none⟩ (.bool true)) ra mv pt (moves+1) most true:=by
  unfold RnK;rw [qq (show (W.drewN nq).heap[ra]? = _ from HP.out)];rfl
 obtain ⟨e0,e1,e2,e3,e4,e5,_⟩:=sY.cells
 have e2':((W.drewN nq).setCell ⟨ra,5,none⟩ (.bool true)).cell? ⟨ra,2,none⟩=some (.int .i64 ((moves:Int)+1)):=e2
 have g5':(W.drewN nq).frozen? ⟨ra,5,none⟩=false:=g5
 have d5':(W.drewN nq).cell? ⟨ra,5,none⟩=some (.bool false):=d5
 have HP2:=cH sY;clear sY e2
 go_wp2_with fail
 go_ret
 exact ⟨u_ (by omega),But.setCell (m:=(· = ra)) (p:=⟨ra,5,none⟩) (HB.out.trans (c:=W.drewN nq) ⟨rfl,rfl,rfl,cC _,fun _ _ _=>rfl⟩) (.inl rfl) _,HP2.out⟩
def MadeK (ra:Nat) (mv pt:Value) (n most:Nat) (xs ys:List Value) (s:Bs) (p:Int) (w:World) (en:Ending) (w':World):Prop :=
 ∃ a1 c1 a2 c2,en=.returned (.int .i64 (n:Nat))/\But (· = ra) w w'/\RnK w' ra (.slice a1 (n+1) c1) (.slice a2 (n+1) c2) (n+1) most false/\Own w' 9 1 (.slice a1 (n+1) c1) (n+1) (xs++[str s])/\Own w' 3 1 (.slice a2 (n+1) c2) (n+1) (ys++[.int .i64 p]) /\
   (∀ g,(Value.slice a1 (n+1) c1).ownBlock=some g->w.heap.size<=g)/\(∀ g,(Value.slice a2 (n+1) c2).ownBlock=some g->w.heap.size<=g)
set_option maxRecDepth 100000 in
theorem make_kept (ra:Nat) (mv pt:Value) (n most:Nat) (xs ys:List Value) (s:Bs) (p:Int) (w:World) (h:RnK w ra mv pt n most false) (hx:Own w 9 1 mv n xs) (hy:Own w 3 1 pt n ys) (hsx:zM 1 mv n xs w) (oP:zM 1 pt n ys w) (hne:∀ g,mv.ownBlock=some g\/pt.ownBlock=some g->g≠ra) (hm:n<=1000000) (hbig:¬ most<n+1) :
 Calls Tryz.prog 32 #[.pointer (some ⟨ra,0,none⟩),str s,.int .i64 p] w (MadeK ra mv pt n most xs ys s p w):=by
 obtain ⟨c0,c1,c2,c3,c4,c5,f0,f1,f2,f5⟩:=h.cells
 obtain ⟨W,hW⟩:=zzN (w.setCell ⟨ra,2,none⟩ (.int .i64 ((n:Int)+1)))
 have eY:RnK W ra mv pt (n+1) most false:=by rw [<- hW];unfold RnK;rw [qq h];rfl
 have dV:But (· = ra) w W:=by rw [<- hW];exact But.setCell (m:=(· = ra)) (p:=⟨ra,2,none⟩) (But.refl _ _) (.inl rfl) _
 have m9:=zZ h
 obtain ⟨d0,d1,d2,d3,d4,d5,g0,g1,g2,g5⟩:=eY.cells
 have d2':W.cell? ⟨ra,2,none⟩=some (.int .i64 ((n:Int)+1)):=d2
 have ksx:zM 1 mv n xs W:=by
  obtain ⟨h1,h2,⟨a,c,rfl,h3⟩ | h3⟩:=hsx
  ·refine ⟨h1,h2,.inl ⟨a,c,rfl,fun j u hu=>?_⟩⟩
   have h4:=h3 j u hu
   have hjn:=(List.getElem?_eq_some_iff.1 hu).1
   obtain ⟨g,e,_,hg,_⟩:=hx.open1 (j:=j) (by omega)
   cases e
   have rj:=hne g (.inl rfl)
   rw [dV.cell (cD w _ h4) (by unfold Addr.add;split <;> exact rj)];exact h4
  ·exact ⟨h1,h2,.inr h3⟩
 have ksy:zM 1 pt n ys W:=by
  obtain ⟨h1,h2,⟨a,c,rfl,h3⟩ | h3⟩:=oP
  ·refine ⟨h1,h2,.inl ⟨a,c,rfl,fun j u hu=>?_⟩⟩
   have h4:=h3 j u hu
   have hjn:=(List.getElem?_eq_some_iff.1 hu).1
   obtain ⟨g,e,_,hg,_⟩:=hy.open1 (j:=j) (by omega)
   cases e
   have rj:=hne g (.inr rfl)
   rw [dV.cell (cD w _ h4) (by unfold Addr.add;split <;> exact rj)];exact h4
  ·exact ⟨h1,h2,.inr h3⟩
 have HW:=cH hW;have HP:=cH eY;have HB:=cH dV;have HS:=cH (cB ksx ksy)
 clear h eY dV hW d2 ksx ksy hx hy hsx oP hne
 obtain ⟨am,cm,rfl⟩:=HS.out.1.slice1
 obtain ⟨ap,cp,rfl⟩:=HS.out.2.slice1
 have hd:¬ (most:Int)<(n:Int)+1:=by omega
 have HD:=cH hbig;clear hbig
 go_enter Tryz.func32,Tryz.ntmps32
 go_upto_region 2 with (fail)
 rw [HW.out]
 clear c0 c1 c2 c3 c4 c5 f0 f1 f2 f5
 go_quiet (fail)
 have e0:(W.drewN nq).cell? ⟨ra,0,none⟩=some (.slice am n cm):=d0
 have e1:(W.drewN nq).cell? ⟨ra,1,none⟩=some (.slice ap n cp):=d1
 have e2:(W.drewN nq).cell? ⟨ra,2,none⟩=some (.int .i64 ((n:Int)+1)):=d2'
 have e4:(W.drewN nq).cell? ⟨ra,4,none⟩=some (.bool true):=d4
 have e5:(W.drewN nq).cell? ⟨ra,5,none⟩=some (.bool false):=d5
 have hS2:=cH (show zM 1 (.slice am n cm) n xs (W.drewN nq)/\zM 1 (.slice ap n cp) n ys (W.drewN nq) from ⟨HS.out.1.keep (w':=W.drewN nq) fun _ _ h=>h,HS.out.2.keep (w':=W.drewN nq) fun _ _ h=>h⟩)
 have hP2:=cH (show RnK (W.drewN nq) ra (.slice am n cm) (.slice ap n cp) (n+1) most false from HP.out)
 have db:=cH (show But (· = ra) w (W.drewN nq) from HB.out.trans ⟨rfl,rfl,rfl,cC _,fun _ _ _=>rfl⟩)
 generalize W.drewN nq=V at *
 go_wp2_with fail
 (with_reducible refine (l2With_any n n (.slice am n cm) (.slice ap n cp) xs ys s p V hS2.out.1 hS2.out.2 hm hm).mono ?_)
 rintro en w2 ⟨a1,k1,a2,k2,rfl,cS,AJ,tD,C8,oc⟩
 have hP3:RnK w2 ra (.slice am n cm) (.slice ap n cp) (n+1) most false:=by unfold RnK;rw [cS.block ra (by have:=db.out.size;omega)];exact hP2.out
 obtain ⟨u0,u1,u2,u3,u4,u5,v0,v1,v2,v5⟩:=hP3.cells
 have hP4:RnK ((w2.setCell ⟨ra,0,none⟩ (.slice a1 (n+1) k1)).setCell ⟨ra,1,none⟩ (.slice a2 (n+1) k2)) ra (.slice a1 (n+1) k1) (.slice a2 (n+1) k2) (n+1) most false:=by
  unfold RnK;rw [qq (qq hP3)];rfl
 obtain ⟨x0,x1,x2,x3,x4,x5,y0,y1,y2,y5⟩:=hP4.cells
 have ic:((w2.setCell ⟨ra,0,none⟩ (.slice a1 (n+1) k1)).setCell ⟨ra,1,none⟩ (.slice a2 (n+1) k2)).cell? ⟨ra,2,none⟩=some (.int .i64 ((n:Int)+1)):=x2
 have fY:But (· = ra) w ((w2.setCell ⟨ra,0,none⟩ (.slice a1 (n+1) k1)).setCell ⟨ra,1,none⟩ (.slice a2 (n+1) k2)):=by
  have h0:But (· = ra) w w2:=db.out.trans (But.ofBelow cS)
  exact (h0.setCell (p:=⟨ra,0,none⟩) (.inl rfl) _).setCell (p:=⟨ra,1,none⟩) (.inl rfl) _
 have hz:=db.out.size
 have keep:∀ {e:TypeId} {v:Value} {zs:List Value},Own w2 e 1 v (n+1) zs->(∀ g,v.ownBlock=some g->V.heap.size<=g)->Own ((w2.setCell ⟨ra,0,none⟩ (.slice a1 (n+1) k1)).setCell ⟨ra,1,none⟩ (.slice a2 (n+1) k2)) e 1 v (n+1) zs:=fun ho hf =>
  ho.keep fun g o hg hh=>by
   have:=hf g hg
   rw [cF _ _ _ _ (by show g≠ra;omega),cF _ _ _ _ (by show g≠ra;omega)];exact hh
 have HF:=cH (cB fY (cB hP4 (cB (keep AJ C8) (cB (keep tD oc) (cB (fun g hg=>cR hz (C8 g hg)) (fun g hg=>cR hz (oc g hg)))))))
 clear fY hP4 keep AJ tD C8 oc hP3 cS x2 u2
 go_wp2_with fail
 go_ret
 exact ⟨a1,k1,a2,k2,u_ (by omega),HF.out.1,HF.out.2.1,HF.out.2.2.1,HF.out.2.2.2.1,HF.out.2.2.2.2.1,HF.out.2.2.2.2.2⟩
theorem addr0 (g j:Nat):((⟨g,0,none⟩:Addr).add j)=⟨g,j,none⟩:=by
 unfold Addr.add
 split <;> simp_all
theorem logM_src {w:World} {mv:Value} {n:Nat} {log:List (Bs×Int)} (h:Own w 9 1 mv n (qg log)):zM 1 mv n (qg log) w:=by
 obtain ⟨a,c,rfl⟩:=h.slice
 refine ⟨h.1,fun u hu=>?_,?_⟩
 ·simp only [qg,List.mem_map] at hu;obtain ⟨x,_,rfl⟩:=hu;rfl
 ·have hl:=h.1
  rcases Nat.eq_zero_or_pos n with rfl | hn
  ·rcases h.2 with ⟨e,_⟩ | ⟨g,cap,cur,e,_⟩
   ·exact .inr ⟨e,rfl⟩
   ·refine .inl ⟨⟨g,0,none⟩,cap,e,fun j u hu=>?_⟩
    have:=(List.getElem?_eq_some_iff.1 hu).1;omega
  ·obtain ⟨g,rfl,_⟩:=h.open1 hn
   refine .inl ⟨_,c,rfl,fun j u hu=>?_⟩
   obtain ⟨g',e,_,_,⟨u',mL,hc⟩,_⟩:=h.open1 (j:=j) (by have:=(List.getElem?_eq_some_iff.1 hu).1;omega)
   cases e
   rw [hu] at mL;cases mL
   rw [addr0];exact hc
theorem logP_src {w:World} {mv:Value} {n:Nat} {log:List (Bs×Int)} (h:Own w 3 1 mv n (qD log)):zM 1 mv n (qD log) w:=by
 obtain ⟨a,c,rfl⟩:=h.slice
 refine ⟨h.1,fun u hu=>?_,?_⟩
 ·simp only [qD,List.mem_map] at hu;obtain ⟨x,_,rfl⟩:=hu;rfl
 ·have hl:=h.1
  rcases Nat.eq_zero_or_pos n with rfl | hn
  ·rcases h.2 with ⟨e,_⟩ | ⟨g,cap,cur,e,_⟩
   ·exact .inr ⟨e,rfl⟩
   ·refine .inl ⟨⟨g,0,none⟩,cap,e,fun j u hu=>?_⟩
    have:=(List.getElem?_eq_some_iff.1 hu).1;omega
  ·obtain ⟨g,rfl,_⟩:=h.open1 hn
   refine .inl ⟨_,c,rfl,fun j u hu=>?_⟩
   obtain ⟨g',e,_,_,⟨u',mL,hc⟩,_⟩:=h.open1 (j:=j) (by have:=(List.getElem?_eq_some_iff.1 hu).1;omega)
   cases e
   rw [hu] at mL;cases mL
   rw [addr0];exact hc
theorem make_some:cX true:=by
 intro most ra log mv pt s p w h hl hm _
 have hd:decide (most<log.length)=false:=by rw [decide_eq_false_iff_not];omega
 have hb:=h.blk
 rw [hd] at hb
 have cA:(log++[(s,p)]).length=log.length+1:=by simp
 by_cases hbig:most<log.length+1
 ·refine (make_bad ra mv pt log.length most s p w hb (by omega) hbig).mono ?_
  rintro en w' ⟨rfl,dW,hr⟩
  refine ⟨mv,pt,rfl,dW.weak fun i _ hi=>.inl hi,⟨?_,h.sls,fun _ eX=>by rw [cA] at eX;omega,fun g hg=>⟨(h.ne g hg).1,cM (h.ne g hg).2 dW.size⟩⟩,fun b hb=>.inl hb⟩
  rw [cA,show decide (most<log.length+1)=true from by simpa using hbig]
  exact hr
 ·obtain ⟨o1,o2⟩:=h.rows rfl hl
  refine (make_kept ra mv pt log.length most (qg log) (qD log) s p w hb o1 o2 (logM_src o1) (logP_src o2) (fun g hg=>(h.ne g hg).1) (by omega) hbig).mono ?_
  rintro en w' ⟨a1,c1,a2,c2,rfl,dW,hr,k1,k2,k3,k4⟩
  have m9:=zZ h.blk
  refine ⟨.slice a1 (log.length+1) c1,.slice a2 (log.length+1) c2,rfl,dW.weak fun i _ hi=>.inl hi,⟨?_,⟨_,_,_,_,_,_,rfl,rfl⟩,fun _ _=>⟨by rw [cA,xG];exact k1,by rw [cA,logP_snoc];exact k2⟩,fun g hg=>?_⟩,fun b hb=>?_⟩
  ·rw [cA,show decide (most<log.length+1)=false from by simpa using hbig]
   exact hr
  ·rcases hg with hg | hg
   ·exact ⟨by have:=k3 g hg;omega,k1.lt hg⟩
   ·exact ⟨by have:=k4 g hg;omega,k2.lt hg⟩
  ·rcases hb with hb | hb | hb
   ·exact .inl (.inl hb)
   ·exact .inr (k3 b hb)
   ·exact .inr (k4 b hb)
theorem path_some:cU true:=by
 intro most ra log mv pt i w h hl hm hi
 obtain ⟨q,p,hq,h1,h2⟩:=hi
 have hd:decide (most<log.length)=false:=by rw [decide_eq_false_iff_not];omega
 have hb:=h.blk
 rw [hd] at hb
 obtain ⟨o1,o2⟩:=h.rows rfl hl
 have cL:=(List.getElem?_eq_some_iff.1 hq).1
 obtain ⟨a,c,rfl⟩:=o1.slice
 obtain ⟨g,rfl,hg,_,⟨u,hu,hc⟩,_⟩:=o1.open1 cL
 rw [qg,List.getElem?_map,hq] at hu
 simp only [Option.map_some,Option.some.injEq] at hu
 subst hu
 obtain ⟨c0,c1,c2,c3,c4,c5,f0,f1,f2,f5⟩:=(show RnK w ra _ _ _ _ _ from hb).cells
 have hp:Hid (qy true log i=q.drop 1):=by show qy true log i=_;unfold qy;simp [hq]
 have hx:Hid ((⟨q.toArray⟩:ByteArray).extract 1 q.length=⟨(q.drop 1).toArray⟩):=by
  show _=_
  rw [jr,List.take_length]
 have hi0:(0:Int)<=(i:Int):=by omega
 have d8:(i:Int)<(log.length:Int):=by omega
 have h1':(1:Int)<=(q.length:Int):=by omega
 clear hb o1 o2 hq h hd
 go_enter Tryz.func54,Tryz.ntmps54
 go_wp2_with fail
 go_ret
 exact ⟨by rw [hp.out,hx.out];rfl,rfl⟩
def zo (w:World) (log:List (Bs×Int)) (mv pt:Value):Prop:=Own w 9 1 mv log.length (qg log)/\Own w 3 1 pt log.length (qD log)
theorem zo.below {w w':World} {log:List (Bs×Int)} {mv pt:Value} (h:zo w log mv pt) (hb:Below w.heap.size w w'):zo w' log mv pt :=
 ⟨h.1.keep fun g o hg ho=>by rw [hb.block g (zZ ho)];exact ho,h.2.keep fun g o hg ho=>by rw [hb.block g (zZ ho)];exact ho⟩
theorem zo.but {w w':World} {log:List (Bs×Int)} {mv pt:Value} {m:Nat->Prop} (h:zo w log mv pt) (hb:But m w w') (hm:∀ g,mv.ownBlock=some g\/pt.ownBlock=some g->¬ m g):zo w' log mv pt :=
 ⟨h.1.keep fun g o hg ho=>by rw [hb.block g (zZ ho) (hm g (.inl hg))];exact ho,h.2.keep fun g o hg ho=>by rw [hb.block g (zZ ho) (hm g (.inr hg))];exact ho⟩
def logOf (R:Option (UInt8×List (Bs×Int))):List (Bs×Int):=(R.map (·.2)).getD []
def pI (R:Option (UInt8×List (Bs×Int))) (w:World) (en:Ending) (w':World):Prop :=
 ∃ mv pt,en=.returned (.tuple #[.agg #[mv,pt],str (resOf R).1,.bool (resOf R).2])/\Below w.heap.size w w'/\zo w' (logOf R) mv pt/\(∀ g,mv.ownBlock=some g\/pt.ownBlock=some g->w.heap.size<=g)
theorem yY (w:World):zo w [] (.slice none 0 0) (.slice none 0 0):=⟨World.ownsRow_nil w 0 _ 1,World.ownsRow_nil w 0 _ 1⟩
theorem runS_len (keep:Bool) (f:Nat):∀ (log:List (Bs×Int)) (b:Bd) (env:List SC) (opens:Nat) (st:List SF) (c:UInt8) (log':List (Bs×Int)),j0 keep f log b env opens st=some (c,log')->log'.length<=log.length+f:=by
 induction f with
 | zero =>
   intro log b env opens st c log' h
   cases b with
   | leaf x =>
     rw [j0.eq_def] at h
     simp only at h
     split at h
     ·simp at h;obtain ⟨_,rfl⟩:=h;omega
     ·simp at h
   | ask v ss y n=>rw [j0.eq_def] at h;simp at h
 | succ f ih =>
   intro log b env opens st c log' h
   cases b with
   | leaf x =>
     rw [j0.eq_def] at h
     simp only at h
     split at h
     ·simp at h;obtain ⟨_,rfl⟩:=h;omega
     ·cases st with
      | nil=>simp at h;obtain ⟨_,rfl⟩:=h;simp
      | cons fr st =>
        have:=ih _ _ _ _ _ _ _ h
        simp at this;omega
   | ask v ss y n =>
     rw [j0.eq_def] at h
     simp only at h
     cases he:env[v]? with
     | none=>rw [he] at h;simp at h
     | some e =>
       rw [he] at h
       have:=ih _ _ _ _ _ _ _ h
       simp at this;omega
theorem specRun_len {keep:Bool} {most:Nat} (h1:1<=most) {s text:Bs} {xs:List Bs} {c:UInt8} {log:List (Bs×Int)} (h:kj keep most s text xs=some (c,log)):log.length<=most:=by
 unfold kj at h
 rw [Option.bind_eq_some_iff] at h
 obtain ⟨b,_,h⟩:=h
 split at h
 ·rw [Option.bind_eq_some_iff] at h
  obtain ⟨bs,_,h⟩:=h
  have:=runS_len _ _ _ _ _ _ _ _ _ h
  simp at this;omega
 ·simp at h
set_option maxRecDepth 100000 in
theorem specRunOf_any (s text:Bs) (xs:List Bs) (a:Option Addr) (c:Nat) (w:World) (hx:jQ w a xs) (hs:Lim s.length) (ht:Lim text.length) (mJ:∀ x∈xs,Lim x.length) (n5:Lim xs.length) :
 Calls Tryz.prog 6 #[str s,str text,.slice a xs.length c] w (pI (kj true 60 s text xs) w):=by
 have C:=fun w0 h=>cH (l4Start_any true make_some path_some 60 s text xs a c w0 h hs ht mJ n5 (by omega) (by omega))
 have cA:=fun c log=>cH (@specRun_len true 60 (by omega) s text xs c log)
 have HL:=cH cA;clear cA
 have C1:=C _ (hx.below (show Below w.heap.size w (w.alloc (.cells #[.slice none 0 0,.slice none 0 0] 28)) from (cE _ _).alloc (cC _) _))
 clear hx mJ n5 C
 generalize hR:kj true 60 s text xs=R at *
 have HR:=cH hR;clear hR
 have h6:(w.alloc (.cells #[.slice none 0 0,.slice none 0 0] 28)).heap[w.heap.size]? = some (.cells #[.slice none 0 0,.slice none 0 0] 28 (0,0)):=zT _ _
 have H6:=cH h6;clear h6
 go_enter Tryz.func6,Tryz.ntmps6
 go_wp2_with fail
 refine C1.out.mono ?_
 rintro en w1 ⟨ra,o,ok,rfl,hb,hn,hy⟩
 rw [HR.out] at hn hy
 clear C1
 rw [zK] at hb hy
 have cT:Below w.heap.size w w1:=((cE _ _).alloc (cC _) _).trans (hb.mono (by omega))
 have sT:w1.heap[w.heap.size]? = some (.cells #[.slice none 0 0,.slice none 0 0] 28 (0,0)):=by rw [hb.block _ (by omega)];exact H6.out
 cases R with
 | none =>
   obtain rfl:=hn rfl
   obtain ⟨c0,c1,f0,f1⟩:=uO sT
   have dI:=qq (o:=1) (u:=.slice none 0 0) (qq (o:=0) (u:=.slice none 0 0) sT)
   obtain ⟨d0,d1,_,_⟩:=uO dI
   have HB:=cH (cB cT dI);clear hn hy hb cT dI sT
   go_wp2_with fail
   refine bodyPost_ret (v:=.tuple #[.agg #[.slice none 0 0,.slice none 0 0],str [],.bool false]) (by simp [results,Tryz.results6,go_sem,d0,d1]) rfl ?_
   exact ⟨_,_,rfl,(HB.out.1.setCell (p:=⟨w.heap.size,0,none⟩) (cC _) _).setCell (p:=⟨w.heap.size,1,none⟩) (cC _) _,yY _,fun g hg=>by simp [Value.ownBlock] at hg⟩
 | some x =>
   obtain ⟨rfl,rfl,mv,pt,dX,eV⟩:=hy x.1 x.2 rfl
   have hl:=(HL.out x.1 x.2).out rfl
   obtain ⟨a1,n1,k1,a2,n2,k2,rfl,rfl⟩:=dX.sls
   obtain ⟨r1,r2⟩:=dX.rows rfl hl
   have dd:=dX.blk
   have q0:w1.cell? ⟨ra,0,none⟩=some (.slice a1 n1 k1):=by simp [World.cell?,dd]
   have q1:w1.cell? ⟨ra,1,none⟩=some (.slice a2 n2 k2):=by simp [World.cell?,dd]
   have m9:w.heap.size+1<=ra:=eV ra (.inl rfl)
   obtain ⟨c0,c1,f0,f1⟩:=uO sT
   have dI:=qq (o:=1) (u:=.slice a2 n2 k2) (qq (o:=0) (u:=.slice a1 n1 k1) sT)
   obtain ⟨d0,d1,_,_⟩:=uO dI
   have keep:∀ {e:TypeId} {v:Value} {n:Nat} {zs:List Value},Own w1 e 1 v n zs->(∀ g,v.ownBlock=some g->w.heap.size+1<=g)->Own ((w1.setCell ⟨w.heap.size,0,none⟩ (.slice a1 n1 k1)).setCell ⟨w.heap.size,1,none⟩ (.slice a2 n2 k2)) e 1 v n zs:=fun ho hf =>
    ho.keep fun g o hg hh=>by
     have:=hf g hg
     rw [cF _ _ _ _ (by show g≠w.heap.size;omega),cF _ _ _ _ (by show g≠w.heap.size;omega)];exact hh
   have HB:=cH (cB cT (cB (keep r1 fun g hg=>eV g (.inr (.inl hg))) (cB (keep r2 fun g hg=>eV g (.inr (.inr hg))) eV)));clear hn hy hb cT dI sT keep r1 r2 dd dX eV
   go_wp2_with fail
   refine bodyPost_ret (v:=.tuple #[.agg #[.slice a1 n1 k1,.slice a2 n2 k2],str [x.1],.bool true]) (by simp [results,Tryz.results6,go_sem,d0,d1]) rfl ?_
   refine ⟨_,_,rfl,(HB.out.1.setCell (p:=⟨w.heap.size,0,none⟩) (cC _) _).setCell (p:=⟨w.heap.size,1,none⟩) (cC _) _,⟨HB.out.2.1,HB.out.2.2.1⟩,fun g hg=>?_⟩
   have h:=HB.out.2.2.2
   rcases hg with hg | hg
   ·have:=h g (.inr (.inl hg));omega
   ·have:=h g (.inr (.inr hg));omega
set_option maxRecDepth 100000 in
theorem implRunOf_any (s text:Bs) (xs:List Bs) (a:Option Addr) (c:Nat) (w:World) (hg:qL w) (tu:jp w) (hx:jQ w a xs) (hs:Lim s.length) (ht:Lim text.length) (mJ:∀ x∈xs,Lim x.length) (n5:Lim xs.length) :
 Calls Tryz.prog 5 #[str s,str text,.slice a xs.length c] w (pI (kV 60 s text xs) w):=by
 have dm:Below w.heap.size w (w.alloc (.cells #[.slice none 0 0,.slice none 0 0] 28)):=(cE _ _).alloc (cC _) _
 have C1:=cH (runOf_any true 60 s text xs a c _ (hg.below dm) (tu.but (m:=fun _=>False) (But.ofBelow dm) (fun h=>h)) (hx.below dm) hs ht mJ n5 (by omega) (by omega))
 clear hx mJ n5 hg tu dm
 generalize hR:kV 60 s text xs=R at *
 have HR:=cH hR;clear hR
 have h6:(w.alloc (.cells #[.slice none 0 0,.slice none 0 0] 28)).heap[w.heap.size]? = some (.cells #[.slice none 0 0,.slice none 0 0] 28 (0,0)):=zT _ _
 have H6:=cH h6;clear h6
 go_enter Tryz.func5,Tryz.ntmps5
 go_wp2_with fail
 refine C1.out.mono ?_
 rintro en w1 ⟨hb,hn,hy⟩
 rw [HR.out] at hn hy
 clear C1
 rw [zK] at hb hy
 have cT:Below w.heap.size w w1:=((cE _ _).alloc (cC _) _).trans (hb.mono (by omega))
 have sT:w1.heap[w.heap.size]? = some (.cells #[.slice none 0 0,.slice none 0 0] 28 (0,0)):=by rw [hb.block _ (by omega)];exact H6.out
 cases R with
 | none =>
   obtain rfl:=hn rfl
   obtain ⟨c0,c1,f0,f1⟩:=uO sT
   have dI:=qq (o:=1) (u:=.slice none 0 0) (qq (o:=0) (u:=.slice none 0 0) sT)
   obtain ⟨d0,d1,_,_⟩:=uO dI
   have HB:=cH (cB cT dI);clear hn hy hb cT dI sT
   go_wp2_with fail
   refine bodyPost_ret (v:=.tuple #[.agg #[.slice none 0 0,.slice none 0 0],str [],.bool false]) (by simp [results,Tryz.results5,go_sem,d0,d1]) rfl ?_
   exact ⟨_,_,rfl,(HB.out.1.setCell (p:=⟨w.heap.size,0,none⟩) (cC _) _).setCell (p:=⟨w.heap.size,1,none⟩) (cC _) _,yY _,fun g hg=>by simp [Value.ownBlock] at hg⟩
 | some x =>
   obtain ⟨ma,a1,n1,k1,a2,n2,k2,rfl,nR,eV⟩:=hy x.1 x.2 rfl
   obtain ⟨r1,r2⟩:=nR.rows rfl
   obtain ⟨c0,c1,f0,f1⟩:=uO sT
   have dI:=qq (o:=1) (u:=.slice a2 n2 k2) (qq (o:=0) (u:=.slice a1 n1 k1) sT)
   obtain ⟨d0,d1,_,_⟩:=uO dI
   have keep:∀ {e:TypeId} {v:Value} {n:Nat} {zs:List Value},Own w1 e 1 v n zs->(∀ g,v.ownBlock=some g->w.heap.size+1<=g)->Own ((w1.setCell ⟨w.heap.size,0,none⟩ (.slice a1 n1 k1)).setCell ⟨w.heap.size,1,none⟩ (.slice a2 n2 k2)) e 1 v n zs:=fun ho hf =>
    ho.keep fun g o hg hh=>by
     have:=hf g hg
     rw [cF _ _ _ _ (by show g≠w.heap.size;omega),cF _ _ _ _ (by show g≠w.heap.size;omega)];exact hh
   have HB:=cH (cB cT (cB (keep r1 fun g hg=>eV g (.inr (.inl hg))) (cB (keep r2 fun g hg=>eV g (.inr (.inr hg))) eV)));clear hn hy hb cT dI sT keep r1 r2 nR eV
   go_wp2_with fail
   refine bodyPost_ret (v:=.tuple #[.agg #[.slice a1 n1 k1,.slice a2 n2 k2],str [x.1],.bool true]) (by simp [results,Tryz.results5,go_sem,d0,d1]) rfl ?_
   refine ⟨_,_,rfl,(HB.out.1.setCell (p:=⟨w.heap.size,0,none⟩) (cC _) _).setCell (p:=⟨w.heap.size,1,none⟩) (cC _) _,⟨HB.out.2.1,HB.out.2.2.1⟩,fun g hg=>?_⟩
   have h:=HB.out.2.2.2
   rcases hg with hg | hg
   ·have:=h g (.inr (.inl hg));omega
   ·have:=h g (.inr (.inr hg));omega
def MarkAt (w:World) (n k:Nat) (mv pt:Value):Prop:=Own w 9 1 mv n (marksS k n)/\Own w 3 1 pt n (marksI (k+n) n)
theorem MarkAt.below {w w':World} {n k:Nat} {mv pt:Value} (h:MarkAt w n k mv pt) (hb:Below w.heap.size w w'):MarkAt w' n k mv pt :=
 ⟨h.1.keep fun g o hg ho=>by rw [hb.block g (zZ ho)];exact ho,h.2.keep fun g o hg ho=>by rw [hb.block g (zZ ho)];exact ho⟩
end Go.Proofs.YtdhaafoiokkbnaaGreatDoor

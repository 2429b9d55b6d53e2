/- Walks of functions that the statement reaches, and plain words. No conditions. -/
import Derived.Deep.DeepCutAuto
import Derived.Laws.MakeOwn
import Derived.RegionTactic
import Derived.Test.YtfedjhgaeikjmaaGreatDoorQ6
set_option linter.unusedVariables false
set_option linter.unusedSimpArgs false
set_option maxHeartbeats 4000000
namespace Go.Proofs.YtfedjhgaeikjmaaGreatDoor
open Go.RowKit
def wk (t:Ty) (xs:List Bs) (w:World) (en:Ending) (w':World):Prop :=
 ∃ a n c,en=.returned (.tuple #[.slice a n c,.bool (decide (xs.length=t.args.length) && (zk t.args xs).isSome)])/\Below w.heap.size w w' /\
   (∀ bs,xs.length=t.args.length->zk t.args xs=some bs->n=bs.length/\Rep (w.heap.size<=·) w' (.sl 64 4 bs.length (zm bs)) (.slice a bs.length c))
theorem Rep.alloc {F:Nat->Prop} {w:World} {d:DV} {v:Value} (h:Rep F w d v) (o:Obj):Rep F (w.alloc o) d v:=(Rep.keep fun _ _ hf ho=>⟨hf,zX ho⟩).1 _ _ h
theorem below_ad2 {w wc:World} {o o':Obj} (h:Below ((w.alloc o).alloc o').drew.heap.size ((w.alloc o).alloc o').drew wc):Below w.heap.size w wc:=by
 have h1:=bN (w:=w.alloc o) h
 exact ((bi w.heap.size w).alloc (br _) o).trans (h1.mono (by rw [zK];omega))
theorem early1 {w wc:World} {o:Obj} (h:Below (w.alloc o).drew.heap.size (w.alloc o).drew wc):wc.heap[w.heap.size]? = some o:=by
 rw [h.block _ (by show _<(w.alloc o).heap.size;rw [zK];omega)];exact zS w o
theorem gJ {w wc:World} {o:Obj} (h:Below (w.alloc o).heap.size (w.alloc o) wc):wc.heap[w.heap.size]? = some o:=by
 rw [h.block _ (by rw [zK];omega)];exact zS w o
theorem early2 {w wc:World} {o o':Obj} (h:Below ((w.alloc o).alloc o').drew.heap.size ((w.alloc o).alloc o').drew wc):wc.heap[w.heap.size]? = some o/\wc.heap[w.heap.size+1]? = some o':=by
 have hz:((w.alloc o).alloc o').drew.heap.size=w.heap.size+2:=by show ((w.alloc o).alloc o').heap.size=_;rw [zK,zK]
 refine ⟨by rw [h.block _ (by omega)];exact zX (zS w o),?_⟩
 rw [h.block _ (by omega)]
 have:=zS (w.alloc o) o'
 rw [zK] at this;exact this
theorem gQ {w wc:World} {o o':Obj} (h:Below ((w.alloc o).alloc o').heap.size ((w.alloc o).alloc o') wc):wc.heap[w.heap.size]? = some o/\wc.heap[w.heap.size+1]? = some o':=by
 have hz:((w.alloc o).alloc o').heap.size=w.heap.size+2:=by rw [zK,zK]
 refine ⟨by rw [h.block _ (by omega)];exact zX (zS w o),?_⟩
 rw [h.block _ (by omega)]
 have:=zS (w.alloc o) o'
 rw [zK] at this;exact this
theorem vk {X wc:World} {b:Nat} {x:Obj} (hb:Below X.heap.size X wc) (hX:X.heap[b]? = some x):wc.heap[b]? = some x:=by
 rw [hb.block b (zZ hX)];exact hX
theorem j6 {w:World} {b:Nat} {u:Value} {T:TypeId} (h:w.heap[b]? = some (.cells #[u] T (0,0))):w.cell? ⟨b,0,none⟩=some u/\w.frozen? ⟨b,0,none⟩=false/\b<w.heap.size:=⟨by simp [World.cell?,h],by simp [World.frozen?,h],zZ h⟩
theorem j5 {w:World} {b:Nat} {u0 u1 u2 u3:Value} {T:TypeId} (h:w.heap[b]? = some (.cells #[u0,u1,u2,u3] T (0,0))):w.cell? ⟨b,0,none⟩=some u0/\w.cell? ⟨b,1,none⟩=some u1/\w.cell? ⟨b,2,none⟩=some u2/\w.cell? ⟨b,3,none⟩=some u3/\w.frozen? ⟨b,0,none⟩=false/\w.frozen? ⟨b,1,none⟩=false/\w.frozen? ⟨b,2,none⟩=false/\w.frozen? ⟨b,3,none⟩=false/\b<w.heap.size :=
 ⟨by simp [World.cell?,h],by simp [World.cell?,h],by simp [World.cell?,h],by simp [World.cell?,h],by simp [World.frozen?,h],by simp [World.frozen?,h],by simp [World.frozen?,h],by simp [World.frozen?,h],zZ h⟩
theorem wa {w:World} {o:Obj} {g:Nat} (h:g=w.heap.size):(w.alloc o).heap[g]? = some o:=by subst h;exact zS w o
theorem sizeS (w:World) (p:Addr) (u:Value):w.heap.size=(w.setCell p u).heap.size:=by simp [World.setCell]
theorem sizeA (w:World) (o:Obj):w.heap.size+1=(w.alloc o).heap.size:=(zK w o).symm
theorem heap_new2 (w:World) (o o':Obj):((w.alloc o).alloc o').heap[w.heap.size+1]? = some o':=by
 have:=zS (w.alloc o) o'
 rw [zK] at this;exact this
theorem gV {B:Nat} {y0 y1 y2 y3:Value} {T:TypeId} {w:World} (h:w.heap[B]? = some (.cells #[y0,y1,y2,y3] T (0,0))) (x0 x1 x2 x3:Value):((((w.setCell ⟨B,0,none⟩ x0).setCell ⟨B,1,none⟩ x1).setCell ⟨B,2,none⟩ x2).setCell ⟨B,3,none⟩ x3).heap[B]? = some (.cells #[x0,x1,x2,x3] T (0,0)):=boxPut_at h x0 x1 x2 x3
theorem heap_ne {w:World} {b i:Nat} {o:Nat} {u:Value} {x:Obj} (h:w.heap[i]? = some x) (hi:¬ i=b):(w.setCell ⟨b,o,none⟩ u).heap[i]? = some x:=by
 rw [b5 _ _ _ _ hi];exact h
def ArgCut (wr:World) (X x:Bs) (s9 s10:Value) (wx:World):Prop :=
 ∃ g s' v' a2 n2 c2 a3 n3 c3,s9=.pointer (some ⟨g,0,none⟩)/\s10=.bool (zT X x).isSome/\wr.heap.size<=g/\wx.heap[g]? = some (.cells #[str s',.int .i64 v',.slice a2 n2 c2,.slice a3 n3 c3] 64 (0,0))/\Below wr.heap.size wr wx /\
   (∀ b,zT X x=some b->zG (fun i=>wr.heap.size<=i/\i≠g) wx (kC b) [str s',.int .i64 v',.slice a2 n2 c2,.slice a3 n3 c3])
theorem encNs_snoc (bs:List Bd) (b:Bd):zm (bs++[b])=zm bs++kC b:=by rw [kr];simp [zm]
set_option maxRecDepth 100000 in
theorem l4Args_any (F:Nat->Prop) (t:Ty) (tv:Value) (xs:List Bs) (a:Option Addr) (c:Nat) (w:World) (ht:Rep F w (jX t) tv) (cQ:zV t<=15) (hx:qD w a xs) (eF:∀ x∈xs,Lim x.length) (mV:Lim xs.length) :
 Calls Tryz.prog 75 #[.agg #[tv],.slice a xs.length c] w (wk t xs w):=by
 have hxl':=mV.le
 have t6:t.args.length<=15:=by have:=zp t;have:=zc t.args;omega
 have eM:=ht
 rw [qY] at eM
 obtain ⟨ka,kc,e,_,_,iO⟩:=zF eM
 subst e
 have H:=bc (bm iO (bm hx (bm eF cQ)));clear iO hx eF mV ht eM
 by_cases b_:xs.length=t.args.length
 rotate_left
 ·have hd:((xs.length:Int) != (t.args.length:Int))=true:=by rw [bne_iff_ne];omega
  have HL:=bc b_;clear b_
  go_enter Tryz.func75,Tryz.ntmps75
  go_wp2_with fail
  go_ret2
  unfold wk
  rw [decide_eq_false HL.out]
  exact ⟨_,_,_,rfl,((bi _ _).alloc (br _) _).alloc (by simp) _,fun bs h=>absurd h HL.out⟩
 have hd:((xs.length:Int) != (t.args.length:Int))=false:=by rw [b_];simp
 have HL:=bc b_;clear b_
 have s7:((w.alloc (.cells #[.slice ka t.args.length kc] 61)).alloc (.cells #[] 64)).cell? ⟨w.heap.size,0,none⟩=some (.slice ka t.args.length kc):=by simp
 have dM:Below w.heap.size w ((w.alloc (.cells #[.slice ka t.args.length kc] 61)).alloc (.cells #[] 64)):=((bi _ _).alloc (br _) _).alloc (by simp) _
 have Cu:Own ((w.alloc (.cells #[.slice ka t.args.length kc] 61)).alloc (.cells #[] 64)) 64 4 (.slice (some ⟨w.heap.size+1,0,none⟩) 0 0) 0 []:=Own.litAt #[] 0 _ (by simp) (by decide) rfl
 have HA:=bc (bm s7 (bm dM Cu));clear s7 dM Cu
 go_enter Tryz.func75,Tryz.ntmps75
 go_wp2_with fail
 go_loopw [6,7] (fun l i wr=>∃ (k:Nat) (a':Option Addr) (c':Nat) (us:List Value) (bs:List Bd),k<=xs.length/\i=.int .i64 k/\l=.slice a' k c'/\Own wr 64 4 (.slice a' k c') k us/\zG (fun i=>w.heap.size<=i/\(Value.slice a' k c').ownBlock≠some i) wr (zm bs) us/\bs.length=k/\zk (t.args.take k) (xs.take k)=some bs/\Below w.heap.size w wr /\
  (∀ g,(Value.slice a' k c').ownBlock=some g->w.heap.size+1<=g)/\wr.cell? ⟨w.heap.size,0,none⟩=some (.slice ka t.args.length kc)) (fun _ i _=>xs.length-(intOf i).toNat)
 case atStart=>exact ⟨0,_,_,[],[],Nat.zero_le _,rfl,rfl,HA.out.2.2,by rw [zm];exact zC.2 rfl,rfl,by simp [zk],HA.out.2.1,fun g h=>by simp [Value.ownBlock] at h;omega,HA.out.1⟩
 case round =>
  obtain ⟨k,a',c',us,bs,hk,rfl,rfl,ho,hr,db,dZ,hb,hf,sZ⟩:=hrel
  have HO:=bc (bm ho (bm hr (bm dZ (bm hf (bm hb db)))));clear ho hr dZ hf hb db
  by_cases cZ:k<xs.length
  ·obtain ⟨x,aG⟩:∃ x,xs[k]? = some x:=⟨xs[k],by simp [cZ]⟩
   obtain ⟨bs1,os1,es1,rS⟩:=H.out.2.1.below HO.out.2.2.2.2.1 k x aG
   subst es1
   have hlx:=H.out.2.2.1 x (List.mem_of_getElem? aG)
   have Bw:k<t.args.length:=by have:=HL.out;omega
   obtain ⟨bk,ok,uk,dk,eka,_,l5,n5,sn,mG⟩:=H.out.1 k Bw
   subst eka
   rw [jv,Option.map_eq_some_iff] at n5
   obtain ⟨tk,dI,rfl⟩:=n5
   obtain ⟨ua,uc,e⟩:=zl mG
   subst e
   have rA:wr.cell? ⟨bk,ok+k,none⟩=some (.slice ua tk.args.length uc):=by rw [HO.out.2.2.2.2.1.cell l5];exact sn
   have rP:=Rep.below (F':=fun _=>True) HO.out.2.2.2.2.1 (fun _ _=>trivial) mG
   have rv:zV tk<=15:=by have:=H.out.2.2.2;have hm:=zp t;have:=qR (List.mem_of_getElem? dI);omega
   have Bv:(k:Int)<(t.args.length:Int):=by omega
   have dd:(k:Int)<(xs.length:Int):=by omega
   obtain ⟨X,hX⟩:=zzM (kV tk)
   have hXl:Lim X.length:=by rw [hX];have:=jO 15 tk rv;show _<=_;omega
   have C1:=bc (fun wz (hz:Rep (fun _=>True) wz (jX tk) (.slice ua tk.args.length uc))=>hH 15 tk rv (by omega) _ wz _ hz)
   rw [<- hX] at C1
   have R0:=bc rP.drew
   have R1:=bc (fun o=>(rP.alloc o).drew)
   have R2:=bc (fun o o'=>((rP.alloc o).alloc o').drew)
   have C2:=bc (fun wz=>yj X x hXl hlx wz)
   have HS:=bc (bm aG (bm dI (bm hX rv)));clear aG dI hX rv sn mG rP hXl hlx
   have ri:bk<wr.heap.size:=be wr _ rA
   have rh:bs1<wr.heap.size:=be wr _ rS
   have h0b:w.heap.size<wr.heap.size:=be wr _ sZ
   go_upto_region 7 with (fail)
   go_cut [9,10] (fun s9 s10 wx=>ArgCut wr X x s9 s10 wx)
   case first =>
    have nk0:¬ wr.heap.size<=w.heap.size:=by omega
    have nk1:¬ wr.heap.size<=bk:=by omega
    have nk2:¬ wr.heap.size<=bs1:=by omega
    go_region_held3 (fun w'=>w'.cell? ⟨w.heap.size,0,none⟩=some (.slice (some ⟨bk,ok,none⟩) t.args.length kc)/\w'.cell? ⟨bk,ok+k,none⟩=some (.slice ua tk.args.length uc)/\w'.cell? ⟨bs1,os1+k,none⟩=some (str x))
     (first
      | (refine wl (m:=fun i=>wr.heap.size<=i) ?_ sZ rA rS nk0 nk1 nk2;(repeat' (first | with_reducible exact But.ofBelow eZ.out | with_reducible refine But.alloc ?_ _ | with_reducible refine But.drew ?_ | with_reducible refine But.setCell ?_ (.inr ?_) _));all_goals ((try dsimp only);omega))
      | (refine wl (m:=fun i=>wr.heap.size<=i) ?_ sZ rA rS nk0 nk1 nk2;(repeat' (first | with_reducible exact But.ofBelow cj.out | with_reducible refine But.alloc ?_ _ | with_reducible refine But.drew ?_ | with_reducible refine But.setCell ?_ (.inr ?_) _));all_goals ((try dsimp only);omega))
      | (refine wl (m:=fun i=>wr.heap.size<=i) ?_ sZ rA rS nk0 nk1 nk2;(repeat' (first | with_reducible exact (But.refl (fun i=>wr.heap.size<=i) wr) | with_reducible refine But.alloc ?_ _ | with_reducible refine But.drew ?_ | with_reducible refine But.setCell ?_ (.inr ?_) _));all_goals ((try dsimp only);omega))
      | go_keep)
     (first
      | (go_at_call 31;have Dc:=rK;have _t1:=Dn;(with_reducible refine (C2.out w1).mono ?_);rintro en w2 ⟨sa,sc,s',v',a2,n2,c2,a3,n3,c3,rfl,b8,dY,cO⟩;have F8:w2.heap[wr.heap.size]? = some (.cells #[.slice none 0 0] 61 (0,0)):=vk b8 rK.out;have F9:w2.heap[(wr.heap.size+1)]? = some (.cells #[str [],.int .i64 0,.slice none 0 0,.slice none 0 0] 64 (0,0)):=vk b8 Dn.out;have eZ:=bc ((cj.out).trans (b8.mono (cj.out).size));have z2:=b8.size;(try rw [zK] at z2);(try rw [zK] at z2);have q0:=zZ rK.out;have q1:=zZ Dn.out;have rJ:¬ wr.heap.size=(wr.heap.size+1):=(by omega);have rQ:¬ (wr.heap.size+1)=wr.heap.size:=(by omega);obtain ⟨i4,ii,l8⟩:=j6 F8;have F8:=bc F8;obtain ⟨i3,i1,io,il,ie,ia,ib,ir,l9⟩:=j5 F9;have F9:=bc F9;have c_:=bc (bm b8 cO);clear b8 cO dY)
      | (go_at_call 31;have Dc:=rZ;have _t1:=Do;(with_reducible refine (C2.out w1).mono ?_);rintro en w2 ⟨sa,sc,s',v',a2,n2,c2,a3,n3,c3,rfl,b8,dY,cO⟩;have F9:w2.heap[wr.heap.size]? = some (.cells #[str [],.int .i64 0,.slice none 0 0,.slice none 0 0] 64 (0,0)):=vk b8 rZ.out;have F8:w2.heap[(wr.heap.size+1)]? = some (.cells #[.slice none 0 0] 61 (0,0)):=vk b8 Do.out;have eZ:=bc ((cj.out).trans (b8.mono (cj.out).size));have z2:=b8.size;(try rw [zK] at z2);(try rw [zK] at z2);have q0:=zZ rZ.out;have q1:=zZ Do.out;have rJ:¬ (wr.heap.size+1)=wr.heap.size:=(by omega);have rQ:¬ wr.heap.size=(wr.heap.size+1):=(by omega);obtain ⟨i4,ii,l8⟩:=j6 F8;have F8:=bc F8;obtain ⟨i3,i1,io,il,ie,ia,ib,ir,l9⟩:=j5 F9;have F9:=bc F9;have c_:=bc (bm b8 cO);clear b8 cO dY)
      | (go_at_call 31;have Dc:=rK;(with_reducible refine (C2.out w1).mono ?_);rintro en w2 ⟨sa,sc,s',v',a2,n2,c2,a3,n3,c3,rfl,b8,dY,cO⟩;have F8:w2.heap[wr.heap.size]? = some (.cells #[.slice none 0 0] 61 (0,0)):=vk b8 rK.out;have eZ:=bc ((cj.out).trans (b8.mono (cj.out).size));have z2:=b8.size;(try rw [zK] at z2);(try rw [zK] at z2);have q0:=zZ rK.out;obtain ⟨i4,ii,l8⟩:=j6 F8;have F8:=bc F8;have c_:=bc (bm b8 cO);clear b8 cO dY)
      | (go_at_call 31;have Dc:=rK;(with_reducible refine (C2.out (w1.alloc (.cells #[str [],.int .i64 0,.slice none 0 0,.slice none 0 0] 64))).mono ?_);rintro en w2 ⟨sa,sc,s',v',a2,n2,c2,a3,n3,c3,rfl,b8,dY,cO⟩;have F8:w2.heap[wr.heap.size]? = some (.cells #[.slice none 0 0] 61 (0,0)):=vk b8 (zX rK.out);have F9:w2.heap[w1.heap.size]? = some (.cells #[str [],.int .i64 0,.slice none 0 0,.slice none 0 0] 64 (0,0)):=gJ b8;have eZ:=bc ((cj.out.alloc cj.out.size _).trans (b8.mono (cj.out.alloc cj.out.size _).size));have z2:=b8.size;(try rw [zK] at z2);(try rw [zK] at z2);have q0:=zZ rK.out;have rJ:¬ wr.heap.size=w1.heap.size:=(by omega);have rQ:¬ w1.heap.size=wr.heap.size:=(by omega);obtain ⟨i4,ii,l8⟩:=j6 F8;have F8:=bc F8;obtain ⟨i3,i1,io,il,ie,ia,ib,ir,l9⟩:=j5 F9;have F9:=bc F9;have c_:=bc (bm b8 cO);clear b8 cO dY)
      | (go_at_call 31;have Dc:=rZ;(with_reducible refine (C2.out w1).mono ?_);rintro en w2 ⟨sa,sc,s',v',a2,n2,c2,a3,n3,c3,rfl,b8,dY,cO⟩;have F9:w2.heap[wr.heap.size]? = some (.cells #[str [],.int .i64 0,.slice none 0 0,.slice none 0 0] 64 (0,0)):=vk b8 rZ.out;have eZ:=bc ((cj.out).trans (b8.mono (cj.out).size));have z2:=b8.size;(try rw [zK] at z2);(try rw [zK] at z2);have q0:=zZ rZ.out;obtain ⟨i3,i1,io,il,ie,ia,ib,ir,l9⟩:=j5 F9;have F9:=bc F9;have c_:=bc (bm b8 cO);clear b8 cO dY)
      | (go_at_call 31;have Dc:=rZ;(with_reducible refine (C2.out (w1.alloc (.cells #[.slice none 0 0] 61))).mono ?_);rintro en w2 ⟨sa,sc,s',v',a2,n2,c2,a3,n3,c3,rfl,b8,dY,cO⟩;have F9:w2.heap[wr.heap.size]? = some (.cells #[str [],.int .i64 0,.slice none 0 0,.slice none 0 0] 64 (0,0)):=vk b8 (zX rZ.out);have F8:w2.heap[w1.heap.size]? = some (.cells #[.slice none 0 0] 61 (0,0)):=gJ b8;have eZ:=bc ((cj.out.alloc cj.out.size _).trans (b8.mono (cj.out.alloc cj.out.size _).size));have z2:=b8.size;(try rw [zK] at z2);(try rw [zK] at z2);have q0:=zZ rZ.out;have rJ:¬ w1.heap.size=wr.heap.size:=(by omega);have rQ:¬ wr.heap.size=w1.heap.size:=(by omega);obtain ⟨i4,ii,l8⟩:=j6 F8;have F8:=bc F8;obtain ⟨i3,i1,io,il,ie,ia,ib,ir,l9⟩:=j5 F9;have F9:=bc F9;have c_:=bc (bm b8 cO);clear b8 cO dY)
      | (go_at_call 31;(with_reducible refine (C2.out w1).mono ?_);rintro en w2 ⟨sa,sc,s',v',a2,n2,c2,a3,n3,c3,rfl,b8,dY,cO⟩;have eZ:=bc ((cj.out).trans (b8.mono (cj.out).size));have z2:=b8.size;(try rw [zK] at z2);(try rw [zK] at z2);have c_:=bc (bm b8 cO);clear b8 cO dY)
      | (go_at_call 31;(with_reducible refine (C2.out (w1.alloc (.cells #[.slice none 0 0] 61))).mono ?_);rintro en w2 ⟨sa,sc,s',v',a2,n2,c2,a3,n3,c3,rfl,b8,dY,cO⟩;have F8:w2.heap[w1.heap.size]? = some (.cells #[.slice none 0 0] 61 (0,0)):=gJ b8;have eZ:=bc ((cj.out.alloc cj.out.size _).trans (b8.mono (cj.out.alloc cj.out.size _).size));have z2:=b8.size;(try rw [zK] at z2);(try rw [zK] at z2);obtain ⟨i4,ii,l8⟩:=j6 F8;have F8:=bc F8;have c_:=bc (bm b8 cO);clear b8 cO dY)
      | (go_at_call 31;(with_reducible refine (C2.out (w1.alloc (.cells #[str [],.int .i64 0,.slice none 0 0,.slice none 0 0] 64))).mono ?_);rintro en w2 ⟨sa,sc,s',v',a2,n2,c2,a3,n3,c3,rfl,b8,dY,cO⟩;have F9:w2.heap[w1.heap.size]? = some (.cells #[str [],.int .i64 0,.slice none 0 0,.slice none 0 0] 64 (0,0)):=gJ b8;have eZ:=bc ((cj.out.alloc cj.out.size _).trans (b8.mono (cj.out.alloc cj.out.size _).size));have z2:=b8.size;(try rw [zK] at z2);(try rw [zK] at z2);obtain ⟨i3,i1,io,il,ie,ia,ib,ir,l9⟩:=j5 F9;have F9:=bc F9;have c_:=bc (bm b8 cO);clear b8 cO dY)
      | (go_at_call 31;(with_reducible refine (C2.out ((w1.alloc (.cells #[.slice none 0 0] 61)).alloc (.cells #[str [],.int .i64 0,.slice none 0 0,.slice none 0 0] 64))).mono ?_);rintro en w2 ⟨sa,sc,s',v',a2,n2,c2,a3,n3,c3,rfl,b8,dY,cO⟩;have F8:w2.heap[w1.heap.size]? = some (.cells #[.slice none 0 0] 61 (0,0)):=(gQ b8).1;have F9:w2.heap[(w1.heap.size+1)]? = some (.cells #[str [],.int .i64 0,.slice none 0 0,.slice none 0 0] 64 (0,0)):=(gQ b8).2;have eZ:=bc (((cj.out.alloc cj.out.size _).alloc (cj.out.alloc cj.out.size _).size _).trans (b8.mono ((cj.out.alloc cj.out.size _).alloc (cj.out.alloc cj.out.size _).size _).size));have z2:=b8.size;(try rw [zK] at z2);(try rw [zK] at z2);have rJ:¬ w1.heap.size=(w1.heap.size+1):=(by omega);have rQ:¬ (w1.heap.size+1)=w1.heap.size:=(by omega);obtain ⟨i4,ii,l8⟩:=j6 F8;have F8:=bc F8;obtain ⟨i3,i1,io,il,ie,ia,ib,ir,l9⟩:=j5 F9;have F9:=bc F9;have c_:=bc (bm b8 cO);clear b8 cO dY)
      | (go_at_call 31;(with_reducible refine (C2.out ((w1.alloc (.cells #[str [],.int .i64 0,.slice none 0 0,.slice none 0 0] 64)).alloc (.cells #[.slice none 0 0] 61))).mono ?_);rintro en w2 ⟨sa,sc,s',v',a2,n2,c2,a3,n3,c3,rfl,b8,dY,cO⟩;have F9:w2.heap[w1.heap.size]? = some (.cells #[str [],.int .i64 0,.slice none 0 0,.slice none 0 0] 64 (0,0)):=(gQ b8).1;have F8:w2.heap[(w1.heap.size+1)]? = some (.cells #[.slice none 0 0] 61 (0,0)):=(gQ b8).2;have eZ:=bc (((cj.out.alloc cj.out.size _).alloc (cj.out.alloc cj.out.size _).size _).trans (b8.mono ((cj.out.alloc cj.out.size _).alloc (cj.out.alloc cj.out.size _).size _).size));have z2:=b8.size;(try rw [zK] at z2);(try rw [zK] at z2);have rJ:¬ (w1.heap.size+1)=w1.heap.size:=(by omega);have rQ:¬ w1.heap.size=(w1.heap.size+1):=(by omega);obtain ⟨i4,ii,l8⟩:=j6 F8;have F8:=bc F8;obtain ⟨i3,i1,io,il,ie,ia,ib,ir,l9⟩:=j5 F9;have F9:=bc F9;have c_:=bc (bm b8 cO);clear b8 cO dY)
      | (go_at_call 108;(with_reducible refine (C1.out wr.drew (R0.out)).mono ?_);rintro en w1 ⟨rfl,b9⟩;have cj:=bc (wD b9);have z1:=cj.out.size;have dh:=bc b9;clear b9)
      | (go_at_call 108;(with_reducible refine (C1.out (wr.alloc (.cells #[.slice none 0 0] 61)).drew (R1.out _)).mono ?_);rintro en w1 ⟨rfl,b9⟩;have rK:w1.heap[wr.heap.size]? = some (.cells #[.slice none 0 0] 61 (0,0)):=early1 b9;have rK:=bc rK;have cj:=bc (bN b9);have z1:=cj.out.size;have dh:=bc b9;clear b9)
      | (go_at_call 108;(with_reducible refine (C1.out (wr.alloc (.cells #[str [],.int .i64 0,.slice none 0 0,.slice none 0 0] 64)).drew (R1.out _)).mono ?_);rintro en w1 ⟨rfl,b9⟩;have rZ:w1.heap[wr.heap.size]? = some (.cells #[str [],.int .i64 0,.slice none 0 0,.slice none 0 0] 64 (0,0)):=early1 b9;have rZ:=bc rZ;have cj:=bc (bN b9);have z1:=cj.out.size;have dh:=bc b9;clear b9)
      | (go_at_call 108;(with_reducible refine (C1.out ((wr.alloc (.cells #[.slice none 0 0] 61)).alloc (.cells #[str [],.int .i64 0,.slice none 0 0,.slice none 0 0] 64)).drew (R2.out _ _)).mono ?_);rintro en w1 ⟨rfl,b9⟩;have rK:w1.heap[wr.heap.size]? = some (.cells #[.slice none 0 0] 61 (0,0)):=(early2 b9).1;have Dn:w1.heap[(wr.heap.size+1)]? = some (.cells #[str [],.int .i64 0,.slice none 0 0,.slice none 0 0] 64 (0,0)):=(early2 b9).2;have rK:=bc rK;have Dn:=bc Dn;have cj:=bc (below_ad2 b9);have z1:=cj.out.size;have dh:=bc b9;clear b9)
      | (go_at_call 108;(with_reducible refine (C1.out ((wr.alloc (.cells #[str [],.int .i64 0,.slice none 0 0,.slice none 0 0] 64)).alloc (.cells #[.slice none 0 0] 61)).drew (R2.out _ _)).mono ?_);rintro en w1 ⟨rfl,b9⟩;have rZ:w1.heap[wr.heap.size]? = some (.cells #[str [],.int .i64 0,.slice none 0 0,.slice none 0 0] 64 (0,0)):=(early2 b9).1;have Do:w1.heap[(wr.heap.size+1)]? = some (.cells #[.slice none 0 0] 61 (0,0)):=(early2 b9).2;have rZ:=bc rZ;have Do:=bc Do;have cj:=bc (below_ad2 b9);have z1:=cj.out.size;have dh:=bc b9;clear b9))
    all_goals (go_wp2_with fail;go_meet)
    all_goals
     have hHB2:=c_.out.2
     refine ⟨_,s',v',a2,n2,c2,a3,n3,c3,rfl,rfl,?_,?_,?_,fun b hb=>?_⟩
     ·omega
     ·first
       | with_reducible exact gV F9.out _ _ _ _
       | with_reducible exact zX (gV F9.out _ _ _ _)
       | with_reducible exact gV (heap_ne F9.out rJ) _ _ _ _
       | with_reducible exact gV (heap_ne F9.out rQ) _ _ _ _
       | ((with_reducible refine wa ?_);first | with_reducible exact Eq.refl w2.heap.size | with_reducible exact sizeS _ _ _ | with_reducible exact sizeA _ _)
       | ((with_reducible refine zX (wa ?_));with_reducible exact Eq.refl w2.heap.size)
     ·refine But.toBelow (m:=fun i=>wr.heap.size<=i) ?_ (br _) (fun i hi h=>by omega)
      (repeat' (first | with_reducible exact But.ofBelow eZ.out | with_reducible refine But.alloc ?_ _ | with_reducible refine But.drew ?_ | with_reducible refine But.setCell ?_ (.inr ?_) _));all_goals ((try dsimp only);omega)
     ·have mu:=hHB2 b hb
      refine (Rep.keep fun i o hi ho=>?_).2 _ _ mu
      have cZ:=zZ ho
      replace hi:_<=i:=hi
      (try rw [zK] at hi)
      (try rw [zK] at hi)
      refine ⟨⟨by omega,by omega⟩,?_⟩
      (repeat' (first | with_reducible exact ho | with_reducible refine zX ?_ | with_reducible refine heap_ne ?_ ?_))
      all_goals omega
   case rest =>
    rename World=>wx
    obtain ⟨g,s',v',a2,n2,c2,a3,n3,c3,rfl,rfl,ni,om,mA,hrx⟩:=hcut
    have hSQ:zT X x=kX tk x:=by rw [up HS.out.2.2.2,HS.out.2.2.1]
    have ft:zk (t.args.take (k+1)) (xs.take (k+1))=(kX tk x).map fun b=>bs++[b]:=by
     have h1:t.args.take (k+1)=t.args.take k++[tk]:=by rw [List.take_add_one,HS.out.2.1];rfl
     have h2:xs.take (k+1)=xs.take k++[x]:=by rw [List.take_add_one,HS.out.1];rfl
     rw [h1,h2,uy _ _ _ _ (by rw [List.length_take,List.length_take];omega),HO.out.2.2.1];rfl
    rw [<- hSQ] at ft
    have tE:=bc ft;clear ft hSQ
    have hzx:=mA.size
    have g0:wx.cell? ⟨g,0,none⟩=some (str s'):=by simp [World.cell?,om]
    have g1:wx.cell? ⟨g,1,none⟩=some (.int .i64 v'):=by simp [World.cell?,om]
    have g2:wx.cell? ⟨g,2,none⟩=some (.slice a2 n2 c2):=by simp [World.cell?,om]
    have g3:wx.cell? ⟨g,3,none⟩=some (.slice a3 n3 c3):=by simp [World.cell?,om]
    have BW:wx.cell? ⟨w.heap.size,0,none⟩=some (.slice (some ⟨bk,ok,none⟩) t.args.length kc):=(mA.cell (p:=⟨w.heap.size,0,none⟩) h0b).trans sZ
    have Di:=bc (bm mA (bm om hrx));clear mA om hrx C1 C2 R0 R1 R2 sZ rA rS
    cases hq:zT X x with
    | none =>
      have hR:zk t.args xs=none:=ux _ _ (k+1) (by rw [tE.out,hq];rfl)
      have HR:=bc hR;clear hR hq
      simp only [Option.isSome_none]
      go_wp2_with fail
      go_ret2
      unfold wk
      rw [HR.out,Option.isSome_none,Bool.and_false]
      exact ⟨_,_,_,rfl,zzT HO.out.2.2.2.2.1 Di.out.1,fun bs' _ h=>by simp at h⟩
    | some b =>
      have HB:=bc (bm hq (Di.out.2.2 b hq));clear hq
      simp only [Option.isSome_some]
      go_wp2_with (at_builtin;refine zW rfl _ _ 62 rfl 64 (.agg #[str [],.int .i64 0,.slice none 0 0,.slice none 0 0]) 4 72 Tryz.underlying62 Tryz.infoN rfl (by decide) (.slice a' k c') k us rfl ?c1 _ 1 [str s',.int .i64 v',.slice a2 n2 c2,.slice a3 n3 c3] rfl ?c2 ?c3 ?c4 ?_)
      case c1=>exact (HO.out.1.keep fun g o _ ho=>by rw [Di.out.1.block g (zZ ho)];exact ho).alloc _
      case c2=>exact zM.lit4 #[str s',.int .i64 v',.slice a2 n2 c2,.slice a3 n3 c3] rfl (by simp [str,Value.oneCell']) _ (by simp)
      case c3=>unfold maxLen;omega
      case c4=>omega
      intro a7 c7 w7 dP cJ cB
      have i7:=HO.out.2.2.2.2.1.size
      have sD:∀ i,(Value.slice a' k c').ownBlock=some i->i<wr.heap.size:=fun i hi=>HO.out.1.lt hi
      have ci:Below w.heap.size w w7:=by
       have h1:Below w.heap.size w wx:=HO.out.2.2.2.2.1.trans (Di.out.1.mono i7)
       refine (h1.alloc h1.size _).trans (cJ.toBelow (by rw [zK];have:=h1.size;omega) fun i hi e=>?_)
       have:=HO.out.2.2.2.1 i e;omega
      have dl:∀ i,(Value.slice a7 (k+1) c7).ownBlock=some i->(Value.slice a' k c').ownBlock=some i\/i=wx.heap.size+1:=by
       intro i hi
       rcases cB i hi with h | h
       ·exact .inl h
       ·exact .inr (by simpa using h)
      have de:∀ (i:Nat) (o:Obj),(Value.slice a' k c').ownBlock≠some i->wx.heap[i]? = some o->w7.heap[i]? = some o:=by
       intro i o hf ho
       rw [cJ.block i (by rw [zK];have:=zZ ho;omega) hf];exact zX ho
      have np:zG (fun i=>w.heap.size<=i/\(Value.slice a7 (k+1) c7).ownBlock≠some i) w7 (zm (bs++[b])) (us++[str s',.int .i64 v',.slice a2 n2 c2,.slice a3 n3 c3]):=by
       rw [encNs_snoc]
       refine zG.append ?_ ?_
       ·exact (Rep.keep fun i o hf ho=>⟨⟨hf.1,fun e=>by
         have:=zZ ho
         rcases dl i e with h | h
         ·exact hf.2 h
         ·omega⟩,de i o hf.2 (by rw [Di.out.1.block i (zZ ho)];exact ho)⟩).2 _ _ HO.out.2.1
       ·exact (Rep.keep fun i o hf ho=>⟨⟨by have:=hf.1;omega,fun e=>by
         have:=zZ ho
         rcases dl i e with h | h
         ·have:=sD i h;have:=hf.1;omega
         ·omega⟩,de i o (fun e=>by have:=sD i e;have:=hf.1;omega) ho⟩).2 _ _ HB.out.2
      have eA:∀ i,(Value.slice a7 (k+1) c7).ownBlock=some i->w.heap.size+1<=i:=by
       intro i hi
       rcases dl i hi with h | h
       ·exact HO.out.2.2.2.1 i h
       ·omega
      have fW:zk (t.args.take (k+1)) (xs.take (k+1))=some (bs++[b]):=by rw [tE.out,HB.out.1];rfl
      have B_:(bs++[b]).length=k+1:=by rw [List.length_append,HO.out.2.2.2.2.2];rfl
      have hc7:w7.cell? ⟨w.heap.size,0,none⟩=some (.slice (some ⟨bk,ok,none⟩) t.args.length kc):=by
       rw [cJ.cell (p:=⟨w.heap.size,0,none⟩) (by rw [zK];show w.heap.size<_;omega) (fun e=>by have h5:w.heap.size+1<=w.heap.size:=HO.out.2.2.2.1 _ e;omega)]
       exact zU BW
      have H7:=bc (bm dP (bm np (bm B_ (bm fW (bm ci (bm eA hc7))))));clear dP np B_ fW ci eA hc7 cJ cB dl de BW g0 g1 g2 g3
      go_wp2_with fail
      go_roundw
      case rel=>exact ⟨k+1,a7,c7,_,_,by omega,by go_num,rfl,H7.out.1,H7.out.2.1,H7.out.2.2.1,H7.out.2.2.2.1,H7.out.2.2.2.2.1,H7.out.2.2.2.2.2.1,H7.out.2.2.2.2.2.2⟩
      case measure=>simp [intOf];omega
  ·obtain rfl:k=xs.length:=by omega
   have lD:¬ (xs.length:Int)<(xs.length:Int):=by omega
   have dZ:=HO.out.2.2.1
   rw [List.take_of_length_le (by rw [HL.out];exact br _),List.take_length] at dZ
   have HRD:=bc dZ;clear dZ sZ
   go_wp2_with fail
   go_ret2
   unfold wk
   rw [decide_eq_true HL.out,HRD.out]
   refine ⟨_,_,_,rfl,HO.out.2.2.2.2.1,fun bs' _ h=>?_⟩
   simp only [Option.some.injEq] at h
   subst h
   refine ⟨HO.out.2.2.2.2.2.symm,?_⟩
   rw [HO.out.2.2.2.2.2]
   exact HO.out.1.rep (fun i hi=>by have:=HO.out.2.2.2.1 i hi;omega) ((Rep.keep fun _ _ hf ho=>⟨hf.1,ho⟩).2 _ _ HO.out.2.1)
def kO (keep:Bool) (most:Nat) (s text:Bs) (xs:List Bs):Option (UInt8×List (Bs×Int)):=(zT s text).bind fun b =>
 if xs.length=(zQ s).1.args.length then (zk (zQ s).1.args xs).bind fun bs=>jh keep (most-1) [([113],-1)] b (qM [] 0 0 (zQ s).1.args bs) 0 [] else none
def StartPost (keep:Bool) (most:Nat) (s text:Bs) (xs:List Bs) (w:World) (en:Ending) (w':World):Prop :=
 ∃ ra o ok,en=.returned (.tuple #[.pointer (some ⟨ra,0,none⟩),str o,.bool ok])/\Below w.heap.size w w'/\(kO keep most s text xs=none->ok=false) /\
   (∀ c log,kO keep most s text xs=some (c,log)->ok=true/\o=[c]/\∃ mv pt,RS keep most ra log mv pt w'/\(∀ i,MBk ra mv pt i->w.heap.size<=i))
theorem rep_empty {F:Nat->Prop} {w:World} {T:TypeId} {sz:Nat} (g c:Nat):Rep F w (.sl T sz 0 []) (.slice (some ⟨g,0,none⟩) 0 c):=by
 rw [kP]
 exact ⟨by simp,_,c,rfl,Nat.zero_le _,fun h=>by simp at h,.inl rfl⟩
theorem xR:∀ (ts:List Ty) (xs:List Bs) (bs:List Bd),ts.length=xs.length->(∀ t∈ts,zV t<=15)->zk ts xs=some bs->vi bs
 | [],[],bs,_,_,h=>by simp [zk] at h;subst h;simp [vi]
 | [],x::xs,bs,hl,_,h=>by simp at hl
 | t::ts,[],bs,hl,_,h=>by simp at hl
 | t::ts,x::xs,bs,hl,ht,h=>by
   simp only [zk,Option.bind_eq_some_iff,Option.map_eq_some_iff] at h
   obtain ⟨b,h1,bs',h2,rfl⟩:=h
   rw [vi]
   exact ⟨(xb (ht t (by simp)) h1).1.wf,xR ts xs bs' (by simpa using hl) (fun a ha=>ht a (by simp [ha])) h2⟩
theorem hand_own {M:Nat->Prop} {B:Nat} {n0:Nat} {own:List SC} {w w':World} {a:Option Addr} {c:Nat} (hM:∀ i,B<=i->¬ M i) (_:B<=B) (hw:B<=w.heap.size)
 (h:Rep (fun i=>(¬ M i/\i<n0)\/w.heap.size<=i) w' (.sl 187 9 (([]:List SC).length+own.length) (z8 ([]++own))) (.slice a (([]:List SC).length+own.length) c)):Rep (fun i=>¬ M i) w' (.sl 187 9 own.length (z8 own)) (.slice a own.length c):=by
 rw [List.nil_append,List.length_nil,Nat.zero_add] at h
 exact (Rep.keep fun i o hi ho=>⟨by rcases hi with h | h;exact h.1;exact hM i (by omega),ho⟩).1 _ _ h
theorem but_drewN {m:Nat->Prop} {a b:World} (h:But m a b) (n:Nat):But m a (b.drewN n):=⟨h.os,h.tape,h.output,h.size,h.block⟩
theorem gopl_start {keep:Bool} {most:Nat} {s text:Bs} {xs:List Bs} {b:Bd} {bs:List Bd} (hg:Good (zQ s).1 b) (hl:xs.length=(zQ s).1.args.length) (hr:zk (zQ s).1.args xs=some bs) (h1:1<=most)
 (hR:kO keep most s text xs=jh keep (most-1) [([113],-1)] b (qM [] 0 0 (zQ s).1.args bs) 0 []) :
 GoPl keep (kO keep most s text xs) most b (qM [] 0 0 (zQ s).1.args bs) 0 [] [([113],-1)]/\bs.length=(zQ s).1.args.length/\bs.length<=15:=by
 have db:=jz _ _ _ hl.symm hr
 have ff:∀ x∈(zQ s).1.args,zV x<=15:=fun x hx=>by have:=hg.atoms;have hm:=zp (zQ s).1;have:=qR hx;omega
 obtain ⟨o0,hna⟩:=vG _ _ _ hl.symm ff hr
 have eK:=vN b _ hg.fit ff
 have mU:=xR _ _ _ hl.symm ff hr
 have o_:=zc (zQ s).1.args
 have hm:=zp (zQ s).1
 have ha:=hg.atoms
 have hl15:bs.length<=15:=by omega
 have hfh:zg (zu (([]:List SC).map SC.kind) (zQ s).1.args) bs:=by simpa [zu] using o0
 obtain ⟨k1,k2⟩:=gK (env:=[]) (by rw [uM];trivial) 0 (zQ s).1.args bs 0 hfh mU
 have iM:=j3 [] 0 (zQ s).1.args bs 0 (by omega)
 refine ⟨⟨.inl ⟨by simp;omega,hR⟩,hg.wf,k1,by rw [k2];exact hg.fit,eK,?_,by rw [iM];simp;omega,by simp,by simp,by simp,?_⟩,by omega,hl15⟩
 ·exact ga (n:=1) (m:=0) (env:=[]) (by rw [uK];trivial) (by simp) (by omega) _ _ 0 (by omega) hna
 ·intro i q p hi
  rcases i with _ | i
  ·simp at hi;obtain ⟨rfl,rfl⟩:=hi;simp
  ·simp at hi
set_option maxRecDepth 100000 in
theorem l4Start_any (keep:Bool) (HM:bj keep) (HP:bz keep) (most:Nat) (s text:Bs) (xs:List Bs) (a:Option Addr) (c:Nat) (w:World) (hx:qD w a xs) (hs:Lim s.length) (ht:Lim text.length) (eF:∀ x∈xs,Lim x.length) (mV:Lim xs.length) (h1:1<=most) (dy:most<=100000) :
 Calls Tryz.prog 40 #[str s,str text,.slice a xs.length c,.int .i64 (most:Nat),.bool keep] w (StartPost keep most s text xs w):=by
 have HX:=bc (bm hx (bm eF (bm mV (bm HM HP))));clear hx eF mV HM HP
 go_enter Tryz.func40,Tryz.ntmps40
 go_wp2_with fail
 refine (yj s text hs ht w).mono ?_
 rintro en w1 ⟨ta,tc,s',v',a2,n2,c2,a3,n3,c3,rfl,b9,dY,cO⟩
 have H1:=bc (bm b9 (bm dY cO));clear b9 dY cO
 cases hq:zT s text with
 | none =>
   have hR:kO keep most s text xs=none:=by unfold kO;rw [hq];rfl
   have HR:=bc hR;clear hR hq
   simp only [Option.isSome_none]
   go_wp2_with fail
   go_ret3
   refine ⟨_,[],false,rfl,?_,fun _=>rfl,fun c log h=>by rw [HR.out] at h;simp at h⟩
   (repeat' (first | with_reducible exact H1.out.1 | refine Below.alloc ?_ ?_ _))
   all_goals ((try simp only [zK]);have:=H1.out.1.size;omega)
 | some b =>
   have hg:=qP hq
   have HQ:=bc (bm hq hg.1);clear hq hg
   simp only [Option.isSome_some]
   go_upto_region 5 with (fail)
   obtain ⟨W,hW⟩:=zzN (((((w1.alloc (.cells #[.slice ta (zQ s).1.args.length tc] 61)).alloc (.cells #[str s',.int .i64 v',.slice a2 n2 c2,.slice a3 n3 c3] 64)).alloc (.cells #[] 9)).alloc (.cells #[] 3)).alloc (.cells #[.slice (some ⟨w1.heap.size+2,0,none⟩) 0 0,.slice (some ⟨w1.heap.size+3,0,none⟩) 0 0,.int .i64 0,.int .i64 (most:Nat),.bool keep,.bool false] 80))
   have cK:Below w1.heap.size w1 W:=by
    rw [<- hW]
    exact (((((bi _ _).alloc (br _) _).alloc (by simp) _).alloc (by simp;omega) _).alloc (by simp;omega) _).alloc (by simp;omega) _
   have m9:W.heap.size=w1.heap.size+5:=by rw [<- hW];simp
   have hWT:W.heap[w1.heap.size]? = some (.cells #[.slice ta (zQ s).1.args.length tc] 61 (0,0)):=by
    rw [<- hW];exact zX (zX (zX (zX (zS _ _))))
   have hWN:W.heap[w1.heap.size+1]? = some (.cells #[str s',.int .i64 v',.slice a2 n2 c2,.slice a3 n3 c3] 64 (0,0)):=by
    rw [<- hW];exact zX (zX (zX (heap_new2 _ _ _)))
   have hWR:W.heap[w1.heap.size+4]? = some (.cells #[.slice (some ⟨w1.heap.size+2,0,none⟩) 0 0,.slice (some ⟨w1.heap.size+3,0,none⟩) 0 0,.int .i64 0,.int .i64 (most:Nat),.bool keep,.bool false] 80 (0,0)):=by
    rw [<- hW]
    exact wa (by simp)
   have AL:RS keep most (w1.heap.size+4) [] (.slice (some ⟨w1.heap.size+2,0,none⟩) 0 0) (.slice (some ⟨w1.heap.size+3,0,none⟩) 0 0) W:=by
    refine ⟨?_,⟨_,_,_,_,_,_,rfl,rfl⟩,fun _ _=>⟨?_,?_⟩,fun g hg=>?_⟩
    ·rw [hWR,decide_eq_false (by simp)];rfl
    ·rw [<- hW]
     exact (((Own.litAt #[] 0 (w1.heap.size+2) (by simp) (by decide) rfl).alloc _).alloc _)
    ·rw [<- hW]
     exact ((Own.litAt #[] 0 (w1.heap.size+3) (by simp) (by decide) rfl).alloc _)
    ·simp [Value.ownBlock] at hg
     omega
   have hxW:qD W a xs:=HX.out.1.below (zzT H1.out.1 cK)
   have dY:Rep (fun i=>i<w1.heap.size/\w.heap.size<=i) W (jX (zQ s).1) (.slice ta (zQ s).1.args.length tc) :=
    (Rep.keep fun i o hi ho=>⟨⟨zZ ho,hi⟩,by rw [cK.block i (zZ ho)];exact ho⟩).1 _ _ H1.out.2.1
   have t0:W.cell? ⟨w1.heap.size,0,none⟩=some (.slice ta (zQ s).1.args.length tc):=by simp [World.cell?,hWT]
   rw [hW]
   have HW:=bc (bm cK (bm m9 (bm hWT (bm hWN (bm AL (bm hxW dY))))));clear cK m9 hWT hWN hWR AL hxW dY hW
   have CA:=bc (l4Args_any _ (zQ s).1 _ xs a c W HW.out.2.2.2.2.2.2 HQ.out.2.atoms HW.out.2.2.2.2.2.1 HX.out.2.1 HX.out.2.2.1)
   go_wp2_with fail
   refine CA.out.mono ?_
   rintro en w2 ⟨la,ln,lc,rfl,b8,eE⟩
   have HY:=bc (bm b8 eE);clear b8 eE
   cases hv:(decide (xs.length=(zQ s).1.args.length) && (zk (zQ s).1.args xs).isSome) with
   | false =>
     have hR:kO keep most s text xs=none:=by
      unfold kO;rw [HQ.out.1];simp only [Option.bind_some]
      by_cases hl:xs.length=(zQ s).1.args.length
      ·rw [if_pos hl]
       rw [decide_eq_true hl,Bool.true_and] at hv
       cases hr:zk (zQ s).1.args xs with
       | none=>rfl
       | some y=>rw [hr] at hv;simp at hv
      ·rw [if_neg hl]
     have HR:=bc hR;clear hR hv
     go_wp2_with fail
     go_ret3
     refine ⟨_,[],false,rfl,?_,fun _=>rfl,fun c log h=>by rw [HR.out] at h;simp at h⟩
     have h1:=zzT H1.out.1 HW.out.1
     exact zzT h1 HY.out.1
   | true =>
     rw [Bool.and_eq_true,decide_eq_true_eq] at hv
     obtain ⟨hl,iP⟩:=hv
     obtain ⟨bs,sK⟩:=Option.isSome_iff_exists.1 iP
     obtain ⟨iN,AO⟩:=HY.out.2 bs hl sK
     subst iN
     have hR:kO keep most s text xs=jh keep (most-1) [([113],-1)] b (qM [] 0 0 (zQ s).1.args bs) 0 []:=by
      unfold kO;rw [HQ.out.1];simp only [Option.bind_some];rw [if_pos hl,sK];rfl
     have HR:=bc (bm hR (bm hl (bm sK AO)));clear hR hl sK AO iP
     have AK:=HW.out.2.2.2.2.1.below HY.out.1
     have CM:=bc (HX.out.2.2.2.1 most (w1.heap.size+4) [] _ _ [113] (-1) w2 AK (Nat.zero_le _) dy (by simp))
     clear AK
     go_wp2_with fail
     refine CM.out.mono ?_
     rintro en w3 ⟨cr,cd,rfl,cP,nh,e_⟩
     obtain ⟨cI,aT,iw⟩:=gopl_start (keep:=keep) (most:=most) HQ.out.2 HR.out.2.1 HR.out.2.2.1 h1 HR.out.1
     have h1z:=HW.out.2.1
     have nj:=HY.out.1.size
     have tS:=cP.size
     have cX:∀ i,i<w1.heap.size+2->¬ MBk (w1.heap.size+4) (.slice (some ⟨w1.heap.size+2,0,none⟩) 0 0) (.slice (some ⟨w1.heap.size+3,0,none⟩) 0 0) i:=by
      rintro i hi (h | h | h)
      ·omega
      ·simp [Value.ownBlock] at h;omega
      ·simp [Value.ownBlock] at h;omega
     have key:∀ (i:Nat) (o:Obj),i<w1.heap.size+2->W.heap[i]? = some o->w3.heap[i]? = some o:=by
      intro i o hi ho
      have h2:w2.heap[i]? = some o:=by rw [HY.out.1.block i (zZ ho)];exact ho
      rw [cP.block i (zZ h2) (cX i hi)];exact h2
     have hT3:=key _ _ (by omega) HW.out.2.2.1
     have Cv:=key _ _ (by omega) HW.out.2.2.2.1
     have nh:RS keep most (w1.heap.size+1+1+1+1) [([113],-1)] cr cd w3:=nh
     have Bl:∀ i,w1.heap.size<=i\/i<w1.heap.size->i<w2.heap.size->¬ (w1.heap.size+2<=i/\i<=w1.heap.size+4)->¬ MBk (w1.heap.size+1+1+1+1) cr cd i:=by
      intro i _ hi hn h
      rcases e_ i h with h | h
      ·rcases h with h | h | h
       ·omega
       ·simp [Value.ownBlock] at h;omega
       ·simp [Value.ownBlock] at h;omega
      ·omega
     have t0:w3.cell? ⟨w1.heap.size,0,none⟩=some (.slice ta (zQ s).1.args.length tc):=by simp [World.cell?,hT3]
     have n0:w3.cell? ⟨w1.heap.size+1,0,none⟩=some (str s'):=by simp [World.cell?,Cv]
     have n1:w3.cell? ⟨w1.heap.size+1,1,none⟩=some (.int .i64 v'):=by simp [World.cell?,Cv]
     have Aq:w3.cell? ⟨w1.heap.size+1,2,none⟩=some (.slice a2 n2 c2):=by simp [World.cell?,Cv]
     have Ap:w3.cell? ⟨w1.heap.size+1,3,none⟩=some (.slice a3 n3 c3):=by simp [World.cell?,Cv]
     have iS:Rep (fun i=>¬ MBk (w1.heap.size+1+1+1+1) cr cd i/\i<w3.heap.size) w3 (.sl 64 4 bs.length (zm bs)) (.slice la bs.length lc) :=
      (Rep.keep fun i o hi ho=>by
       have hi:W.heap.size<=i:=hi
       have cZ:=zZ ho
       exact ⟨⟨Bl i (.inl (by omega)) cZ (by omega),by omega⟩,by
        rw [cP.block i cZ (by
         rintro (h | h | h)
         ·omega
         ·simp [Value.ownBlock] at h;omega
         ·simp [Value.ownBlock] at h;omega)]
        exact ho⟩).1 _ _ HR.out.2.2.2
     have old:∀ (i:Nat) (o:Obj),i<w1.heap.size->w1.heap[i]? = some o->(¬ MBk (w1.heap.size+1+1+1+1) cr cd i/\i<w3.heap.size)/\w3.heap[i]? = some o:=by
      intro i o hi ho
      have cM:W.heap[i]? = some o:=by rw [HW.out.1.block i hi];exact ho
      exact ⟨⟨Bl i (.inr hi) (by omega) (by omega),by omega⟩,key i o (by omega) cM⟩
     have iU:Rep (fun i=>¬ MBk (w1.heap.size+1+1+1+1) cr cd i/\i<w3.heap.size) w3 (jX (zQ s).1) (.slice ta (zQ s).1.args.length tc) :=
      (Rep.keep fun i o hi ho=>old i o (zZ ho) ho).1 _ _ H1.out.2.1
     have sL:zG (fun i=>¬ MBk (w1.heap.size+1+1+1+1) cr cd i/\i<w3.heap.size) w3 (kC b) [str s',.int .i64 v',.slice a2 n2 c2,.slice a3 n3 c3] :=
      (Rep.keep fun i o hi ho=>old i o (zZ ho) ho).2 _ _ (H1.out.2.2 b HQ.out.1)
     obtain ⟨_,_,_,_,_,he0,_⟩:=jA sL
     simp only [List.cons.injEq] at he0
     obtain rfl:s'=zt b:=str_inj he0.1
     have CH:Hid (∀ wz:World,Below w3.heap.size w3 wz->∀ g1 k1 g2 k2:Nat,Calls Tryz.prog 78 #[.slice (some ⟨g1,0,none⟩) 0 k1,.slice la bs.length lc,.agg #[.slice ta (zQ s).1.args.length tc],.slice (some ⟨g2,0,none⟩) 0 k2,.int .i64 0] wz (pY (fun i=>¬ MBk (w1.heap.size+1+1+1+1) cr cd i/\i<w3.heap.size) [] (qM [] 0 0 (zQ s).1.args bs) wz)):=bc (fun (wz:World) (hz:Below w3.heap.size w3 wz) (g1 k1 g2 k2:Nat)=>pI (fun i=>¬ MBk (w1.heap.size+1+1+1+1) cr cd i/\i<w3.heap.size) [] [] bs (zQ s).1 0 (.slice (some ⟨g1,0,none⟩) 0 k1) (.slice la bs.length lc) (.slice ta (zQ s).1.args.length tc) (.slice (some ⟨g2,0,none⟩) 0 k2) wz
      (rep_empty g1 k1) (Rep.below hz (fun _ h=>h) iS) (Rep.below hz (fun _ h=>h) iU) (rep_empty g2 k2) (by simp) aT (by omega))
     have CG:Hid (∀ wz:World,Below w3.heap.size w3 wz->∀ ev:Value,Rep (fun i=>¬ MBk (w1.heap.size+1+1+1+1) cr cd i) wz (.sl 187 9 (qM [] 0 0 (zQ s).1.args bs).length (z8 (qM [] 0 0 (zQ s).1.args bs))) ev->Calls Tryz.prog 77 #[.pointer (some ⟨w1.heap.size+1+1+1+1,0,none⟩),.agg #[str (zt b),.int .i64 v',.slice a2 n2 c2,.slice a3 n3 c3],ev,.int .i64 0] wz (GoPost keep (kO keep most s text xs) most (w1.heap.size+1+1+1+1) cr cd wz)):=bc (fun (wz:World) (hz:Below w3.heap.size w3 wz) (ev:Value) (he:Rep (fun i=>¬ MBk (w1.heap.size+1+1+1+1) cr cd i) wz (.sl 187 9 (qM [] 0 0 (zQ s).1.args bs).length (z8 (qM [] 0 0 (zQ s).1.args bs))) ev) =>
      l4Go_any keep HX.out.2.2.2.1 HX.out.2.2.2.2 (kO keep most s text xs) most (w1.heap.size+1+1+1+1) b (qM [] 0 0 (zQ s).1.args bs) 0 [([113],-1)] cr cd v' a2 n2 c2 a3 n3 c3 ev wz (nh.below hz) cI (zG.below hz (fun _ h=>h.1) sL) he dy)
     have fC:∀ wz:World,Below w3.heap.size w3 wz->wz.cell? ⟨w1.heap.size,0,none⟩=some (.slice ta (zQ s).1.args.length tc)/\wz.cell? ⟨w1.heap.size+1,0,none⟩=some (str (zt b))/\wz.cell? ⟨w1.heap.size+1,1,none⟩=some (.int .i64 v')/\wz.cell? ⟨w1.heap.size+1,2,none⟩=some (.slice a2 n2 c2)/\wz.cell? ⟨w1.heap.size+1,3,none⟩=some (.slice a3 n3 c3) :=
      fun wz hz=>⟨(hz.cell (p:=⟨w1.heap.size,0,none⟩) (by simp only;omega)).trans t0,(hz.cell (p:=⟨w1.heap.size+1,0,none⟩) (by simp only;omega)).trans n0,(hz.cell (p:=⟨w1.heap.size+1,1,none⟩) (by simp only;omega)).trans n1,(hz.cell (p:=⟨w1.heap.size+1,2,none⟩) (by simp only;omega)).trans Aq,(hz.cell (p:=⟨w1.heap.size+1,3,none⟩) (by simp only;omega)).trans Ap⟩
     have sw:∀ w5 w6:World,Below w3.heap.size w3 w5->But (MBk (w1.heap.size+1+1+1+1) cr cd) w5 w6->w6.cell? ⟨w1.heap.size,0,none⟩=some (.slice ta (zQ s).1.args.length tc)/\w6.cell? ⟨w1.heap.size+1,0,none⟩=some (str (zt b))/\w6.cell? ⟨w1.heap.size+1,1,none⟩=some (.int .i64 v')/\w6.cell? ⟨w1.heap.size+1,2,none⟩=some (.slice a2 n2 c2)/\w6.cell? ⟨w1.heap.size+1,3,none⟩=some (.slice a3 n3 c3):=by
      intro w5 w6 h5 h6
      obtain ⟨k0,k1,k2,k3,k4⟩:=fC w5 h5
      have m0:¬ MBk (w1.heap.size+1+1+1+1) cr cd w1.heap.size:=Bl _ (.inl (br _)) (by omega) (by omega)
      have m1:¬ MBk (w1.heap.size+1+1+1+1) cr cd (w1.heap.size+1):=Bl _ (.inl (by omega)) (by omega) (by omega)
      exact ⟨kW h6 k0 m0,kW h6 k1 m1,kW h6 k2 m1,kW h6 k3 m1,kW h6 k4 m1⟩
     have cU:∀ i,w3.heap.size<=i->¬ MBk (w1.heap.size+1+1+1+1) cr cd i:=fun i hi h=>by have:=nh.lt h;omega
     have K1:=bc fC;have K2:=bc sw;have HN:=bc (bm cU (bm aT iw))
     have iM:=j3 [] 0 (zQ s).1.args bs 0 aT.symm
     have HOL:=bc iM
     have B0:Below w3.heap.size w3 ((w3.alloc (.cells #[] 187)).alloc (.cells #[] 187)).drew:=(((bi _ _).alloc (br _) _).alloc (by rw [zK];omega) _).drew
     have hnw:∀ i,MBk (w1.heap.size+1+1+1+1) cr cd i->w.heap.size<=i:=by
      intro i h
      have du:=H1.out.1.size
      rcases e_ i h with h | h
      ·rcases h with h | h | h
       ·omega
       ·simp [Value.ownBlock] at h;omega
       ·simp [Value.ownBlock] at h;omega
      ·omega
     have hB3:Below w.heap.size w w3:=by
      have du:=H1.out.1.size
      have h1:=H1.out.1.trans (HW.out.1.mono du)
      refine (zzT h1 HY.out.1).trans (cP.toBelow (by omega) fun i hi h=>cX i (by omega) h)
     have HE:=bc (bm hnw hB3);clear hnw hB3
     have H3:=bc (bm cP (bm nh (bm e_ (bm cI B0))))
     clear fC sw cU aT iw iM cI cP nh e_ iS iU sL old key hT3 Cv Bl cX B0 he0
     go_wp2_with fail
     go_region_held3 (fun wz=>wz.cell? ⟨w1.heap.size,0,none⟩=some (.slice ta (zQ s).1.args.length tc)/\wz.cell? ⟨w1.heap.size+1,0,none⟩=some (str (zt b))/\wz.cell? ⟨w1.heap.size+1,1,none⟩=some (.int .i64 v')/\wz.cell? ⟨w1.heap.size+1,2,none⟩=some (.slice a2 n2 c2)/\wz.cell? ⟨w1.heap.size+1,3,none⟩=some (.slice a3 n3 c3))
      (first
       | with_reducible exact k6
       | with_reducible exact k4
       | with_reducible exact ⟨t0,n0,n1,Aq,Ap⟩
       | go_keep)
      (first
       | (go_at_call 77;(with_reducible refine (CG.out w4 b4 _ he4).mono ?_);rintro en w6 ⟨mv6,pt6,log6,o6,rfl,cW,tI,nf,h6n,h6s⟩;have k6:=K2.out w4 w6 b4 cW;have HF:=bc (bm b4 (bm cW (bm tI (bm nf (bm h6n h6s)))));clear cW tI nf h6n h6s)
       | (go_at_call 78;(with_reducible refine (CH.out _ H3.out.2.2.2.2 _ _ _ _).mono ?_);rintro en w4 ⟨a4,c4,rfl,cA,sM⟩;have b4:=zzT H3.out.2.2.2.2 cA;have k4:=K1.out w4 b4;have he4:=hand_own HN.out.1 (br _) H3.out.2.2.2.2.size sM;clear cA sM))
     all_goals
      have Cb:=HF.out.2.2.1.bad
      go_wp2_with fail
      go_quiet (fail)
      go_wp2_with fail
      go_ret3
      refine ⟨_,o6,_,rfl,?_,fun h=>?_,fun c log h=>?_⟩
      ·have h4:=zzT HE.out.2 HF.out.1
       exact h4.trans ((but_drewN HF.out.2.1 _).toBelow h4.size fun i hi h=>by have:=HE.out.1 i h;omega)
      ·have:=HF.out.2.2.2.2.1 h
       simpa using this
      ·obtain ⟨e1,rfl,e3⟩:=HF.out.2.2.2.2.2 c log h
       refine ⟨by simpa using e3,e1,mv6,pt6,HF.out.2.2.1.but (m:=fun _=>False) (but_drewN (But.refl _ _) _) (fun _ _ h=>h),fun i hi=>?_⟩
       rcases HF.out.2.2.2.1 i hi with h | h
       ·exact HE.out.1 i h
       ·have:=HF.out.1.size;have:=HE.out.2.size;omega
def Made (g:Nat) (xs:List Bs) (k:Nat) (w:World):Prop :=
 ∃ Y:Array Value,w.heap[g]? = some (.cells Y 9 (0,0))/\Y.size=xs.length/\∀ (j:Nat) (s:Bs),j<k->xs[j]? = some s->Y[j]? = some (str s)
theorem Made.cell {g:Nat} {xs:List Bs} {k:Nat} {w:World} (h:Made g xs k w) (hk:k<xs.length):(∃ u,w.cell? ⟨g,k,none⟩=some u)/\w.frozen? ⟨g,k,none⟩=false:=by
 obtain ⟨Y,hY,hs,_⟩:=h
 exact ⟨⟨Y[k]'(by omega),by simp [World.cell?,hY,show k<Y.size by omega]⟩,by simp [World.frozen?,hY]⟩
theorem Made.put {g:Nat} {xs:List Bs} {k:Nat} {w:World} (h:Made g xs k w) {s:Bs} (hk:xs[k]? = some s):Made g xs (k+1) (w.setCell ⟨g,k,none⟩ (str s)):=by
 obtain ⟨Y,hY,hs,hj⟩:=h
 refine ⟨Y.setIfInBounds k (str s),zO hY,by simp [hs],fun j s' hj' eN=>?_⟩
 have cZ:=(List.getElem?_eq_some_iff.1 hk).1
 rcases Nat.lt_or_ge j k with h | h
 ·rw [Array.getElem?_setIfInBounds_ne (by omega)];exact hj j s' h eN
 ·obtain rfl:j=k:=by omega
  rw [hk] at eN;simp at eN;subst eN
  rw [Array.getElem?_setIfInBounds_self_of_lt (by omega)]
def resOf {α:Type}:Option (UInt8×α)->Bs×Bool
 | none=>([],false)
 | some x=>([x.1],true)
theorem run_eq (keep:Bool) (most:Nat) (s text:Bs) (xs:List Bs):(z_ most s text xs=none->kO keep most s text xs=none)/\∀ c log,z_ most s text xs=some (c,log)->∃ log',kO keep most s text xs=some (c,log')/\(keep=true->log'=log):=by
 unfold z_ kO
 rw [uw]
 cases hq:zT s text with
 | none=>exact ⟨fun _=>rfl,fun c log h=>by simp at h⟩
 | some b =>
   have hg:=(qP hq).1
   simp only [Option.map_some,Option.bind_some]
   by_cases hl:xs.length=(zQ s).1.args.length
   ·rw [if_pos hl,if_pos hl.symm]
    cases hr:zk (zQ s).1.args xs with
    | none=>exact ⟨fun _=>rfl,fun c log h=>by simp at h⟩
    | some bs =>
      simp only [Option.bind_some]
      have ff:∀ x∈(zQ s).1.args,zV x<=15:=fun x hx=>by have:=hg.atoms;have hm:=zp (zQ s).1;have:=qR hx;omega
      have db:=jz _ _ _ hl.symm hr
      obtain ⟨o0,_⟩:=vG _ _ _ hl.symm ff hr
      have mU:=xR _ _ _ hl.symm ff hr
      have hfh:zg (zu (([]:List SC).map SC.kind) (zQ s).1.args) bs:=by simpa [zu] using o0
      obtain ⟨k1,k2⟩:=gK (env:=[]) (by rw [uM];trivial) 0 (zQ s).1.args bs 0 hfh mU
      have fH:qa keep [([113],(-1:Int))] [] []:=by rw [qa]
      have rX:=wh (keep:=keep) (log:=[([113],(-1:Int))]) fH (m:=0) (path:=[]) (q:=[113]) (p:=-1) (fun _=>⟨rfl,rfl⟩) (zQ s).1.args bs 0 (by omega)
      have hh:=run_same keep (most-1) [([113],-1)] b (qM [] 0 0 (zQ s).1.args bs) 0 [] (zq [] 0 [] 0 bs) [] [] hg.wf k1 (by rw [k2];exact hg.fit) (by simp) rX rfl (fun _=>⟨[113],-1,rfl,rfl⟩)
      unfold v8
      constructor
      ·intro h
       rw [Option.map_eq_none_iff] at h
       exact hh.1 h
      ·intro c log h
       rw [Option.map_eq_some_iff] at h
       obtain ⟨⟨c',ms⟩,h1,h2⟩:=h
       simp only [Prod.mk.injEq] at h2
       obtain ⟨rfl,rfl⟩:=h2
       exact hh.2 _ _ h1
   ·rw [if_neg hl,if_neg (fun h=>hl h.symm)]
    exact ⟨fun _=>rfl,fun c log h=>by simp at h⟩
theorem res_same (keep:Bool) (most:Nat) (s text:Bs) (xs:List Bs):resOf (kO keep most s text xs)=resOf (z_ most s text xs):=by
 obtain ⟨h1,h2⟩:=run_eq keep most s text xs
 cases h:z_ most s text xs with
 | none=>rw [h1 h]
 | some x =>
   obtain ⟨log',h3,_⟩:=h2 x.1 x.2 h
   rw [h3];rfl
theorem wV (s text:Bs) (xs:List Bs) (a:Option Addr) (c:Nat) (w:World) (hg:qF w) (rN:jH w) (hx:qD w a xs) (hs:Lim s.length) (ht:Lim text.length) (eF:∀ x∈xs,Lim x.length) (mV:Lim xs.length) :
 Calls Tryz.prog 17 #[str s,str text,.slice a xs.length c] w fun en w'=>en=.returned (.tuple #[str (resOf (z_ 5000 s text xs)).1,.bool (resOf (z_ 5000 s text xs)).2])/\Below w.heap.size w w':=by
 have C:=bc (runOf_any false 5000 s text xs a c w hg rN hx hs ht eF mV (by omega) (by omega))
 clear hx eF mV
 generalize hR:z_ 5000 s text xs=R at *
 go_enter Tryz.func17,Tryz.ntmps17
 go_wp2_with fail
 refine C.out.mono ?_
 rintro en w1 ⟨hb,hn,hy⟩
 rw [hR] at hn hy
 clear C hR
 cases R with
 | none =>
   obtain rfl:=hn rfl
   have HB:=bc hb;clear hn hy hb
   go_wp2_with fail
   go_ret2
   refine ⟨rfl,?_⟩
   have h:=HB.out.size
   exact Below.alloc HB.out h _
 | some x =>
   obtain ⟨ma,ka,n,k,ka',n',k',rfl,_⟩:=hy x.1 x.2 rfl
   have HB:=bc hb;clear hn hy hb
   go_wp2_with fail
   go_ret2
   refine ⟨rfl,?_⟩
   have h:=HB.out.size
   exact Below.alloc HB.out h _
def markT (k:Nat):Bs:=109::dec k
def marksS (k n:Nat):List Value:=(List.range n).map fun i=>str (markT (k+i))
def marksI (k n:Nat):List Value:=(List.range n).map fun i:Nat=>Value.int .i64 ((k:Int)+(i:Int))
def bh (k j:Nat) (O:Bs):Prop:=dec k=(if j=0 then [] else dec j)++O/\j<=k
theorem bh.next {k j:Nat} {O:Bs} (h:bh k j O) (hj:0<j):bh k (j / 10) ([qi (j % 10)]++O):=by
 obtain ⟨h1,h2⟩:=h
 refine ⟨?_,b7 (Nat.div_le_self _ _) h2⟩
 rw [if_neg (by omega)] at h1
 rw [h1]
 by_cases fL:j<10
 ·rw [jL fL,Nat.div_eq_of_lt fL,Nat.mod_eq_of_lt fL];simp
 ·rw [uT fL,if_neg (by omega),List.append_assoc]
theorem bh.len {k j:Nat} {O:Bs} (h:bh k j O) (hk:k<=100000000):O.length<=9:=by
 have:=qx 8 k (by omega)
 rw [h.1,List.length_append] at this
 omega
theorem bh.done {k:Nat} {O:Bs} (h:bh k 0 O):dec k=O:=by have:=h.1;simpa using this
theorem Own.open1 {w:World} {e:TypeId} {a:Option Addr} {n c:Nat} {xs:List Value} (h:Own w e 1 (.slice a n c) n xs) {j:Nat} (hj:j<n) :
 ∃ g,a=some ⟨g,0,none⟩/\g<w.heap.size/\(Value.slice a n c).ownBlock=some g/\(∃ u,xs[j]? = some u/\w.cell? ⟨g,j,none⟩=some u)/\w.frozen? ⟨g,j,none⟩=false:=by
 obtain ⟨hl,⟨_,h0⟩ | ⟨g,cap,cur,hv,_,hg,mT,_,hcs,dI⟩⟩:=h
 ·omega
 ·simp only [Value.slice.injEq] at hv
  obtain ⟨rfl,_,rfl⟩:=hv
  have hjc:j<cur.size:=by omega
  refine ⟨g,rfl,zZ hg,rfl,⟨cur[j],?_,?_⟩,?_⟩
  ·rw [<- dI,List.getElem?_take,if_pos (by omega)];simp [hjc]
  ·simp [World.cell?,hg,hjc]
  ·simp [World.frozen?,hg]
theorem Own.put1 {w:World} {e:TypeId} {g n c:Nat} {xs:List Value} (h:Own w e 1 (.slice (some ⟨g,0,none⟩) n c) n xs) (j:Nat) (u:Value):Own (w.setCell ⟨g,j,none⟩ u) e 1 (.slice (some ⟨g,0,none⟩) n c) n (xs.set j u):=by
 obtain ⟨hl,⟨h0,_⟩ | ⟨g',cap,cur,hv,h0,hg,mT,lp,hcs,dI⟩⟩:=h
 ·cases h0
 ·simp only [Value.slice.injEq,Option.some.injEq,Addr.mk.injEq] at hv
  obtain ⟨⟨rfl,_,_⟩,_,rfl⟩:=hv
  refine ⟨by simpa using hl,.inr ⟨g,c,cur.setIfInBounds j u,rfl,h0,zO hg,mT,lp,by simpa using hcs,?_⟩⟩
  rw [Array.toList_setIfInBounds,<- dI,List.take_set]
theorem Own.strs {w:World} {e:TypeId} {a:Option Addr} {n c:Nat} {xs:List Bs} (h:Own w e 1 (.slice a n c) n (xs.map str)):qD w a xs:=by
 intro k s hs
 have hk:k<n:=by
  have:=h.1
  have h2:=(List.getElem?_eq_some_iff.1 hs).1
  simp at this;omega
 obtain ⟨g,rfl,_,_,⟨u,hu,hc⟩,_⟩:=h.open1 hk
 rw [List.getElem?_map,hs] at hu
 simp at hu
 exact ⟨g,0,rfl,by rw [Nat.zero_add,hu];exact hc⟩
section
variable {P:Program} {ops:Array Oper} {Q:Exit->Act->World->Prop} {md:Region.Mode}
def set1 (b:Nat->Bool) (i:Nat):Nat->Bool:=fun k=>if k=i then true else b k
def yq (L:Array Bool):Nat->Bool:=fun k=>L.getD k false
theorem lsOf_set (L:Array Bool) (i:Nat) (h:i<L.size):yq (L.setIfInBounds i true)=set1 (yq L) i:=by
 funext k
 unfold yq set1
 by_cases hk:k=i
 ·subst hk;rw [if_pos rfl];simp [h]
 ·rw [if_neg hk];simp only [Array.getD_eq_getD_getElem?];rw [Array.getElem?_setIfInBounds_ne (fun e=>hk e.symm)]
def wm (L:Array Bool):Nat:=(L.toList.filter fun x=>!x).length
theorem openOf_set (L:Array Bool) (i:Nat) (h:i<L.size) (hf:L.getD i true=false):wm (L.setIfInBounds i true)+1=wm L:=by
 unfold wm
 rw [Array.toList_setIfInBounds]
 have key:∀ (l:List Bool) (i:Nat),i<l.length->l.getD i true=false->((l.set i true).filter fun x=>!x).length+1=(l.filter fun x=>!x).length:=by
  intro l
  induction l with
  | nil=>intro i h;simp at h
  | cons x l ih =>
    intro i h hf
    cases i with
    | zero=>simp at hf;subst hf;simp
    | succ i =>
      have:=ih i (by simpa using h) (by simpa using hf)
      simp only [List.set_cons_succ,List.filter_cons]
      cases x <;> simp <;> omega
 refine key _ i (by simpa using h) ?_
 simpa [Array.getD_eq_getD_getElem?,List.getD_eq_getElem?_getD] using hf
theorem wpAny_inv {I:(Nat->Bool)->Act->World->Prop} (Cp:∀ (i:Nat) (o:Oper),ops[i]? = some o->∀ e∈o.after,e.on<i)
 (step:∀ (b:Nat->Bool) (a:Act) (w:World) (i:Nat) (o:Oper),ops[i]? = some o->b i=false->(∀ e∈o.after,Region.binds md e=true->b e.on=true)->I b a w ->
  ∀ K':Act->World->Prop,(∀ a w,I (set1 b i) a w->K' a w)->if Region.wanted o (yielded ops a.tmps)=true then Oper.wp P o a w K' Q else K' (a.put o.dst undef) w)
 (done:∀ (b:Nat->Bool) (a:Act) (w:World),(∀ i,i<ops.size->b i=true)->I b a w->Q .normal a w) :
 ∀ (fuel:Nat) (L:Array Bool) (a:Act) (w:World),L.size=ops.size->wm L<=fuel->I (yq L) a w->wpAny P md ops Q fuel L a w:=by
 have lG:∀ (L:Array Bool),L.size=ops.size->Region.ready md ops L=[]->∀ i,i<ops.size->yq L i=true:=by
  intro L hL hr i
  induction i using Nat.strongRecOn with
  | _ i ih =>
    intro hi
    cases hb:yq L i with
    | true=>rfl
    | false =>
      exfalso
      have:i∈Region.ready md ops L:=by
       unfold Region.ready
       rw [List.mem_filter]
       refine ⟨List.mem_range.2 hi,?_⟩
       have ho:ops[i]? = some ops[i]:=by simp [hi]
       rw [ho]
       have h1:L.getD i true=false:=by
        unfold yq at hb
        have h2:L[i]? = some L[i]:=by simp [hL,hi]
        simp only [Array.getD_eq_getD_getElem?,h2,Option.getD_some] at hb ⊢
        exact hb
       simp only [h1,Bool.not_false,Bool.true_and,Option.map_some,Option.getD_some]
       rw [Array.all_eq_true']
       intro e he
       rw [Bool.or_eq_true]
       right
       exact ih e.on (Cp i _ ho e he) (by have:=Cp i _ ho e he;omega)
      rw [hr] at this;simp at this
 intro fuel
 induction fuel with
 | zero =>
   intro L a w hL hf hI
   have cq:∀ i,i<ops.size->yq L i=true:=by
    intro i hi
    cases hb:yq L i with
    | true=>rfl
    | false =>
      exfalso
      have:wm L=0:=by omega
      unfold wm at this
      rw [List.length_eq_zero_iff,List.filter_eq_nil_iff] at this
      unfold yq at hb
      have h2:L[i]? = some L[i]:=by simp [hL,hi]
      simp only [Array.getD_eq_getD_getElem?,h2,Option.getD_some] at hb
      have:=this L[i] (by simp)
      rw [hb] at this;simp at this
   rw [wpAny]
   refine ⟨?_,done _ _ _ cq hI⟩
   cases hr:Region.ready md ops L with
   | nil=>rfl
   | cons i rs =>
     exfalso
     have hm:i∈Region.ready md ops L:=by rw [hr];simp
     unfold Region.ready at hm
     rw [List.mem_filter,List.mem_range] at hm
     obtain ⟨hi,h2⟩:=hm
     have:=cq i hi
     unfold yq at this
     have h3:L[i]? = some L[i]:=by simp [hL,hi]
     simp only [Array.getD_eq_getD_getElem?,h3,Option.getD_some] at this h2
     rw [this] at h2;simp at h2
 | succ fuel ih =>
   intro L a w hL hf hI
   rw [wpAny]
   refine ⟨fun hr=>done _ _ _ (lG L hL hr) hI,fun i hi=>?_⟩
   unfold Region.ready at hi
   rw [List.mem_filter,List.mem_range] at hi
   obtain ⟨hi,h2⟩:=hi
   have ho:ops[i]? = some ops[i]:=by simp [hi]
   rw [ho] at h2
   simp only [Option.map_some,Option.getD_some,Bool.and_eq_true,Bool.not_eq_true'] at h2
   obtain ⟨h3,h4⟩:=h2
   rw [Array.all_eq_true'] at h4
   have h5:yq L i=false:=by
    unfold yq
    have:L[i]? = some L[i]:=by simp [hL,hi]
    simp only [Array.getD_eq_getD_getElem?,this,Option.getD_some] at *
    exact h3
   refine wpOp_step ho fun K' hK=>?_
   refine step (yq L) a w i ops[i] ho h5 (fun e he hb=>?_) hI K' fun a' w' h'=>hK a' w' (ih _ _ _ (by simpa using hL) (by have:=openOf_set L i (by omega) h3;omega) (by rw [lsOf_set L i (by omega)];exact h'))
   have:=h4 e he
   rw [hb] at this
   simpa [yq] using this
def acyB (ops:Array Oper):Bool:=(List.range ops.size).all fun i=>match ops[i]? with
 | some o=>o.after.toList.all fun e=>decide (e.on<i)
 | none=>true
theorem acy_of (h:acyB ops=true) (i:Nat) (o:Oper) (ho:ops[i]? = some o) (e) (he:e∈o.after):e.on<i:=by
 have hi:i<ops.size:=(Array.getElem?_eq_some_iff.1 ho).1
 unfold acyB at h
 rw [List.all_eq_true] at h
 have:=h i (List.mem_range.2 hi)
 rw [ho] at this
 simp only [List.all_eq_true] at this
 have:=this e (by simpa using he)
 simpa using this
end
theorem zM.slice1 {size:Nat} {x:Value} {m:Nat} {news:List Value} {w:World} (h:zM size x m news w):∃ a c,x=.slice a m c:=by
 obtain ⟨_,_,⟨a,c,rfl,_⟩ | ⟨rfl,rfl⟩⟩:=h
 ·exact ⟨_,_,rfl⟩
 ·exact ⟨_,_,rfl⟩
theorem qT {w:World} {b o:Nat} {c:Array Value} {e:TypeId} {u:Value} (h:w.heap[b]? = some (.cells c e (0,0))):(w.setCell ⟨b,o,none⟩ u).heap[b]? = some (.cells (c.setIfInBounds o u) e (0,0)):=by
 have cZ:=zZ h
 have h':w.heap[b]=.cells c e (0,0):=by simpa [Array.getElem?_eq_getElem cZ] using h
 show (w.heap.modify b _)[b]? = _
 rw [Array.getElem?_eq_getElem (by simpa using cZ),Array.getElem_modify_self,h']
 simp
theorem uX {w:World} {P:Nat} {u v:Value} {T:TypeId} (h:w.heap[P]? = some (.cells #[u,v] T (0,0))):w.cell? ⟨P,0,none⟩=some u/\w.cell? ⟨P,1,none⟩=some v/\w.frozen? ⟨P,0,none⟩=false/\w.frozen? ⟨P,1,none⟩=false :=
 ⟨by simp [World.cell?,h],by simp [World.cell?,h],by simp [World.frozen?,h],by simp [World.frozen?,h]⟩
def Res (B:Nat) (tag:Nat->Nat) (t:Nat) (w:World) (e:TypeId) (v:Value) (n:Nat) (xs:List Value):Prop :=
 Own w e 1 v n xs/\∀ g,v.ownBlock=some g->tag g=t/\B<=g
def qe (tag:Nat->Nat) (g t:Nat):Nat->Nat:=fun i=>if i=g then t else tag i
theorem Res.alloc {B:Nat} {tag:Nat->Nat} {t:Nat} {w:World} {e:TypeId} {v:Value} {n:Nat} {xs:List Value} (h:Res B tag t w e v n xs) (o:Obj) (t':Nat):Res B (qe tag w.heap.size t') t (w.alloc o) e v n xs :=
 ⟨h.1.alloc o,fun g hg=>⟨by have:=h.1.lt hg;unfold qe;rw [if_neg (by omega)];exact (h.2 g hg).1,(h.2 g hg).2⟩⟩
theorem Res.but {B:Nat} {tag:Nat->Nat} {t:Nat} {w w':World} {e:TypeId} {v:Value} {n:Nat} {xs:List Value} (h:Res B tag t w e v n xs) {m:Nat->Prop} (hb:But m w w') (hm:∀ g,m g->tag g≠t) (t':Nat):Res B (qe tag w.heap.size t') t w' e v n xs :=
 ⟨h.1.keep fun g o hg ho=>by rw [hb.block g (zZ ho) (fun hmg=>hm g hmg (h.2 g hg).1)];exact ho,fun g hg=>⟨by have:=h.1.lt hg;unfold qe;rw [if_neg (by omega)];exact (h.2 g hg).1,(h.2 g hg).2⟩⟩
theorem Res.lit {B:Nat} (tag:Nat->Nat) (t:Nat) {w:World} (hB:B<=w.heap.size) (e:TypeId) (cs:Array Value) (n:Nat) (hm:n<=maxLen) (hs:cs.size=n):Res B (qe tag w.heap.size t) t (w.alloc (.cells cs e)) e (.slice (some ⟨w.heap.size,0,none⟩) n n) n cs.toList :=
 ⟨Own.lit cs n hm (by omega),fun g hg=>by
  simp [Value.ownBlock] at hg;subst hg
  exact ⟨by unfold qe;rw [if_pos rfl],hB⟩⟩
structure kI (B:Nat) (tag:Nat->Nat) (t1 t2:Nat) (e:TypeId) (n:Nat) (xs:List Value) (u:Value) (A C A' C':Bool) (vA vC vA' vC':Value) (w:World):Prop where
 a:A=true->C=false->(∃ g,vA=.slice (some ⟨g,0,none⟩) 0 0)/\Res B tag t1 w e vA 0 []
 c:C=true->C'=false->Res B tag t1 w e vC n xs
 a':A'=true->C'=false->(∃ g,vA'=.slice (some ⟨g,0,none⟩) 1 1)/\Res B tag t2 w e vA' 1 [u]
 c':C'=true->Res B tag t1 w e vC' (n+1) (xs++[u])
 cl:C'=true->C=true
section
variable {B:Nat} {tag:Nat->Nat} {t1 t2:Nat} {e:TypeId} {n:Nat} {xs:List Value} {u:Value} {A C A' C':Bool} {vA vC vA' vC':Value} {w:World}
theorem kI.start (B:Nat) (tag:Nat->Nat) (t1 t2:Nat) (e:TypeId) (n:Nat) (xs:List Value) (u vA vC vA' vC':Value) (w:World):kI B tag t1 t2 e n xs u false false false false vA vC vA' vC' w :=
 ⟨fun h=>Bool.noConfusion h,fun h=>Bool.noConfusion h,fun h=>Bool.noConfusion h,fun h=>Bool.noConfusion h,fun h=>Bool.noConfusion h⟩
theorem kI.alloc (h:kI B tag t1 t2 e n xs u A C A' C' vA vC vA' vC' w) (o:Obj) (t':Nat):kI B (qe tag w.heap.size t') t1 t2 e n xs u A C A' C' vA vC vA' vC' (w.alloc o) :=
 ⟨fun h1 h2=>⟨(h.a h1 h2).1,(h.a h1 h2).2.alloc o t'⟩,fun h1 h2=>(h.c h1 h2).alloc o t',fun h1 h2=>⟨(h.a' h1 h2).1,(h.a' h1 h2).2.alloc o t'⟩,fun h1=>(h.c' h1).alloc o t',h.cl⟩
theorem kI.but (h:kI B tag t1 t2 e n xs u A C A' C' vA vC vA' vC' w) {w':World} {m:Nat->Prop} (hb:But m w w') (hm:∀ g,m g->tag g≠t1/\tag g≠t2) (t':Nat):kI B (qe tag w.heap.size t') t1 t2 e n xs u A C A' C' vA vC vA' vC' w' :=
 ⟨fun h1 h2=>⟨(h.a h1 h2).1,(h.a h1 h2).2.but hb (fun g k=>(hm g k).1) t'⟩,fun h1 h2=>(h.c h1 h2).but hb (fun g k=>(hm g k).1) t',fun h1 h2=>⟨(h.a' h1 h2).1,(h.a' h1 h2).2.but hb (fun g k=>(hm g k).2) t'⟩,fun h1=>(h.c' h1).but hb (fun g k=>(hm g k).1) t',h.cl⟩
theorem Res.low {t:Nat} {v:Value} {k:Nat} {ys:List Value} (h:Res B tag t w e v k ys) {w':World} {m:Nat->Prop} (hb:But m w w') (hm:∀ g,m g->g<B):Res B tag t w' e v k ys :=
 ⟨h.1.keep fun g o hg ho=>by rw [hb.block g (zZ ho) (fun hmg=>by have:=hm g hmg;have:=(h.2 g hg).2;omega)];exact ho,h.2⟩
theorem kI.low (h:kI B tag t1 t2 e n xs u A C A' C' vA vC vA' vC' w) {w':World} {m:Nat->Prop} (hb:But m w w') (hm:∀ g,m g->g<B):kI B tag t1 t2 e n xs u A C A' C' vA vC vA' vC' w' :=
 ⟨fun h1 h2=>⟨(h.a h1 h2).1,(h.a h1 h2).2.low hb hm⟩,fun h1 h2=>(h.c h1 h2).low hb hm,fun h1 h2=>⟨(h.a' h1 h2).1,(h.a' h1 h2).2.low hb hm⟩,fun h1=>(h.c' h1).low hb hm,h.cl⟩
theorem kI.stepA (h:kI B tag t1 t2 e n xs u A C A' C' vA vC vA' vC' w) (hB:B<=w.heap.size):kI B (qe tag w.heap.size t1) t1 t2 e n xs u true C A' C' (.slice (some ⟨w.heap.size,0,none⟩) 0 0) vC vA' vC' (w.alloc (.cells #[] e)) :=
 ⟨fun _ _=>⟨⟨_,rfl⟩,Res.lit tag t1 hB e #[] 0 (Nat.zero_le _) rfl⟩,fun h1 h2=>(h.c h1 h2).alloc _ _,fun h1 h2=>⟨(h.a' h1 h2).1,(h.a' h1 h2).2.alloc _ _⟩,fun h1=>(h.c' h1).alloc _ _,h.cl⟩
theorem kI.stepA' (h:kI B tag t1 t2 e n xs u A C A' C' vA vC vA' vC' w) (hB:B<=w.heap.size):kI B (qe tag w.heap.size t2) t1 t2 e n xs u A C true C' vA vC (.slice (some ⟨w.heap.size,0,none⟩) 1 1) vC' (w.alloc (.cells #[u] e)) :=
 ⟨fun h1 h2=>⟨(h.a h1 h2).1,(h.a h1 h2).2.alloc _ _⟩,fun h1 h2=>(h.c h1 h2).alloc _ _,fun _ _=>⟨⟨_,rfl⟩,Res.lit tag t2 hB e #[u] 1 (by unfold maxLen;omega) rfl⟩,fun h1=>(h.c' h1).alloc _ _,h.cl⟩
theorem Res.app {t:Nat} {v v':Value} {k m:Nat} {ys zs:List Value} {w':World} (h:Res B tag t w e v k ys) (hB:B<=w.heap.size) (ho:Own w' e 1 v' m zs) (hg:∀ g,v'.ownBlock=some g->v.ownBlock=some g\/g=w.heap.size):Res B (qe tag w.heap.size t) t w' e v' m zs :=
 ⟨ho,fun g k=>by
  unfold qe
  rcases hg g k with k | k
  ·have:=h.1.lt k
   rw [if_neg (by omega)];exact h.2 g k
  ·rw [if_pos k];exact ⟨rfl,by omega⟩⟩
theorem kI.stepC (h:kI B tag t1 t2 e n xs u A C A' C' vA vC vA' vC' w) (hA:A=true) (hC:C=false) (ht:t1≠t2) (hB:B<=w.heap.size) {v':Value} {w':World}
 (ho:Own w' e 1 v' n xs) (hb:But (fun b=>vA.ownBlock=some b) w w') (hg:∀ g,v'.ownBlock=some g->vA.ownBlock=some g\/g=w.heap.size) :
 kI B (qe tag w.heap.size t1) t1 t2 e n xs u A true A' C' vA v' vA' vC' w':=by
 have hC':C'=false:=by
  cases C' with
  | false=>rfl
  | true=>have:=h.cl rfl;rw [hC] at this;exact this.symm
 subst hA;subst hC;subst hC'
 exact ⟨fun _ h2=>Bool.noConfusion h2,fun _ _=>(h.a rfl rfl).2.app hB ho hg,
  fun h1 h2=>⟨(h.a' h1 h2).1,(h.a' h1 h2).2.but hb (fun g k=>by rw [((h.a rfl rfl).2.2 g k).1];exact ht) t1⟩,fun h1=>Bool.noConfusion h1,fun h1=>Bool.noConfusion h1⟩
theorem kI.stepC' (h:kI B tag t1 t2 e n xs u A C A' C' vA vC vA' vC' w) (hC:C=true) (hC':C'=false) (hB:B<=w.heap.size) {v':Value} {w':World}
 (ho:Own w' e 1 v' (n+1) (xs++[u])) (hg:∀ g,v'.ownBlock=some g->vC.ownBlock=some g\/g=w.heap.size) :
 kI B (qe tag w.heap.size t1) t1 t2 e n xs u A C A' true vA vC vA' v' w':=by
 subst hC;subst hC'
 exact ⟨fun _ h2=>Bool.noConfusion h2,fun _ h2=>Bool.noConfusion h2,fun _ h2=>Bool.noConfusion h2,fun _=>(h.c rfl rfl).app hB ho hg,fun _=>rfl⟩
end
theorem Own.src1 {w:World} {e:TypeId} {g:Nat} {u:Value} (h:Own w e 1 (.slice (some ⟨g,0,none⟩) 1 1) 1 [u]) (hu:u.oneCell'=true):zM 1 (.slice (some ⟨g,0,none⟩) 1 1) 1 [u] w:=by
 obtain ⟨_,⟨h0,_⟩ | ⟨g',cap,cur,hv,_,hg,mT,_,hcs,dI⟩⟩:=h
 ·cases h0
 ·simp only [Value.slice.injEq,Option.some.injEq,Addr.mk.injEq] at hv
  obtain ⟨⟨rfl,_,_⟩,_,rfl⟩:=hv
  refine ⟨rfl,by simpa using hu,.inl ⟨_,_,rfl,fun j v hj=>?_⟩⟩
  cases j with
  | zero =>
    simp at hj;subst hj
    have h1:cur.toList[0]? = some u:=by
     have:(cur.toList.take 1)[0]? = some u:=by rw [dI];rfl
     rwa [List.getElem?_take,if_pos (by omega)] at this
    rw [show ((⟨g,0,none⟩:Addr).add 0)=⟨g,0,none⟩ from rfl]
    unfold World.cell?
    rw [hg]
    simpa using h1
  | succ j=>simp at hj
theorem Tryz.infoInt2:(Tryz.prog.info? 3).map (fun i=>(i.zero,i.size,i.bytes))=some (some (.int .i64 0),1,8):=by kernel_rfl
theorem Tryz.infoStr2:(Tryz.prog.info? 9).map (fun i=>(i.zero,i.size,i.bytes))=some (some (str []),1,16):=by kernel_rfl
def WithPost (n m:Nat) (xs ys:List Value) (s:Bs) (p:Int) (w:World) (en:Ending) (w':World):Prop :=
 ∃ a1 c1 a2 c2,en=.returned (.agg #[.slice a1 (n+1) c1,.slice a2 (m+1) c2])/\Below w.heap.size w w'/\Own w' 9 1 (.slice a1 (n+1) c1) (n+1) (xs++[str s])/\Own w' 3 1 (.slice a2 (m+1) c2) (m+1) (ys++[.int .i64 p]) /\
   (∀ g,(Value.slice a1 (n+1) c1).ownBlock=some g->w.heap.size<=g)/\(∀ g,(Value.slice a2 (m+1) c2).ownBlock=some g->w.heap.size<=g)
structure WI (n m:Nat) (mv pt:Value) (xs ys:List Value) (s:Bs) (p:Int) (w W0:World) (b:Nat->Bool) (t7 t8 t9 eY ed eD eC eB eh eH eU ej eG t20 t21:Value) (tag:Nat->Nat) (wr:World):Prop where
 f1:b 1=true->t8=.pointer (some ⟨w.heap.size,0,none⟩)
 f2:b 2=true->t9=mv
 f4:b 4=true->ed=str s
 f8:b 8=true->eh=.pointer (some ⟨w.heap.size,1,none⟩)
 f9:b 9=true->eH=pt
 f11:b 11=true->ej=.int .i64 p
 f14:b 14=true->t21=.agg #[eC,t20]
 g14:b 14=true->b 6=true/\b 13=true
 g15:b 15=true->∀ k,k<15->b k=true
 r1:kI W0.heap.size tag 1 2 9 n xs (str s) (b 0) (b 3) (b 5) (b 6) t7 eY eD eC wr
 r2:kI W0.heap.size tag 3 4 3 m ys (.int .i64 p) (b 7) (b 10) (b 12) (b 13) eB eU eG t20 wr
 w0:b 15=false->Below W0.heap.size W0 wr
 w1:b 15=true->But (· = w.heap.size+1) W0 wr/\wr.heap[w.heap.size+1]? = some (.cells #[eC,t20] 33 (0,0))
theorem WI.not15 {n m:Nat} {mv pt:Value} {xs ys:List Value} {s:Bs} {p:Int} {w W0:World} {b:Nat->Bool} {t7 t8 t9 eY ed eD eC eB eh eH eU ej eG t20 t21:Value} {tag:Nat->Nat} {wr:World} (h:WI n m mv pt xs ys s p w W0 b t7 t8 t9 eY ed eD eC eB eh eH eU ej eG t20 t21 tag wr) {i:Nat} (hi:i<15) (hb:b i=false):b 15=false:=by
 cases cQ:b 15 with
 | false=>rfl
 | true=>have:=h.g15 cQ i hi;rw [hb] at this;exact this.symm
def actW (mv pt:Value) (s:Bs) (p:Int) (B:Nat) (t7 t8 t9 eY ed eD eC eB eh eH eU ej eG t20 t21:Value):Act :=
 { tmps:=#[.agg #[mv,pt],str s,.int .i64 p,.pointer (some ⟨B,0,none⟩),undef,undef,.pointer (some ⟨B+1,0,none⟩),t7,t8,t9,eY,ed,eD,eC,eB,eh,eH,eU,ej,eG,t20,t21],defers:=[] }
def WIA (n m:Nat) (mv pt:Value) (xs ys:List Value) (s:Bs) (p:Int) (w W0:World) (b:Nat->Bool) (a:Act) (wr:World):Prop :=
 ∃ t7 t8 t9 eY ed eD eC eB eh eH eU ej eG t20 t21 tag,a=actW mv pt s p w.heap.size t7 t8 t9 eY ed eD eC eB eh eH eU ej eG t20 t21/\WI n m mv pt xs ys s p w W0 b t7 t8 t9 eY ed eD eC eB eh eH eU ej eG t20 t21 tag wr
set_option maxRecDepth 100000 in
theorem l2With_any (n m:Nat) (mv pt:Value) (xs ys:List Value) (s:Bs) (p:Int) (w:World) (hx:zM 1 mv n xs w) (hy:zM 1 pt m ys w) (hn:n<=1000000) (hm:m<=1000000) :
 Calls Tryz.prog 92 #[.agg #[mv,pt],str s,.int .i64 p] w (WithPost n m xs ys s p w):=by
 obtain ⟨ma,mc,rfl⟩:=hx.slice1
 obtain ⟨pa,pc,rfl⟩:=hy.slice1
 have HX:=bc hx;have HY:=bc hy;clear hx hy
 go_enter Tryz.func92,Tryz.ntmps92
 go_wp2_with fail
 rename_i K0 hK0
 obtain ⟨W0,fg⟩:=zzN ((w.alloc (.cells #[.slice ma n mc,.slice pa m pc] 33)).alloc (.cells #[.slice none 0 0,.slice none 0 0] 33))
 rw [fg]
 have z0:W0.heap.size=w.heap.size+1+1:=by rw [<- fg];simp
 have fw:Below w.heap.size w W0:=by rw [<- fg];exact ((bi _ _).alloc (br _) _).alloc (by rw [zK];omega) _
 have c0:W0.cell? ⟨w.heap.size,0,none⟩=some (.slice ma n mc):=by rw [<- fg];simp
 have c1:W0.cell? ⟨w.heap.size,1,none⟩=some (.slice pa m pc):=by rw [<- fg];simp
 have h6:W0.heap[w.heap.size+1]? = some (.cells #[.slice none 0 0,.slice none 0 0] 33 (0,0)):=by rw [<- fg];have:=zS (w.alloc (.cells #[.slice ma n mc,.slice pa m pc] 33)) (.cells #[.slice none 0 0,.slice none 0 0] 33);rwa [zK] at this
 clear fg
 refine wp_region_any (by kernel_rfl) ?_
 refine wpAny_inv (I:=WIA n m (.slice ma n mc) (.slice pa m pc) xs ys s p w W0) ?acy ?step ?done _ _ _ _ rfl ?cnt ?start
 case cnt=>decide
 case acy=>exact acy_of (by kernel_rfl)
 case start =>
  refine ⟨undef,undef,undef,undef,undef,undef,undef,undef,undef,undef,undef,undef,undef,undef,undef,fun _=>0,rfl,?_⟩
  have hf:∀ k,yq (Array.replicate 16 false) k=false:=fun k=>by
   unfold yq
   rw [Array.getD_eq_getD_getElem?,Array.getElem?_replicate]
   split <;> rfl
  have key:∀ b:Nat->Bool,(∀ k,b k=false)->WI n m (.slice ma n mc) (.slice pa m pc) xs ys s p w W0 b undef undef undef undef undef undef undef undef undef undef undef undef undef undef undef (fun _=>0) W0.drew:=by
   intro b hf
   refine { f1:=fun h=>?_,f2:=fun h=>?_,f4:=fun h=>?_,f8:=fun h=>?_,f9:=fun h=>?_,f11:=fun h=>?_,f14:=fun h=>?_,g14:=fun h=>?_,g15:=fun h=>?_,r1:=?_,r2:=?_,w0:=fun _=>(bi _ _).drew,w1:=fun h=>?_ }
   case refine_10=>rw [hf,hf,hf,hf];exact kI.start _ _ _ _ _ _ _ _ _ _ _ _ _
   case refine_11=>rw [hf,hf,hf,hf];exact kI.start _ _ _ _ _ _ _ _ _ _ _ _ _
   all_goals (rw [hf] at h;cases h)
  exact key _ hf
 case done =>
  rintro b a wr cq ⟨t7,t8,t9,eY,ed,eD,eC,eB,eh,eH,eU,ej,eG,t20,t21,tag,rfl,hI⟩
  obtain ⟨dX,dC⟩:=hI.w1 (cq 15 (by decide))
  have R1:=hI.r1.c' (cq 6 (by decide))
  have R2:=hI.r2.c' (cq 13 (by decide))
  obtain ⟨td,tN,CQ⟩:=R1.1.slice
  obtain ⟨a20,tM,CO⟩:=R2.1.slice
  subst CQ;subst CO
  obtain ⟨u0,u1,_,_⟩:=uX dC
  refine hK0 _ _ ?_
  clear hK0
  unfold actW
  have HF:=bc (bm dX (bm R1 R2));clear dX R1 R2 hI dC
  go_wp2_with fail
  refine bodyPost_ret (v:=.agg #[.slice td (n+1) tN,.slice a20 (m+1) tM]) (by simp [results,Tryz.results92,go_sem,u0,u1]) rfl ?_
  obtain ⟨dX,R1,R2⟩:=HF.out
  exact ⟨td,tN,a20,tM,rfl,fw.trans (dX.toBelow (by omega) fun i hi e=>by omega),R1.1,R2.1,fun g hg=>by have:=(R1.2 g hg).2;omega,fun g hg=>by have:=(R2.2 g hg).2;omega⟩
 case step =>
  rintro b a wr i o ho hb cE ⟨t7,t8,t9,eY,ed,eD,eC,eB,eh,eH,eU,ej,eG,t20,t21,tag,rfl,hI⟩ K' hK
  unfold actW at *
  rcases i with _ | _ | _ | _ | _ | _ | _ | _ | _ | _ | _ | _ | _ | _ | _ | _ | i
  ·simp at ho;subst ho
   have cQ:=hI.not15 (i:=0) (by omega) hb
   have hB:W0.heap.size<=wr.heap.size:=(hI.w0 cQ).size
   go_simp
   exact hK _ _ ⟨.slice (some ⟨wr.heap.size,0,none⟩) 0 0,t8,t9,eY,ed,eD,eC,eB,eh,eH,eU,ej,eG,t20,t21,qe tag wr.heap.size 1,rfl,{ f1:=hI.f1,f2:=hI.f2,f4:=hI.f4,f8:=hI.f8,f9:=hI.f9,f11:=hI.f11,f14:=hI.f14,g14:=hI.g14,g15:=fun h=>absurd h (by rw [show set1 b 0 15=b 15 from rfl,cQ];decide),r1:=hI.r1.stepA hB,r2:=hI.r2.alloc _ 1,w0:=fun _=>(hI.w0 cQ).alloc hB _,w1:=fun h=>absurd h (by rw [show set1 b 0 15=b 15 from rfl,cQ];decide) }⟩
  ·simp at ho;subst ho
   have cQ:=hI.not15 (i:=1) (by omega) hb
   have hB:W0.heap.size<=wr.heap.size:=(hI.w0 cQ).size
   go_simp
   exact hK _ _ ⟨t7,.pointer (some ⟨w.heap.size,0,none⟩),t9,eY,ed,eD,eC,eB,eh,eH,eU,ej,eG,t20,t21,tag,rfl,{ f1:=fun _=>rfl,f2:=hI.f2,f4:=hI.f4,f8:=hI.f8,f9:=hI.f9,f11:=hI.f11,f14:=hI.f14,g14:=hI.g14,g15:=fun h=>absurd h (by rw [show set1 b 1 15=b 15 from rfl,cQ];decide),r1:=hI.r1,r2:=hI.r2,w0:=fun _=>hI.w0 cQ,w1:=fun h=>absurd h (by rw [show set1 b 1 15=b 15 from rfl,cQ];decide) }⟩
  ·simp at ho;subst ho
   simp [Region.binds] at cE
   have cQ:=hI.not15 (i:=2) (by omega) hb
   have hB:W0.heap.size<=wr.heap.size:=(hI.w0 cQ).size
   have q8:=hI.f1 cE
   have q0:wr.cell? ⟨w.heap.size,0,none⟩=some (.slice ma n mc):=((hI.w0 cQ).cell (p:=⟨w.heap.size,0,none⟩) (by rw [z0];show w.heap.size<_;omega)).trans c0
   go_simp
   exact hK _ _ ⟨t7,.pointer (some ⟨w.heap.size,0,none⟩),.slice ma n mc,eY,ed,eD,eC,eB,eh,eH,eU,ej,eG,t20,t21,tag,rfl,{ f1:=fun _=>rfl,f2:=fun _=>rfl,f4:=hI.f4,f8:=hI.f8,f9:=hI.f9,f11:=hI.f11,f14:=hI.f14,g14:=hI.g14,g15:=fun h=>absurd h (by rw [show set1 b 2 15=b 15 from rfl,cQ];decide),r1:=hI.r1,r2:=hI.r2,w0:=fun _=>hI.w0 cQ,w1:=fun h=>absurd h (by rw [show set1 b 2 15=b 15 from rfl,cQ];decide) }⟩
  ·simp at ho;subst ho
   simp [Region.binds] at cE
   have cQ:=hI.not15 (i:=3) (by omega) hb
   have hB:W0.heap.size<=wr.heap.size:=(hI.w0 cQ).size
   obtain ⟨⟨g,e7⟩,dD⟩:=hI.r1.a cE.1 hb
   have mz:=dD
   rw [e7] at mz
   have q9:=hI.f2 cE.2
   refine kK (by rfl) (.tmp 7) (.tmp 9) 30 (by rfl) 9 (str []) 1 16 Tryz.underlying30 Tryz.infoStr2 rfl (by decide) (.slice (some ⟨g,0,none⟩) 0 0) 0 [] e7 mz.1 (.slice ma n mc) n xs q9 ((HX.out.belowAll fw (br _)).belowAll (hI.w0 cQ) (br _)) (by unfold maxLen;omega) (by omega) ?_
   intro a' c' w' ho dX hg
   rw [<- e7] at dX hg
   simp only [Nat.zero_add,List.nil_append] at ho hg ⊢
   exact hK _ _ ⟨t7,t8,t9,.slice a' n c',ed,eD,eC,eB,eh,eH,eU,ej,eG,t20,t21,qe tag wr.heap.size 1,rfl,{ f1:=hI.f1,f2:=hI.f2,f4:=hI.f4,f8:=hI.f8,f9:=hI.f9,f11:=hI.f11,f14:=hI.f14,g14:=hI.g14,g15:=fun h=>absurd h (by rw [show set1 b 3 15=b 15 from rfl,cQ];decide),r1:=hI.r1.stepC cE.1 hb (by decide) hB ho dX hg,r2:=hI.r2.but dX (fun k e=>by rw [(dD.2 k e).1];decide) 1,w0:=fun _=>(hI.w0 cQ).trans (dX.toBelow hB fun k hk e=>by have:=(dD.2 k e).2;omega),w1:=fun h=>absurd h (by rw [show set1 b 3 15=b 15 from rfl,cQ];decide) }⟩
  ·simp at ho;subst ho
   have cQ:=hI.not15 (i:=4) (by omega) hb
   have hB:W0.heap.size<=wr.heap.size:=(hI.w0 cQ).size
   go_simp
   exact hK _ _ ⟨t7,t8,t9,eY,str s,eD,eC,eB,eh,eH,eU,ej,eG,t20,t21,tag,rfl,{ f1:=hI.f1,f2:=hI.f2,f4:=fun _=>rfl,f8:=hI.f8,f9:=hI.f9,f11:=hI.f11,f14:=hI.f14,g14:=hI.g14,g15:=fun h=>absurd h (by rw [show set1 b 4 15=b 15 from rfl,cQ];decide),r1:=hI.r1,r2:=hI.r2,w0:=fun _=>hI.w0 cQ,w1:=fun h=>absurd h (by rw [show set1 b 4 15=b 15 from rfl,cQ];decide) }⟩
  ·simp at ho;subst ho
   simp [Region.binds] at cE
   have cQ:=hI.not15 (i:=5) (by omega) hb
   have hB:W0.heap.size<=wr.heap.size:=(hI.w0 cQ).size
   have q11:=hI.f4 cE
   go_simp
   exact hK _ _ ⟨t7,t8,t9,eY,str s,.slice (some ⟨wr.heap.size,0,none⟩) 1 1,eC,eB,eh,eH,eU,ej,eG,t20,t21,qe tag wr.heap.size 2,rfl,{ f1:=hI.f1,f2:=hI.f2,f4:=fun _=>rfl,f8:=hI.f8,f9:=hI.f9,f11:=hI.f11,f14:=hI.f14,g14:=hI.g14,g15:=fun h=>absurd h (by rw [show set1 b 5 15=b 15 from rfl,cQ];decide),r1:=hI.r1.stepA' hB,r2:=hI.r2.alloc _ 2,w0:=fun _=>(hI.w0 cQ).alloc hB _,w1:=fun h=>absurd h (by rw [show set1 b 5 15=b 15 from rfl,cQ];decide) }⟩
  ·simp at ho;subst ho
   simp [Region.binds] at cE
   have cQ:=hI.not15 (i:=6) (by omega) hb
   have hB:W0.heap.size<=wr.heap.size:=(hI.w0 cQ).size
   have dD:=hI.r1.c cE.1 hb
   obtain ⟨⟨g,CU⟩,fX⟩:=hI.r1.a' cE.2.1 hb
   rw [CU] at fX
   refine kK (by rfl) (.tmp 10) (.tmp 12) 30 (by rfl) 9 (str []) 1 16 Tryz.underlying30 Tryz.infoStr2 rfl (by decide) eY n xs rfl dD.1 (.slice (some ⟨g,0,none⟩) 1 1) 1 [str s] CU (fX.1.src1 (by simp [Value.oneCell'])) (by unfold maxLen;omega) (by omega) ?_
   intro a' c' w' ho dX hg
   exact hK _ _ ⟨t7,t8,t9,eY,ed,eD,.slice a' (n+1) c',eB,eh,eH,eU,ej,eG,t20,t21,qe tag wr.heap.size 1,rfl,{ f1:=hI.f1,f2:=hI.f2,f4:=hI.f4,f8:=hI.f8,f9:=hI.f9,f11:=hI.f11,f14:=fun h=>absurd (hI.g14 h).1 (by rw [hb];decide),g14:=fun h=>⟨rfl,(hI.g14 h).2⟩,g15:=fun h=>absurd h (by rw [show set1 b 6 15=b 15 from rfl,cQ];decide),r1:=hI.r1.stepC' cE.1 hb hB ho hg,r2:=hI.r2.but dX (fun k e=>by rw [(dD.2 k e).1];decide) 1,w0:=fun _=>(hI.w0 cQ).trans (dX.toBelow hB fun k hk e=>by have:=(dD.2 k e).2;omega),w1:=fun h=>absurd h (by rw [show set1 b 6 15=b 15 from rfl,cQ];decide) }⟩
  ·simp at ho;subst ho
   have cQ:=hI.not15 (i:=7) (by omega) hb
   have hB:W0.heap.size<=wr.heap.size:=(hI.w0 cQ).size
   go_simp
   exact hK _ _ ⟨t7,t8,t9,eY,ed,eD,eC,.slice (some ⟨wr.heap.size,0,none⟩) 0 0,eh,eH,eU,ej,eG,t20,t21,qe tag wr.heap.size 3,rfl,{ f1:=hI.f1,f2:=hI.f2,f4:=hI.f4,f8:=hI.f8,f9:=hI.f9,f11:=hI.f11,f14:=hI.f14,g14:=hI.g14,g15:=fun h=>absurd h (by rw [show set1 b 7 15=b 15 from rfl,cQ];decide),r1:=hI.r1.alloc _ 3,r2:=hI.r2.stepA hB,w0:=fun _=>(hI.w0 cQ).alloc hB _,w1:=fun h=>absurd h (by rw [show set1 b 7 15=b 15 from rfl,cQ];decide) }⟩
  ·simp at ho;subst ho
   have cQ:=hI.not15 (i:=8) (by omega) hb
   have hB:W0.heap.size<=wr.heap.size:=(hI.w0 cQ).size
   go_simp
   exact hK _ _ ⟨t7,t8,t9,eY,ed,eD,eC,eB,.pointer (some ⟨w.heap.size,1,none⟩),eH,eU,ej,eG,t20,t21,tag,rfl,{ f1:=hI.f1,f2:=hI.f2,f4:=hI.f4,f8:=fun _=>rfl,f9:=hI.f9,f11:=hI.f11,f14:=hI.f14,g14:=hI.g14,g15:=fun h=>absurd h (by rw [show set1 b 8 15=b 15 from rfl,cQ];decide),r1:=hI.r1,r2:=hI.r2,w0:=fun _=>hI.w0 cQ,w1:=fun h=>absurd h (by rw [show set1 b 8 15=b 15 from rfl,cQ];decide) }⟩
  ·simp at ho;subst ho
   simp [Region.binds] at cE
   have cQ:=hI.not15 (i:=9) (by omega) hb
   have hB:W0.heap.size<=wr.heap.size:=(hI.w0 cQ).size
   have q8:=hI.f8 cE
   have q0:wr.cell? ⟨w.heap.size,1,none⟩=some (.slice pa m pc):=((hI.w0 cQ).cell (p:=⟨w.heap.size,1,none⟩) (by rw [z0];show w.heap.size<_;omega)).trans c1
   go_simp
   exact hK _ _ ⟨t7,t8,t9,eY,ed,eD,eC,eB,.pointer (some ⟨w.heap.size,1,none⟩),.slice pa m pc,eU,ej,eG,t20,t21,tag,rfl,{ f1:=hI.f1,f2:=hI.f2,f4:=hI.f4,f8:=fun _=>rfl,f9:=fun _=>rfl,f11:=hI.f11,f14:=hI.f14,g14:=hI.g14,g15:=fun h=>absurd h (by rw [show set1 b 9 15=b 15 from rfl,cQ];decide),r1:=hI.r1,r2:=hI.r2,w0:=fun _=>hI.w0 cQ,w1:=fun h=>absurd h (by rw [show set1 b 9 15=b 15 from rfl,cQ];decide) }⟩
  ·simp at ho;subst ho
   simp [Region.binds] at cE
   have cQ:=hI.not15 (i:=10) (by omega) hb
   have hB:W0.heap.size<=wr.heap.size:=(hI.w0 cQ).size
   obtain ⟨⟨g,e7⟩,dD⟩:=hI.r2.a cE.1 hb
   have mz:=dD
   rw [e7] at mz
   have q9:=hI.f9 cE.2.1
   refine kK (by rfl) (.tmp 14) (.tmp 16) 31 (by rfl) 3 (.int .i64 0) 1 8 Tryz.underlying31 Tryz.infoInt2 rfl (by decide) (.slice (some ⟨g,0,none⟩) 0 0) 0 [] e7 mz.1 (.slice pa m pc) m ys q9 ((HY.out.belowAll fw (br _)).belowAll (hI.w0 cQ) (br _)) (by unfold maxLen;omega) (by omega) ?_
   intro a' c' w' ho dX hg
   rw [<- e7] at dX hg
   simp only [Nat.zero_add,List.nil_append] at ho hg ⊢
   exact hK _ _ ⟨t7,t8,t9,eY,ed,eD,eC,eB,eh,eH,.slice a' m c',ej,eG,t20,t21,qe tag wr.heap.size 3,rfl,{ f1:=hI.f1,f2:=hI.f2,f4:=hI.f4,f8:=hI.f8,f9:=hI.f9,f11:=hI.f11,f14:=hI.f14,g14:=hI.g14,g15:=fun h=>absurd h (by rw [show set1 b 10 15=b 15 from rfl,cQ];decide),r1:=hI.r1.but dX (fun k e=>by rw [(dD.2 k e).1];decide) 3,r2:=hI.r2.stepC cE.1 hb (by decide) hB ho dX hg,w0:=fun _=>(hI.w0 cQ).trans (dX.toBelow hB fun k hk e=>by have:=(dD.2 k e).2;omega),w1:=fun h=>absurd h (by rw [show set1 b 10 15=b 15 from rfl,cQ];decide) }⟩
  ·simp at ho;subst ho
   have cQ:=hI.not15 (i:=11) (by omega) hb
   have hB:W0.heap.size<=wr.heap.size:=(hI.w0 cQ).size
   go_simp
   exact hK _ _ ⟨t7,t8,t9,eY,ed,eD,eC,eB,eh,eH,eU,.int .i64 p,eG,t20,t21,tag,rfl,{ f1:=hI.f1,f2:=hI.f2,f4:=hI.f4,f8:=hI.f8,f9:=hI.f9,f11:=fun _=>rfl,f14:=hI.f14,g14:=hI.g14,g15:=fun h=>absurd h (by rw [show set1 b 11 15=b 15 from rfl,cQ];decide),r1:=hI.r1,r2:=hI.r2,w0:=fun _=>hI.w0 cQ,w1:=fun h=>absurd h (by rw [show set1 b 11 15=b 15 from rfl,cQ];decide) }⟩
  ·simp at ho;subst ho
   simp [Region.binds] at cE
   have cQ:=hI.not15 (i:=12) (by omega) hb
   have hB:W0.heap.size<=wr.heap.size:=(hI.w0 cQ).size
   have q11:=hI.f11 cE
   go_simp
   exact hK _ _ ⟨t7,t8,t9,eY,ed,eD,eC,eB,eh,eH,eU,.int .i64 p,.slice (some ⟨wr.heap.size,0,none⟩) 1 1,t20,t21,qe tag wr.heap.size 4,rfl,{ f1:=hI.f1,f2:=hI.f2,f4:=hI.f4,f8:=hI.f8,f9:=hI.f9,f11:=fun _=>rfl,f14:=hI.f14,g14:=hI.g14,g15:=fun h=>absurd h (by rw [show set1 b 12 15=b 15 from rfl,cQ];decide),r1:=hI.r1.alloc _ 4,r2:=hI.r2.stepA' hB,w0:=fun _=>(hI.w0 cQ).alloc hB _,w1:=fun h=>absurd h (by rw [show set1 b 12 15=b 15 from rfl,cQ];decide) }⟩
  ·simp at ho;subst ho
   simp [Region.binds] at cE
   have cQ:=hI.not15 (i:=13) (by omega) hb
   have hB:W0.heap.size<=wr.heap.size:=(hI.w0 cQ).size
   have dD:=hI.r2.c cE.1 hb
   obtain ⟨⟨g,CU⟩,fX⟩:=hI.r2.a' cE.2.1 hb
   rw [CU] at fX
   refine kK (by rfl) (.tmp 17) (.tmp 19) 31 (by rfl) 3 (.int .i64 0) 1 8 Tryz.underlying31 Tryz.infoInt2 rfl (by decide) eU m ys rfl dD.1 (.slice (some ⟨g,0,none⟩) 1 1) 1 [.int .i64 p] CU (fX.1.src1 (by simp [Value.oneCell'])) (by unfold maxLen;omega) (by omega) ?_
   intro a' c' w' ho dX hg
   exact hK _ _ ⟨t7,t8,t9,eY,ed,eD,eC,eB,eh,eH,eU,ej,eG,.slice a' (m+1) c',t21,qe tag wr.heap.size 3,rfl,{ f1:=hI.f1,f2:=hI.f2,f4:=hI.f4,f8:=hI.f8,f9:=hI.f9,f11:=hI.f11,f14:=fun h=>absurd (hI.g14 h).2 (by rw [hb];decide),g14:=fun h=>⟨(hI.g14 h).1,rfl⟩,g15:=fun h=>absurd h (by rw [show set1 b 13 15=b 15 from rfl,cQ];decide),r1:=hI.r1.but dX (fun k e=>by rw [(dD.2 k e).1];decide) 3,r2:=hI.r2.stepC' cE.1 hb hB ho hg,w0:=fun _=>(hI.w0 cQ).trans (dX.toBelow hB fun k hk e=>by have:=(dD.2 k e).2;omega),w1:=fun h=>absurd h (by rw [show set1 b 13 15=b 15 from rfl,cQ];decide) }⟩
  ·simp at ho;subst ho
   simp [Region.binds] at cE
   have cQ:=hI.not15 (i:=14) (by omega) hb
   have hB:W0.heap.size<=wr.heap.size:=(hI.w0 cQ).size
   obtain ⟨td,tN,CQ⟩:=(hI.r1.c' cE.1).1.slice
   obtain ⟨a20,tM,CO⟩:=(hI.r2.c' cE.2).1.slice
   subst CQ
   subst CO
   go_simp
   exact hK _ _ ⟨t7,t8,t9,eY,ed,eD,.slice td (n+1) tN,eB,eh,eH,eU,ej,eG,.slice a20 (m+1) tM,.agg #[.slice td (n+1) tN,.slice a20 (m+1) tM],tag,rfl,{ f1:=hI.f1,f2:=hI.f2,f4:=hI.f4,f8:=hI.f8,f9:=hI.f9,f11:=hI.f11,f14:=fun _=>rfl,g14:=fun _=>⟨cE.1,cE.2⟩,g15:=fun h=>absurd h (by rw [show set1 b 14 15=b 15 from rfl,cQ];decide),r1:=hI.r1,r2:=hI.r2,w0:=fun _=>hI.w0 cQ,w1:=fun h=>absurd h (by rw [show set1 b 14 15=b 15 from rfl,cQ];decide) }⟩
  ·simp at ho;subst ho
   simp [Region.binds] at cE
   obtain ⟨td,tN,CQ⟩:=(hI.r1.c' (hI.g14 cE.1).1).1.slice
   have cq:∀ k,k<15->b k=true:=fun k hk=>by
    obtain ⟨p14,p0⟩:=cE
    rcases (by omega:k=0\/k=1\/k=2\/k=3\/k=4\/k=5\/k=6\/k=7\/k=8\/k=9\/k=10\/k=11\/k=12\/k=13\/k=14) with rfl | rfl | rfl | rfl | rfl | rfl | rfl | rfl | rfl | rfl | rfl | rfl | rfl | rfl | rfl <;> simp [*]
   obtain ⟨a20,tM,CO⟩:=(hI.r2.c' (hI.g14 cE.1).2).1.slice
   subst CQ;subst CO
   have q21:=hI.f14 cE.1
   have dF:wr.heap[w.heap.size+1]? = some (.cells #[.slice none 0 0,.slice none 0 0] 33 (0,0)):=by rw [(hI.w0 hb).block _ (by omega)];exact h6
   obtain ⟨u0,u1,v0,v1⟩:=uX dF
   have cK:=hI.w0 hb
   have dC:=qT (o:=1) (u:=.slice a20 (m+1) tM) (qT (o:=0) (u:=.slice td (n+1) tN) dF)
   go_simp
   have dX:But (· = w.heap.size+1) wr ((wr.setCell ⟨w.heap.size+1,0,none⟩ (.slice td (n+1) tN)).setCell ⟨w.heap.size+1,1,none⟩ (.slice a20 (m+1) tM)):=((But.refl (· = w.heap.size+1) wr).setCell (p:=⟨w.heap.size+1,0,none⟩) (.inl rfl) _).setCell (p:=⟨w.heap.size+1,1,none⟩) (.inl rfl) _
   exact hK _ _ ⟨t7,t8,t9,eY,ed,eD,.slice td (n+1) tN,eB,eh,eH,eU,ej,eG,.slice a20 (m+1) tM,.agg #[.slice td (n+1) tN,.slice a20 (m+1) tM],tag,rfl,{ f1:=hI.f1,f2:=hI.f2,f4:=hI.f4,f8:=hI.f8,f9:=hI.f9,f11:=hI.f11,f14:=fun _=>rfl,g14:=hI.g14,g15:=fun _ k hk=>by rw [show set1 b 15 k=b k from if_neg (by omega)];exact cq k hk,r1:=hI.r1.low dX (fun k e=>by omega),r2:=hI.r2.low dX (fun k e=>by omega),w0:=fun h=>Bool.noConfusion (show true=false from h),w1:=fun _=>⟨(But.ofBelow cK).trans dX,dC⟩ }⟩
  ·simp at ho
def RnK (w:World) (ra:Nat) (mv pt:Value) (moves most:Nat) (bad:Bool):Prop:=w.heap[ra]? = some (.cells #[mv,pt,.int .i64 (moves:Nat),.int .i64 (most:Nat),.bool true,.bool bad] 80 (0,0))
theorem RnK.cells {w:World} {ra:Nat} {mv pt:Value} {moves most:Nat} {bad:Bool} (h:RnK w ra mv pt moves most bad):w.cell? ⟨ra,0,none⟩=some mv/\w.cell? ⟨ra,1,none⟩=some pt/\w.cell? ⟨ra,2,none⟩=some (.int .i64 (moves:Nat))/\w.cell? ⟨ra,3,none⟩=some (.int .i64 (most:Nat))/\w.cell? ⟨ra,4,none⟩=some (.bool true)/\w.cell? ⟨ra,5,none⟩=some (.bool bad) /\
 w.frozen? ⟨ra,0,none⟩=false/\w.frozen? ⟨ra,1,none⟩=false/\w.frozen? ⟨ra,2,none⟩=false/\w.frozen? ⟨ra,5,none⟩=false:=by
 unfold RnK at h
 exact ⟨by simp [World.cell?,h],by simp [World.cell?,h],by simp [World.cell?,h],by simp [World.cell?,h],by simp [World.cell?,h],by simp [World.cell?,h],by simp [World.frozen?,h],by simp [World.frozen?,h],by simp [World.frozen?,h],by simp [World.frozen?,h]⟩
theorem make_bad (ra:Nat) (mv pt:Value) (moves most:Nat) (s:Bs) (p:Int) (w:World) (h:RnK w ra mv pt moves most false) (hm:moves<=16777216) (hbig:most<moves+1) :
 Calls Tryz.prog 76 #[.pointer (some ⟨ra,0,none⟩),str s,.int .i64 p] w fun en w'=>en=.returned (.int .i64 (moves:Nat))/\But (· = ra) w w'/\RnK w' ra mv pt (moves+1) most true:=by
 obtain ⟨c0,c1,c2,c3,c4,c5,f0,f1,f2,f5⟩:=h.cells
 obtain ⟨W,hW⟩:=zzN (w.setCell ⟨ra,2,none⟩ (.int .i64 ((moves:Int)+1)))
 have dc:RnK W ra mv pt (moves+1) most false:=by rw [<- hW];unfold RnK;rw [qT h];rfl
 have cS:But (· = ra) w W:=by rw [<- hW];exact But.setCell (m:=(· = ra)) (p:=⟨ra,2,none⟩) (But.refl _ _) (.inl rfl) _
 obtain ⟨d0,d1,d2,d3,d4,d5,g0,g1,g2,g5⟩:=dc.cells
 have d2':W.cell? ⟨ra,2,none⟩=some (.int .i64 ((moves:Int)+1)):=d2
 have HW:=bc hW;have HP:=bc dc;have HB:=bc cS
 clear h dc cS hW d2
 have hd:(most:Int)<(moves:Int)+1:=by omega
 have HD:=bc hbig;clear hbig
 go_enter Tryz.func76,Tryz.ntmps76
 go_upto_region 2 with (fail)
 rw [HW.out]
 clear c0 c1 c2 c3 c4 c5 f0 f1 f2 f5
 go_quiet (fail)
 have rB:RnK ((W.drewN nq).setCell ⟨ra,5,none⟩ (.bool true)) ra mv pt (moves+1) most true:=by
  unfold RnK;rw [qT (show (W.drewN nq).heap[ra]? = _ from HP.out)];rfl
 obtain ⟨e0,e1,e2,e3,e4,e5,_⟩:=rB.cells
 have e2':((W.drewN nq).setCell ⟨ra,5,none⟩ (.bool true)).cell? ⟨ra,2,none⟩=some (.int .i64 ((moves:Int)+1)):=e2
 have g5':(W.drewN nq).frozen? ⟨ra,5,none⟩=false:=g5
 have d5':(W.drewN nq).cell? ⟨ra,5,none⟩=some (.bool false):=d5
 have HP2:=bc rB;clear rB e2
 go_wp2_with fail
 go_ret
 exact ⟨uv (by omega),But.setCell (m:=(· = ra)) (p:=⟨ra,5,none⟩) (HB.out.trans (c:=W.drewN nq) ⟨rfl,rfl,rfl,br _,fun _ _ _=>rfl⟩) (.inl rfl) _,HP2.out⟩
def MadeK (ra:Nat) (mv pt:Value) (n most:Nat) (xs ys:List Value) (s:Bs) (p:Int) (w:World) (en:Ending) (w':World):Prop :=
 ∃ a1 c1 a2 c2,en=.returned (.int .i64 (n:Nat))/\But (· = ra) w w'/\RnK w' ra (.slice a1 (n+1) c1) (.slice a2 (n+1) c2) (n+1) most false/\Own w' 9 1 (.slice a1 (n+1) c1) (n+1) (xs++[str s])/\Own w' 3 1 (.slice a2 (n+1) c2) (n+1) (ys++[.int .i64 p]) /\
   (∀ g,(Value.slice a1 (n+1) c1).ownBlock=some g->w.heap.size<=g)/\(∀ g,(Value.slice a2 (n+1) c2).ownBlock=some g->w.heap.size<=g)
set_option maxRecDepth 100000 in
theorem make_kept (ra:Nat) (mv pt:Value) (n most:Nat) (xs ys:List Value) (s:Bs) (p:Int) (w:World) (h:RnK w ra mv pt n most false) (hx:Own w 9 1 mv n xs) (hy:Own w 3 1 pt n ys) (hsx:zM 1 mv n xs w) (lJ:zM 1 pt n ys w) (cX:∀ g,mv.ownBlock=some g\/pt.ownBlock=some g->g≠ra) (hm:n<=1000000) (hbig:¬ most<n+1) :
 Calls Tryz.prog 76 #[.pointer (some ⟨ra,0,none⟩),str s,.int .i64 p] w (MadeK ra mv pt n most xs ys s p w):=by
 obtain ⟨c0,c1,c2,c3,c4,c5,f0,f1,f2,f5⟩:=h.cells
 obtain ⟨W,hW⟩:=zzN (w.setCell ⟨ra,2,none⟩ (.int .i64 ((n:Int)+1)))
 have dc:RnK W ra mv pt (n+1) most false:=by rw [<- hW];unfold RnK;rw [qT h];rfl
 have cS:But (· = ra) w W:=by rw [<- hW];exact But.setCell (m:=(· = ra)) (p:=⟨ra,2,none⟩) (But.refl _ _) (.inl rfl) _
 have mR:=zZ h
 obtain ⟨d0,d1,d2,d3,d4,d5,g0,g1,g2,g5⟩:=dc.cells
 have d2':W.cell? ⟨ra,2,none⟩=some (.int .i64 ((n:Int)+1)):=d2
 have ksx:zM 1 mv n xs W:=by
  obtain ⟨h1,h2,⟨a,c,rfl,h3⟩ | h3⟩:=hsx
  ·refine ⟨h1,h2,.inl ⟨a,c,rfl,fun j u hu=>?_⟩⟩
   have h4:=h3 j u hu
   have hjn:=(List.getElem?_eq_some_iff.1 hu).1
   obtain ⟨g,e,_,hg,_⟩:=hx.open1 (j:=j) (by omega)
   cases e
   have ni:=cX g (.inl rfl)
   rw [cS.cell (be w _ h4) (by unfold Addr.add;split <;> exact ni)];exact h4
  ·exact ⟨h1,h2,.inr h3⟩
 have ksy:zM 1 pt n ys W:=by
  obtain ⟨h1,h2,⟨a,c,rfl,h3⟩ | h3⟩:=lJ
  ·refine ⟨h1,h2,.inl ⟨a,c,rfl,fun j u hu=>?_⟩⟩
   have h4:=h3 j u hu
   have hjn:=(List.getElem?_eq_some_iff.1 hu).1
   obtain ⟨g,e,_,hg,_⟩:=hy.open1 (j:=j) (by omega)
   cases e
   have ni:=cX g (.inr rfl)
   rw [cS.cell (be w _ h4) (by unfold Addr.add;split <;> exact ni)];exact h4
  ·exact ⟨h1,h2,.inr h3⟩
 have HW:=bc hW;have HP:=bc dc;have HB:=bc cS;have HS:=bc (bm ksx ksy)
 clear h dc cS hW d2 ksx ksy hx hy hsx lJ cX
 obtain ⟨am,cm,rfl⟩:=HS.out.1.slice1
 obtain ⟨ap,cp,rfl⟩:=HS.out.2.slice1
 have hd:¬ (most:Int)<(n:Int)+1:=by omega
 have HD:=bc hbig;clear hbig
 go_enter Tryz.func76,Tryz.ntmps76
 go_upto_region 2 with (fail)
 rw [HW.out]
 clear c0 c1 c2 c3 c4 c5 f0 f1 f2 f5
 go_quiet (fail)
 have e0:(W.drewN nq).cell? ⟨ra,0,none⟩=some (.slice am n cm):=d0
 have e1:(W.drewN nq).cell? ⟨ra,1,none⟩=some (.slice ap n cp):=d1
 have e2:(W.drewN nq).cell? ⟨ra,2,none⟩=some (.int .i64 ((n:Int)+1)):=d2'
 have e4:(W.drewN nq).cell? ⟨ra,4,none⟩=some (.bool true):=d4
 have e5:(W.drewN nq).cell? ⟨ra,5,none⟩=some (.bool false):=d5
 have hS2:=bc (show zM 1 (.slice am n cm) n xs (W.drewN nq)/\zM 1 (.slice ap n cp) n ys (W.drewN nq) from ⟨HS.out.1.keep (w':=W.drewN nq) fun _ _ h=>h,HS.out.2.keep (w':=W.drewN nq) fun _ _ h=>h⟩)
 have hP2:=bc (show RnK (W.drewN nq) ra (.slice am n cm) (.slice ap n cp) (n+1) most false from HP.out)
 have dN:=bc (show But (· = ra) w (W.drewN nq) from HB.out.trans ⟨rfl,rfl,rfl,br _,fun _ _ _=>rfl⟩)
 generalize W.drewN nq=V at *
 go_wp2_with fail
 (with_reducible refine (l2With_any n n (.slice am n cm) (.slice ap n cp) xs ys s p V hS2.out.1 hS2.out.2 hm hm).mono ?_)
 rintro en w2 ⟨a1,k1,a2,k2,rfl,b8,ox,sS,BR,lj⟩
 have hP3:RnK w2 ra (.slice am n cm) (.slice ap n cp) (n+1) most false:=by unfold RnK;rw [b8.block ra (by have:=dN.out.size;omega)];exact hP2.out
 obtain ⟨u0,u1,u2,u3,u4,u5,v0,v1,v2,v5⟩:=hP3.cells
 have hP4:RnK ((w2.setCell ⟨ra,0,none⟩ (.slice a1 (n+1) k1)).setCell ⟨ra,1,none⟩ (.slice a2 (n+1) k2)) ra (.slice a1 (n+1) k1) (.slice a2 (n+1) k2) (n+1) most false:=by
  unfold RnK;rw [qT (qT hP3)];rfl
 obtain ⟨x0,x1,x2,x3,x4,x5,y0,y1,y2,y5⟩:=hP4.cells
 have a9:((w2.setCell ⟨ra,0,none⟩ (.slice a1 (n+1) k1)).setCell ⟨ra,1,none⟩ (.slice a2 (n+1) k2)).cell? ⟨ra,2,none⟩=some (.int .i64 ((n:Int)+1)):=x2
 have eP:But (· = ra) w ((w2.setCell ⟨ra,0,none⟩ (.slice a1 (n+1) k1)).setCell ⟨ra,1,none⟩ (.slice a2 (n+1) k2)):=by
  have h0:But (· = ra) w w2:=dN.out.trans (But.ofBelow b8)
  exact (h0.setCell (p:=⟨ra,0,none⟩) (.inl rfl) _).setCell (p:=⟨ra,1,none⟩) (.inl rfl) _
 have hz:=dN.out.size
 have keep:∀ {e:TypeId} {v:Value} {zs:List Value},Own w2 e 1 v (n+1) zs->(∀ g,v.ownBlock=some g->V.heap.size<=g)->Own ((w2.setCell ⟨ra,0,none⟩ (.slice a1 (n+1) k1)).setCell ⟨ra,1,none⟩ (.slice a2 (n+1) k2)) e 1 v (n+1) zs:=fun ho hf =>
  ho.keep fun g o hg hh=>by
   have:=hf g hg
   rw [b5 _ _ _ _ (by show g≠ra;omega),b5 _ _ _ _ (by show g≠ra;omega)];exact hh
 have HF:=bc (bm eP (bm hP4 (bm (keep ox BR) (bm (keep sS lj) (bm (fun g hg=>b7 hz (BR g hg)) (fun g hg=>b7 hz (lj g hg)))))))
 clear eP hP4 keep ox sS BR lj hP3 b8 x2 u2
 go_wp2_with fail
 go_ret
 exact ⟨a1,k1,a2,k2,uv (by omega),HF.out.1,HF.out.2.1,HF.out.2.2.1,HF.out.2.2.2.1,HF.out.2.2.2.2.1,HF.out.2.2.2.2.2⟩
theorem addr0 (g j:Nat):((⟨g,0,none⟩:Addr).add j)=⟨g,j,none⟩:=by
 unfold Addr.add
 split <;> simp_all
theorem logM_src {w:World} {mv:Value} {n:Nat} {log:List (Bs×Int)} (h:Own w 9 1 mv n (jk log)):zM 1 mv n (jk log) w:=by
 obtain ⟨a,c,rfl⟩:=h.slice
 refine ⟨h.1,fun u hu=>?_,?_⟩
 ·simp only [jk,List.mem_map] at hu;obtain ⟨x,_,rfl⟩:=hu;rfl
 ·have hl:=h.1
  rcases Nat.eq_zero_or_pos n with rfl | hn
  ·rcases h.2 with ⟨e,_⟩ | ⟨g,cap,cur,e,_⟩
   ·exact .inr ⟨e,rfl⟩
   ·refine .inl ⟨⟨g,0,none⟩,cap,e,fun j u hu=>?_⟩
    have:=(List.getElem?_eq_some_iff.1 hu).1;omega
  ·obtain ⟨g,rfl,_⟩:=h.open1 hn
   refine .inl ⟨_,c,rfl,fun j u hu=>?_⟩
   obtain ⟨g',e,_,_,⟨u',fm,hc⟩,_⟩:=h.open1 (j:=j) (by have:=(List.getElem?_eq_some_iff.1 hu).1;omega)
   cases e
   rw [hu] at fm;cases fm
   rw [addr0];exact hc
theorem logP_src {w:World} {mv:Value} {n:Nat} {log:List (Bs×Int)} (h:Own w 3 1 mv n (jU log)):zM 1 mv n (jU log) w:=by
 obtain ⟨a,c,rfl⟩:=h.slice
 refine ⟨h.1,fun u hu=>?_,?_⟩
 ·simp only [jU,List.mem_map] at hu;obtain ⟨x,_,rfl⟩:=hu;rfl
 ·have hl:=h.1
  rcases Nat.eq_zero_or_pos n with rfl | hn
  ·rcases h.2 with ⟨e,_⟩ | ⟨g,cap,cur,e,_⟩
   ·exact .inr ⟨e,rfl⟩
   ·refine .inl ⟨⟨g,0,none⟩,cap,e,fun j u hu=>?_⟩
    have:=(List.getElem?_eq_some_iff.1 hu).1;omega
  ·obtain ⟨g,rfl,_⟩:=h.open1 hn
   refine .inl ⟨_,c,rfl,fun j u hu=>?_⟩
   obtain ⟨g',e,_,_,⟨u',fm,hc⟩,_⟩:=h.open1 (j:=j) (by have:=(List.getElem?_eq_some_iff.1 hu).1;omega)
   cases e
   rw [hu] at fm;cases fm
   rw [addr0];exact hc
theorem make_some:bj true:=by
 intro most ra log mv pt s p w h hl hm _
 have hd:decide (most<log.length)=false:=by rw [decide_eq_false_iff_not];omega
 have hb:=h.blk
 rw [hd] at hb
 have b_:(log++[(s,p)]).length=log.length+1:=by simp
 by_cases hbig:most<log.length+1
 ·refine (make_bad ra mv pt log.length most s p w hb (by omega) hbig).mono ?_
  rintro en w' ⟨rfl,co,hr⟩
  refine ⟨mv,pt,rfl,co.weak fun i _ hi=>.inl hi,⟨?_,h.sls,fun _ d_=>by rw [b_] at d_;omega,fun g hg=>⟨(h.ne g hg).1,b6 (h.ne g hg).2 co.size⟩⟩,fun b hb=>.inl hb⟩
  rw [b_,show decide (most<log.length+1)=true from by simpa using hbig]
  exact hr
 ·obtain ⟨o1,o2⟩:=h.rows rfl hl
  refine (make_kept ra mv pt log.length most (jk log) (jU log) s p w hb o1 o2 (logM_src o1) (logP_src o2) (fun g hg=>(h.ne g hg).1) (by omega) hbig).mono ?_
  rintro en w' ⟨a1,c1,a2,c2,rfl,co,hr,k1,k2,k3,k4⟩
  have mR:=zZ h.blk
  refine ⟨.slice a1 (log.length+1) c1,.slice a2 (log.length+1) c2,rfl,co.weak fun i _ hi=>.inl hi,⟨?_,⟨_,_,_,_,_,_,rfl,rfl⟩,fun _ _=>⟨by rw [b_,wb];exact k1,by rw [b_,logP_snoc];exact k2⟩,fun g hg=>?_⟩,fun b hb=>?_⟩
  ·rw [b_,show decide (most<log.length+1)=false from by simpa using hbig]
   exact hr
  ·rcases hg with hg | hg
   ·exact ⟨by have:=k3 g hg;omega,k1.lt hg⟩
   ·exact ⟨by have:=k4 g hg;omega,k2.lt hg⟩
  ·rcases hb with hb | hb | hb
   ·exact .inl (.inl hb)
   ·exact .inr (k3 b hb)
   ·exact .inr (k4 b hb)
theorem path_some:bz true:=by
 intro most ra log mv pt i w h hl hm hi
 obtain ⟨q,p,hq,h1,h2⟩:=hi
 have hd:decide (most<log.length)=false:=by rw [decide_eq_false_iff_not];omega
 have hb:=h.blk
 rw [hd] at hb
 obtain ⟨o1,o2⟩:=h.rows rfl hl
 have cZ:=(List.getElem?_eq_some_iff.1 hq).1
 obtain ⟨a,c,rfl⟩:=o1.slice
 obtain ⟨g,rfl,hg,_,⟨u,hu,hc⟩,_⟩:=o1.open1 cZ
 rw [jk,List.getElem?_map,hq] at hu
 simp only [Option.map_some,Option.some.injEq] at hu
 subst hu
 obtain ⟨c0,c1,c2,c3,c4,c5,f0,f1,f2,f5⟩:=(show RnK w ra _ _ _ _ _ from hb).cells
 have hp:Hid (qO true log i=q.drop 1):=by show qO true log i=_;unfold qO;simp [hq]
 have hx:Hid ((⟨q.toArray⟩:ByteArray).extract 1 q.length=⟨(q.drop 1).toArray⟩):=by
  show _=_
  rw [vB,List.take_length]
 have hi0:(0:Int)<=(i:Int):=by omega
 have dd:(i:Int)<(log.length:Int):=by omega
 have h1':(1:Int)<=(q.length:Int):=by omega
 clear hb o1 o2 hq h hd
 go_enter Tryz.func112,Tryz.ntmps112
 go_wp2_with fail
 go_ret
 exact ⟨by rw [hp.out,hx.out];rfl,rfl⟩
def za (w:World) (log:List (Bs×Int)) (mv pt:Value):Prop:=Own w 9 1 mv log.length (jk log)/\Own w 3 1 pt log.length (jU log)
theorem za.below {w w':World} {log:List (Bs×Int)} {mv pt:Value} (h:za w log mv pt) (hb:Below w.heap.size w w'):za w' log mv pt :=
 ⟨h.1.keep fun g o hg ho=>by rw [hb.block g (zZ ho)];exact ho,h.2.keep fun g o hg ho=>by rw [hb.block g (zZ ho)];exact ho⟩
theorem za.but {w w':World} {log:List (Bs×Int)} {mv pt:Value} {m:Nat->Prop} (h:za w log mv pt) (hb:But m w w') (hm:∀ g,mv.ownBlock=some g\/pt.ownBlock=some g->¬ m g):za w' log mv pt :=
 ⟨h.1.keep fun g o hg ho=>by rw [hb.block g (zZ ho) (hm g (.inl hg))];exact ho,h.2.keep fun g o hg ho=>by rw [hb.block g (zZ ho) (hm g (.inr hg))];exact ho⟩
def logOf (R:Option (UInt8×List (Bs×Int))):List (Bs×Int):=(R.map (·.2)).getD []
def pU (R:Option (UInt8×List (Bs×Int))) (w:World) (en:Ending) (w':World):Prop :=
 ∃ mv pt,en=.returned (.tuple #[.agg #[mv,pt],str (resOf R).1,.bool (resOf R).2])/\Below w.heap.size w w'/\za w' (logOf R) mv pt/\(∀ g,mv.ownBlock=some g\/pt.ownBlock=some g->w.heap.size<=g)
theorem ud (w:World):za w [] (.slice none 0 0) (.slice none 0 0):=⟨World.ownsRow_nil w 0 _ 1,World.ownsRow_nil w 0 _ 1⟩
theorem runS_len (keep:Bool) (f:Nat):∀ (log:List (Bs×Int)) (b:Bd) (env:List SC) (opens:Nat) (st:List SF) (c:UInt8) (log':List (Bs×Int)),jh keep f log b env opens st=some (c,log')->log'.length<=log.length+f:=by
 induction f with
 | zero =>
   intro log b env opens st c log' h
   cases b with
   | leaf x =>
     rw [jh.eq_def] at h
     simp only at h
     split at h
     ·simp at h;obtain ⟨_,rfl⟩:=h;omega
     ·simp at h
   | ask v ss y n=>rw [jh.eq_def] at h;simp at h
 | succ f ih =>
   intro log b env opens st c log' h
   cases b with
   | leaf x =>
     rw [jh.eq_def] at h
     simp only at h
     split at h
     ·simp at h;obtain ⟨_,rfl⟩:=h;omega
     ·cases st with
      | nil=>simp at h;obtain ⟨_,rfl⟩:=h;simp
      | cons fr st =>
        have:=ih _ _ _ _ _ _ _ h
        simp at this;omega
   | ask v ss y n =>
     rw [jh.eq_def] at h
     simp only at h
     cases he:env[v]? with
     | none=>rw [he] at h;simp at h
     | some e =>
       rw [he] at h
       have:=ih _ _ _ _ _ _ _ h
       simp at this;omega
theorem specRun_len {keep:Bool} {most:Nat} (h1:1<=most) {s text:Bs} {xs:List Bs} {c:UInt8} {log:List (Bs×Int)} (h:kO keep most s text xs=some (c,log)):log.length<=most:=by
 unfold kO at h
 rw [Option.bind_eq_some_iff] at h
 obtain ⟨b,_,h⟩:=h
 split at h
 ·rw [Option.bind_eq_some_iff] at h
  obtain ⟨bs,_,h⟩:=h
  have:=runS_len _ _ _ _ _ _ _ _ _ h
  simp at this;omega
 ·simp at h
set_option maxRecDepth 100000 in
theorem specRunOf_any (s text:Bs) (xs:List Bs) (a:Option Addr) (c:Nat) (w:World) (hx:qD w a xs) (hs:Lim s.length) (ht:Lim text.length) (eF:∀ x∈xs,Lim x.length) (mV:Lim xs.length) :
 Calls Tryz.prog 15 #[str s,str text,.slice a xs.length c] w (pU (kO true 60 s text xs) w):=by
 have C:=fun w0 h=>bc (l4Start_any true make_some path_some 60 s text xs a c w0 h hs ht eF mV (by omega) (by omega))
 have b_:=fun c log=>bc (@specRun_len true 60 (by omega) s text xs c log)
 have HL:=bc b_;clear b_
 have C1:=C _ (hx.below (show Below w.heap.size w (w.alloc (.cells #[.slice none 0 0,.slice none 0 0] 33)) from (bi _ _).alloc (br _) _))
 clear hx eF mV C
 generalize hR:kO true 60 s text xs=R at *
 have HR:=bc hR;clear hR
 have h6:(w.alloc (.cells #[.slice none 0 0,.slice none 0 0] 33)).heap[w.heap.size]? = some (.cells #[.slice none 0 0,.slice none 0 0] 33 (0,0)):=zS _ _
 have H6:=bc h6;clear h6
 go_enter Tryz.func15,Tryz.ntmps15
 go_wp2_with fail
 refine C1.out.mono ?_
 rintro en w1 ⟨ra,o,ok,rfl,hb,hn,hy⟩
 rw [HR.out] at hn hy
 clear C1
 rw [zK] at hb hy
 have b9:Below w.heap.size w w1:=((bi _ _).alloc (br _) _).trans (hb.mono (by omega))
 have rj:w1.heap[w.heap.size]? = some (.cells #[.slice none 0 0,.slice none 0 0] 33 (0,0)):=by rw [hb.block _ (by omega)];exact H6.out
 cases R with
 | none =>
   obtain rfl:=hn rfl
   obtain ⟨c0,c1,f0,f1⟩:=uX rj
   have dC:=qT (o:=1) (u:=.slice none 0 0) (qT (o:=0) (u:=.slice none 0 0) rj)
   obtain ⟨d0,d1,_,_⟩:=uX dC
   have HB:=bc (bm b9 dC);clear hn hy hb b9 dC rj
   go_wp2_with fail
   refine bodyPost_ret (v:=.tuple #[.agg #[.slice none 0 0,.slice none 0 0],str [],.bool false]) (by simp [results,Tryz.results15,go_sem,d0,d1]) rfl ?_
   exact ⟨_,_,rfl,(HB.out.1.setCell (p:=⟨w.heap.size,0,none⟩) (br _) _).setCell (p:=⟨w.heap.size,1,none⟩) (br _) _,ud _,fun g hg=>by simp [Value.ownBlock] at hg⟩
 | some x =>
   obtain ⟨rfl,rfl,mv,pt,cO,dp⟩:=hy x.1 x.2 rfl
   have hl:=(HL.out x.1 x.2).out rfl
   obtain ⟨a1,n1,k1,a2,n2,k2,rfl,rfl⟩:=cO.sls
   obtain ⟨r1,r2⟩:=cO.rows rfl hl
   have dF:=cO.blk
   have q0:w1.cell? ⟨ra,0,none⟩=some (.slice a1 n1 k1):=by simp [World.cell?,dF]
   have q1:w1.cell? ⟨ra,1,none⟩=some (.slice a2 n2 k2):=by simp [World.cell?,dF]
   have mR:w.heap.size+1<=ra:=dp ra (.inl rfl)
   obtain ⟨c0,c1,f0,f1⟩:=uX rj
   have dC:=qT (o:=1) (u:=.slice a2 n2 k2) (qT (o:=0) (u:=.slice a1 n1 k1) rj)
   obtain ⟨d0,d1,_,_⟩:=uX dC
   have keep:∀ {e:TypeId} {v:Value} {n:Nat} {zs:List Value},Own w1 e 1 v n zs->(∀ g,v.ownBlock=some g->w.heap.size+1<=g)->Own ((w1.setCell ⟨w.heap.size,0,none⟩ (.slice a1 n1 k1)).setCell ⟨w.heap.size,1,none⟩ (.slice a2 n2 k2)) e 1 v n zs:=fun ho hf =>
    ho.keep fun g o hg hh=>by
     have:=hf g hg
     rw [b5 _ _ _ _ (by show g≠w.heap.size;omega),b5 _ _ _ _ (by show g≠w.heap.size;omega)];exact hh
   have HB:=bc (bm b9 (bm (keep r1 fun g hg=>dp g (.inr (.inl hg))) (bm (keep r2 fun g hg=>dp g (.inr (.inr hg))) dp)));clear hn hy hb b9 dC rj keep r1 r2 dF cO dp
   go_wp2_with fail
   refine bodyPost_ret (v:=.tuple #[.agg #[.slice a1 n1 k1,.slice a2 n2 k2],str [x.1],.bool true]) (by simp [results,Tryz.results15,go_sem,d0,d1]) rfl ?_
   refine ⟨_,_,rfl,(HB.out.1.setCell (p:=⟨w.heap.size,0,none⟩) (br _) _).setCell (p:=⟨w.heap.size,1,none⟩) (br _) _,⟨HB.out.2.1,HB.out.2.2.1⟩,fun g hg=>?_⟩
   have h:=HB.out.2.2.2
   rcases hg with hg | hg
   ·have:=h g (.inr (.inl hg));omega
   ·have:=h g (.inr (.inr hg));omega
set_option maxRecDepth 100000 in
theorem implRunOf_any (s text:Bs) (xs:List Bs) (a:Option Addr) (c:Nat) (w:World) (hg:qF w) (rN:jH w) (hx:qD w a xs) (hs:Lim s.length) (ht:Lim text.length) (eF:∀ x∈xs,Lim x.length) (mV:Lim xs.length) :
 Calls Tryz.prog 14 #[str s,str text,.slice a xs.length c] w (pU (z_ 60 s text xs) w):=by
 have dM:Below w.heap.size w (w.alloc (.cells #[.slice none 0 0,.slice none 0 0] 33)):=(bi _ _).alloc (br _) _
 have C1:=bc (runOf_any true 60 s text xs a c _ (hg.below dM) (rN.but (m:=fun _=>False) (But.ofBelow dM) (fun h=>h)) (hx.below dM) hs ht eF mV (by omega) (by omega))
 clear hx eF mV hg rN dM
 generalize hR:z_ 60 s text xs=R at *
 have HR:=bc hR;clear hR
 have h6:(w.alloc (.cells #[.slice none 0 0,.slice none 0 0] 33)).heap[w.heap.size]? = some (.cells #[.slice none 0 0,.slice none 0 0] 33 (0,0)):=zS _ _
 have H6:=bc h6;clear h6
 go_enter Tryz.func14,Tryz.ntmps14
 go_wp2_with fail
 refine C1.out.mono ?_
 rintro en w1 ⟨hb,hn,hy⟩
 rw [HR.out] at hn hy
 clear C1
 rw [zK] at hb hy
 have b9:Below w.heap.size w w1:=((bi _ _).alloc (br _) _).trans (hb.mono (by omega))
 have rj:w1.heap[w.heap.size]? = some (.cells #[.slice none 0 0,.slice none 0 0] 33 (0,0)):=by rw [hb.block _ (by omega)];exact H6.out
 cases R with
 | none =>
   obtain rfl:=hn rfl
   obtain ⟨c0,c1,f0,f1⟩:=uX rj
   have dC:=qT (o:=1) (u:=.slice none 0 0) (qT (o:=0) (u:=.slice none 0 0) rj)
   obtain ⟨d0,d1,_,_⟩:=uX dC
   have HB:=bc (bm b9 dC);clear hn hy hb b9 dC rj
   go_wp2_with fail
   refine bodyPost_ret (v:=.tuple #[.agg #[.slice none 0 0,.slice none 0 0],str [],.bool false]) (by simp [results,Tryz.results14,go_sem,d0,d1]) rfl ?_
   exact ⟨_,_,rfl,(HB.out.1.setCell (p:=⟨w.heap.size,0,none⟩) (br _) _).setCell (p:=⟨w.heap.size,1,none⟩) (br _) _,ud _,fun g hg=>by simp [Value.ownBlock] at hg⟩
 | some x =>
   obtain ⟨ma,a1,n1,k1,a2,n2,k2,rfl,mm,dp⟩:=hy x.1 x.2 rfl
   obtain ⟨r1,r2⟩:=mm.rows rfl
   obtain ⟨c0,c1,f0,f1⟩:=uX rj
   have dC:=qT (o:=1) (u:=.slice a2 n2 k2) (qT (o:=0) (u:=.slice a1 n1 k1) rj)
   obtain ⟨d0,d1,_,_⟩:=uX dC
   have keep:∀ {e:TypeId} {v:Value} {n:Nat} {zs:List Value},Own w1 e 1 v n zs->(∀ g,v.ownBlock=some g->w.heap.size+1<=g)->Own ((w1.setCell ⟨w.heap.size,0,none⟩ (.slice a1 n1 k1)).setCell ⟨w.heap.size,1,none⟩ (.slice a2 n2 k2)) e 1 v n zs:=fun ho hf =>
    ho.keep fun g o hg hh=>by
     have:=hf g hg
     rw [b5 _ _ _ _ (by show g≠w.heap.size;omega),b5 _ _ _ _ (by show g≠w.heap.size;omega)];exact hh
   have HB:=bc (bm b9 (bm (keep r1 fun g hg=>dp g (.inr (.inl hg))) (bm (keep r2 fun g hg=>dp g (.inr (.inr hg))) dp)));clear hn hy hb b9 dC rj keep r1 r2 mm dp
   go_wp2_with fail
   refine bodyPost_ret (v:=.tuple #[.agg #[.slice a1 n1 k1,.slice a2 n2 k2],str [x.1],.bool true]) (by simp [results,Tryz.results14,go_sem,d0,d1]) rfl ?_
   refine ⟨_,_,rfl,(HB.out.1.setCell (p:=⟨w.heap.size,0,none⟩) (br _) _).setCell (p:=⟨w.heap.size,1,none⟩) (br _) _,⟨HB.out.2.1,HB.out.2.2.1⟩,fun g hg=>?_⟩
   have h:=HB.out.2.2.2
   rcases hg with hg | hg
   ·have:=h g (.inr (.inl hg));omega
   ·have:=h g (.inr (.inr hg));omega
def MarkAt (w:World) (n k:Nat) (mv pt:Value):Prop:=Own w 9 1 mv n (marksS k n)/\Own w 3 1 pt n (marksI (k+n) n)
theorem MarkAt.below {w w':World} {n k:Nat} {mv pt:Value} (h:MarkAt w n k mv pt) (hb:Below w.heap.size w w'):MarkAt w' n k mv pt :=
 ⟨h.1.keep fun g o hg ho=>by rw [hb.block g (zZ ho)];exact ho,h.2.keep fun g o hg ho=>by rw [hb.block g (zZ ho)];exact ho⟩
end Go.Proofs.YtfedjhgaeikjmaaGreatDoor

/- Walks of functions that the statement reaches, and plain words. No conditions. -/
import Derived.Test.YtdfkiicodfbibaaGreatDoorQ13
set_option linter.unusedVariables false
set_option linter.unusedSimpArgs false
set_option maxHeartbeats 8000000
namespace Go.Proofs.YtdfkiicodfbibaaGreatDoor
open Go.RowKit
theorem PlayOwn.below {B:Nat} {ms:List Bs} {ps:List Int} {mv pt:Value} {w w':World} (h:PlayOwn B ms ps mv pt w) (hb:Below w.heap.size w w'):PlayOwn B ms ps mv pt w' :=
 ⟨h.1.keep fun g o _ ho=>by rw [hb.block g (lt_of_heap ho)];exact ho,h.2.1.keep fun g o _ ho=>by rw [hb.block g (lt_of_heap ho)];exact ho,h.2.2⟩
theorem PlayOwn.rep {B:Nat} {ms:List Bs} {ps:List Int} {mv pt:Value} {w:World} (h:PlayOwn B ms ps mv pt w):MsRep (fun _=>True) w ms mv/\PsRep (fun _=>True) w ps pt:=by
 constructor
 ·refine h.1.rep (fun _ _=>trivial) ?_
  rw [show (ms.map fun m=>DV.val (str m))=(ms.map str).map DV.val from by rw [List.map_map];rfl];exact (Reps_vals _ _).2 rfl
 ·refine h.2.1.rep (fun _ _=>trivial) ?_
  rw [show (ps.map fun z=>DV.val (.int .i64 z))=(zsV ps).map DV.val from by unfold zsV;rw [List.map_map];rfl];exact (Reps_vals _ _).2 rfl
set_option maxRecDepth 100000 in
theorem eqPlay_own {B B':Nat} (ms:List Bs) (ps:List Int) (mv pt mv' pt':Value) (w:World) (h:PlayOwn B ms ps mv pt w) (h':PlayOwn B' ms ps mv' pt' w) (hl:ms.length<=16777216) (hl2:ps.length<=16777216) :
 Calls Tryz.prog 21 #[.agg #[mv,pt],.agg #[mv',pt']] w fun en w'=>en=.returned (.bool true)/\Below w.heap.size w w':=by
 obtain ⟨a1,c1,rfl⟩:=h.1.slice
 obtain ⟨a2,c2,rfl⟩:=h.2.1.slice
 obtain ⟨a1',c1',rfl⟩:=h'.1.slice
 obtain ⟨a2',c2',rfl⟩:=h'.2.1.slice
 obtain ⟨W,hW,hbW,hz,b0,b1⟩:=boxes_2 w (.cells #[.slice a1 ms.length c1,.slice a2 ps.length c2] 33) (.cells #[.slice a1' ms.length c1',.slice a2' ps.length c2'] 33)
 have C1:=Lib.hid (eqStringS_any a1 a1' c1 c1' ms W (h.below hbW).1.strs (h'.below hbW).1.strs hl)
 have C2:=Lib.hid (fun (y:World) (hy:Below W.heap.size W y)=>eqIntS_any a2 a2' ps.length c2 c2' ps y ((h.below hbW).below hy).2.1 ((h'.below hbW).below hy).2.1 hl2)
 obtain ⟨c0,k1,_,_⟩:=cells_2 b0
 obtain ⟨d0,k2,_,_⟩:=cells_2 b1
 have HW:=Lib.hid (And.intro hW hbW)
 clear h h' hW hbW hz b0 b1
 go_enter Tryz.func21,Tryz.ntmps21
 go_upto_region 1 with (fail)
 rw [HW.out.1]
 go_wp2_with fail
 (with_reducible refine C1.out.mono ?_)
 rintro en w1 ⟨rfl,hb1⟩
 have C3:=Lib.hid (C2.out w1 hb1)
 have q1:=(hb1.cell (World.block_lt_of_cell? _ _ k1)).trans k1
 have q2:=(hb1.cell (World.block_lt_of_cell? _ _ k2)).trans k2
 have HB:=Lib.hid (zzT HW.out.2 hb1)
 clear hb1 c0 d0 k1 k2 C1 C2
 go_wp2_with fail
 (with_reducible refine C3.out.mono ?_)
 rintro en w2 ⟨rfl,hb2⟩
 have HB2:=Lib.hid (zzT HB.out hb2)
 clear hb2 q1 q2
 go_wp2_with fail
 go_ret
 exact ⟨rfl,HB2.out⟩
set_option maxRecDepth 100000 in
theorem law_follows (s text:Bs) (a a2:Option Addr) (c c2:Nat) (ms:List Bs) (ps:List Int) (w:World) (hg:Glob w) (h:StrsAt w a ms) (h2:IntsAt w a2 ps) (hs:s.length<=9223372036854775807) (ht:text.length<=9223372036854775807) (hx:ms.length<=9223372036854775807) (hxs:∀ m∈ms,m.length<=9223372036854775807) (hp:ps.length<=9223372036854775807) :
 Calls Tryz.prog 4 #[str s,str text,.agg #[.slice a ms.length c,.slice a2 ps.length c2]] w fun en w'=>en=.returned (.bool true)/\Below w.heap.size w w':=by
 obtain ⟨W,hW,hbW,hz,b0⟩:=box_1 w (.cells #[.slice a ms.length c,.slice a2 ps.length c2] 35)
 obtain ⟨c0,c1,_,_⟩:=cells_2 b0
 have HW:=Lib.hid (And.intro hW hbW)
 have C1:=szPlay_any 1048576 a a2 c c2 ms ps W (h.below hbW) (by omega) hx hxs hp
 rw [show ((1048576:Nat):Int)=1048576 from rfl] at C1
 have C1:=Lib.hid C1
 have HI:=Lib.hid (And.intro (hg.below hbW) (And.intro (h.below hbW) (h2.below hbW)))
 clear hW hbW hz b0 hg h h2 hx hxs hp
 by_cases h1:1048576<s.length
 ·have h1I:(1048576:Int)<(s.length:Int):=by omega
  go_enter Tryz.func4,Tryz.ntmps4
  go_upto_region 1 with (fail)
  rw [HW.out.1]
  go_wp2_with fail
  go_ret
  exact ⟨rfl,HW.out.2⟩
 have h1I:¬ (1048576:Int)<(s.length:Int):=by omega
 by_cases h3:1048576<text.length
 ·have h3I:(1048576:Int)<(text.length:Int):=by omega
  go_enter Tryz.func4,Tryz.ntmps4
  go_upto_region 1 with (fail)
  rw [HW.out.1]
  go_wp2_with fail
  go_ret
  exact ⟨rfl,HW.out.2⟩
 have h3I:¬ (1048576:Int)<(text.length:Int):=by omega
 have HL:=Lib.hid (show Lim s.length/\Lim text.length from ⟨show _<=_ by omega,show _<=_ by omega⟩)
 clear h1 h3
 go_enter Tryz.func4,Tryz.ntmps4
 go_upto_region 1 with (fail)
 rw [HW.out.1]
 go_wp2_with fail
 (with_reducible refine C1.out.mono ?_)
 rintro en w1 ⟨hb1,e⟩
 have d0:=(hb1.cell (World.block_lt_of_cell? _ _ c0)).trans c0
 have d1:=(hb1.cell (World.block_lt_of_cell? _ _ c1)).trans c1
 have HB1:=Lib.hid (And.intro hb1 (zzT HW.out.2 hb1))
 clear hb1 C1
 rcases e with rfl | ⟨r,rfl,hn,hn2,hall⟩
 ·go_wp2_with fail
  go_ret
  exact ⟨rfl,HB1.out.2⟩
 have hr0:¬ (r:Int)<0:=by omega
 have CT:=Lib.hid (fun (y:World) (hy:Below W.heap.size W y)=>toPlay_any a a2 c c2 ms ps y (HI.out.2.1.below hy) (HI.out.2.2.below hy) (by omega) (by omega))
 have HA:=Lib.hid (show (∀ x∈ms,Lim x.length)/\ms.length<=16777216/\ps.length<=16777216 from ⟨fun x hx=>(show x.length<=_ by have:=hall x hx;omega),by omega,by omega⟩)
 have CT1:=Lib.hid (CT.out w1 HB1.out.1)
 clear hn hn2 hall
 go_wp2_with fail
 (with_reducible refine CT1.out.mono ?_)
 rintro en w2 ⟨a3,c3,a4,c4,rfl,hb2,hp2⟩
 have CS:=Lib.hid (specStrategyFollows_any (fun _=>True) s text _ _ ms ps w2 HL.out.1 HL.out.2 hp2.rep.1 hp2.rep.2 HA.out.1)
 have d0':=(hb2.cell (World.block_lt_of_cell? _ _ d0)).trans d0
 have d1':=(hb2.cell (World.block_lt_of_cell? _ _ d1)).trans d1
 have HB2:=Lib.hid (And.intro (zzT HB1.out.1 hb2) (zzT HB1.out.2 hb2))
 clear hb2 hp2 d0 d1 CT1
 have CI:=Lib.hid (fun (y:World) (hy:Below W.heap.size W y) (mv pt:Value) (hh:PlayOwn 0 ms ps mv pt y)=>implStrategyFollows_any (fun _=>True) s text mv pt ms ps y (HI.out.1.below hy) HL.out.1 HL.out.2 hh.rep.1 hh.rep.2 HA.out.1)
 generalize followOk s text ms ps=fo at *
 go_wp2_with fail
 (with_reducible refine CS.out.mono ?_)
 rintro en w3 ⟨rfl,hb3⟩
 have d0:=(hb3.cell (World.block_lt_of_cell? _ _ d0')).trans d0'
 have d1:=(hb3.cell (World.block_lt_of_cell? _ _ d1')).trans d1'
 have HB3:=Lib.hid (And.intro (zzT HB2.out.1 hb3) (zzT HB2.out.2 hb3))
 have CT3:=Lib.hid (CT.out w3 HB3.out.1)
 clear hb3 d0' d1' CS
 go_wp2_with fail
 (with_reducible refine CT3.out.mono ?_)
 rintro en w4 ⟨a5,c5,a6,c6,rfl,hb4,hp4⟩
 obtain ⟨X,hX,hbX,hzX,x0⟩:=box_1 w4 (.cells #[.slice a5 ms.length c5,.slice a6 ps.length c6] 33)
 have h4X:Below w3.heap.size w3 X:=zzT hb4 hbX
 have d0x:=(h4X.cell (World.block_lt_of_cell? _ _ d0)).trans d0
 have d1x:=(h4X.cell (World.block_lt_of_cell? _ _ d1)).trans d1
 obtain ⟨p0,p1,_,_⟩:=cells_2 x0
 have hown:PlayOwn 0 ms ps (.slice a5 ms.length c5) (.slice a6 ps.length c6) X:=⟨(hp4.below hbX).1,(hp4.below hbX).2.1,fun _ _=>Nat.zero_le _⟩
 have HX:=Lib.hid (And.intro hX (And.intro (zzT HB3.out.1 h4X) (And.intro (zzT HB3.out.2 h4X) hown)))
 have CIX:=Lib.hid (CI.out X HX.out.2.1 _ _ hown)
 clear hb4 hp4 hX hbX hzX x0 h4X d0 d1 hown CT3 CI
 go_upto_region 11 with (fail)
 rw [HX.out.1]
 go_wp2_with fail
 (with_reducible refine CIX.out.mono ?_)
 rintro en w5 ⟨rfl,hb5⟩
 have e0:=(hb5.cell (World.block_lt_of_cell? _ _ d0x)).trans d0x
 have e1:=(hb5.cell (World.block_lt_of_cell? _ _ d1x)).trans d1x
 have q0:=(hb5.cell (World.block_lt_of_cell? _ _ p0)).trans p0
 have q1:=(hb5.cell (World.block_lt_of_cell? _ _ p1)).trans p1
 have H5:=Lib.hid (And.intro (zzT HX.out.2.1 hb5) (And.intro (zzT HX.out.2.2.1 hb5) (HX.out.2.2.2.below hb5)))
 have KEY:=Lib.hid (fun (y:World) (hy:Below w5.heap.size w5 y)=>(show (y.cell? ⟨w4.heap.size,0,none⟩=some (.slice a5 ms.length c5)/\y.cell? ⟨w4.heap.size,1,none⟩=some (.slice a6 ps.length c6))/\y.cell? ⟨w.heap.size,0,none⟩=some (.slice a ms.length c)/\y.cell? ⟨w.heap.size,1,none⟩=some (.slice a2 ps.length c2) from by
  have hk:∀ (a:Addr) (u:Value),w5.cell? a=some u->y.cell? a=some u:=fun a u h=>(hy.cell (World.block_lt_of_cell? _ _ h)).trans h
  exact ⟨⟨hk _ _ q0,hk _ _ q1⟩,hk _ _ e0,hk _ _ e1⟩))
 have CT5:=Lib.hid (fun (y:World) (hy:Below w5.heap.size w5 y)=>CT.out y (zzT H5.out.1 hy))
 clear hb5 d0x d1x p0 p1 e0 e1 q0 q1 CIX CT
 have hff:(fo != fo)=false:=by simp
 go_upto_region 14 with (fail)
 refine wp_region_noPanic ?_
 refine wp_region_S (fun w'=>Below w5.heap.size w5 w') (fun _=>false) (by kernel_rfl) ?_
 have hSd:(fun w'=>Below w5.heap.size w5 w') w5.drew:=Below.drew (Below.refl _ _)
 refine wpAnyS_take 0 (v:=?_) (by kernel_rfl) (by kernel_rfl) (by kernel_rfl) (by kernel_rfl) (fun _ _ _ _ h=>h) hSd ?_ ?_
 rotate_left
 ·(intro oi ho;simp at ho;subst ho;refine Or.inl ⟨by rfl,fun w' hw'=>?_⟩;obtain ⟨e0,e1⟩:=(KEY.out w' hw').1;go_simp;try with_reducible rfl)
 (intro d hd;simp at hd;subst hd;simp only [Act.put,List.setIfInBounds_toArray,List.set_cons_zero,List.set_cons_succ])
 refine wpAnyS_take 1 (v:=?_) (by kernel_rfl) (by kernel_rfl) (by kernel_rfl) (by kernel_rfl) (fun _ _ _ _ h=>h) hSd ?_ ?_
 rotate_left
 ·(intro oi ho;simp at ho;subst ho;refine Or.inl ⟨by rfl,fun w' hw'=>?_⟩;obtain ⟨e0,e1⟩:=(KEY.out w' hw').2;go_simp;try with_reducible rfl)
 (intro d hd;simp at hd;subst hd;simp only [Act.put,List.setIfInBounds_toArray,List.set_cons_zero,List.set_cons_succ])
 refine wpAnyS_one 2 (by kernel_rfl) ?_
 (intro o2 ho K' hK;simp at ho;subst ho)
 go_simp
 go_at_call 20
 (with_reducible refine (CT5.out _ hSd).mono ?_)
 rintro en x2 ⟨a7,c7,a8,c8,rfl,hb6,hp6⟩
 have hB2:Below w5.heap.size w5 x2:=zzT hSd hb6
 have CE:=eqPlay_own ms ps _ _ _ _ x2 (H5.out.2.2.below hB2) hp6 HA.out.2.1 HA.out.2.2
 refine hK.out _ _ ?_ ?_
 ·exact fun _=>hB2
 clear hK K'
 (try simp only [Act.put,List.setIfInBounds_toArray,List.set_cons_zero,List.set_cons_succ])
 refine wpAnyS_one 3 (by kernel_rfl) ?_
 (intro o3 ho K' hK;simp at ho;subst ho)
 go_simp
 go_at_call 21
 (with_reducible refine CE.mono ?_)
 rintro en x3 ⟨rfl,hb7⟩
 have hB3:Below w5.heap.size w5 x3:=zzT hB2 hb7
 clear CE
 refine hK.out _ _ ?_ ?_
 ·exact fun _=>hB3
 clear hK K'
 (try simp only [Act.put,List.setIfInBounds_toArray,List.set_cons_zero,List.set_cons_succ])
 have hS3:=hB3
 refine wpAnyS_take 4 (v:=?_) (by kernel_rfl) (by kernel_rfl) (by kernel_rfl) (by kernel_rfl) (fun _ _ _ _ h=>h) hS3 ?_ ?_
 rotate_left
 ·(intro oi ho;simp at ho;subst ho;refine Or.inl ⟨by rfl,fun w' hw'=>?_⟩;go_simp;try with_reducible rfl)
 (intro d hd;simp at hd;subst hd;simp only [Act.put,List.setIfInBounds_toArray,List.set_cons_zero,List.set_cons_succ])
 refine wpAnyS_done (by kernel_rfl) (NoPanic.normal ?_) _
 have HB6:=Lib.hid (zzT H5.out.2.1 hB3)
 clear hSd hS3 hB3 hB2 hb6 hb7 hp6 KEY CT5
 go_wp2_with fail
 go_ret
 exact ⟨rfl,HB6.out⟩
end Go.Proofs.YtdfkiicodfbibaaGreatDoor

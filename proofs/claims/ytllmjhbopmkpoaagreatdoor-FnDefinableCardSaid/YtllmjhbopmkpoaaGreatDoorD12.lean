/- What is drawn: a type and a strategy whose term is told. -/
import Derived.Test.YtllmjhbopmkpoaaGreatDoorD8
namespace Go.Proofs.YtllmjhbopmkpoaaGreatDoor
open Go.RowKit
theorem wrap_one2 (p:Nat) (h:p<2):IntKind.i64.wrap (1+(p:Int))=1+p:=wrap_small _ (by omega) (by omega)
theorem sum_le2 (p:Nat) (h:p<2):(1:Int)+(p:Int)≤((3:Nat):Int):=by omega
set_option maxRecDepth 100000 in
set_option maxHeartbeats 4000000 in
theorem drawStrategyTerm_any (a0:Option Addr) (len cap:Nat) (zs:List Int) (w:World) (h:Row8 w a0 len cap zs) (hl:len≤1048576) :
 Calls Tryz.prog 16 #[.slice a0 len cap] w (Drawn w):=by
 go_enter Tryz.func16,Tryz.ntmps16
 go_wp2_with fail
 refine (l6Open_any a0 len cap zs w h hl).mono ?_
 rintro en w1 ⟨rfl,hb1,hr1,hs1⟩
 clear h
 obtain ⟨rd,hrd⟩:∃ rd,rd=w.heap.size:=⟨_,rfl⟩
 rw [← hrd] at hr1 hs1 ⊢
 have HRD:=Lib.hid (Nat.le_of_eq hrd.symm);clear hrd
 have HB1:=Lib.hid hb1;clear hb1
 go_wp2_with fail
 refine (l91Type_any rd 0 w1 hr1 (by omega)).mono ?_
 rintro en w2 ⟨s,hs,rfl,hb2,hr2⟩
 have HB2:=Lib.hid (but_new HB1.out HRD.out hb2);clear hb2 hr1 hs1
 obtain ⟨hok,hsl⟩:=type_ok hs
 have HH:=Lib.hid (hand3_of_ok hok)
 have HSL:=Lib.hid hsl
 have C1:=Lib.hid (l1Type_any s (show _≤_ by omega) w2)
 have HR2:=Lib.hid hr2
 clear hs hok hsl hr2
 go_wp2_with fail
 refine C1.out.mono ?_
 rintro en w3 ⟨tv,rfl,hb3,hrt⟩
 obtain ⟨ta,tc,etv⟩:=encS_slice hrt
 subst etv
 have hr3:=HR2.out.below (hb3.mono (Nat.le_refl _))
 rw [encS_eq] at hrt
 generalize hT:(specType s).1=t at *
 have z3:=hb3.size
 have hlt2:=HR2.out.lt
 obtain ⟨W3,hW3⟩:∃ W,W=w3.alloc (.cells #[.slice ta t.args.length tc] 46):=⟨_,rfl⟩
 have hcT:W3.cell? ⟨w3.heap.size,0,none⟩=some (.slice ta t.args.length tc):=by subst hW3;simp
 have hne:w3.heap.size≠rd:=by omega
 have hF:∀ k,w2.heap.size≤k→k≠rd:=fun k hk=>by omega
 have hrA:Rep (w2.heap.size≤·) W3 (.sl 46 1 t.args.length (encSs t.args)) (.slice ta t.args.length tc):=by subst hW3;exact (Rep.keep fun b o h ho=>⟨h,heap_past ho⟩).1 _ _ hrt
 have hrdA:RdAt W3 rd 1:=by subst hW3;exact hr3.alloc _
 have hbW3:Below w.heap.size w W3:=by subst hW3;exact (HB2.out.trans (hb3.mono HB2.out.size)).alloc (HB2.out.trans (hb3.mono HB2.out.size)).size _
 have C2:=Lib.hid (pick_any rd 1 8 W3 hrdA (by omega) (by omega) (by omega))
 have HW3:=Lib.hid hW3
 have HB3:=Lib.hid hbW3
 have HRA:=Lib.hid hrA
 clear hb3 hrt hr3 hbW3 hrA hrdA hT hW3
 go_wp2_with fail
 rw [← HW3.out]
 refine C2.out.mono ?_
 rintro en w4 ⟨v,rfl,hv,hb4,hr4⟩
 have HB4:=Lib.hid (but_new HB3.out HRD.out hb4)
 by_cases hv0:v=0
 ·subst hv0
  clear hb4
  go_wp2_with fail
  refine (l91Given_any rd 2 w4 hr4 (by omega)).mono ?_
  rintro en w5 ⟨s',text,rfl,hs',ht',hb5,_⟩
  have HB5:=Lib.hid (And.intro (but_new HB4.out HRD.out hb5) (And.intro hs' ht'))
  clear hb5 hs' ht' hr4
  go_wp2_with fail
  refine bodyPost_ret (v:=.tuple #[str s',str text]) (by simp [results,Tryz.results16,go_sem]) rfl ?_
  exact ⟨s',text,rfl,HB5.out.2.1,HB5.out.2.2,HB5.out.1⟩
 have hv1:((v:Int) == 0)=false:=by rw [beq_eq_false_iff_ne];omega
 have hcT4:=but_cell hb4 hne hcT
 have hrA4:=Rep.but (F':=fun b=>w2.heap.size≤b∧b≠rd) hb4 (fun b hb=>⟨hF b hb,hb,hF b hb⟩) HRA.out
 have C3:=Lib.hid (pick_any rd 2 2 w4.drew hr4.drew (by omega) (by omega) (by omega))
 have C4:=Lib.hid (fun w5 (h5:But (· = rd) w4 w5) (p5:Nat) (hp5:p5<2) (hr5:RdAt w5 rd 3) =>
  l91Body_any rd 3 (by omega) (1+(p5:Int)) t.args (fun b=>w2.heap.size≤b∧b≠rd) (.slice ta t.args.length tc) w5 3 (sum_le2 p5 hp5) (sum_lo p5) (by rw [cst3];omega) hr5 HH.out (fun k hk=>hk.2) (Rep.but h5 (fun b hb=>⟨hb.2,hb⟩) hrA4))
 clear hb4 hrA4 hcT
 go_wp2_with fail
 go_region_held3 (fun w'=>w'.cell? ⟨w3.heap.size,0,none⟩=some (.slice ta t.args.length tc))
  (first
   | exact hcT4
   | exact hcL
   | exact hcB
   | exact hcP
   | go_keep)
  (first
   | (go_at_call 36;refine (l3Text_any 5220 b hs6 (by omega) hl6 _ w6 _ _ _ _ hc6).mono ?_;rintro en7 w7 ⟨rfl,hb7⟩;have hcL:=(hb7.cell (World.block_lt_of_cell? w6 ⟨w3.heap.size,0,none⟩ hcB)).trans hcB)
   | (go_at_call 37;refine (C4.out _ hbt5 _ hp5 hr5).mono ?_;rintro en6 w6 ⟨b,s6,v6,a2,n2,k2,a3,n3,k3,rfl,hb6,hr6,hf6,hl6,hs6,hc6⟩;have hcB:=but_cell hb6 hne hcP)
   | (go_at_call 21;refine C3.out.mono ?_;rintro en5 w5 ⟨p5,rfl,hp5,hb5,hr5⟩;have hbt5:=but_drew2 hb5;have hcP:=but_cell hbt5 hne hcT4;have zz:=wrap_one2 p5 hp5))
 go_wp2_with fail
 have hlt:=textB_length b hl6
 refine bodyPost_ret (v:=.tuple #[str s,str (textB b)]) (by simp [results,Tryz.results16,go_sem]) rfl ?_
 have hbnd:bnd 3=5220:=rfl
 exact ⟨s,textB b,rfl,HSL.out,by omega,(but_new HB4.out HRD.out (hbt5.trans hb6)).trans (hb7.mono (but_new HB4.out HRD.out (hbt5.trans hb6)).size)⟩
end Go.Proofs.YtllmjhbopmkpoaaGreatDoor

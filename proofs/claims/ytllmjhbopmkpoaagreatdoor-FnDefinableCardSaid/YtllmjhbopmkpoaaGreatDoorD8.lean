import Derived.Test.YtllmjhbopmkpoaaGreatDoorD6
/- The walks of the reference's drawing of strategies: l6Open, l91Strategy, l91Given. -/
namespace Go.Proofs.YtllmjhbopmkpoaaGreatDoor
open Go.RowKit
def Row8 (w:World) (a:Option Addr) (len cap:Nat) (zs:List Int):Prop :=
 (a=none∧len=0∧cap=0∧zs=[]) ∨
 ∃ x,a=some x∧len≤cap∧cap≤maxLen∧zs.length=cap∧(∀ i,i<zs.length→w.cell? (x.add i)=some (.int .u8 (zs.getD i 0)))∧∀ n∈zs,(Lit.int .u8 n).wf=true
theorem Row8.le {w:World} {a:Option Addr} {len cap:Nat} {zs:List Int} (h:Row8 w a len cap zs):len≤cap:=by
 rcases h with ⟨_,rfl,rfl,_⟩ | ⟨x,_,h,_⟩
 ·exact Nat.le_refl _
 ·exact h
theorem Row8.bytes {w:World} {a:Option Addr} {len cap:Nat} {zs:List Int} (h:Row8 w a len cap zs) (n:Nat) (hn:n≤len) :
 n=0∨∃ b o,a=some ⟨b,o,none⟩∧b<w.heap.size∧∀ k,k<n→∃ x:Nat,x<256∧w.cell? ⟨b,o+k,none⟩=some (.int .u8 x):=by
 rcases Nat.eq_zero_or_pos n with h0 | h0
 ·exact .inl h0
 right
 rcases h with ⟨_,rfl,_,_⟩ | ⟨x,rfl,hl,_,hz,hc,hw⟩
 ·omega
 obtain ⟨b,o,sp⟩:=x
 have h1:=hc 0 (by omega)
 have hsp:sp=none:=by
  cases sp with
  | none=>rfl
  | some q=>simp [World.cell?,Addr.add] at h1;split at h1 <;> simp_all
 subst hsp
 have hadd:∀ i,(⟨b,o,none⟩:Addr).add i=⟨b,o+i,none⟩:=fun i=>by
  unfold Addr.add;split <;> simp_all
 have h2:=World.block_lt_of_cell? w _ h1
 refine ⟨b,o,rfl,by rw [hadd] at h2;exact h2,fun k hk=>?_⟩
 have hkz:k<zs.length:=by omega
 have h3:=hc k hkz
 rw [hadd] at h3
 have hm:zs.getD k 0∈zs:=by
  rw [List.getD_eq_getElem?_getD,List.getElem?_eq_getElem hkz];exact List.getElem_mem hkz
 have hwf:=hw _ hm
 clear hm
 generalize zs.getD k 0=z at *
 have hb:0≤z∧z<256:=by
  simp [Lit.wf,IntKind.min,IntKind.max,IntKind.bits,IntKind.signed] at hwf
  omega
 refine ⟨z.toNat,by omega,?_⟩
 rw [h3,Int.toNat_of_nonneg hb.1]
set_option maxHeartbeats 1000000 in
theorem l6Open_any (a:Option Addr) (len cap:Nat) (zs:List Int) (w:World) (h:Row8 w a len cap zs) (hl:len≤1048576) :
 Calls Tryz.prog 18 #[.slice a len cap] w fun en w'=>en=.returned (.pointer (some ⟨w.heap.size,0,none⟩))∧Below w.heap.size w w'∧RdAt w' w.heap.size 0∧w.heap.size<w'.heap.size:=by
 have hle:=h.le
 have H:=Lib.hid h;clear h
 by_cases h2:2000<len
 ·have h2':(2000:Int)<(len:Int):=by omega
  have h3:(2000:Int)≤(cap:Int):=by omega
  obtain ⟨b,o,ea,hb,hk⟩:=(H.out.bytes 2000 (by omega)).resolve_left (by omega)
  subst ea
  have HK:=Lib.hid hk;clear hk
  go_enter Tryz.func18,Tryz.ntmps18
  go_wp2_with fail
  go_ret
  refine ⟨rfl,(Below.refl _ _).alloc (Nat.le_refl _) _,?_,by simp⟩
  refine ⟨_,2000,_,0,heap_new _ _,Nat.le_refl _,Nat.le_refl _,.inr ⟨b,o,rfl,hb,fun k hk=>?_⟩⟩
  obtain ⟨x,hx,hc⟩:=HK.out k hk
  exact ⟨x,hx,cell_alloc hc⟩
 ·have h2':¬ (2000:Int)<(len:Int):=by omega
  go_enter Tryz.func18,Tryz.ntmps18
  go_wp2_with fail
  go_ret
  refine ⟨rfl,(Below.refl _ _).alloc (Nat.le_refl _) _,?_,by simp⟩
  refine ⟨_,len,_,0,heap_new _ _,Nat.le_refl _,by omega,?_⟩
  rcases H.out.bytes len (Nat.le_refl _) with h0 | ⟨b,o,ea,hb,hk⟩
  ·exact .inl h0
  ·refine .inr ⟨b,o,ea,hb,fun k hk'=>?_⟩
   obtain ⟨x,hx,hc⟩:=hk k hk'
   exact ⟨x,hx,cell_alloc hc⟩
theorem type_ok {s:Bs} (h:s∈typeTexts):(specType s).2=true∧s.length≤100:=by
 simp only [typeTexts,List.mem_cons,List.not_mem_nil,or_false] at h
 rcases h with rfl | rfl | rfl | rfl | rfl | rfl | rfl | rfl <;> exact ⟨by decide,by decide⟩
theorem wrap_one (p:Nat) (h:p<3):IntKind.i64.wrap (1+(p:Int))=1+p:=wrap_small _ (by omega) (by omega)
theorem sum_le (p:Nat) (h:p<3):(1:Int)+(p:Int)≤((3:Nat):Int):=by omega
theorem sum_lo (p:Nat):(-1000:Int)≤(1:Int)+(p:Int):=by omega
theorem cst3:cst 3=6448:=rfl
def StratD (rd Q:Nat) (s:Bs) (w:World) (en:Ending) (w':World):Prop :=
 ∃ b:Bd,en=.returned (str (textB b))∧But (· = rd) w w'∧RdAt w' rd Q∧fitB (specType s).1.args b∧lvB b∧sizeB b≤5220
set_option maxRecDepth 100000 in
set_option maxHeartbeats 4000000 in
theorem l91Strategy_gen (rd P:Nat) (s:Bs) (hsl:s.length≤100) (hh:HandOk 3 (specType s).1.args) (w:World) (h:RdAt w rd P) (hP:P+6500≤1099511627776) :
 Calls Tryz.prog 71 #[.pointer (some ⟨rd,0,none⟩),str s] w (StratD rd (P+6449) s w):=by
 have hlt:=h.lt
 have H:=Lib.hid h;have HH:=Lib.hid hh
 clear h hh
 go_enter Tryz.func71,Tryz.ntmps71
 go_wp2_with fail
 refine (l1Type_any s (show _≤_ by omega) w).mono ?_
 rintro en w1 ⟨tv,rfl,hb1,hrt⟩
 obtain ⟨ta,tc,etv⟩:=encS_slice hrt
 subst etv
 have hr1:=H.out.below (hb1.mono (Nat.le_refl _))
 rw [encS_eq] at hrt
 generalize hT:(specType s).1=t at *
 have z1:=hb1.size
 have hcT:(w1.alloc (.cells #[.slice ta t.args.length tc] 46)).cell? ⟨w1.heap.size,0,none⟩=some (.slice ta t.args.length tc):=by simp
 have hne:w1.heap.size≠rd:=by omega
 have hF:∀ k,w.heap.size≤k→k≠rd:=fun k hk=>by omega
 have hrA:Rep (w.heap.size≤·) (w1.alloc (.cells #[.slice ta t.args.length tc] 46)) (.sl 46 1 t.args.length (encSs t.args)) (.slice ta t.args.length tc):=(Rep.keep fun b o h ho=>⟨h,heap_past ho⟩).1 _ _ hrt
 have hrdA:=hr1.alloc (.cells #[.slice ta t.args.length tc] 46)
 have C1:=Lib.hid (pick_any rd P 3 _ hrdA.drew (by omega) (by omega) (by omega))
 have C2:=Lib.hid (fun w5 (h5:But (· = rd) (w1.alloc (.cells #[.slice ta t.args.length tc] 46)) w5) (p5:Nat) (hp5:p5<3) (hr5:RdAt w5 rd (P+1)) =>
  l91Body_any rd 3 (by omega) (1+(p5:Int)) t.args (w.heap.size≤·) (.slice ta t.args.length tc) w5 (P+1) (sum_le p5 hp5) (sum_lo p5) (by rw [cst3];omega) hr5 HH.out hF (Rep.but h5 (fun b hb=>⟨hF b hb,hb⟩) hrA))
 have HB1:=Lib.hid hb1
 have HTT:=Lib.hid hT
 clear hT hrt hrA hrdA hr1 hb1 hF
 go_wp2_with fail
 go_region_held3 (fun w'=>w'.cell? ⟨w1.heap.size,0,none⟩=some (.slice ta t.args.length tc))
  (first
   | exact hcT
   | exact hcL
   | exact hcB
   | exact hcP
   | go_keep)
  (first
   | (go_at_call 36;refine (l3Text_any 5220 b hs6 (by omega) hl6 _ w6 _ _ _ _ hc6).mono ?_;rintro en7 w7 ⟨rfl,hb7⟩;have hcL:=(hb7.cell (World.block_lt_of_cell? w6 ⟨w1.heap.size,0,none⟩ hcB)).trans hcB)
   | (go_at_call 37;refine (C2.out _ hbt5 _ hp5 hr5).mono ?_;rintro en6 w6 ⟨b,s6,v6,a2,n2,k2,a3,n3,k3,rfl,hb6,hr6,hf6,hl6,hs6,hc6⟩;have hcB:=but_cell hb6 hne hcP)
   | (go_at_call 21;refine C1.out.mono ?_;rintro en5 w5 ⟨p5,rfl,hp5,hb5,hr5⟩;have hbt5:=but_drew2 hb5;have hcP:=but_cell hbt5 hne hcT;have zz:=wrap_one p5 hp5))
 go_wp2_with fail
 go_ret
 have hbA:But (· = rd) w (w1.alloc (.cells #[.slice ta t.args.length tc] 46)):=(But.ofBelow HB1.out).alloc _
 refine ⟨b,rfl,((hbA.trans hbt5).trans hb6).trans (But.ofBelow hb7),(hr6.below hb7).mono (by rw [cst3];omega),?_,hl6,hs6⟩
 rw [HTT.out];exact hf6
theorem hand3_of_ok {s:Bs} (hok:(specType s).2=true):HandOk 3 (specType s).1.args:=by
 have:=hand_of_type (specType_ok hok)
 exact ⟨this.1,by have:=this.2;omega⟩
theorem l91Strategy_any (rd P:Nat) (s:Bs) (hs:s∈typeTexts) (w:World) (h:RdAt w rd P) (hP:P+6500≤1099511627776) :
 Calls Tryz.prog 71 #[.pointer (some ⟨rd,0,none⟩),str s] w (StratD rd (P+6449) s w) :=
 l91Strategy_gen rd P s (type_ok hs).2 (hand3_of_ok (type_ok hs).1) w h hP
def Given (rd Q:Nat) (w:World) (en:Ending) (w':World):Prop :=
 ∃ s text:Bs,en=.returned (.tuple #[str s,str text])∧s.length≤100∧text.length≤100000∧But (· = rd) w w'∧RdAt w' rd Q
theorem odd_len {s:Bs} (h:s∈typeTexts++oddTexts):s.length≤100:=by
 simp only [typeTexts,oddTexts,List.mem_append,List.mem_cons,List.not_mem_nil,or_false] at h
 rcases h with (rfl | rfl | rfl | rfl | rfl | rfl | rfl | rfl) | (rfl | rfl | rfl | rfl | rfl | rfl | rfl) <;> decide
theorem bad_len {s:Bs} (h:s∈badTexts):s.length≤100:=by
 simp only [badTexts,List.mem_cons,List.not_mem_nil,or_false] at h
 rcases h with rfl | rfl | rfl | rfl | rfl | rfl | rfl | rfl <;> decide
set_option maxRecDepth 100000 in
set_option maxHeartbeats 2000000 in
theorem l91Given_any (rd P:Nat) (w:World) (h:RdAt w rd P) (hP:P+7000≤1099511627776) :
 Calls Tryz.prog 35 #[.pointer (some ⟨rd,0,none⟩)] w (Given rd (P+6500) w):=by
 go_enter Tryz.func35,Tryz.ntmps35
 go_wp2_with fail
 refine (l91Type_any rd P w h (by omega)).mono ?_
 rintro en w1 ⟨s,hs,rfl,hb1,hr1⟩
 have HS:=Lib.hid hs;clear hs h
 go_wp2_with fail
 refine (pick_any rd (P+1) 16 w1 hr1 (by omega) (by omega) (by omega)).mono ?_
 rintro en w2 ⟨v,rfl,hv,hb2,hr2⟩
 have hb12:=hb1.trans hb2
 by_cases hv0:v=0
 ·subst hv0
  clear hr1 hb1 hb2
  go_wp2_with fail
  refine (l91Odd_any rd (P+2) w2 hr2 (by omega)).mono ?_
  rintro en w3 ⟨s3,hs3,rfl,hb3,hr3⟩
  have HS3:=Lib.hid hs3;clear hs3 hr2
  have hlt3:=hr3.lt
  go_wp2_with fail
  refine (of_any rd (P+2+2) (.slice (some ⟨w3.heap.size,0,none⟩) 8 8) badTexts _ (hr3.alloc (.cells (badTexts.map str).toArray 9)) (StrSl.newAt hlt3 badTexts 8 rfl _ (w3.heap.size) rfl) (by decide) (by decide) (by omega)).mono ?_
  rintro en w4 ⟨s4,hs4,rfl,hb4,hr4⟩
  have HS4:=Lib.hid hs4;clear hs4
  go_wp2_with fail
  refine bodyPost_ret (v:=.tuple #[str s3,str s4]) (by simp [results,Tryz.results35,go_sem]) rfl ?_
  exact ⟨s3,s4,rfl,odd_len HS3.out,Nat.le_trans (bad_len HS4.out) (by omega),(hb12.trans hb3).trans (((But.refl _ w3).alloc _).trans hb4),hr4.mono (by omega)⟩
 ·have hv1:((v:Int) == 0)=false:=by rw [beq_eq_false_iff_ne];omega
  clear hr1 hb1 hb2
  go_wp2_with fail
  refine (l91Strategy_any rd (P+2) s HS.out w2 hr2 (by omega)).mono ?_
  rintro en w3 ⟨b,rfl,hb3,hr3,hf,hlv,hsz⟩
  have hlen:=textB_length b hlv
  clear hf
  go_wp2_with fail
  refine bodyPost_ret (v:=.tuple #[str s,str (textB b)]) (by simp [results,Tryz.results35,go_sem]) rfl ?_
  exact ⟨s,textB b,rfl,(type_ok HS.out).2,by omega,hb12.trans hb3,hr3.mono (by omega)⟩
end Go.Proofs.YtllmjhbopmkpoaaGreatDoor
namespace Go.Proofs.YtllmjhbopmkpoaaGreatDoor
open Go.RowKit
def Drawn (w:World) (en:Ending) (w':World):Prop:=∃ s text:Bs,en=.returned (.tuple #[str s,str text])∧s.length≤100∧text.length≤100000∧Below w.heap.size w w'
theorem but_new {rd:Nat} {w w1 w2:World} (h1:Below w.heap.size w w1) (hrd:w.heap.size≤rd) (h2:But (· = rd) w1 w2):Below w.heap.size w w2 :=
 h1.trans (h2.toBelow h1.size fun i hi e=>by omega)
end Go.Proofs.YtllmjhbopmkpoaaGreatDoor

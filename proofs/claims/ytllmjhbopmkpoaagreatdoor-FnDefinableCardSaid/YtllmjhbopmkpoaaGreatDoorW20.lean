/- The walk of impl's StrategyTerm. -/
import Derived.Test.YtllmjhbopmkpoaaGreatDoorW17
import Derived.Test.YtllmjhbopmkpoaaGreatDoorW19
namespace Go.Proofs.YtllmjhbopmkpoaaGreatDoor
open Go.RowKit
theorem termOf_len {t:Ty} {b:Bd} (h:Good t b):(textTm (termOf t b)).length≤400000:=by
 have ha:=arg_small h.atoms
 have hc:=arg_count h.atoms
 have hs:=h.size
 have h1:=tmB_len b ([]++t.args) (by rw [List.nil_append];exact h.fit) (fun x hx=>by rw [List.nil_append] at hx;exact ha x hx) (by simp;omega)
 have h2:=headTx_len t.args 0 ha (by omega)
 unfold termOf tmL
 rw [List.length_nil,lams_text,List.length_append,List.length_append,closeTx_length]
 omega
set_option maxHeartbeats 1000000 in
theorem implStrategyTerm_any (s text:Bs) (w:World) (hg:Glob w) (hs:Lim s.length) (hl:Lim text.length) :
 Calls Tryz.prog 14 #[str s,str text] w fun en w'=>en=.returned (.tuple #[str ((stratTerm s text).getD []),.bool (stratTerm s text).isSome])∧Below w.heap.size w w':=by
 have C0:=Lib.hid (strategy_any s text w hg hs hl)
 go_enter Tryz.func14,Tryz.ntmps14
 go_wp2_with fail
 (with_reducible refine C0.out.mono ?_)
 rintro en w1 ⟨kv,bv,rfl,hb1,hn1,hy1⟩
 cases hq:specStrat s text with
 | none =>
   have hr:rdTS s text=none:=by rw [rdTS_eq,hq];rfl
   obtain rfl:=hn1 hr
   have HM:=Lib.hid (show stratTerm s text=none by unfold stratTerm;rw [hq];rfl)
   have HB:=Lib.hid hb1
   clear hn1 hy1 hq hr hb1
   go_wp2_with fail
   go_ret2
   exact ⟨by rw [HM.out];rfl,HB.out⟩
 | some b =>
   have hr:rdTS s text=some ((specType s).1,b):=by rw [rdTS_eq,hq];rfl
   obtain ⟨rk,rb⟩:=hy1 _ _ hr
   obtain ⟨hgood,_⟩:=specStrat_good hq
   obtain ⟨bb,rfl⟩:=encB_ptr rb
   have hlen:=termOf_len hgood
   have HM:=Lib.hid (show stratTerm s text=if (implTerm (textTm (termOf (specType s).1 b))).isSome then some (textTm (termOf (specType s).1 b)) else none by unfold stratTerm;rw [hq];rfl)
   have CT:Hid (Calls Tryz.prog 32 #[kv,.pointer (some ⟨bb,0,none⟩),.slice none 0 0] w1 fun en w'=>en=.returned (str (textTm (termOf (specType s).1 b)))∧Below w1.heap.size w1 w') :=
    kindTm_any (sizeB b) (w.heap.size≤·) (specType s).1 b [] kv _ _ w1 (Nat.le_refl _) (hg.below hb1) rk rb (Rep_sl.2 ⟨rfl,none,0,rfl,Nat.le_refl _,fun _=>rfl,.inl rfl⟩) hgood.fit hgood.wf (fun x hx=>by simp at hx) hgood.atoms (by have:=hgood.size;simp;omega)
   obtain ⟨X,hX⟩:∃ X,textTm (termOf (specType s).1 b)=X:=⟨_,rfl⟩
   rw [hX] at HM CT hlen
   have CR:=Lib.hid (fun wz=>readTerm_any X wz (show _≤_ by omega))
   have HB:=Lib.hid hb1
   clear hn1 hy1 hq hr hb1 rk rb hgood hX hlen
   go_wp2_with fail
   (with_reducible refine CT.out.mono ?_)
   rintro en w2 ⟨rfl,hb2⟩
   have HB2:=Lib.hid (HB.out.trans (hb2.mono HB.out.size))
   clear hb2
   go_wp2_with fail
   (with_reducible refine (CR.out _).mono ?_)
   rintro en w3 ⟨v,rfl,hb3,hn3,hy3⟩
   have HB3:=Lib.hid (HB2.out.trans (hb3.mono HB2.out.size))
   clear hb3
   cases ht:implTerm X with
   | none =>
     obtain rfl:=hn3 ht
     have HT:=Lib.hid ht
     clear hn3 hy3 ht
     go_wp2_with fail
     go_ret2
     exact ⟨by rw [HM.out,HT.out];rfl,HB3.out⟩
   | some t =>
     obtain ⟨tb,rfl⟩:=encTm_ptr (hy3 t ht)
     have HT:=Lib.hid ht
     clear hn3 hy3 ht
     go_wp2_with fail
     go_ret2
     exact ⟨by rw [HM.out,HT.out];rfl,HB3.out⟩
end Go.Proofs.YtllmjhbopmkpoaaGreatDoor

/- The law FnDefinable. -/
import Derived.Test.YtllmjhbopmkpoaaGreatDoorW20
import Derived.Test.YtllmjhbopmkpoaaGreatDoorS35
import Derived.Test.YtllmjhbopmkpoaaGreatDoorW28
import Derived.Test.YtllmjhbopmkpoaaGreatDoorD12
import Derived.Test.YtllmjhbopmkpoaaGreatDoorP33
namespace Go.Proofs.YtllmjhbopmkpoaaGreatDoor
open Go.RowKit
theorem stratTerm_len {s text x:Bs} (h:stratTerm s text=some x):x.length≤1000:=by
 obtain ⟨t,b,_,_,_,h5⟩:=definable h
 obtain ⟨u,h6,_⟩:=meaning_parts h5
 obtain ⟨e,ho,h60⟩:=implTerm_some h6
 rw [e]
 have:=textTm_len u ho
 omega
set_option maxRecDepth 20000 in
set_option maxHeartbeats 2000000 in
theorem fnDefinable_any (a0:Option Addr) (len cap:Nat) (zs:List Int) (w:World) (h8:Row8 w a0 len cap zs) (hg:Glob w) (he:GlobE w) :
 Calls Tryz.prog 6 #[.slice a0 len cap] w fun en w'=>en=.returned (.bool true)∧Below w.heap.size w w':=by
 by_cases hl:1048576<len
 ·have hl':(1048576:Int)<(len:Int):=by omega
  go_enter Tryz.func6,Tryz.ntmps6
  go_wp2_with fail
  go_ret
  exact ⟨rfl,Below.refl _ _⟩
 have hl':¬ (1048576:Int)<(len:Int):=by omega
 have CD:=Lib.hid (drawStrategyTerm_any a0 len cap zs w h8 (by omega))
 have HG:=Lib.hid (And.intro hg he)
 clear h8 hg he hl
 go_enter Tryz.func6,Tryz.ntmps6
 go_wp2_with fail
 refine CD.out.mono ?_
 rintro en w1 ⟨s,text,rfl,hs,ht,hb1⟩
 have HB1:=Lib.hid hb1;clear hb1 CD
 have ls:Lim s.length:=show _≤_ by omega
 have lt:Lim text.length:=show _≤_ by omega
 have C1:=Lib.hid (implStrategyTerm_any s text w1 (HG.out.1.below HB1.out) ls lt)
 have C2:=Lib.hid (fun wz=>specStrategyTerm_any s text wz ls lt)
 have LAW:=Lib.hid (fun out (h:stratTerm s text=some out)=>And.intro (@definable_law s text out h) (stratTerm_len h))
 obtain ⟨R,hR⟩:∃ R,stratTerm s text=R:=⟨_,rfl⟩
 rw [hR] at C1 C2 LAW
 clear ls lt hs ht hR
 go_wp2_with fail
 (with_reducible refine C1.out.mono ?_)
 rintro en w2 ⟨rfl,hb2⟩
 have HB2:=Lib.hid (HB1.out.trans (hb2.mono HB1.out.size));clear hb2 C1
 go_wp2_with fail
 (with_reducible refine (C2.out w2).mono ?_)
 rintro en w3 ⟨rfl,hb3⟩
 have HB3:=Lib.hid (HB2.out.trans (hb3.mono HB2.out.size));clear hb3 C2
 cases R with
 | none =>
   obtain ⟨X,hX⟩:∃ X:Bs,X=[]:=⟨_,rfl⟩
   simp only [Option.getD_none,Option.isSome_none]
   go_wp2_with fail
   go_ret
   exact ⟨rfl,HB3.out⟩
 | some out =>
   simp only [Option.getD_some,Option.isSome_some]
   obtain ⟨⟨l1,l2⟩,lo⟩:=LAW.out out rfl
   have lim:Lim out.length:=show _≤_ by omega
   have C3:=Lib.hid (implTermType_any out w3 lim)
   have C4:=Lib.hid (fun wz (hz:Below w3.heap.size w3 wz)=>implTermStrategy_any out wz (HG.out.1.below (HB3.out.trans (hz.mono HB3.out.size))) (HG.out.2.below (HB3.out.trans (hz.mono HB3.out.size))) lim)
   have e3:kindI out=some s:=l1
   have e4:strat out=some text:=l2
   rw [e3] at C3
   rw [e4] at C4
   simp only [Option.getD_some,Option.isSome_some] at C3 C4
   have e0:(out != out)=false:=by simp
   have e1:(s == s)=true:=by simp
   have e2:(text == text)=true:=by simp
   clear e3 e4 l1 l2 lo lim LAW
   go_wp2_with fail
   (with_reducible refine C3.out.mono ?_)
   rintro en w4 ⟨rfl,hb4⟩
   have HZ4:=Lib.hid hb4
   have HB4:=Lib.hid (HB3.out.trans (hb4.mono HB3.out.size));clear hb4 C3
   go_wp2_with fail
   (with_reducible refine (C4.out w4 HZ4.out).mono ?_)
   rintro en w5 ⟨rfl,hb5⟩
   have HB5:=Lib.hid (HB4.out.trans (hb5.mono HB4.out.size));clear hb5 C4
   go_wp2_with fail
   go_ret
   exact ⟨rfl,HB5.out⟩
end Go.Proofs.YtllmjhbopmkpoaaGreatDoor

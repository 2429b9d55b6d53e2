/- The law FnExactTermStrategy. -/
import Derived.Test.YtapjaflnmklmeaaGreatDoorW27
import Derived.Test.YtapjaflnmklmeaaGreatDoorB27
namespace Go.Proofs.YtapjaflnmklmeaaGreatDoor
open Go.RowKit
set_option maxRecDepth 20000 in
set_option maxHeartbeats 1000000 in
theorem fnExactTermStrategy_any (a:Bs) (w:World) (hg:Glob w) (he:GlobE w) :
 Calls Tryz.prog 3 #[str a] w fun en w'=>en=.returned (.bool true)∧Below w.heap.size w w':=by
 by_cases ha:1048576<a.length
 ·have ha':(1048576:Int)<(a.length:Int):=by omega
  go_enter Tryz.func3,Tryz.ntmps3
  go_wp2_with fail
  go_ret
  exact ⟨rfl,Below.refl _ _⟩
 have ha':¬ (1048576:Int)<(a.length:Int):=by omega
 have la:Lim a.length:=show _≤_ by omega
 have C1:=Lib.hid (specTermStrategy_any a w la)
 have C2:=Lib.hid (fun w1 (h:Below w.heap.size w w1)=>implTermStrategy_any a w1 (hg.below h) (he.below h) la)
 have e:stratR a=strat a:=rfl
 rw [e] at C1
 generalize strat a=R at *
 clear la ha hg he e
 go_enter Tryz.func3,Tryz.ntmps3
 go_wp2_with fail
 (with_reducible refine C1.out.mono ?_)
 rintro en w1 ⟨rfl,hb1⟩
 have HB1:=Lib.hid hb1;clear hb1
 go_wp2_with fail
 (with_reducible refine (C2.out w1 HB1.out).mono ?_)
 rintro en w2 ⟨rfl,hb2⟩
 have HB2:=Lib.hid (HB1.out.trans (hb2.mono HB1.out.size));clear hb2 C1 C2
 obtain ⟨X,hX⟩:∃ X,X=R.getD []:=⟨_,rfl⟩
 obtain ⟨Y,hY⟩:∃ Y,Y=R.isSome:=⟨_,rfl⟩
 rw [← hX,← hY]
 clear hX hY
 have e0:(X != X)=false:=by simp
 have e1:(Y != Y)=false:=by simp
 go_wp2_with fail
 go_ret
 exact ⟨rfl,HB2.out⟩
end Go.Proofs.YtapjaflnmklmeaaGreatDoor

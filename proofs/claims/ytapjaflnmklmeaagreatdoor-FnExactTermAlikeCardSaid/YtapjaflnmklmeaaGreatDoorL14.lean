/- The law FnExactTermAlike. -/
import Derived.Test.YtapjaflnmklmeaaGreatDoorW27
import Derived.Test.YtapjaflnmklmeaaGreatDoorB27
namespace Go.Proofs.YtapjaflnmklmeaaGreatDoor
open Go.RowKit
theorem kind_meaning {s:Bs} {k:Ty} {b:Bd} (h:meaning s=some (k,b)):kindTx s=some (textT k):=by
 unfold meaning at h
 simp only [Option.bind_eq_some_iff,Option.map_eq_some_iff,Prod.mk.injEq] at h
 obtain ⟨t,h1,k',h2,b',h3,rfl,rfl⟩:=h
 unfold kindTx clOf
 rw [h1,Option.bind_some,h2];rfl
theorem alike_same (a b:Bs):alikeI a b=alikeR a b:=by
 unfold alikeI alikeR stratR
 cases ha:meaning a with
 | none=>rfl
 | some x =>
   obtain ⟨ka,ba⟩:=x
   cases hb:meaning b with
   | none=>rfl
   | some y =>
     obtain ⟨kb,bb⟩:=y
     rw [kind_meaning ha,kind_meaning hb]
     rfl
set_option maxRecDepth 20000 in
set_option maxHeartbeats 1000000 in
theorem fnExactTermAlike_any (a b:Bs) (w:World) (hg:Glob w) (he:GlobE w) :
 Calls Tryz.prog 4 #[str a,str b] w fun en w'=>en=.returned (.bool true)∧Below w.heap.size w w':=by
 by_cases ha:1048576<a.length
 ·have ha':(1048576:Int)<(a.length:Int):=by omega
  go_enter Tryz.func4,Tryz.ntmps4
  go_wp2_with fail
  go_ret
  exact ⟨rfl,Below.refl _ _⟩
 have ha':¬ (1048576:Int)<(a.length:Int):=by omega
 by_cases hb:1048576<b.length
 ·have hb':(1048576:Int)<(b.length:Int):=by omega
  go_enter Tryz.func4,Tryz.ntmps4
  go_wp2_with fail
  go_ret
  exact ⟨rfl,Below.refl _ _⟩
 have hb':¬ (1048576:Int)<(b.length:Int):=by omega
 have la:Lim a.length:=show _≤_ by omega
 have lb:Lim b.length:=show _≤_ by omega
 have C1:=Lib.hid (specTermAlike_any a b w la lb)
 have C2:=Lib.hid (fun w1 (h:Below w.heap.size w w1)=>implTermAlike_any a b w1 (hg.below h) (he.below h) la lb)
 rw [alike_same] at C2
 generalize alikeR a b=R at *
 clear la lb ha hb hg he
 go_enter Tryz.func4,Tryz.ntmps4
 go_wp2_with fail
 (with_reducible refine C1.out.mono ?_)
 rintro en w1 ⟨rfl,hb1⟩
 have HB1:=Lib.hid hb1;clear hb1
 go_wp2_with fail
 (with_reducible refine (C2.out w1 HB1.out).mono ?_)
 rintro en w2 ⟨rfl,hb2⟩
 have HB2:=Lib.hid (HB1.out.trans (hb2.mono HB1.out.size));clear hb2 C1 C2
 have e1:(R != R)=false:=by simp
 go_wp2_with fail
 go_ret
 exact ⟨rfl,HB2.out⟩
end Go.Proofs.YtapjaflnmklmeaaGreatDoor

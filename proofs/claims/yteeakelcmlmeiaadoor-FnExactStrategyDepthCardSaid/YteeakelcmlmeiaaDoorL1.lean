/- The walk of the law FnExactStrategyDepth. -/
import Derived.Test.YteeakelcmlmeiaaDoorS10
namespace Go.Proofs.YteeakelcmlmeiaaDoor
open Go.RowKit

set_option maxHeartbeats 2000000 in
theorem fnExactStrategyDepth_any (a b : Bs) (w : World) (hg : Glob w) :
    Calls Tryd.prog 3 #[str a, str b] w fun en w' => en = .returned (.bool true) ∧ Below w.heap.size w w' := by
  by_cases ha : 1048576 < a.length
  · have ha' : (1048576 : Int) < (a.length : Int) := by omega
    go_enter Tryd.func3, Tryd.ntmps3
    go_wp2_with fail
    go_ret
    exact ⟨rfl, Below.refl _ _⟩
  have ha' : ¬ (1048576 : Int) < (a.length : Int) := by omega
  by_cases hb : 1048576 < b.length
  · have hb' : (1048576 : Int) < (b.length : Int) := by omega
    go_enter Tryd.func3, Tryd.ntmps3
    go_wp2_with fail
    go_ret
    exact ⟨rfl, Below.refl _ _⟩
  have hb' : ¬ (1048576 : Int) < (b.length : Int) := by omega
  have la : Lim a.length := show _ ≤ _ by omega
  have lb : Lim b.length := show _ ≤ _ by omega
  have HE := Lib.hid (rdTS_eq a b)
  go_enter Tryd.func3, Tryd.ntmps3
  go_wp2_with fail
  refine (specDepth_any a b la lb w).mono ?_
  rintro en w1 ⟨rfl, hb1⟩
  go_wp2_with fail
  refine (implDepth_any a b la lb w1 (hg.below hb1)).mono ?_
  rintro en w2 ⟨rfl, hb2⟩
  have hbb := hb1.trans (hb2.mono hb1.size)
  have he : (rdTS a b).map Prod.snd = specStrat a b := by
    rw [HE.out]; cases specStrat a b <;> rfl
  rw [he]
  generalize depthOf (specStrat a b) = x
  have hx : (x != x) = false := by simp
  clear he
  go_wp2_with fail
  go_ret
  exact ⟨rfl, hbb⟩

end Go.Proofs.YteeakelcmlmeiaaDoor

/- The walks of impl's size of bodies and of StrategySize and StrategyValid of the program. -/
import Derived.Test.YtibnnbdpfkgfhaaGreatDoorW14
import Derived.Test.YtibnnbdpfkgfhaaGreatDoorS10
namespace Go.Proofs.YtibnnbdpfkgfhaaGreatDoor
open Go.RowKit

def sizeOf' (o : Option Bd) : Int := match o with
  | some b => (sizeB b : Int)
  | none => -1

set_option maxHeartbeats 2000000 in
theorem implValid_any (s text : Bs) (hs : Lim s.length) (hl : Lim text.length) (w : World) (hg : Glob w) :
    Calls Tryz.prog 13 #[str s, str text] w fun en w' => en = .returned (.bool (specStrat s text).isSome) ∧ Below w.heap.size w w' := by
  have he : (rdTS s text).map Prod.snd = specStrat s text := by
    rw [rdTS_eq]; cases specStrat s text <;> rfl
  rw [← he]; clear he
  go_enter Tryz.func13, Tryz.ntmps13
  go_wp2_with fail
  refine (strategy_any s text w hg hs hl).mono ?_
  rintro en w1 ⟨kv, bv, rfl, hb1, hn, hy⟩
  cases hq : rdTS s text with
  | none =>
    obtain rfl := hn hq
    have HQ := Lib.hid hq; clear hq hn hy
    go_wp2_with fail
    go_ret
    exact ⟨ret_bool (by rw [HQ.out]; rfl), hb1⟩
  | some x =>
    obtain ⟨t, b⟩ := x
    obtain ⟨hk, hr⟩ := hy t b hq
    have HQ := Lib.hid hq; clear hq hn hy
    obtain ⟨ab, eb⟩ := encB_ptr hr
    subst eb
    go_wp2_with fail
    go_ret
    exact ⟨ret_bool (by rw [HQ.out]; rfl), hb1⟩

set_option maxRecDepth 100000 in
set_option maxHeartbeats 2000000 in
theorem specValid_any (s text : Bs) (hs : Lim s.length) (hl : Lim text.length) (w : World) :
    Calls Tryz.prog 14 #[str s, str text] w fun en w' => en = .returned (.bool (specStrat s text).isSome) ∧ Below w.heap.size w w' := by
  go_enter Tryz.func14, Tryz.ntmps14
  go_wp2_with fail
  refine (l3Strategy_any s text hs hl w).mono ?_
  rintro en w1 ⟨a, c, s', v', a2, n2, c2, a3, n3, c3, rfl, hb1, _, _⟩
  go_wp2_with fail
  go_ret
  refine ⟨rfl, ?_⟩
  repeat (first | exact hb1 | refine Below.alloc ?_ (by have := hb1.size; simp; omega) _)

end Go.Proofs.YtibnnbdpfkgfhaaGreatDoor

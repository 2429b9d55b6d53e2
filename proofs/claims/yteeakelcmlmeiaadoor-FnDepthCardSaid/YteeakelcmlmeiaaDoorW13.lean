/- The walk of the program's StrategyBelow. -/
import Derived.Test.YteeakelcmlmeiaaDoorW12
namespace Go.Proofs.YteeakelcmlmeiaaDoor
open Go.RowKit

def belowOf (x y : Option Bd) : Bool := match x, y with
  | some a, some b => belowB a b
  | _, _ => false

theorem belowOf_none (y : Option Bd) : belowOf none y = false := by cases y <;> rfl
theorem belowOf_none2 (x : Option Bd) : belowOf x none = false := by cases x <;> rfl

theorem rdTS_some {s text : Bs} {t : Ty} {b : Bd} (hq : rdTS s text = some (t, b)) : specStrat s text = some b ∧ fitB (specType s).1.args b ∧ sizeB b ≤ 200 := by
  have h3 := rdTS_size hq
  rw [rdTS_eq, Option.map_eq_some_iff] at hq
  obtain ⟨b', h, e⟩ := hq
  simp at e; obtain ⟨rfl, rfl⟩ := e
  exact ⟨h, specStrat_fit h, h3⟩
theorem rdTS_none {s text : Bs} (hq : rdTS s text = none) : specStrat s text = none := by
  rw [rdTS_eq, Option.map_eq_none_iff] at hq; exact hq

set_option maxHeartbeats 2000000 in
theorem implBelow_any (s x y : Bs) (hs : Lim s.length) (hx : Lim x.length) (hy : Lim y.length) (w : World) (hg : Glob w) :
    Calls Tryd.prog 11 #[str s, str x, str y] w fun en w' => en = .returned (.bool (belowOf (specStrat s x) (specStrat s y))) ∧ Below w.heap.size w w' := by
  go_enter Tryd.func11, Tryd.ntmps11
  go_wp2_with fail
  refine (strategy_any s x w hg hs hx).mono ?_
  rintro en w1 ⟨kv, bv, rfl, hb1, hn1, hy1⟩
  have hg1 := hg.below hb1
  go_wp2_with fail
  refine (strategy_any s y w1 hg1 hs hy).mono ?_
  rintro en w2 ⟨kv2, bv2, rfl, hb2, hn2, hy2⟩
  have hb12 := hb1.trans (hb2.mono hb1.size)
  cases hq : rdTS s x with
  | none =>
    obtain rfl := hn1 hq
    have HQ := Lib.hid (rdTS_none hq)
    cases hq2 : rdTS s y with
    | none =>
      obtain rfl := hn2 hq2
      clear hq hq2 hn1 hn2 hy1 hy2
      go_wp2_with fail
      go_ret
      exact ⟨ret_bool (by rw [HQ.out, belowOf_none]), hb12⟩
    | some z =>
      obtain ⟨t, b⟩ := z
      obtain ⟨_, hr2⟩ := hy2 t b hq2
      obtain ⟨ab, eb⟩ := encB_ptr hr2
      subst eb
      clear hq hq2 hn1 hn2 hy1 hy2
      go_wp2_with fail
      go_ret
      exact ⟨ret_bool (by rw [HQ.out, belowOf_none]), hb12⟩
  | some z =>
    obtain ⟨t1, b1⟩ := z
    obtain ⟨_, hr1⟩ := hy1 t1 b1 hq
    have hr1' := Rep.below (F' := fun _ => True) hb2 (fun _ _ => trivial) hr1
    obtain ⟨ab, eb⟩ := encB_ptr hr1
    subst eb
    have HQ1 := Lib.hid (rdTS_some hq)
    cases hq2 : rdTS s y with
    | none =>
      obtain rfl := hn2 hq2
      have HQ := Lib.hid (rdTS_none hq2)
      clear hq hq2 hn1 hn2 hy1 hy2
      go_wp2_with fail
      go_ret
      exact ⟨ret_bool (by rw [HQ.out, belowOf_none2]), hb12⟩
    | some z =>
      obtain ⟨t2, b2⟩ := z
      obtain ⟨_, hr2⟩ := hy2 t2 b2 hq2
      have hr2' := Rep.below (F' := fun _ => True) (Below.refl _ _) (fun _ _ => trivial) hr2
      obtain ⟨ab2, eb⟩ := encB_ptr hr2
      subst eb
      have HQ2 := Lib.hid (rdTS_some hq2)
      have C := Lib.hid (below_any (sizeB b1) b1 (Nat.le_refl _) (show _ ≤ _ by have := HQ1.out.2.2; omega) b2 _ _ w2 _ _ (show _ ≤ _ by have := HQ2.out.2.2; omega) HQ1.out.2.1 HQ2.out.2.1 hr1' hr2')
      clear hq hq2 hn1 hn2 hy1 hy2 hr1 hr2 hr1' hr2'
      go_wp2_with fail
      refine C.out.mono ?_
      rintro en w3 ⟨rfl, hb3⟩
      go_wp2_with fail
      go_ret
      exact ⟨ret_bool (by rw [HQ1.out.1, HQ2.out.1]; rfl), hb12.trans (hb3.mono hb12.size)⟩

end Go.Proofs.YteeakelcmlmeiaaDoor

/- The law FnExactApplyOf. -/
import Derived.Test.YtlahjbeehngjcaaGreatDoorB14
namespace Go.Proofs.YtlahjbeehngjcaaGreatDoor
open Go.RowKit

set_option maxRecDepth 100000 in
set_option maxHeartbeats 4000000 in
theorem fnExactApplyOf_any (s m n : Bs) (w : World) (hg : Glob w) (he : GlobE w) :
    Calls Tryz.prog 4 #[str s, str m, str n] w fun en w' => en = .returned (.bool true) ∧ Below w.heap.size w w' := by
  by_cases ha : 1048576 < s.length
  · have ha' : (1048576 : Int) < (s.length : Int) := by omega
    go_enter Tryz.func4, Tryz.ntmps4
    go_wp2_with fail
    go_ret
    exact ⟨rfl, Below.refl _ _⟩
  have ha' : ¬ (1048576 : Int) < (s.length : Int) := by omega
  by_cases hb : 1048576 < m.length
  · have hb' : (1048576 : Int) < (m.length : Int) := by omega
    go_enter Tryz.func4, Tryz.ntmps4
    go_wp2_with fail
    go_ret
    exact ⟨rfl, Below.refl _ _⟩
  have hb' : ¬ (1048576 : Int) < (m.length : Int) := by omega
  by_cases hc : 1048576 < n.length
  · have hc' : (1048576 : Int) < (n.length : Int) := by omega
    go_enter Tryz.func4, Tryz.ntmps4
    go_wp2_with fail
    go_ret
    exact ⟨rfl, Below.refl _ _⟩
  have hc' : ¬ (1048576 : Int) < (n.length : Int) := by omega
  have hs : Lim s.length := show _ ≤ _ by omega
  have hm : Lim m.length := show _ ≤ _ by omega
  have hn : Lim n.length := show _ ≤ _ by omega
  have C1 := Lib.hid (specApplyOf_any s m n hs hm hn w)
  have C2 : Hid (∀ w1, Below w.heap.size w w1 → Calls Tryz.prog 15 #[str s, str m, str n] w1 (TextPost w1 (specApplyOf s m n))) := by
    show ∀ w1, _ → _
    intro w1 h
    rw [← one_eq]
    exact implOne_any s m n w1 (hg.below h) (he.below h) hs hm hn
  generalize specApplyOf s m n = R at *
  clear hs hm hn ha hb hc hg he
  go_enter Tryz.func4, Tryz.ntmps4
  go_wp2_with fail
  (with_reducible refine C1.out.mono ?_)
  rintro en w1 ⟨rfl, hb1⟩
  have HB1 := Lib.hid hb1; clear hb1
  go_wp2_with fail
  (with_reducible refine (C2.out w1 HB1.out).mono ?_)
  rintro en w2 ⟨rfl, hb2⟩
  have HB2 := Lib.hid (HB1.out.trans (hb2.mono HB1.out.size)); clear hb2 C1 C2
  obtain ⟨X, hX⟩ : ∃ X, X = R.getD [] := ⟨_, rfl⟩
  obtain ⟨Y, hY⟩ : ∃ Y, Y = R.isSome := ⟨_, rfl⟩
  rw [← hX, ← hY]
  clear hX hY
  have e0 : (X != X) = false := by simp
  have e1 : (Y != Y) = false := by simp
  go_wp2_with fail
  go_ret
  exact ⟨rfl, HB2.out⟩

end Go.Proofs.YtlahjbeehngjcaaGreatDoor

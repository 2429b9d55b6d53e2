/- The law FnExactComposeOf. -/
import Derived.Test.YtibnnbdpfkgfhaaGreatDoorC1
import Derived.Test.YtibnnbdpfkgfhaaGreatDoorC2
namespace Go.Proofs.YtibnnbdpfkgfhaaGreatDoor
open Go.RowKit

theorem len_in (x : Bs) (h : ¬ 1048576 < x.length) : ¬ (1048576 : Int) < (x.length : Int) := by omega

set_option maxRecDepth 100000 in
set_option maxHeartbeats 4000000 in
theorem fnExactComposeOf_any (a b c m n : Bs) (w : World) (hg : Glob w) (he : GlobE w) :
    Calls Tryz.prog 3 #[str a, str b, str c, str m, str n] w fun en w' => en = .returned (.bool true) ∧ Below w.heap.size w w' := by
  by_cases ha : 1048576 < a.length
  · have ha' : (1048576 : Int) < (a.length : Int) := by omega
    go_enter Tryz.func3, Tryz.ntmps3
    go_wp2_with fail
    go_ret
    exact ⟨rfl, Below.refl _ _⟩
  have ha' := len_in a ha
  by_cases hb : 1048576 < b.length
  · have hb' : (1048576 : Int) < (b.length : Int) := by omega
    go_enter Tryz.func3, Tryz.ntmps3
    go_wp2_with fail
    go_ret
    exact ⟨rfl, Below.refl _ _⟩
  have hb' := len_in b hb
  by_cases hc : 1048576 < c.length
  · have hc' : (1048576 : Int) < (c.length : Int) := by omega
    go_enter Tryz.func3, Tryz.ntmps3
    go_wp2_with fail
    go_ret
    exact ⟨rfl, Below.refl _ _⟩
  have hc' := len_in c hc
  by_cases hm : 1048576 < m.length
  · have hm' : (1048576 : Int) < (m.length : Int) := by omega
    go_enter Tryz.func3, Tryz.ntmps3
    go_wp2_with fail
    go_ret
    exact ⟨rfl, Below.refl _ _⟩
  have hm' := len_in m hm
  by_cases hn : 1048576 < n.length
  · have hn' : (1048576 : Int) < (n.length : Int) := by omega
    go_enter Tryz.func3, Tryz.ntmps3
    go_wp2_with fail
    go_ret
    exact ⟨rfl, Below.refl _ _⟩
  have hn' := len_in n hn
  have la : Lim a.length := show _ ≤ _ by omega
  have lb : Lim b.length := show _ ≤ _ by omega
  have lc : Lim c.length := show _ ≤ _ by omega
  have lm : Lim m.length := show _ ≤ _ by omega
  have ln : Lim n.length := show _ ≤ _ by omega
  have C1 := Lib.hid (specCompose_any a b c m n w la lb lc lm ln)
  have C2 : Hid (∀ w1, Below w.heap.size w w1 → Calls Tryz.prog 11 #[str a, str b, str c, str m, str n] w1 (TextPost w1 (specCompose a b c m n))) := by
    show ∀ w1, _ → _
    intro w1 h
    rw [← compose_eq]
    exact implCompose_any a b c m n w1 (hg.below h) (he.below h) la lb lc lm ln
  generalize specCompose a b c m n = R at *
  clear la lb lc lm ln ha hb hc hm hn hg he
  go_enter Tryz.func3, Tryz.ntmps3
  go_wp2_with fail
  (with_reducible refine C1.out.mono ?_)
  rintro en w1 ⟨rfl, hb1⟩
  have HB1 := Lib.hid hb1; clear hb1
  go_wp2_with fail
  (with_reducible refine (C2.out w1 HB1.out).mono ?_)
  rintro en w2 ⟨rfl, hb2⟩
  have HB2 := Lib.hid (HB1.out.trans (hb2.mono HB1.out.size)); clear hb2 C1 C2
  obtain ⟨X, hX⟩ : ∃ X, X = R.getD [] := ⟨_, rfl⟩
  obtain ⟨Y, hY⟩ : ∃ Y, Y = R.isSome := ⟨_, rfl⟩
  rw [← hX, ← hY]
  clear hX hY
  have e0 : (X != X) = false := by simp
  have e1 : (Y != Y) = false := by simp
  go_wp2_with fail
  go_ret
  exact ⟨rfl, HB2.out⟩

end Go.Proofs.YtibnnbdpfkgfhaaGreatDoor

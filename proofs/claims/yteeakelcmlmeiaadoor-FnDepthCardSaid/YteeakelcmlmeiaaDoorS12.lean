/- The walk of the reference's StrategyBelow, and the law FnExactStrategyBelow. -/
import Derived.Test.YteeakelcmlmeiaaDoorS11
namespace Go.Proofs.YteeakelcmlmeiaaDoor
open Go.RowKit

set_option maxRecDepth 100000 in
set_option maxHeartbeats 2000000 in
theorem specBelow_any (s x y : Bs) (hs : Lim s.length) (hx : Lim x.length) (hy : Lim y.length) (w : World) :
    Calls Tryd.prog 10 #[str s, str x, str y] w fun en w' => en = .returned (.bool (belowOf (specStrat s x) (specStrat s y))) ∧ Below w.heap.size w w' := by
  go_enter Tryd.func10, Tryd.ntmps10
  go_wp2_with fail
  refine (l3Strategy_any s x hs hx w).mono ?_
  rintro en w1 ⟨a, c, s', v', a2, n2, c2, a3, n3, c3, rfl, hb1, _, hrs⟩
  have HR1 := Lib.hid hrs; clear hrs
  go_wp2_with fail
  refine (l3Strategy_any s y hs hy _).mono ?_
  rintro en w2 ⟨aa, cc, ss', vv', aa2, nn2, cc2, aa3, nn3, cc3, rfl, hb2, _, hrs2⟩
  have HR2 := Lib.hid hrs2; clear hrs2
  have h1 : Below w.heap.size w ((w1.alloc (.cells #[.slice a (specType s).1.args.length c] 31)).alloc (.cells #[str s', .int .i64 v', .slice a2 n2 c2, .slice a3 n3 c3] 34)) := (hb1.alloc hb1.size _).alloc (by have := hb1.size; simp; omega) _
  have h2 := h1.trans (hb2.mono h1.size)
  have h3 : Below w.heap.size w ((w2.alloc (.cells #[.slice aa (specType s).1.args.length cc] 31)).alloc (.cells #[str ss', .int .i64 vv', .slice aa2 nn2 cc2, .slice aa3 nn3 cc3] 34)) := (h2.alloc h2.size _).alloc (by have := h2.size; simp; omega) _
  have z2 := hb2.size
  have hlt : w1.heap.size + 1 < w2.heap.size := by simp at z2; omega
  have e0 := (hb2.cell (p := ⟨w1.heap.size + 1, 0, none⟩) (by simp)).trans (show _ = some (str s') by simp)
  have e1 := (hb2.cell (p := ⟨w1.heap.size + 1, 1, none⟩) (by simp)).trans (show _ = some (.int .i64 v') by simp)
  have e2 := (hb2.cell (p := ⟨w1.heap.size + 1, 2, none⟩) (by simp)).trans (show _ = some (.slice a2 n2 c2) by simp)
  have e3 := (hb2.cell (p := ⟨w1.heap.size + 1, 3, none⟩) (by simp)).trans (show _ = some (.slice a3 n3 c3) by simp)
  have d0 : ((w2.alloc (.cells #[.slice aa (specType s).1.args.length cc] 31)).alloc (.cells #[str ss', .int .i64 vv', .slice aa2 nn2 cc2, .slice aa3 nn3 cc3] 34)).cell? ⟨w1.heap.size + 1, 0, none⟩ = some (str s') := cell_alloc (cell_alloc e0)
  have d1 : ((w2.alloc (.cells #[.slice aa (specType s).1.args.length cc] 31)).alloc (.cells #[str ss', .int .i64 vv', .slice aa2 nn2 cc2, .slice aa3 nn3 cc3] 34)).cell? ⟨w1.heap.size + 1, 1, none⟩ = some (.int .i64 v') := cell_alloc (cell_alloc e1)
  have d2 : ((w2.alloc (.cells #[.slice aa (specType s).1.args.length cc] 31)).alloc (.cells #[str ss', .int .i64 vv', .slice aa2 nn2 cc2, .slice aa3 nn3 cc3] 34)).cell? ⟨w1.heap.size + 1, 2, none⟩ = some (.slice a2 n2 c2) := cell_alloc (cell_alloc e2)
  have d3 : ((w2.alloc (.cells #[.slice aa (specType s).1.args.length cc] 31)).alloc (.cells #[str ss', .int .i64 vv', .slice aa2 nn2 cc2, .slice aa3 nn3 cc3] 34)).cell? ⟨w1.heap.size + 1, 3, none⟩ = some (.slice a3 n3 c3) := cell_alloc (cell_alloc e3)
  clear e0 e1 e2 e3
  cases hq : specStrat s x with
  | none =>
    have HQ := Lib.hid hq; clear hq
    cases hq2 : specStrat s y
    all_goals
      clear hq2
      simp only [Option.isSome_none, Option.isSome_some]
      go_wp2_with fail
      go_ret
      exact ⟨ret_bool (by rw [HQ.out, belowOf_none]), h3⟩
  | some b1 =>
    have HQ1 := Lib.hid (And.intro hq (And.intro (specStrat_fit hq) (specStrat_size hq)))
    cases hq2 : specStrat s y with
    | none =>
      have HQ := Lib.hid hq2; clear hq hq2
      simp only [Option.isSome_none, Option.isSome_some]
      go_wp2_with fail
      go_ret
      exact ⟨ret_bool (by rw [HQ.out, belowOf_none2]), h3⟩
    | some b2 =>
      have HQ2 := Lib.hid (And.intro hq2 (And.intro (specStrat_fit hq2) (specStrat_size hq2)))
      have r1 := HR1.out b1 hq
      have r2 := HR2.out b2 hq2
      have r1' : Reps (fun _ => True) ((w2.alloc (.cells #[.slice aa (specType s).1.args.length cc] 31)).alloc (.cells #[str ss', .int .i64 vv', .slice aa2 nn2 cc2, .slice aa3 nn3 cc3] 34)) (encN b1) [str s', .int .i64 v', .slice a2 n2 c2, .slice a3 n3 c3] :=
        (Rep.keep fun b o _ ho => ⟨trivial, heap_past (heap_past ho)⟩).2 _ _ (Reps.below (F' := fun _ => True) hb2 (fun _ _ => trivial) ((Rep.keep fun b o h ho => ⟨h, heap_past (heap_past ho)⟩).2 _ _ r1))
      have r2' : Reps (fun _ => True) ((w2.alloc (.cells #[.slice aa (specType s).1.args.length cc] 31)).alloc (.cells #[str ss', .int .i64 vv', .slice aa2 nn2 cc2, .slice aa3 nn3 cc3] 34)) (encN b2) [str ss', .int .i64 vv', .slice aa2 nn2 cc2, .slice aa3 nn3 cc3] :=
        (Rep.keep fun b o _ ho => ⟨trivial, heap_past (heap_past ho)⟩).2 _ _ r2
      have C := Lib.hid (l3Below_any 200 b1 HQ1.out.2.2 (show _ ≤ _ by omega) b2 _ _ _ _ _ _ _ _ _ _ _ (show _ ≤ _ by have := HQ2.out.2.2; omega) HQ1.out.2.1 HQ2.out.2.1 r1' r2')
      clear hq hq2 r1 r2 r1' r2'
      simp only [Option.isSome_some]
      go_wp2_with fail
      refine C.out.mono ?_
      rintro en w3 ⟨rfl, hb3⟩
      go_wp2_with fail
      go_ret
      exact ⟨ret_bool (by rw [HQ1.out.1, HQ2.out.1]; rfl), h3.trans (hb3.mono h3.size)⟩

set_option maxHeartbeats 2000000 in
theorem fnExactStrategyBelow_any (a b c : Bs) (w : World) (hg : Glob w) :
    Calls Tryd.prog 4 #[str a, str b, str c] w fun en w' => en = .returned (.bool true) ∧ Below w.heap.size w w' := by
  by_cases ha : 1048576 < a.length
  · have ha' : (1048576 : Int) < (a.length : Int) := by omega
    go_enter Tryd.func4, Tryd.ntmps4
    go_wp2_with fail
    go_ret
    exact ⟨rfl, Below.refl _ _⟩
  have ha' : ¬ (1048576 : Int) < (a.length : Int) := by omega
  by_cases hb : 1048576 < b.length
  · have hb' : (1048576 : Int) < (b.length : Int) := by omega
    go_enter Tryd.func4, Tryd.ntmps4
    go_wp2_with fail
    go_ret
    exact ⟨rfl, Below.refl _ _⟩
  have hb' : ¬ (1048576 : Int) < (b.length : Int) := by omega
  by_cases hc : 1048576 < c.length
  · have hc' : (1048576 : Int) < (c.length : Int) := by omega
    go_enter Tryd.func4, Tryd.ntmps4
    go_wp2_with fail
    go_ret
    exact ⟨rfl, Below.refl _ _⟩
  have hc' : ¬ (1048576 : Int) < (c.length : Int) := by omega
  have la : Lim a.length := show _ ≤ _ by omega
  have lb : Lim b.length := show _ ≤ _ by omega
  have lc : Lim c.length := show _ ≤ _ by omega
  go_enter Tryd.func4, Tryd.ntmps4
  go_wp2_with fail
  refine (specBelow_any a b c la lb lc w).mono ?_
  rintro en w1 ⟨rfl, hb1⟩
  have hg1 := hg.below hb1
  generalize hx : belowOf (specStrat a b) (specStrat a c) = x
  have HX := Lib.hid hx; clear hx
  go_wp2_with fail
  refine (implBelow_any a b c la lb lc w1 hg1).mono ?_
  rintro en w2 ⟨rfl, hb2⟩
  have hbb := hb1.trans (hb2.mono hb1.size)
  rw [HX.out]
  have hx : (x != x) = false := by simp
  go_wp2_with fail
  go_ret
  exact ⟨rfl, hbb⟩

end Go.Proofs.YteeakelcmlmeiaaDoor

/- The walks of both depths of strategies. -/
import Derived.Test.YteeakelcmlmeiaaDoorP5
namespace Go.Proofs.YteeakelcmlmeiaaDoor
open Go.RowKit

def depthOf (o : Option Bd) : Int := match o with
  | some b => (depthB b : Int)
  | none => -1

theorem specStrat_size {s text : Bs} {b : Bd} (hq : specStrat s text = some b) : sizeB b ≤ 200 := by
  unfold specStrat at hq
  split at hq
  · simp at hq
  · split at hq
    · simp at hq
    · split at hq
      · rename_i h; simp at hq; subst hq; exact h.2
      · simp at hq
theorem rdTS_size {s text : Bs} {t : Ty} {b : Bd} (hq : rdTS s text = some (t, b)) : sizeB b ≤ 200 := by
  rw [rdTS_eq, Option.map_eq_some_iff] at hq
  obtain ⟨b', h, e⟩ := hq
  simp at e; rw [← e.2]; exact specStrat_size h

set_option maxRecDepth 100000 in
set_option maxHeartbeats 2000000 in
theorem specDepth_any (s text : Bs) (hs : Lim s.length) (hl : Lim text.length) (w : World) :
    Calls Tryd.prog 8 #[str s, str text] w fun en w' => en = .returned (.int .i64 (depthOf (specStrat s text))) ∧ Below w.heap.size w w' := by
  go_enter Tryd.func8, Tryd.ntmps8
  go_wp2_with fail
  refine (l3Strategy_any s text hs hl w).mono ?_
  rintro en w1 ⟨a, c, s', v', a2, n2, c2, a3, n3, c3, rfl, hb1, _, hrs⟩
  cases hq : specStrat s text with
  | none =>
    have HQ := Lib.hid hq; clear hq hrs
    simp only [Option.isSome_none]
    go_wp2_with fail
    go_ret
    exact ⟨ret_i64 (by rw [HQ.out]; rfl), (hb1.alloc hb1.size _).alloc (by have := hb1.size; simp; omega) _⟩
  | some b =>
    have hr := hrs b hq
    have hsz := specStrat_size hq
    have HQ := Lib.hid hq; clear hq hrs
    simp only [Option.isSome_some]
    go_wp2_with fail
    refine (l3Deep_any 200 b hsz (show _ ≤ _ by omega) (w.heap.size ≤ ·) _ _ _ _ _ _ _ _ _ (by exact (Rep.keep fun b o h ho => ⟨h, heap_past (heap_past ho)⟩).2 _ _ hr)).mono ?_
    rintro en w2 ⟨rfl, hb2⟩
    go_wp2_with fail
    go_ret
    refine ⟨ret_i64 (by rw [HQ.out]; rfl), ?_⟩
    have h1 : Below w.heap.size w ((w1.alloc (.cells #[.slice a (specType s).1.args.length c] 31)).alloc (.cells #[str s', .int .i64 v', .slice a2 n2 c2, .slice a3 n3 c3] 34)) := (hb1.alloc hb1.size _).alloc (by have := hb1.size; simp; omega) _
    exact h1.trans (hb2.mono h1.size)

set_option maxHeartbeats 2000000 in
theorem implDepth_any (s text : Bs) (hs : Lim s.length) (hl : Lim text.length) (w : World) (hg : Glob w) :
    Calls Tryd.prog 9 #[str s, str text] w fun en w' => en = .returned (.int .i64 (depthOf ((rdTS s text).map Prod.snd))) ∧ Below w.heap.size w w' := by
  go_enter Tryd.func9, Tryd.ntmps9
  go_wp2_with fail
  refine (strategy_any s text w hg hs hl).mono ?_
  rintro en w1 ⟨kv, bv, rfl, hb1, hn, hy⟩
  cases hq : rdTS s text with
  | none =>
    obtain rfl := hn hq
    have HQ := Lib.hid hq; clear hq hn hy
    go_wp2_with fail
    go_ret
    exact ⟨ret_i64 (by rw [HQ.out]; rfl), hb1⟩
  | some x =>
    obtain ⟨t, b⟩ := x
    obtain ⟨hk, hr⟩ := hy t b hq
    have hsz : Lim (sizeB b) := (show _ ≤ _ by have := rdTS_size hq; omega)
    have HQ := Lib.hid hq; clear hq hn hy
    obtain ⟨ab, eb⟩ := encB_ptr hr
    subst eb
    go_wp2_with fail
    refine (depth_any (sizeB b) b (Nat.le_refl _) hsz _ _ _ hr).mono ?_
    rintro en w2 ⟨rfl, hb2⟩
    go_wp2_with fail
    go_ret
    exact ⟨ret_i64 (by rw [HQ.out]; rfl), hb1.trans (hb2.mono hb1.size)⟩

end Go.Proofs.YteeakelcmlmeiaaDoor

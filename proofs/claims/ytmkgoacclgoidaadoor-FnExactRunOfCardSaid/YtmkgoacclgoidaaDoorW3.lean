/- The walks of slices.Grow (of nil), slices.Concat at a list of types. -/
import Derived.Test.YtmkgoacclgoidaaDoorW2
namespace Go.Proofs.YtmkgoacclgoidaaDoor
open Go.RowKit

set_option maxHeartbeats 400000 in
theorem growK_any (n : Nat) (w : World) (hn : Lim n) :
    Calls Tryd.prog 108 #[.slice none 0 0, .int .i64 n] w fun en w' =>
      ∃ a c, en = .returned (.slice a 0 c) ∧ Own w' 64 1 (.slice a 0 c) 0 [] ∧ Below w.heap.size w w' ∧ (∀ g, (Value.slice a 0 c).ownBlock = some g → w.heap.size ≤ g) := by
  have hl := hn.le
  by_cases h0 : n = 0
  · subst h0
    go_enter Tryd.func108, Tryd.ntmps108
    go_wp2_with fail
    go_ret
    exact ⟨none, 0, rfl, World.ownsRow_nil _ _ _ _, Below.refl _ _, fun g h => by simp [Value.ownBlock] at h⟩
  · have h1 : 0 < n := by omega
    clear h0
    go_enter Tryd.func108, Tryd.ntmps108
    go_wp2_with (at_builtin; refine wpList_append_zeros rfl _ _ 94 3 rfl 64 (.pointer none) 1 8 Tryd.underlying94 Tryd.underlying3 Tryd.infoK rfl (by decide) (by decide) rfl n rfl h1 hl ?_)
    intro cap c hc1 hc2 hc3
    go_wp2_with fail
    go_ret
    exact ⟨_, cap, rfl, ⟨by simp, .inr ⟨w.heap.size, cap, c, rfl, Nat.zero_le _, heap_new w _, Nat.zero_le _, hc2, by simpa using hc3, by simp⟩⟩, ((Below.refl _ _).alloc (Nat.le_refl _) _).drew, fun g h => by simp [Value.ownBlock] at h; omega⟩

theorem SrcSl.slice {size : Nat} {x : Value} {m : Nat} {news : List Value} {w : World} (h : SrcSl size x m news w) : ∃ a c, x = .slice a m c := by
  obtain ⟨_, _, ⟨a, c, rfl, _⟩ | ⟨rfl, rfl⟩⟩ := h
  · exact ⟨_, _, rfl⟩
  · exact ⟨_, _, rfl⟩

theorem SrcSl.below {w w' : World} {size : Nat} {x : Value} {m : Nat} {news : List Value} (hb : Below w.heap.size w w') (h : SrcSl size x m news w) : SrcSl size x m news w' :=
  h.keep fun a v hv => by rw [hb.cell (World.block_lt_of_cell? w a hv)]; exact hv

/-- What holds at each round of Concat's second loop. -/
def CatRel (e : TypeId) (w : World) (n1 n2 : Nat) (xs1 xs2 : List Value) (v i : Value) (wr : World) : Prop :=
  ∃ k m xs a c, i = .int .i64 (k : Nat) ∧ v = .slice a m c ∧ Own wr e 1 (.slice a m c) m xs ∧ Below w.heap.size w wr ∧ (∀ g, (Value.slice a m c).ownBlock = some g → w.heap.size ≤ g) ∧
    ((k = 0 ∧ m = 0 ∧ xs = []) ∨ (k = 1 ∧ m = n1 ∧ xs = xs1) ∨ (k = 2 ∧ m = n1 + n2 ∧ xs = xs1 ++ xs2))

theorem CatRel.next {e : TypeId} {w : World} {n1 n2 : Nat} {xs1 xs2 : List Value} {k m m' : Nat} {xs : List Value} {a a' : Option Addr} {c c' : Nat} {wr w' : World}
    (ho : Own w' e 1 (.slice a' m' c') m' xs) (hb : Below w.heap.size w wr) (hbut : But (fun b => (Value.slice a m c).ownBlock = some b) wr w')
    (hf : ∀ g, (Value.slice a m c).ownBlock = some g → w.heap.size ≤ g) (hg : ∀ g, (Value.slice a' m' c').ownBlock = some g → (Value.slice a m c).ownBlock = some g ∨ g = wr.heap.size)
    (hk : (k = 0 ∧ m' = 0 ∧ xs = []) ∨ (k = 1 ∧ m' = n1 ∧ xs = xs1) ∨ (k = 2 ∧ m' = n1 + n2 ∧ xs = xs1 ++ xs2)) : CatRel e w n1 n2 xs1 xs2 (.slice a' m' c') (.int .i64 (k : Nat)) w' :=
  ⟨k, m', xs, a', c', rfl, rfl, ho, hb.trans (hbut.toBelow hb.size fun i hi h => by have := hf i h; omega), fun g h => by
    rcases hg g h with h | h
    · exact hf g h
    · have := hb.size; omega, hk⟩

set_option maxHeartbeats 1000000 in
theorem concatK_any (b n1 n2 : Nat) (s1 s2 : Value) (xs1 xs2 : List Value) (w : World) (c1 : w.cell? ⟨b, 0, none⟩ = some s1) (c2 : w.cell? ⟨b, 1, none⟩ = some s2)
    (h1 : SrcSl 1 s1 n1 xs1 w) (h2 : SrcSl 1 s2 n2 xs2 w) (hn1 : Lim n1) (hn2 : Lim n2) (hn : Lim (n1 + n2)) :
    Calls Tryd.prog 99 #[.slice (some ⟨b, 0, none⟩) 2 2] w fun en w' =>
      ∃ a c, en = .returned (.slice a (n1 + n2) c) ∧ Own w' 64 1 (.slice a (n1 + n2) c) (n1 + n2) (xs1 ++ xs2) ∧ Below w.heap.size w w' ∧ (∀ g, (Value.slice a (n1 + n2) c).ownBlock = some g → w.heap.size ≤ g) := by
  obtain ⟨a1, k1, rfl⟩ := h1.slice
  obtain ⟨a2, k2, rfl⟩ := h2.slice
  have hl := hn.le; have hl1 := hn1.le; have hl2 := hn2.le
  have lb : b < w.heap.size := World.block_lt_of_cell? w _ c1
  go_enter Tryd.func99, Tryd.ntmps99
  go_wp2_with fail
  go_loop [3, 11] (fun n i => (i = .int .i64 0 ∧ n = .int .i64 0) ∨ (i = .int .i64 1 ∧ n = .int .i64 n1) ∨ (i = .int .i64 2 ∧ n = .int .i64 ((n1 : Int) + (n2 : Int)))) (fun _ i => 2 - (intOf i).toNat)
  case atStart => exact .inl ⟨rfl, rfl⟩
  case round =>
    rcases hrel with ⟨rfl, rfl⟩ | ⟨rfl, rfl⟩ | ⟨rfl, rfl⟩
    · go_wp2_with fail
      go_round
      case rel => exact .inr (.inl ⟨rfl, rfl⟩)
      case measure => simp [intOf]
    · go_wp2_with fail
      go_round
      case rel => exact .inr (.inr ⟨rfl, rfl⟩)
      case measure => simp [intOf]
    · go_wp2_with fail
      rw [show (n1 : Int) + (n2 : Int) = ((n1 + n2 : Nat) : Int) from by omega]
      refine (growK_any (n1 + n2) w hn).mono ?_
      rintro en wg ⟨ag, cg, rfl, hog, hbg, hfg⟩
      have hcat : CatRel 64 w n1 n2 xs1 xs2 (.slice ag 0 cg) (.int .i64 (0 : Nat)) wg := ⟨0, 0, [], ag, cg, rfl, rfl, hog, hbg, hfg, .inl ⟨rfl, rfl, rfl⟩⟩
      clear hog hbg hfg
      go_wp2_with fail
      go_loopw [6, 27] (fun v i wr => CatRel 64 w n1 n2 xs1 xs2 v i wr) (fun _ i _ => 2 - (intOf i).toNat)
      case atStart => exact hcat
      case round =>
        rename_i wr
        obtain ⟨k, m, xs, a, c, rfl, rfl, ho, hb, hf, hk⟩ := hrel
        have d1 : wr.cell? ⟨b, 0, none⟩ = some (.slice a1 n1 k1) := by rw [hb.cell lb]; exact c1
        have d2 : wr.cell? ⟨b, 1, none⟩ = some (.slice a2 n2 k2) := by rw [hb.cell lb]; exact c2
        have g1 := h1.below hb; have g2 := h2.below hb
        have HF := Lib.hid hf; clear hf
        rcases hk with ⟨rfl, rfl, rfl⟩ | ⟨rfl, rfl, rfl⟩ | ⟨rfl, rfl, rfl⟩
        · go_wp2_with (at_builtin; refine wpList_append_gen rfl _ _ 94 rfl 64 (.pointer none) 1 8 Tryd.underlying94 Tryd.infoK rfl (by decide) _ 0 [] rfl ho _ n1 xs1 rfl g1 ?c3 ?c4 ?_)
          case c3 => unfold maxLen; omega
          case c4 => omega
          intro a' c' w' ho' hb' hg'
          have hcat := CatRel.next (n1 := n1) (n2 := n2) (xs1 := xs1) (xs2 := xs2) (k := 1) ho' hb hb' HF.out hg' (.inr (.inl ⟨rfl, rfl, rfl⟩))
          clear hb' hg' ho' HF
          go_wp2_with fail
          go_roundw
          case rel => exact hcat
          case measure => simp [intOf]
        · go_wp2_with (at_builtin; refine wpList_append_gen rfl _ _ 94 rfl 64 (.pointer none) 1 8 Tryd.underlying94 Tryd.infoK rfl (by decide) _ m xs rfl ho _ n2 xs2 rfl g2 ?c3 ?c4 ?_)
          case c3 => unfold maxLen; omega
          case c4 => omega
          intro a' c' w' ho' hb' hg'
          have hcat := CatRel.next (n1 := m) (n2 := n2) (xs1 := xs) (xs2 := xs2) (k := 2) ho' hb hb' HF.out hg' (.inr (.inr ⟨rfl, rfl, rfl⟩))
          clear hb' hg' ho' HF
          go_wp2_with fail
          go_roundw
          case rel => exact hcat
          case measure => simp [intOf]
        · go_wp2_with fail
          go_ret
          exact ⟨a, c, rfl, ho, hb, HF.out⟩
end Go.Proofs.YtmkgoacclgoidaaDoor

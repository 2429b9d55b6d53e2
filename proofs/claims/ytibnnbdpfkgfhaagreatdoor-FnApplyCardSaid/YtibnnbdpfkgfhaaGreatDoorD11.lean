/- What is drawn: a type, a strategy and strategies for some arguments, or for one. -/
import Derived.Test.YtibnnbdpfkgfhaaGreatDoorD10
namespace Go.Proofs.YtibnnbdpfkgfhaaGreatDoor
open Go.RowKit

theorem but_of_drew {m : Nat → Prop} {w w' : World} (h : But m w.drew w') : But m w w' := ⟨h.os, h.tape, h.output, h.size, h.block⟩
theorem StrsNew.take {B : Nat} {w : World} {a : Option Addr} {xs : List Bs} (h : StrsNew B w a xs) (n : Nat) : StrsNew B w a (xs.take n) := fun k s hs => by
  rw [List.getElem?_take] at hs
  split at hs
  · exact h k s hs
  · simp at hs
theorem StrsNew.low {B C : Nat} {w : World} {a : Option Addr} {xs : List Bs} (h : StrsNew B w a xs) (hC : C ≤ B) : StrsNew C w a xs := fun k s hs => by
  obtain ⟨b, o, e, h1, h2⟩ := h k s hs
  exact ⟨b, o, e, Nat.le_trans hC h1, h2⟩

set_option maxHeartbeats 2000000 in
theorem drawApplyAll_any (a0 : Option Addr) (len cap : Nat) (zs : List Int) (w : World) (h : Row8 w a0 len cap zs) (hl : len ≤ 1048576) :
    Calls Tryz.prog 20 #[.slice a0 len cap] w (DrawnA w) := by
  go_enter Tryz.func20, Tryz.ntmps20
  go_wp2_with fail
  refine (l6Open_any a0 len cap zs w h hl).mono ?_
  rintro en w1 ⟨rfl, hb1, hr1, hs1⟩
  clear h
  go_wp2_with fail
  refine (l91Given_any w.heap.size 0 w1 hr1 (by omega)).mono ?_
  rintro en w2 ⟨s, text, rfl, hs, ht, hb2, hr2⟩
  have HB2 := Lib.hid (but_new hb1 (Nat.le_refl _) hb2); clear hb1 hb2 hr1
  go_wp2_with fail
  refine (l91Args_any w.heap.size (0 + 6500) s (show _ ≤ _ by omega) w2 hr2 (by omega)).mono ?_
  rintro en w3 ⟨xs, a, c, rfl, hl3, hc3, hx3, hn3, hb3, hr3⟩
  have hlt2 := hr2.lt
  have HB3 := Lib.hid (but_new HB2.out (Nat.le_refl _) hb3); have HN3 := Lib.hid (And.intro hx3 (And.intro hn3 hlt2)); clear hb3 hr2 hn3 hx3 hlt2
  have C1 := pick_any w.heap.size (0 + 6500 + 100000) (xs.length + 1) w3.drew hr3.drew (by omega) (by omega) (by omega)
  have e1 : ((xs.length + 1 : Nat) : Int) = (xs.length : Int) + 1 := by omega
  rw [e1] at C1
  have C1 := Lib.hid C1
  have hw : IntKind.i64.wrap ((xs.length : Int) + 1) = (xs.length : Int) + 1 := IntWalk.i64_in _ (by omega)
  clear e1 hr3 hs1
  go_wp2_with fail
  go_region_with (go_at_call 51; refine C1.out.mono ?_; rintro en4 w4 ⟨k, rfl, hk, hb4, hr4⟩; have hk1 : k ≤ c := by omega)
  all_goals go_wp2_with fail
  all_goals
    refine bodyPost_ret (v := .tuple #[str s, str text, .slice a k c]) (by simp [results, Tryz.results20, go_sem]) rfl ?_
    refine ⟨s, text, xs.take k, a, c, by rw [List.length_take, Nat.min_eq_left (by omega)], hs, ht, by rw [List.length_take]; omega, by rw [List.length_take]; omega, fun x hx => HN3.out.1 x (List.mem_of_mem_take hx), ?_, but_new HB3.out (Nat.le_refl _) (but_of_drew hb4)⟩
    exact ((HN3.out.2.1.but (but_of_drew hb4) HN3.out.2.2).take k).low (by have := HN3.out.2.2; omega)

/-- A type, a strategy and one for its first argument, drawn. -/
def Drawn3 (w : World) (en : Ending) (w' : World) : Prop := ∃ s m n : Bs, en = .returned (.tuple #[str s, str m, str n]) ∧ s.length ≤ 100 ∧ m.length ≤ 100000 ∧ n.length ≤ 100000 ∧ Below w.heap.size w w'

set_option maxHeartbeats 2000000 in
theorem drawApplyOf_any (a0 : Option Addr) (len cap : Nat) (zs : List Int) (w : World) (h : Row8 w a0 len cap zs) (hl : len ≤ 1048576) :
    Calls Tryz.prog 28 #[.slice a0 len cap] w (Drawn3 w) := by
  go_enter Tryz.func28, Tryz.ntmps28
  go_wp2_with fail
  refine (l6Open_any a0 len cap zs w h hl).mono ?_
  rintro en w1 ⟨rfl, hb1, hr1, hs1⟩
  clear h
  go_wp2_with fail
  refine (l91Given_any w.heap.size 0 w1 hr1 (by omega)).mono ?_
  rintro en w2 ⟨s, text, rfl, hs, ht, hb2, hr2⟩
  have HB2 := Lib.hid (but_new hb1 (Nat.le_refl _) hb2); clear hb1 hb2 hr1
  go_wp2_with fail
  refine (l91Args_any w.heap.size (0 + 6500) s (show _ ≤ _ by omega) w2 hr2 (by omega)).mono ?_
  rintro en w3 ⟨xs, a, c, rfl, hl3, hc3, hx3, hn3, hb3, hr3⟩
  have hlt2 := hr2.lt
  have HB3 := Lib.hid (but_new HB2.out (Nat.le_refl _) hb3); have HN3 := Lib.hid (And.intro hx3 (And.intro hn3 hlt2)); clear hb3 hr2 hn3 hx3 hlt2 hs1
  by_cases h0 : xs.length = 0
  · have h0' : ((xs.length : Int) == 0) = true := by rw [h0]; rfl
    clear h0
    go_wp2_with fail
    refine bodyPost_ret (v := .tuple #[str s, str text, str [116]]) (by simp [results, Tryz.results28, go_sem]) rfl ?_
    exact ⟨s, text, [116], rfl, hs, ht, by simp, HB3.out⟩
  · have h0' : ((xs.length : Int) == 0) = false := by rw [beq_eq_false_iff_ne]; omega
    have hpos : (0 : Int) < (xs.length : Int) := by omega
    have C1 := Lib.hid (pick_any w.heap.size (0 + 6500 + 100000) 20 w3 hr3 (by omega) (by omega) (by omega))
    obtain ⟨x, hx⟩ : ∃ x, xs[0]? = some x := ⟨xs[0], by simp [Nat.pos_of_ne_zero h0]⟩
    have hxl := HN3.out.1 x (List.mem_of_getElem? hx)
    obtain ⟨b, o, e, hB, hc⟩ := HN3.out.2.1 0 x hx
    subst e
    have hlt3 := World.block_lt_of_cell? w3 _ hc
    have HX := Lib.hid (And.intro hc (And.intro hB hlt3))
    clear h0 hx hr3 hc hB hlt3
    go_wp2_with fail
    refine C1.out.mono ?_
    rintro en w4 ⟨v, rfl, hv, hb4, _⟩
    have q0 : w4.cell? ⟨b, o + 0, none⟩ = some (str x) := (hb4.cell (p := ⟨b, o + 0, none⟩) HX.out.2.2 (fun e => by have e2 : b = w.heap.size := e; have := HX.out.2.1; have := HN3.out.2.2; omega)).trans HX.out.1
    have HB4 := Lib.hid (but_new HB3.out (Nat.le_refl _) hb4); clear hb4 C1
    by_cases hv0 : v = 0
    · subst hv0
      clear q0
      go_wp2_with fail
      refine bodyPost_ret (v := .tuple #[str s, str text, str [116]]) (by simp [results, Tryz.results28, go_sem]) rfl ?_
      exact ⟨s, text, [116], rfl, hs, ht, by simp, HB4.out⟩
    · have hv1 : ((v : Int) == 0) = false := by rw [beq_eq_false_iff_ne]; omega
      have q1 : w4.drew.cell? ⟨b, o, none⟩ = some (str x) := q0
      have hposn : 0 < xs.length := by omega
      clear hv0 q0
      go_wp2_with fail
      go_region
      all_goals go_wp2_with fail
      all_goals
        refine bodyPost_ret (v := .tuple #[str s, str text, str x]) (by simp [results, Tryz.results28, go_sem]) rfl ?_
        exact ⟨s, text, x, rfl, hs, ht, hxl, HB4.out.drew⟩

end Go.Proofs.YtibnnbdpfkgfhaaGreatDoor

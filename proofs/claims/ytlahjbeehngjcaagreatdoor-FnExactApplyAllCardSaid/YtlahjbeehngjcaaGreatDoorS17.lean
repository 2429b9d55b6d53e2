import Derived.Test.YtlahjbeehngjcaaGreatDoorP8
import Derived.Deep.QuietTactic
import Derived.BigQuiet
import Derived.Laws.MakeOwn

/- The walks of the law's words on slices of strings: szStringS, eqStringS. -/
namespace Go.Proofs.YtlahjbeehngjcaaGreatDoor
open Go.RowKit

/-- A slice of strings, read. -/
def StrsAt (w : World) (a : Option Addr) (xs : List Bs) : Prop := ∀ (k : Nat) (s : Bs), xs[k]? = some s → ∃ b o, a = some ⟨b, o, none⟩ ∧ w.cell? ⟨b, o + k, none⟩ = some (str s)
theorem StrsAt.below {w w' : World} {a : Option Addr} {xs : List Bs} (h : StrsAt w a xs) (hb : Below w.heap.size w w') : StrsAt w' a xs := fun k s hs => by
  obtain ⟨b, o, e, hc⟩ := h k s hs
  exact ⟨b, o, e, (hb.cell (World.block_lt_of_cell? w _ hc)).trans hc⟩

def Sized (left : Nat) (xs : List Bs) (w : World) (en : Ending) (w' : World) : Prop :=
  w' = w ∧ (en = .returned (.int .i64 (-1)) ∨ ∃ r : Nat, en = .returned (.int .i64 (r : Nat)) ∧ xs.length ≤ left ∧ ∀ s ∈ xs, s.length ≤ left)

set_option maxHeartbeats 2000000 in
theorem szStringS_any (left : Nat) (a : Option Addr) (c : Nat) (xs : List Bs) (w : World) (h : StrsAt w a xs) (hl : left ≤ 16777216) (hx : xs.length ≤ 9223372036854775807) (hs : ∀ s ∈ xs, s.length ≤ 9223372036854775807) :
    Calls Tryz.prog 16 #[.slice a xs.length c, .int .i64 (left : Nat)] w (Sized left xs w) := by
  have H := Lib.hid h; have HS := Lib.hid hs; clear h hs
  by_cases h0 : left < xs.length
  · have h1 : (left : Int) - (xs.length : Int) < 0 := by omega
    go_enter Tryz.func16, Tryz.ntmps16
    go_wp2_with fail
    go_ret
    exact ⟨rfl, .inl rfl⟩
  have h1 : ¬ (left : Int) - (xs.length : Int) < 0 := by omega
  have hxl : xs.length ≤ 16777216 := by omega
  go_enter Tryz.func16, Tryz.ntmps16
  go_wp2_with fail
  go_loopw [1, 5] (fun l i wr => ∃ k r : Nat, k ≤ xs.length ∧ i = .int .i64 k ∧ l = .int .i64 (r : Nat) ∧ r ≤ left ∧ (∀ s ∈ xs.take k, s.length ≤ left) ∧ wr = w) (fun _ i _ => xs.length - (intOf i).toNat)
  case atStart => exact ⟨0, left - xs.length, Nat.zero_le _, rfl, by go_num, by omega, by simp, rfl⟩
  case round =>
    obtain ⟨k, r, hk, rfl, rfl, hr, hall, rfl⟩ := hrel
    have HA := Lib.hid hall; clear hall
    by_cases hlt : k < xs.length
    · obtain ⟨s, hks⟩ : ∃ s, xs[k]? = some s := ⟨xs[k], by simp [hlt]⟩
      obtain ⟨b, o, e, hc⟩ := H.out k s hks
      subst e
      have hs9 := HS.out s (List.mem_of_getElem? hks)
      have HK := Lib.hid hks; clear hks
      have hlt' : (k : Int) < (xs.length : Int) := by omega
      by_cases hneg : r < s.length
      · have hneg' : (r : Int) - (s.length : Int) < 0 := by omega
        go_wp2_with fail
        go_ret
        exact ⟨rfl, .inl rfl⟩
      · have hneg' : ¬ (r : Int) - (s.length : Int) < 0 := by omega
        have hsl : s.length ≤ 16777216 := by omega
        have HA2 : Hid (∀ x ∈ xs.take (k + 1), x.length ≤ left) := by
          show ∀ x ∈ xs.take (k + 1), x.length ≤ left
          intro x hx
          rw [List.take_add_one, HK.out] at hx
          rcases List.mem_append.1 hx with hx | hx
          · exact HA.out x hx
          · simp at hx; subst hx; omega
        go_wp2_with fail
        go_roundw
        case rel => exact ⟨k + 1, r - s.length, by omega, by go_num, by go_num, by omega, HA2.out, trivial⟩
        case measure => simp [intOf]; omega
    · obtain rfl : k = xs.length := by omega
      go_wp2_with fail
      go_ret
      exact ⟨rfl, .inr ⟨r, rfl, by omega, by have := HA.out; rwa [List.take_length] at this⟩⟩

set_option maxHeartbeats 2000000 in
theorem eqStringS_any (a a' : Option Addr) (c c' : Nat) (xs : List Bs) (w : World) (h : StrsAt w a xs) (h' : StrsAt w a' xs) (hx : xs.length ≤ 16777216) :
    Calls Tryz.prog 20 #[.slice a xs.length c, .slice a' xs.length c'] w fun en w' => en = .returned (.bool true) ∧ Below w.heap.size w w' := by
  have H := Lib.hid h; have H' := Lib.hid h'; clear h h'
  go_enter Tryz.func20, Tryz.ntmps20
  go_wp2_with fail
  go_loopw [5] (fun i wr => ∃ k : Nat, k ≤ xs.length ∧ i = .int .i64 k ∧ Below w.heap.size w wr) (fun i _ => xs.length - (intOf i).toNat)
  case atStart => exact ⟨0, Nat.zero_le _, rfl, Below.refl _ _⟩
  case round =>
    obtain ⟨k, hk, rfl, hb⟩ := hrel
    by_cases hlt : k < xs.length
    · obtain ⟨s, hks⟩ : ∃ s, xs[k]? = some s := ⟨xs[k], by simp [hlt]⟩
      obtain ⟨b, o, e, hc⟩ := H.out.below hb k s hks
      obtain ⟨b2, o2, e2, hc2⟩ := H'.out.below hb k s hks
      subst e; subst e2
      clear hks
      have hlt' : (k : Int) < (xs.length : Int) := by omega
      have hne : (s == s) = true := by simp
      have HB := Lib.hid hb; clear hb
      go_wp2_with fail
      go_quiet (fail)
      go_wp2_with fail
      go_roundw
      case rel => exact ⟨k + 1, by omega, by go_num, below_dN HB.out _⟩
      case measure => simp [intOf]; omega
    · obtain rfl : k = xs.length := by omega
      go_wp2_with fail
      go_ret
      exact ⟨rfl, hb⟩

end Go.Proofs.YtlahjbeehngjcaaGreatDoor

/- The walk of the law's word toStringS. -/
namespace Go.Proofs.YtlahjbeehngjcaaGreatDoor
open Go.RowKit

theorem Tryz.infoStr : (Tryz.prog.info? 9).map (fun i => (i.zero, i.size, i.bytes)) = some (some (str []), 1, 16) := by kernel_rfl

/-- A row that is filled from its beginning on. -/
def Made (g : Nat) (xs : List Bs) (k : Nat) (w : World) : Prop :=
  ∃ Y : Array Value, w.heap[g]? = some (.cells Y 9 (0, 0)) ∧ Y.size = xs.length ∧ ∀ (j : Nat) (s : Bs), j < k → xs[j]? = some s → Y[j]? = some (str s)
theorem Made.cell {g : Nat} {xs : List Bs} {k : Nat} {w : World} (h : Made g xs k w) (hk : k < xs.length) : (∃ u, w.cell? ⟨g, k, none⟩ = some u) ∧ w.frozen? ⟨g, k, none⟩ = false := by
  obtain ⟨Y, hY, hs, _⟩ := h
  exact ⟨⟨Y[k]'(by omega), by simp [World.cell?, hY, show k < Y.size by omega]⟩, by simp [World.frozen?, hY]⟩
theorem Made.put {g : Nat} {xs : List Bs} {k : Nat} {w : World} (h : Made g xs k w) {s : Bs} (hk : xs[k]? = some s) : Made g xs (k + 1) (w.setCell ⟨g, k, none⟩ (str s)) := by
  obtain ⟨Y, hY, hs, hj⟩ := h
  refine ⟨Y.setIfInBounds k (str s), setCell_at hY, by simp [hs], fun j s' hj' hs' => ?_⟩
  have hlt := (List.getElem?_eq_some_iff.1 hk).1
  rcases Nat.lt_or_ge j k with h | h
  · rw [Array.getElem?_setIfInBounds_ne (by omega)]; exact hj j s' h hs'
  · obtain rfl : j = k := by omega
    rw [hk] at hs'; simp at hs'; subst hs'
    rw [Array.getElem?_setIfInBounds_self_of_lt (by omega)]

set_option maxRecDepth 100000 in
set_option maxHeartbeats 2000000 in
theorem toStringS_any (a : Option Addr) (c : Nat) (xs : List Bs) (w : World) (h : StrsAt w a xs) (hx : xs.length ≤ 16777216) :
    Calls Tryz.prog 18 #[.slice a xs.length c] w fun en w' => ∃ a' c', en = .returned (.slice a' xs.length c') ∧ StrsAt w' a' xs ∧ Below w.heap.size w w' := by
  have H := Lib.hid h; clear h
  obtain ⟨X, hX, hmk⟩ : ∃ X : Array Value, X.size = xs.length ∧ (Instr.makeSlice 27 (.int .i64 (xs.length : Int)) (.int .i64 (xs.length : Int))).run Tryz.prog w = .ok (.slice (some ⟨w.heap.size, 0, none⟩) xs.length xs.length) (w.alloc (.cells X 9)) := by
    obtain ⟨i, hi, hz, hsize, hby⟩ := info_parts Tryz.infoStr
    have hr := run_makeSlice (P := Tryz.prog) w 27 9 i _ Tryz.underlying27 hi hz .i64 .i64 (xs.length : Int) (xs.length : Int) (by omega) (by omega) (by rw [hsize]; simp; omega) (by rw [hby]; omega) (by omega)
    simp only [Int.toNat_natCast] at hr
    exact ⟨_, by rw [size_madeCells, hsize, Nat.mul_one], hr⟩
  have HX := Lib.hid hX; clear hX
  go_enter Tryz.func18, Tryz.ntmps18
  go_wp2_with fail
  go_loopw [4] (fun i wr => ∃ k : Nat, k ≤ xs.length ∧ i = .int .i64 k ∧ Below w.heap.size w wr ∧ Made w.heap.size xs k wr) (fun i _ => xs.length - (intOf i).toNat)
  case atStart => exact ⟨0, Nat.zero_le _, rfl, (Below.refl _ _).alloc (Nat.le_refl _) _, X, heap_new _ _, HX.out, fun j s h => by omega⟩
  case round =>
    clear hmk
    obtain ⟨k, hk, rfl, hb, hm⟩ := hrel
    by_cases hlt : k < xs.length
    · obtain ⟨s, hks⟩ : ∃ s, xs[k]? = some s := ⟨xs[k], by simp [hlt]⟩
      obtain ⟨b, o, e, hc⟩ := H.out.below hb k s hks
      subst e
      obtain ⟨⟨u, hu⟩, hf⟩ := hm.cell hlt
      have HP := Lib.hid (hm.put hks); have HB := Lib.hid hb
      clear hks hm hb
      have hlt' : (k : Int) < (xs.length : Int) := by omega
      go_wp2_with fail
      go_roundw
      case rel => exact ⟨k + 1, by omega, by go_num, HB.out.setCell (p := ⟨w.heap.size, k, none⟩) (Nat.le_refl _) _, HP.out⟩
      case measure => simp [intOf]; omega
    · obtain rfl : k = xs.length := by omega
      go_wp2_with fail
      go_ret
      refine ⟨_, _, rfl, fun j s hs => ?_, hb⟩
      obtain ⟨Y, hY, hsz, hj⟩ := hm
      refine ⟨_, 0, rfl, ?_⟩
      rw [Nat.zero_add]
      simp only [World.cell?, hY]
      simpa using hj j s (List.getElem?_eq_some_iff.1 hs).1 hs

end Go.Proofs.YtlahjbeehngjcaaGreatDoor

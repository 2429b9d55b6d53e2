import Derived.Test.YtibnnbdpfkgfhaaGreatDoorS15
import Derived.Deep.QuietTactic
import Derived.BigQuiet
import Derived.Laws.MakeOwn

/- The walks of the law's words on slices of strings: szStringS, eqStringS. -/
namespace Go.Proofs.YtibnnbdpfkgfhaaGreatDoor
open Go.RowKit

def Sized (left : Nat) (xs : List Bs) (w : World) (en : Ending) (w' : World) : Prop :=
  w' = w ∧ (en = .returned (.int .i64 (-1)) ∨ ∃ r : Nat, en = .returned (.int .i64 (r : Nat)) ∧ xs.length ≤ left ∧ ∀ s ∈ xs, s.length ≤ left)

end Go.Proofs.YtibnnbdpfkgfhaaGreatDoor

/- The walk of the law's word toStringS. -/
namespace Go.Proofs.YtibnnbdpfkgfhaaGreatDoor
open Go.RowKit

/-- A row that is filled from its beginning on. -/
def Made (g : Nat) (xs : List Bs) (k : Nat) (w : World) : Prop :=
  ∃ Y : Array Value, w.heap[g]? = some (.cells Y 9 (0, 0)) ∧ Y.size = xs.length ∧ ∀ (j : Nat) (s : Bs), j < k → xs[j]? = some s → Y[j]? = some (str s)
theorem Made.cell {g : Nat} {xs : List Bs} {k : Nat} {w : World} (h : Made g xs k w) (hk : k < xs.length) : (∃ u, w.cell? ⟨g, k, none⟩ = some u) ∧ w.frozen? ⟨g, k, none⟩ = false := by
  obtain ⟨Y, hY, hs, _⟩ := h
  exact ⟨⟨Y[k]'(by omega), by simp [World.cell?, hY, show k < Y.size by omega]⟩, by simp [World.frozen?, hY]⟩
theorem Made.put {g : Nat} {xs : List Bs} {k : Nat} {w : World} (h : Made g xs k w) {s : Bs} (hk : xs[k]? = some s) : Made g xs (k + 1) (w.setCell ⟨g, k, none⟩ (str s)) := by
  obtain ⟨Y, hY, hs, hj⟩ := h
  refine ⟨Y.setIfInBounds k (str s), setCell_at hY, by simp [hs], fun j s' hj' hs' => ?_⟩
  have hlt := (List.getElem?_eq_some_iff.1 hk).1
  rcases Nat.lt_or_ge j k with h | h
  · rw [Array.getElem?_setIfInBounds_ne (by omega)]; exact hj j s' h hs'
  · obtain rfl : j = k := by omega
    rw [hk] at hs'; simp at hs'; subst hs'
    rw [Array.getElem?_setIfInBounds_self_of_lt (by omega)]

end Go.Proofs.YtibnnbdpfkgfhaaGreatDoor

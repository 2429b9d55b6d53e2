/- The walk of the reference's writer of bodies. -/
import Derived.Test.YtohepefbogngfaaDoorD3
namespace Go.Proofs.YtohepefbogngfaaDoor
open Go.RowKit

/-- What stays while both answers are written. -/
abbrev KeepY (g : Nat) (ky : Value) (yb0 yo : Nat) (s0 v0 p0 q0 s1 v1 p1 q1 : Value) (w' : World) : Prop :=
  w'.cell? ⟨g, 3, none⟩ = some ky ∧ w'.cell? ⟨yb0, yo, none⟩ = some s0 ∧ w'.cell? ⟨yb0, yo + 1, none⟩ = some v0 ∧ w'.cell? ⟨yb0, yo + 2, none⟩ = some p0 ∧ w'.cell? ⟨yb0, yo + 3, none⟩ = some q0 ∧
    w'.cell? ⟨yb0, yo + 4, none⟩ = some s1 ∧ w'.cell? ⟨yb0, yo + 5, none⟩ = some v1 ∧ w'.cell? ⟨yb0, yo + 6, none⟩ = some p1 ∧ w'.cell? ⟨yb0, yo + 7, none⟩ = some q1
theorem KeepY.below {g : Nat} {ky : Value} {yb0 yo : Nat} {s0 v0 p0 q0 s1 v1 p1 q1 : Value} {w w' : World} (h : KeepY g ky yb0 yo s0 v0 p0 q0 s1 v1 p1 q1 w) (hb : Below w.heap.size w w') : KeepY g ky yb0 yo s0 v0 p0 q0 s1 v1 p1 q1 w' := by
  have key : ∀ (a : Addr) (v : Value), w.cell? a = some v → w'.cell? a = some v := fun a v ha => by
    rw [hb.cell (World.block_lt_of_cell? w _ ha)]; exact ha
  obtain ⟨h1, h2, h3, h4, h5, h6, h7, h8, h9⟩ := h
  exact ⟨key _ _ h1, key _ _ h2, key _ _ h3, key _ _ h4, key _ _ h5, key _ _ h6, key _ _ h7, key _ _ h8, key _ _ h9⟩

end Go.Proofs.YtohepefbogngfaaDoor

import Derived.Test.YtohepefbogngfaaDoorW9a
import Derived.Lib.SliceRun
import Derived.Deep.RegionHeld3

/- The walks of a body's parts, its depth and its size. -/
namespace Go.Proofs.YtohepefbogngfaaDoor
open Go.RowKit

def PartsPost (F : Nat → Prop) (w : World) (b : Bd) (en : Ending) (w' : World) : Prop :=
  ∃ v, en = .returned v ∧ Below w.heap.size w w' ∧ Rep (fun k => F k ∨ w.heap.size ≤ k) w' (.sl 46 1 (partsOf b).length (encBs (partsOf b))) v

theorem but_below {w wc w6 : World} {o : Obj} {v : Value} (hbb : Below w.heap.size w wc) (hb6 : But (fun b => v.ownBlock = some b) (wc.alloc o) w6)
    (hfc : ∀ g, v.ownBlock = some g → w.heap.size ≤ g) : Below w.heap.size w w6 := by
  refine (hbb.alloc hbb.size _).trans (hb6.toBelow ?_ ?_)
  · have := hbb.size
    show w.heap.size ≤ (wc.heap.push o).size
    rw [Array.size_push]; omega
  · intro i hi e
    have h : w.heap.size ≤ i := hfc i e
    omega
theorem but_below2 {w wc w6 : World} {v : Value} (hbb : Below w.heap.size w wc) (hb6 : But (fun b => v.ownBlock = some b) wc w6)
    (hfc : ∀ g, v.ownBlock = some g → w.heap.size ≤ g) : Below w.heap.size w w6 := by
  refine hbb.trans (hb6.toBelow hbb.size ?_)
  intro i hi e
  have h : w.heap.size ≤ i := hfc i e
  omega
theorem own_1 {w wc : World} {o : Obj} {v v' : Value} (hbb : Below w.heap.size w wc) (hfc : ∀ g, v.ownBlock = some g → w.heap.size ≤ g)
    (hg : ∀ g, v'.ownBlock = some g → v.ownBlock = some g ∨ g = (wc.alloc o).heap.size) : ∀ g, v'.ownBlock = some g → w.heap.size ≤ g := by
  intro g h
  rcases hg g h with h | h
  · exact hfc g h
  · have := hbb.size
    rw [h, size_alloc]; omega
theorem own_2 {w wc : World} {v v' : Value} (hbb : Below w.heap.size w wc) (hfc : ∀ g, v.ownBlock = some g → w.heap.size ≤ g)
    (hg : ∀ g, v'.ownBlock = some g → v.ownBlock = some g ∨ g = wc.heap.size) : ∀ g, v'.ownBlock = some g → w.heap.size ≤ g := by
  intro g h
  rcases hg g h with h | h
  · exact hfc g h
  · have := hbb.size
    rw [h]; omega
theorem own_ad {w : World} {o : Obj} {v : Value} (h : ∀ g, v.ownBlock = some g → (w.alloc o).drew.heap.size ≤ g) : ∀ g, v.ownBlock = some g → w.heap.size ≤ g := by
  intro g hg
  have := h g hg
  have h2 : (w.alloc o).drew.heap.size = w.heap.size + 1 := size_alloc w o
  omega

end Go.Proofs.YtohepefbogngfaaDoor

/- The walks of a body's depth and size. -/
namespace Go.Proofs.YtohepefbogngfaaDoor
open Go.RowKit

def depthSaid (b : Bd) : Prop := ∀ (F : Nat → Prop) (w : World) (v : Value), Rep F w (encB b) v →
  Calls Tryd.prog 137 #[v] w fun en w' => en = .returned (.int .i64 (depthB b : Nat)) ∧ Below w.heap.size w w'

end Go.Proofs.YtohepefbogngfaaDoor

/- The walk of impl's size of bodies. -/
namespace Go.Proofs.YtohepefbogngfaaDoor
open Go.RowKit

end Go.Proofs.YtohepefbogngfaaDoor

/- Words on nodes and levels of the reference. -/
import Derived.Test.YtibnnbdpfkgfhaaGreatDoorS7
namespace Go.Proofs.YtibnnbdpfkgfhaaGreatDoor
open Go.RowKit

theorem oneCell_encN {F : Nat → Prop} {w : World} {b : Bd} {us : List Value} (h : Reps F w (encN b) us) : ∀ u ∈ us, u.oneCell' = true := by
  obtain ⟨v, a2, c2, a3, c3, rfl, _⟩ := encN_open h
  simp [str, Value.oneCell']
theorem Tryz.infoBo : (Tryz.prog.info? 60).map (fun i => (i.zero, i.size, i.bytes)) = some (some (.agg #[.int .i64 0, str [], .int .i64 0, .slice none 0 0, .slice none 0 0, .slice none 0 0, .slice none 0 0, .int .i64 0, .int .i64 0]), 9, 144) := by kernel_rfl

end Go.Proofs.YtibnnbdpfkgfhaaGreatDoor

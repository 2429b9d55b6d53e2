/- The walks of the reference's levels at hand. -/
import Derived.Test.YtmkgoacclgoidaaDoorS2
namespace Go.Proofs.YtmkgoacclgoidaaDoor
open Go.RowKit

set_option maxRecDepth 100000 in
set_option maxHeartbeats 1000000 in
theorem l3Hand_any (F : Nat → Prop) (hand : List Ty) (t : Ty) (hv tv : Value) (w : World) (hh : Rep F w (.sl 54 1 hand.length (encSs hand)) hv) (ht : Rep F w (encS t) tv) (hl : Lim (hand.length + t.args.length)) :
    Calls Tryd.prog 62 #[hv, .agg #[tv]] w fun en w' =>
      ∃ a c, en = .returned (.slice a (hand ++ t.args).length c) ∧ Below w.heap.size w w' ∧ Rep (fun k => F k ∨ w.heap.size ≤ k) w' (.sl 54 1 (hand ++ t.args).length (encSs (hand ++ t.args))) (.slice a (hand ++ t.args).length c) := by
  have hl' := hl.le
  obtain ⟨xs1, hx1, g1⟩ := SrcSl.ofRep hh (oneCell_encSs _)
  have ht' := ht
  rw [encS_eq] at ht'
  obtain ⟨xs2, hx2, g2⟩ := SrcSl.ofRep ht' (oneCell_encSs _)
  obtain ⟨a1, c1, e1⟩ := g1.slice
  obtain ⟨a2, c2, e2⟩ := g2.slice
  subst e1; subst e2
  have hcA : (w.alloc (.cells #[.slice a2 t.args.length c2] 54)).cell? ⟨w.heap.size, 0, none⟩ = some (.slice a2 t.args.length c2) := by simp
  go_enter Tryd.func62, Tryd.ntmps62
  go_wp2_with fail
  go_region_held3 (fun w' => w'.cell? ⟨w.heap.size, 0, none⟩ = some (.slice a2 t.args.length c2))
    (first
      | exact (hbY.cell (by simp)).trans hcA
      | exact (hbX.cell (by simp)).trans hcA
      | go_keep)
    (first
      | (refine step_append_gen (by rfl) (.tmp 7) (.tmp 9) _ (by rfl) 54 (.agg #[.slice none 0 0]) 1 24 Tryd.underlying52 Tryd.infoS rfl (by omega) (.slice ax hand.length cx) hand.length xs1 (by rfl) (by exact hox) (.slice a2 t.args.length c2) t.args.length xs2 (by rfl) (by exact (g2.alloc _).below hbX) (by unfold maxLen; omega) (by omega) ?_; intro ay cy wy hoy hby hgy; obtain ⟨hbY, hfy⟩ := fresh_append hbX hfx hby hgy)
      | (refine step_append_gen (by rfl) (.tmp 5) (.tmp 6) _ (by rfl) 54 (.agg #[.slice none 0 0]) 1 24 Tryd.underlying52 Tryd.infoS rfl (by omega) (.slice (some ⟨w.heap.size + 1, 0, none⟩) 0 0) 0 [] (by rfl) (by exact (Own.litAt #[] 0 _ (by simp) (by decide) rfl).drew) (.slice a1 hand.length c1) hand.length xs1 (by rfl) (by exact ((g1.alloc _).alloc _).drew) (by unfold maxLen; omega) (by omega) ?_; rw [Nat.zero_add, List.nil_append]; intro ax cx wx hox hbx hgx; obtain ⟨hbX, hfx⟩ := fresh_append (((Below.refl _ _).alloc (Nat.le_refl _) _).drew) (own_some (by simp)) hbx hgx))
  go_wp2_with fail
  go_ret
  have hb1 : Below w.heap.size w (w.alloc (.cells #[.slice a2 t.args.length c2] 54)) := (Below.refl _ _).alloc (Nat.le_refl _) _
  have hbZ : Below w.heap.size w wy := hb1.trans (hbY.mono (by simp))
  rw [List.length_append]
  refine ⟨ay, cy, rfl, hbZ, ?_⟩
  rw [encSs_append]
  exact hoy.rep (fun g h => .inr (by have := hfy g h; simp at this; omega)) (Reps.append (hx1.below hbZ (fun _ h => .inl h)) (hx2.below hbZ (fun _ h => .inl h)))
end Go.Proofs.YtmkgoacclgoidaaDoor

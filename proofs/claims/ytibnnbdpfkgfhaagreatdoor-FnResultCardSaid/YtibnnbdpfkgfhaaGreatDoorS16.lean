/- The walks of the reference's runner's small parts while no play is kept: l4Make, l4Path. -/
import Derived.Test.YtibnnbdpfkgfhaaGreatDoorP9
import Derived.Deep.QuietTactic
import Derived.BigQuiet
import Derived.Deep.Cut
namespace Go.Proofs.YtibnnbdpfkgfhaaGreatDoor
open Go.RowKit

/-- The runner's block while no play is kept. -/
def Rn (w : World) (ra : Nat) (mv pt : Value) (moves most : Nat) (bad : Bool) : Prop := w.heap[ra]? = some (.cells #[mv, pt, .int .i64 (moves : Nat), .int .i64 (most : Nat), .bool false, .bool bad] 150 (0, 0))
theorem Rn.cells {w : World} {ra : Nat} {mv pt : Value} {moves most : Nat} {bad : Bool} (h : Rn w ra mv pt moves most bad) : w.cell? ⟨ra, 2, none⟩ = some (.int .i64 (moves : Nat)) ∧ w.cell? ⟨ra, 3, none⟩ = some (.int .i64 (most : Nat)) ∧ w.cell? ⟨ra, 4, none⟩ = some (.bool false) ∧ w.cell? ⟨ra, 5, none⟩ = some (.bool bad) ∧ w.frozen? ⟨ra, 2, none⟩ = false ∧ w.frozen? ⟨ra, 5, none⟩ = false := by
  unfold Rn at h
  exact ⟨by simp [World.cell?, h], by simp [World.cell?, h], by simp [World.cell?, h], by simp [World.cell?, h], by simp [World.frozen?, h], by simp [World.frozen?, h]⟩
theorem Rn.below {w w' : World} {ra : Nat} {mv pt : Value} {moves most : Nat} {bad : Bool} (h : Rn w ra mv pt moves most bad) (hb : Below w.heap.size w w') : Rn w' ra mv pt moves most bad := by
  unfold Rn; rw [hb.block ra (lt_of_heap h)]; exact h

set_option maxHeartbeats 1000000 in
theorem l4Path_any (ra : Nat) (mv pt : Value) (moves most : Nat) (bad : Bool) (i : Int) (w : World) (h : Rn w ra mv pt moves most bad) :
    Calls Tryz.prog 110 #[.pointer (some ⟨ra, 0, none⟩), .int .i64 i] w fun en w' => en = .returned (str []) ∧ w' = w := by
  obtain ⟨c2, c3, c4, c5, f2, f5⟩ := h.cells
  clear h
  go_enter Tryz.func110, Tryz.ntmps110
  go_wp2_with fail
  go_ret
  exact ⟨rfl, rfl⟩

set_option maxRecDepth 100000 in
set_option maxHeartbeats 2000000 in
theorem l4Make_any (ra : Nat) (mv pt : Value) (moves most : Nat) (bad : Bool) (s : Bs) (p : Int) (w : World) (h : Rn w ra mv pt moves most bad) (hm : moves ≤ 16777216) :
    Calls Tryz.prog 85 #[.pointer (some ⟨ra, 0, none⟩), str s, .int .i64 p] w fun en w' =>
      en = .returned (.int .i64 (moves : Nat)) ∧ But (· = ra) w w' ∧ Rn w' ra mv pt (moves + 1) most (bad || decide (most < moves + 1)) := by
  obtain ⟨c2, c3, c4, c5, f2, f5⟩ := h.cells
  obtain ⟨W, hW⟩ : ∃ W, w.setCell ⟨ra, 2, none⟩ (.int .i64 ((moves : Int) + 1)) = W := ⟨_, rfl⟩
  have hput : Rn W ra mv pt (moves + 1) most bad := by rw [← hW]; unfold Rn; rw [setCell_at h]; rfl
  have hbut : But (· = ra) w W := by rw [← hW]; exact But.setCell (m := (· = ra)) (p := ⟨ra, 2, none⟩) (But.refl _ _) (.inl rfl) _
  obtain ⟨d2, d3, d4, d5, g2, g5⟩ := hput.cells
  have d2' : W.cell? ⟨ra, 2, none⟩ = some (.int .i64 ((moves : Int) + 1)) := d2
  have HW := Lib.hid hW; have HP := Lib.hid hput; have HB := Lib.hid hbut
  clear h hput hbut hW d2
  by_cases hbig : most < moves + 1
  · have hd : (most : Int) < (moves : Int) + 1 := by omega
    have HD := Lib.hid hbig; clear hbig
    go_enter Tryz.func85, Tryz.ntmps85
    go_upto_region 2 with (fail)
    rw [HW.out]
    clear c2 c3 c4 c5 f2 f5
    go_quiet (fail)
    have hp2 : Rn ((W.drewN nq).setCell ⟨ra, 5, none⟩ (.bool true)) ra mv pt (moves + 1) most true := by
      unfold Rn; rw [setCell_at (show (W.drewN nq).heap[ra]? = _ from HP.out)]; rfl
    obtain ⟨e2, e3, e4, e5, _, _⟩ := hp2.cells
    have e2' : ((W.drewN nq).setCell ⟨ra, 5, none⟩ (.bool true)).cell? ⟨ra, 2, none⟩ = some (.int .i64 ((moves : Int) + 1)) := e2
    have g5' : (W.drewN nq).frozen? ⟨ra, 5, none⟩ = false := g5
    have d5' : (W.drewN nq).cell? ⟨ra, 5, none⟩ = some (.bool bad) := d5
    have HP2 := Lib.hid hp2; clear hp2 e2
    go_wp2_with fail
    go_ret
    refine ⟨ret_i64 (by omega), But.setCell (m := (· = ra)) (p := ⟨ra, 5, none⟩) (HB.out.trans (c := W.drewN nq) ⟨rfl, rfl, rfl, Nat.le_refl _, fun _ _ _ => rfl⟩) (.inl rfl) _, ?_⟩
    rw [decide_eq_true HD.out, Bool.or_true]
    exact HP2.out
  · have hd : ¬ (most : Int) < (moves : Int) + 1 := by omega
    have HD := Lib.hid hbig; clear hbig
    go_enter Tryz.func85, Tryz.ntmps85
    go_upto_region 2 with (fail)
    rw [HW.out]
    clear c2 c3 c4 c5 f2 f5
    go_quiet (fail)
    have e2 : (W.drewN nq).cell? ⟨ra, 2, none⟩ = some (.int .i64 ((moves : Int) + 1)) := d2'
    have e4 : (W.drewN nq).cell? ⟨ra, 4, none⟩ = some (.bool false) := d4
    go_wp2_with fail
    go_ret
    refine ⟨ret_i64 (by omega), HB.out.trans ⟨rfl, rfl, rfl, Nat.le_refl _, fun _ _ _ => rfl⟩, ?_⟩
    rw [decide_eq_false HD.out, Bool.or_false]
    exact HP.out

end Go.Proofs.YtibnnbdpfkgfhaaGreatDoor

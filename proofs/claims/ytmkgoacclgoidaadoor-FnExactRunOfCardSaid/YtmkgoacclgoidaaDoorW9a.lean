/- A body's block, opened; isList. -/
import Derived.Test.YtmkgoacclgoidaaDoorW8
namespace Go.Proofs.YtmkgoacclgoidaaDoor
open Go.RowKit

theorem encBs_at (ts : List Bd) : ∀ k : Nat, (encBs ts)[k]? = ts[k]?.map encB := by
  induction ts with
  | nil => intro k; simp [encBs]
  | cons t ts ih => intro k; cases k <;> simp [encBs, ih]

theorem oneCell_encBs {F : Nat → Prop} {w : World} (ts : List Bd) : ∀ us, Reps F w (encBs ts) us → ∀ u ∈ us, u.oneCell' = true := by
  induction ts with
  | nil => intro us h; rw [encBs, Reps_nil] at h; subst h; simp
  | cons t ts ih =>
    intro us h u hu
    rw [encBs, Reps_cons] at h
    obtain ⟨v, vs', rfl, h1, h2⟩ := h
    rcases List.mem_cons.1 hu with rfl | hu
    · obtain ⟨a, rfl⟩ := encB_ptr h1; rfl
    · exact ih _ h2 u hu

/-- A body's pointer, opened. -/
theorem leaf_open {F : Nat → Prop} {w : World} {c : UInt8} {v : Value} (h : Rep F w (encB (.leaf c)) v) :
    ∃ b sl, v = .pointer (some ⟨b, 0, none⟩) ∧ F b ∧ w.heap[b]? = some (.cells #[str [c], .int .i64 (0 : Nat), sl, .pointer none, .pointer none] 118 (0, 0)) ∧ Rep F w (.sl 65 1 0 []) sl := by
  rw [encB, Rep_ptr] at h
  obtain ⟨b, cs, hv, hb, hc, hr⟩ := h
  simp only [Reps_cons, Reps_nil, Rep_val] at hr
  obtain ⟨_, _, e1, rfl, _, _, rfl, rfl, sl, _, rfl, h3, _, _, rfl, rfl, _, _, rfl, rfl, rfl⟩ := hr
  have : cs = #[str [c], .int .i64 (0 : Nat), sl, .pointer none, .pointer none] := by apply Array.ext'; simpa using e1
  subst this
  exact ⟨b, sl, hv, hb, hc, h3⟩
theorem ask_open {F : Nat → Prop} {w : World} {v : Nat} {ss : List Bd} {y n : Bd} {p : Value} (h : Rep F w (encB (.ask v ss y n)) p) :
    ∃ b sl yv nv, p = .pointer (some ⟨b, 0, none⟩) ∧ F b ∧ w.heap[b]? = some (.cells #[str [], .int .i64 v, sl, yv, nv] 118 (0, 0)) ∧
      Rep F w (.sl 65 1 ss.length (encBs ss)) sl ∧ Rep F w (encB y) yv ∧ Rep F w (encB n) nv := by
  rw [encB, Rep_ptr] at h
  obtain ⟨b, cs, hv, hb, hc, hr⟩ := h
  simp only [Reps_cons, Reps_nil, Rep_val] at hr
  obtain ⟨_, _, e1, rfl, _, _, rfl, rfl, sl, _, rfl, h3, yv, _, rfl, h4, nv, _, rfl, h5, rfl⟩ := hr
  have : cs = #[str [], .int .i64 v, sl, yv, nv] := by apply Array.ext'; simpa using e1
  subst this
  exact ⟨b, sl, yv, nv, hv, hb, hc, h3, h4, h5⟩

theorem isList_leaf (F : Nat → Prop) (w : World) (c : UInt8) (v : Value) (h : Rep F w (encB (.leaf c)) v) :
    Calls Tryd.prog 57 #[v] w fun en w' => en = .returned (.bool false) ∧ w' = w := by
  obtain ⟨b, sl, rfl, _, hc, _⟩ := leaf_open h
  have c1 : w.cell? ⟨b, 0, none⟩ = some (.string ⟨#[c]⟩) := by simp [World.cell?, hc]
  clear hc h
  go_enter Tryd.func57, Tryd.ntmps57
  go_wp2_with fail
  go_ret
  exact ⟨rfl, rfl⟩
theorem isList_ask (F : Nat → Prop) (w : World) (v : Nat) (ss : List Bd) (y n : Bd) (p : Value) (h : Rep F w (encB (.ask v ss y n)) p) :
    Calls Tryd.prog 57 #[p] w fun en w' => en = .returned (.bool true) ∧ w' = w := by
  obtain ⟨b, sl, yv, nv, rfl, _, hc, _⟩ := ask_open h
  have c1 : w.cell? ⟨b, 0, none⟩ = some (.string ⟨#[]⟩) := by simp [World.cell?, hc]
  clear hc h
  go_enter Tryd.func57, Tryd.ntmps57
  go_wp2_with fail
  go_ret
  exact ⟨rfl, rfl⟩

end Go.Proofs.YtmkgoacclgoidaaDoor

/- Plain words for FnApplyAll: strategies are applied one after the other. -/
import Derived.Test.YtibnnbdpfkgfhaaGreatDoorP21
import Derived.Test.YtibnnbdpfkgfhaaGreatDoorA16
namespace Go.Proofs.YtibnnbdpfkgfhaaGreatDoor
open Go.RowKit

/-- The texts of a type's arguments. -/
def argTexts (t : Ty) : List Bs := t.args.map textT
theorem rdTS_some {s text : Bs} {x : Ty × Bd} (h : rdTS s text = some x) : specType s = (x.1, true) ∧ s = textT x.1 ∧ Good x.1 x.2 ∧ text = textB x.2 := by
  rw [rdTS_eq, Option.map_eq_some_iff] at h
  obtain ⟨b, hb, rfl⟩ := h
  obtain ⟨hg, ht⟩ := specStrat_good hb
  have h1 := (specStrat_some hb).1
  exact ⟨by rw [← h1], (specType_canon h1).1, hg, ht⟩

/-- What it means that ApplyAll gives a text. -/
theorem all_some {s m out : Bs} {ls : List Bs} (h : implAll s m ls = some out) :
    ∃ t b t' o, specType s = (t, true) ∧ s = textT t ∧ Good t b ∧ m = textB b ∧ applyMany t b ls = some (t', o) ∧ Good t' o ∧ out = textB o ∧ ls.length ≤ t.args.length ∧ t'.args = t.args.drop ls.length := by
  unfold implAll at h
  simp only [Option.bind_eq_some_iff, Option.map_eq_some_iff] at h
  obtain ⟨x, hx, ⟨t', o⟩, hm, rfl⟩ := h
  obtain ⟨h1, h2, h3, h4⟩ := rdTS_some hx
  obtain ⟨bs, k0, k1, _⟩ := applyMany_sim ls h3 hm
  exact ⟨x.1, x.2, t', o, h1, h2, h3, h4, hm, applyMany_good ls h3 hm, rfl, k0, k1⟩
theorem all_none {s m out : Bs} (h : implAll s m [] = some out) : out = m := by
  obtain ⟨t, b, t', o, _, _, _, h4, h5, _, h7, _⟩ := all_some h
  simp only [applyMany, Option.some.injEq, Prod.mk.injEq] at h5
  rw [h7, h4, h5.2]
theorem drop_atoms {t : Ty} (h : atomsT t ≤ 15) (k : Nat) : atomsT (.mk (t.args.drop k)) ≤ 15 := by
  cases t with
  | mk ts =>
    simp only [Ty.args]
    have key : ∀ (ts : List Ty) (k : Nat), atomsTs (ts.drop k) ≤ atomsTs ts := by
      intro ts
      induction ts with
      | nil => intro k; simp
      | cons a ts ih =>
        intro k
        cases k with
        | zero => simp
        | succ k => have := ih k; simp only [List.drop_succ_cons]; rw [atomsTs]; omega
    have := key ts k
    rw [atomsT] at *; omega
theorem type_eta (t : Ty) : Ty.mk t.args = t := by cases t; rfl
/-- Strategies are applied one after the other. -/
theorem all_last {s m out l : Bs} {ls : List Bs} (h : implAll s m (ls ++ [l]) = some out) :
    ∃ t x, specType s = (t, true) ∧ s = textT t ∧ atomsT t ≤ 15 ∧ ls.length < t.args.length ∧ implAll s m ls = some x ∧ specApplyOf (textT (.mk (t.args.drop ls.length))) x l = some out := by
  obtain ⟨t, b, t', o, h1, h2, h3, h4, h5, h6, h7, h8, h9⟩ := all_some h
  rw [applyMany_append, Option.bind_eq_some_iff] at h5
  obtain ⟨⟨t1, b1⟩, k1, k2⟩ := h5
  have g1 := applyMany_good ls h3 k1
  obtain ⟨bs, q0, q1, _⟩ := applyMany_sim ls h3 k1
  simp only [applyMany, Option.bind_eq_some_iff] at k2
  obtain ⟨⟨t2, o2⟩, k3, k4⟩ := k2
  simp only [Option.some.injEq, Prod.mk.injEq] at k4
  obtain ⟨rfl, rfl⟩ := k4
  rw [List.length_append, List.length_singleton] at h8
  refine ⟨t, textB b1, h1, h2, h3.atoms, by omega, ?_, ?_⟩
  · unfold implAll
    rw [rdTS_eq, h2, h4, specStrat_of_good h3, specType_text h3.atoms]
    simp only [Option.map_some, Option.bind_some]
    rw [k1]; rfl
  · rw [← q1, type_eta, specApplyOf_eq (specStrat_of_good g1), specType_text g1.atoms, k3, h7]; rfl

end Go.Proofs.YtibnnbdpfkgfhaaGreatDoor

/- Plain words: what the reference's reader of bodies reads is no greater than its text. -/
import Derived.Test.YtohepefbogngfaaDoorP3
namespace Go.Proofs.YtohepefbogngfaaDoor
open Go.RowKit

theorem cut_one_len {c : UInt8} {l r : Bs} (h : cut [c] l = some r) : l = c :: r := by
  unfold cut at h
  split at h
  · rename_i hp
    cases l with
    | nil => simp [List.isPrefixOf] at hp
    | cons x xs =>
      simp [List.isPrefixOf] at hp h
      rw [hp, h]
  · simp at h
theorem askOf_size {v n : Nat} {ps : List Bd} {b : Bd} (h : askOf v n ps = some b) : sizeB b = 1 + sizeBs ps := by
  unfold askOf at h
  split at h
  · rename_i y no hd
    simp at h; subst h
    have h1 : sizeBs ps = sizeBs (ps.take n) + sizeBs (ps.drop n) := by rw [← sizeBs_append, List.take_append_drop]
    rw [hd] at h1
    simp [sizeB, sizeBs] at h1 ⊢; omega
  · simp at h
theorem specPart_size {rd : RdS} (hrd : ∀ {h l b r}, rd h l = some (b, r) → sizeB b + r.length ≤ l.length) {h : List Ty} {l r : Bs} {b : Bd} (hp : specPart rd h l = some (b, r)) : sizeB b + r.length ≤ l.length := by
  unfold specPart at hp
  simp only [Option.bind_eq_bind, Option.bind_eq_some_iff] at hp
  obtain ⟨l1, h1, h2⟩ := hp
  have := hrd h2
  have := cut_one_len h1
  subst this; simp; omega
theorem specParts_size {rd : RdS} (hrd : ∀ {h l b r}, rd h l = some (b, r) → sizeB b + r.length ≤ l.length) (hs : List (List Ty)) : ∀ {l r : Bs} {ps : List Bd}, specParts rd hs l = some (ps, r) → sizeBs ps + r.length ≤ l.length := by
  induction hs with
  | nil => intro l r ps h; simp [specParts] at h; obtain ⟨rfl, rfl⟩ := h; simp [sizeBs]
  | cons h' hs ih =>
    intro l r ps h
    simp only [specParts, Option.bind_eq_bind, Option.bind_eq_some_iff, Prod.exists] at h
    obtain ⟨b, l1, h1, bs, l2, h2, h3⟩ := h
    simp at h3; obtain ⟨rfl, rfl⟩ := h3
    have := ih h2; have := specPart_size hrd h1
    simp [sizeBs]; omega
theorem rdN_size (e : Nat) : ∀ {h : List Ty} {l : Bs} {b : Bd} {r : Bs}, rdN e h l = some (b, r) → sizeB b + r.length ≤ l.length := by
  induction e with
  | zero => intro h l b r hq; simp [rdN] at hq
  | succ e ih =>
    intro h l b r hq
    cases l with
    | nil => simp [rdN] at hq
    | cons c m =>
      simp only [rdN] at hq
      split at hq
      · simp at hq; obtain ⟨rfl, rfl⟩ := hq; simp [sizeB]; omega
      · split at hq
        · simp at hq
        · split at hq
          · simp at hq
          · split at hq
            · simp at hq
            · simp only [Option.bind_eq_bind, Option.bind_eq_some_iff, Prod.exists] at hq
              obtain ⟨ps, l1, h1, l2, h2, b', h3, h4⟩ := hq
              simp at h4; obtain ⟨rfl, rfl⟩ := h4
              have k1 := specParts_size ih _ h1
              have k2 := cut_one_len h2
              have k3 := askOf_size h3
              subst k2
              simp at k1 ⊢; omega

end Go.Proofs.YtohepefbogngfaaDoor

/- Plain words: the reference's reader of bodies. -/
import Derived.Test.YtohepefbogngfaaDoorP2
namespace Go.Proofs.YtohepefbogngfaaDoor
open Go.RowKit

theorem tw_all {α : Type} (p : α → Bool) (l : List α) : ∀ c ∈ l.takeWhile p, p c = true := by
  induction l with
  | nil => simp
  | cons x xs ih =>
    intro c hc
    rw [List.takeWhile_cons] at hc
    split at hc
    · rename_i hx
      rcases List.mem_cons.1 hc with rfl | hc
      · exact hx
      · exact ih c hc
    · simp at hc
theorem tw_end {α : Type} (p : α → Bool) (l : List α) : ∀ h : (l.takeWhile p).length < l.length, p l[(l.takeWhile p).length] = false := by
  induction l with
  | nil => intro h; simp at h
  | cons x xs ih =>
    intro h
    by_cases hx : p x = true
    · have e : (x :: xs).takeWhile p = x :: xs.takeWhile p := by rw [List.takeWhile_cons, if_pos hx]
      have h' : (xs.takeWhile p).length < xs.length := by rw [e] at h; simpa using h
      have := ih h'
      simp only [e, List.length_cons, List.getElem_cons_succ]; exact this
    · have e : (x :: xs).takeWhile p = [] := by rw [List.takeWhile_cons, if_neg hx]
      simp only [e, List.length_nil, List.getElem_cons_zero]; simpa using hx

def dig (c : UInt8) : Bool := 48 ≤ c && c ≤ 57
def digsOf (m : Bs) : Bs := (m.take 4).takeWhile dig
def valOf (ds : Bs) : Nat := ds.foldl (fun n c => 10 * n + (c.toNat - 48)) 0

/-- The reference's reader of a level: its value, and how many digits it has. -/
def specNum (m : Bs) : Option (Nat × Nat) :=
  if digsOf m = [] ∨ (1 < (digsOf m).length ∧ m.head? = some 48) then none else some (valOf (digsOf m), (digsOf m).length)

theorem digsOf_le (m : Bs) : (digsOf m).length ≤ 4 ∧ (digsOf m).length ≤ m.length := by
  have h1 : (digsOf m).length ≤ (m.take 4).length := (List.takeWhile_sublist _).length_le
  simp at h1; omega
theorem digsOf_prefix (m : Bs) : digsOf m <+: m := (List.takeWhile_prefix _).trans (List.take_prefix _ _)
theorem digsOf_all (m : Bs) : ∀ c ∈ digsOf m, dig c = true := by
  exact tw_all dig _
theorem digsOf_at {m : Bs} {j : Nat} (h : j < (digsOf m).length) : ∃ hm : j < m.length, m[j] = (digsOf m)[j] ∧ dig m[j] = true := by
  have hp := digsOf_prefix m
  have hl := hp.length_le
  refine ⟨by omega, (hp.getElem h).symm, ?_⟩
  rw [← hp.getElem h]
  exact digsOf_all m _ (List.getElem_mem h)
/-- Where the digits end. -/
theorem digsOf_end {m : Bs} : (digsOf m).length = 4 ∨ m.length ≤ (digsOf m).length ∨ ∃ h : (digsOf m).length < m.length, dig m[(digsOf m).length] = false := by
  by_cases h4 : (digsOf m).length = 4
  · exact .inl h4
  by_cases hl : m.length ≤ (digsOf m).length
  · exact .inr (.inl hl)
  have hle := digsOf_le m
  refine .inr (.inr ⟨by omega, ?_⟩)
  have hlt : (digsOf m).length < (m.take 4).length := by simp; omega
  have h2 : dig ((m.take 4)[(digsOf m).length]) = false := tw_end dig (m.take 4) hlt
  rw [List.getElem_take] at h2; exact h2

theorem valOf_snoc (ds : Bs) (c : UInt8) : valOf (ds ++ [c]) = 10 * valOf ds + (c.toNat - 48) := by
  unfold valOf; rw [List.foldl_append]; rfl
theorem valOf_take {ds : Bs} {j : Nat} (h : j < ds.length) : valOf (ds.take (j + 1)) = 10 * valOf (ds.take j) + (ds[j].toNat - 48) := by
  rw [List.take_add_one, List.getElem?_eq_getElem h]; exact valOf_snoc _ _
theorem valOf_lt (ds : Bs) (hd : ∀ c ∈ ds, dig c = true) : valOf ds < 10 ^ ds.length := by
  have key : ∀ (ds : Bs) (a : Nat), (∀ c ∈ ds, dig c = true) → ds.foldl (fun n c => 10 * n + (c.toNat - 48)) a < (a + 1) * 10 ^ ds.length := by
    intro ds
    induction ds with
    | nil => intro a _; simp
    | cons c cs ih =>
      intro a h
      have hc := h c (by simp)
      simp [dig, UInt8.le_iff_toNat_le] at hc
      have := ih (10 * a + (c.toNat - 48)) (fun x hx => h x (by simp [hx]))
      simp only [List.foldl_cons, List.length_cons, Nat.pow_succ]
      refine Nat.lt_of_lt_of_le this ?_
      rw [show (a + 1) * (10 ^ cs.length * 10) = (10 * (a + 1)) * 10 ^ cs.length from by rw [Nat.mul_comm (10 ^ cs.length) 10, ← Nat.mul_assoc, Nat.mul_comm (a + 1) 10]]
      exact Nat.mul_le_mul_right _ (by omega)
  simpa [valOf] using key ds 0 hd


abbrev RdS := List Ty → Bs → Option (Bd × Bs)

/-- One part for the reference: a space, and a body. -/
def specPart (rd : RdS) (h : List Ty) (l : Bs) : Option (Bd × Bs) := do
  let l1 ← cut [32] l
  rd h l1
def specParts (rd : RdS) : List (List Ty) → Bs → Option (List Bd × Bs)
  | [], l => some ([], l)
  | h :: hs, l => do
    let (b, l1) ← specPart rd h l
    let (bs, l2) ← specParts rd hs l1
    some (b :: bs, l2)

/-- The parts of a list that asks a level of a type. -/
def allHands (hand : List Ty) (t : Ty) : List (List Ty) := hands hand t.args ++ [hand, hand]

def askOf (v n : Nat) (ps : List Bd) : Option Bd := match ps.drop n with
  | [y, no] => some (.ask v (ps.take n) y no)
  | _ => none

/-- The reference's reader of bodies. -/
def rdN : Nat → RdS
  | 0, _, _ => none
  | e + 1, hand, l => match l with
    | [] => none
    | c :: r => if c = 116 ∨ c = 102 ∨ c = 117 then some (.leaf c, r) else if c ≠ 40 then none else
      match specNum r with
      | none => none
      | some (v, k) => match hand[v]? with
        | none => none
        | some t => do
          let (ps, l1) ← specParts (rdN e) (allHands hand t) (r.drop k)
          let l2 ← cut [41] l1
          let b ← askOf v t.args.length ps
          some (b, l2)

theorem specParts_snoc (rd : RdS) (hs : List (List Ty)) (h : List Ty) : ∀ (l : Bs), specParts rd (hs ++ [h]) l = (do
    let (bs, l1) ← specParts rd hs l
    let (b, l2) ← specPart rd h l1
    some (bs ++ [b], l2)) := by
  induction hs with
  | nil =>
    intro l
    simp only [List.nil_append, specParts, Option.bind_eq_bind, Option.bind_some]
    done
  | cons h' hs ih =>
    intro l
    simp only [List.cons_append, specParts, Option.bind_eq_bind]
    cases hp : specPart rd h' l with
    | none => simp
    | some x =>
      obtain ⟨b, l1⟩ := x
      simp only [Option.bind_some, ih, Option.bind_eq_bind]
      cases hq : specParts rd hs l1 with
      | none => simp
      | some y =>
        obtain ⟨bs, l2⟩ := y
        simp only [Option.bind_some]
        cases hr : specPart rd h l2 with
        | none => simp
        | some z => simp
theorem specParts_append_none (rd : RdS) (hs gs : List (List Ty)) : ∀ (l : Bs), specParts rd hs l = none → specParts rd (hs ++ gs) l = none := by
  induction hs with
  | nil => intro l h; simp [specParts] at h
  | cons h' hs ih =>
    intro l h
    simp only [List.cons_append, specParts, Option.bind_eq_bind] at *
    cases hp : specPart rd h' l with
    | none => simp
    | some x =>
      obtain ⟨b, l1⟩ := x
      rw [hp] at h
      simp only [Option.bind_some] at *
      cases hq : specParts rd hs l1 with
      | none => rw [ih _ hq]; simp
      | some y => rw [hq] at h; simp at h
theorem specParts_take_none {rd : RdS} {hs : List (List Ty)} {l : Bs} (k : Nat) (h : specParts rd (hs.take k) l = none) : specParts rd hs l = none := by
  have := specParts_append_none rd (hs.take k) (hs.drop k) l h
  rwa [List.take_append_drop] at this
theorem specParts_next {rd : RdS} {hs : List (List Ty)} {l : Bs} {k : Nat} {h : List Ty} {ps : List Bd} {lk : Bs} (hk : hs[k]? = some h) (hp : specParts rd (hs.take k) l = some (ps, lk)) :
    specParts rd (hs.take (k + 1)) l = (specPart rd h lk).map fun x => (ps ++ [x.1], x.2) := by
  rw [List.take_add_one, hk]
  show specParts rd (hs.take k ++ [h]) l = _
  rw [specParts_snoc, hp]
  simp only [Option.bind_eq_bind, Option.bind_some]
  cases specPart rd h lk with
  | none => rfl
  | some x => rfl
theorem specParts_length {rd : RdS} (hs : List (List Ty)) : ∀ {l : Bs} {ps : List Bd} {r : Bs}, specParts rd hs l = some (ps, r) → ps.length = hs.length := by
  induction hs with
  | nil => intro l ps r h; simp [specParts] at h; obtain ⟨rfl, rfl⟩ := h; rfl
  | cons h' hs ih =>
    intro l ps r h
    simp only [specParts, Option.bind_eq_bind, Option.bind_eq_some_iff, Prod.exists] at h
    obtain ⟨b, l1, h1, bs, l2, h2, h3⟩ := h
    simp at h3; obtain ⟨rfl, rfl⟩ := h3
    simp [ih h2]
theorem allHands_kid {hand : List Ty} {t a : Ty} {k : Nat} (h : t.args[k]? = some a) : (allHands hand t)[k]? = some (hand ++ a.args) := by
  have hl : k < t.args.length := (List.getElem?_eq_some_iff.1 h).1
  unfold allHands
  rw [List.getElem?_append_left (by simpa [hands] using hl)]
  simp [hands, h]
theorem allHands_yes {hand : List Ty} {t : Ty} {k : Nat} (h1 : t.args.length ≤ k) (h2 : k < t.args.length + 2) : (allHands hand t)[k]? = some hand := by
  unfold allHands
  rw [List.getElem?_append_right (by simpa [hands] using h1)]
  simp only [hands, List.length_map]
  rcases (by omega : k - t.args.length = 0 ∨ k - t.args.length = 1) with h | h <;> simp [h]
theorem allHands_length (hand : List Ty) (t : Ty) : (allHands hand t).length = t.args.length + 2 := by simp [allHands, hands]

theorem specPart_suffix {rd : RdS} (hrd : ∀ {h l b r}, rd h l = some (b, r) → r <:+ l) {h : List Ty} {l r : Bs} {b : Bd} (hp : specPart rd h l = some (b, r)) : r <:+ l := by
  unfold specPart at hp
  simp only [Option.bind_eq_bind, Option.bind_eq_some_iff] at hp
  obtain ⟨l1, h1, h2⟩ := hp
  refine (hrd h2).trans ?_
  unfold cut at h1; split at h1
  · simp at h1; subst h1; first | exact List.tail_suffix _ | exact List.drop_suffix _ _
  · simp at h1
theorem specParts_suffix {rd : RdS} (hrd : ∀ {h l b r}, rd h l = some (b, r) → r <:+ l) (hs : List (List Ty)) : ∀ {l r : Bs} {ps : List Bd}, specParts rd hs l = some (ps, r) → r <:+ l := by
  induction hs with
  | nil => intro l r ps h; simp [specParts] at h; obtain ⟨rfl, rfl⟩ := h; exact List.suffix_refl _
  | cons h' hs ih =>
    intro l r ps h
    simp only [specParts, Option.bind_eq_bind, Option.bind_eq_some_iff, Prod.exists] at h
    obtain ⟨b, l1, h1, bs, l2, h2, h3⟩ := h
    simp at h3; obtain ⟨rfl, rfl⟩ := h3
    exact (ih h2).trans (specPart_suffix hrd h1)
theorem rdN_suffix (e : Nat) : ∀ {h : List Ty} {l : Bs} {b : Bd} {r : Bs}, rdN e h l = some (b, r) → r <:+ l := by
  induction e with
  | zero => intro h l b r hq; simp [rdN] at hq
  | succ e ih =>
    intro h l b r hq
    cases l with
    | nil => simp [rdN] at hq
    | cons c m =>
      simp only [rdN] at hq
      split at hq
      · simp at hq; obtain ⟨_, rfl⟩ := hq; exact List.suffix_cons _ _
      · split at hq
        · simp at hq
        · split at hq
          · simp at hq
          · split at hq
            · simp at hq
            · simp only [Option.bind_eq_bind, Option.bind_eq_some_iff, Prod.exists] at hq
              obtain ⟨ps, l1, h1, l2, h2, b', h3, h4⟩ := hq
              simp at h4; obtain ⟨_, rfl⟩ := h4
              have k1 := specParts_suffix ih _ h1
              have k2 : l2 <:+ l1 := by
                unfold cut at h2; split at h2
                · simp at h2; subst h2; first | exact List.tail_suffix _ | exact List.drop_suffix _ _
                · simp at h2
              exact ((k2.trans k1).trans (List.drop_suffix _ _)).trans (List.suffix_cons _ _)

end Go.Proofs.YtohepefbogngfaaDoor

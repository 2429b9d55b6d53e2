/- Plain words: bodies of strategies, and how they are read. -/
import Derived.Test.YtohepefbogngfaaDoorP1
import Derived.Lib.AtoiAll
import Derived.Lib.ItoaNum
namespace Go.Proofs.YtohepefbogngfaaDoor
open Go.RowKit

inductive Bd where
  | leaf (c : UInt8)
  | ask (v : Nat) (subs : List Bd) (yes no : Bd)

mutual
def encB : Bd → DV
  | .leaf c => .ptr 106 [.val (str [c]), .val (.int .i64 (0 : Nat)), .sl 46 1 0 [], .val (.pointer none), .val (.pointer none)]
  | .ask v ss y n => .ptr 106 [.val (str []), .val (.int .i64 v), .sl 46 1 ss.length (encBs ss), encB y, encB n]
def encBs : List Bd → List DV
  | [] => []
  | b :: bs => encB b :: encBs bs
end

def sep (c : UInt8) : Bool := c == 32 || c == 40 || c == 41
def wordOf (l : Bs) : Bs := l.takeWhile (fun c => !sep c)
def wordRest (l : Bs) : Bs := l.dropWhile (fun c => !sep c)

/-- The level that a word tells, of n. -/
def lvl (w : Bs) (n : Nat) : Option Nat :=
  match Lib.atoiAll w with
  | .ok v => if Lib.itoa v = w ∧ 0 ≤ v ∧ v < n then some v.toNat else none
  | _ => none

abbrev Rd := List Ty → Nat → Bs → Option (Bd × Bs × Nat)

def rdParts (rd : Rd) : List (List Ty) → Nat → Bs → Option (List Bd × Bs × Nat)
  | [], left, l => some ([], l, left)
  | h :: hs, left, l => do
    let l1 ← cut [32] l
    let (b, l2, left2) ← rd h left l1
    let (bs, l3, left3) ← rdParts rd hs left2 l2
    some (b :: bs, l3, left3)

def rdAsk (rd : Rd) (levels : List Ty) (v : Nat) (t : Ty) (left : Nat) (l : Bs) : Option (Bd × Bs × Nat) := do
  let (ss, l1, left1) ← rdParts rd (t.args.map fun a => levels ++ a.args) left l
  let (yn, l2, left2) ← rdParts rd [levels, levels] left1 l1
  match yn with
  | [y, n] => do
    let l3 ← cut [41] l2
    some (.ask v ss y n, l3, left2)
  | _ => none

/-- impl's reader of bodies: so many within each other, so many nodes left. -/
def rdB : Nat → Rd
  | d, levels, left, l =>
    match left with
    | 0 => none
    | left + 1 =>
      match cut [40] l with
      | none => if wordOf l = [116] then some (.leaf 116, wordRest l, left) else if wordOf l = [102] then some (.leaf 102, wordRest l, left) else if wordOf l = [117] then some (.leaf 117, wordRest l, left) else none
      | some r => match lvl (wordOf r) levels.length with
        | none => none
        | some v => match d with
          | 0 => none
          | d + 1 => match levels[v]? with
            | none => none
            | some t => rdAsk (rdB d) levels v t left (wordRest r)


/-- One part: a space, and a body. -/
def rdPart (rd : Rd) (levels : List Ty) (left : Nat) (l : Bs) : Option (Bd × Bs × Nat) := do
  let l1 ← cut [32] l
  rd levels left l1

theorem rdParts_cons (rd : Rd) (h : List Ty) (hs : List (List Ty)) (left : Nat) (l : Bs) : rdParts rd (h :: hs) left l = (do
    let (b, l2, left2) ← rdPart rd h left l
    let (bs, l3, left3) ← rdParts rd hs left2 l2
    some (b :: bs, l3, left3)) := by
  rw [rdParts, rdPart]
  cases cut [32] l <;> rfl

theorem rdParts_snoc (rd : Rd) (hs : List (List Ty)) (h : List Ty) : ∀ (left : Nat) (l : Bs), rdParts rd (hs ++ [h]) left l = (do
    let (bs, l2, left2) ← rdParts rd hs left l
    let (b, l3, left3) ← rdPart rd h left2 l2
    some (bs ++ [b], l3, left3)) := by
  induction hs with
  | nil =>
    intro left l
    rw [List.nil_append, rdParts_cons]
    simp only [rdParts, Option.bind_eq_bind, Option.bind_some]
    cases rdPart rd h left l <;> simp
  | cons h' hs ih =>
    intro left l
    rw [List.cons_append, rdParts_cons, rdParts_cons]
    simp only [Option.bind_eq_bind]
    cases hp : rdPart rd h' left l with
    | none => simp
    | some x =>
      obtain ⟨b, l2, left2⟩ := x
      simp only [Option.bind_some, ih, Option.bind_eq_bind]
      cases hq : rdParts rd hs left2 l2 with
      | none => simp
      | some y =>
        obtain ⟨bs, l3, left3⟩ := y
        simp only [Option.bind_some]
        cases hr : rdPart rd h left3 l3 with
        | none => simp
        | some z => simp

/-- The levels at hand in the parts for arguments. -/
def hands (levels ts : List Ty) : List (List Ty) := ts.map fun a => levels ++ a.args

theorem hands_take {levels ts : List Ty} {k : Nat} {t : Ty} (h : ts[k]? = some t) : hands levels (ts.take (k + 1)) = hands levels (ts.take k) ++ [levels ++ t.args] := by
  rw [List.take_add_one, h]; simp [hands]

theorem rdAsk_eq (rd : Rd) (levels : List Ty) (v : Nat) (t : Ty) (left : Nat) (l : Bs) : rdAsk rd levels v t left l = (do
    let (ss, l1, left1) ← rdParts rd (hands levels t.args) left l
    let (y, l2, left2) ← rdPart rd levels left1 l1
    let (n, l3, left3) ← rdPart rd levels left2 l2
    let l4 ← cut [41] l3
    some (.ask v ss y n, l4, left3)) := by
  rw [rdAsk]
  show _ = (rdParts rd (hands levels t.args) left l).bind _
  show (rdParts rd (hands levels t.args) left l).bind _ = _
  cases rdParts rd (hands levels t.args) left l with
  | none => rfl
  | some x =>
    obtain ⟨ss, l1, left1⟩ := x
    simp only [Option.bind_some, rdParts_cons, Option.bind_eq_bind]
    cases rdPart rd levels left1 l1 with
    | none => rfl
    | some y =>
      obtain ⟨y, l2, left2⟩ := y
      simp only [Option.bind_some]
      cases rdPart rd levels left2 l2 with
      | none => rfl
      | some z =>
        obtain ⟨n, l3, left3⟩ := z
        simp [rdParts]

theorem lvl_lt {w : Bs} {n v : Nat} (h : lvl w n = some v) : v < n ∧ Lib.atoiAll w = .ok (v : Int) ∧ Lib.itoa (v : Int) = w := by
  unfold lvl at h
  split at h
  · rename_i u hu
    split at h
    · rename_i hc
      simp at h; subst h
      have e : ((u.toNat : Nat) : Int) = u := by omega
      exact ⟨by omega, by rw [e]; exact hu, by rw [e]; exact hc.1⟩
    · simp at h
  · simp at h

theorem lvl_no {w : Bs} {n : Nat} (h : lvl w n = none) : (∀ v, Lib.atoiAll w ≠ .ok v) ∨ ∃ v, Lib.atoiAll w = .ok v ∧ (Lib.itoa v ≠ w ∨ (Lib.itoa v = w ∧ v < 0) ∨ (Lib.itoa v = w ∧ 0 ≤ v ∧ (n : Int) ≤ v)) := by
  unfold lvl at h
  cases ha : Lib.atoiAll w
  · rename_i u
    rw [ha] at h; simp at h
    refine .inr ⟨u, rfl, ?_⟩
    by_cases h1 : Lib.itoa u = w
    · by_cases h2 : 0 ≤ u
      · exact .inr (.inr ⟨h1, h2, h h1 h2⟩)
      · exact .inr (.inl ⟨h1, by omega⟩)
    · exact .inl h1
  · exact .inl fun v h => by simp at h
  · exact .inl fun v h => by simp at h

theorem rdPart_le {rd : Rd} {levels : List Ty} {left : Nat} {l : Bs} (hrd : ∀ {lv lf m b r f}, rd lv lf m = some (b, r, f) → r.length ≤ m.length ∧ f ≤ lf) {b : Bd} {r : Bs} {f : Nat} (h : rdPart rd levels left l = some (b, r, f)) : r.length ≤ l.length ∧ f ≤ left := by
  unfold rdPart at h
  simp only [Option.bind_eq_bind, Option.bind_eq_some_iff] at h
  obtain ⟨l1, h1, h2⟩ := h
  have := Cut.le h1; have := hrd h2
  exact ⟨by omega, this.2⟩
theorem rdParts_le {rd : Rd} (hrd : ∀ {lv lf m b r f}, rd lv lf m = some (b, r, f) → r.length ≤ m.length ∧ f ≤ lf) (hs : List (List Ty)) : ∀ {left : Nat} {l : Bs} {bs : List Bd} {r : Bs} {f : Nat}, rdParts rd hs left l = some (bs, r, f) → r.length ≤ l.length ∧ f ≤ left ∧ bs.length = hs.length := by
  induction hs with
  | nil => intro left l bs r f h; simp [rdParts] at h; obtain ⟨rfl, rfl, rfl⟩ := h; simp
  | cons h' hs ih =>
    intro left l bs r f h
    rw [rdParts_cons] at h
    simp only [Option.bind_eq_bind, Option.bind_eq_some_iff, Prod.exists] at h
    obtain ⟨b, l2, f2, h1, bs', l3, f3, h2, h3⟩ := h
    simp at h3; obtain ⟨rfl, rfl, rfl⟩ := h3
    have := rdPart_le hrd h1; have := ih h2
    exact ⟨by omega, by omega, by simp [this.2.2]⟩
theorem wordRest_le (l : Bs) : (wordRest l).length ≤ l.length := by
  have : wordOf l ++ wordRest l = l := List.takeWhile_append_dropWhile
  have := congrArg List.length this; simp at this; omega

theorem rdB_le (d : Nat) : ∀ {lv lf m b r f}, rdB d lv lf m = some (b, r, f) → r.length ≤ m.length ∧ f ≤ lf := by
  induction d with
  | zero =>
    intro lv lf m b r f h
    cases lf with
    | zero => simp [rdB] at h
    | succ lf =>
      unfold rdB at h
      simp only at h
      have hw := wordRest_le m
      cases hc : cut [40] m with
      | none =>
        rw [hc] at h
        simp only at h
        split at h
        · simp at h; obtain ⟨_, rfl, rfl⟩ := h; exact ⟨hw, by omega⟩
        · split at h
          · simp at h; obtain ⟨_, rfl, rfl⟩ := h; exact ⟨hw, by omega⟩
          · split at h
            · simp at h; obtain ⟨_, rfl, rfl⟩ := h; exact ⟨hw, by omega⟩
            · simp at h
      | some r1 =>
        rw [hc] at h; simp only at h
        split at h <;> simp at h
  | succ d ih =>
    intro lv lf m b r f h
    cases lf with
    | zero => simp [rdB] at h
    | succ lf =>
      unfold rdB at h
      simp only at h
      have hw := wordRest_le m
      cases hc : cut [40] m with
      | none =>
        rw [hc] at h
        simp only at h
        split at h
        · simp at h; obtain ⟨_, rfl, rfl⟩ := h; exact ⟨hw, by omega⟩
        · split at h
          · simp at h; obtain ⟨_, rfl, rfl⟩ := h; exact ⟨hw, by omega⟩
          · split at h
            · simp at h; obtain ⟨_, rfl, rfl⟩ := h; exact ⟨hw, by omega⟩
            · simp at h
      | some r1 =>
        rw [hc] at h; simp only at h
        have k0 := Cut.le hc; have k1 := wordRest_le r1
        split at h
        · simp at h
        · split at h
          · simp at h
          · rw [rdAsk_eq] at h
            simp only [Option.bind_eq_bind, Option.bind_eq_some_iff, Prod.exists] at h
            obtain ⟨ss, l1, f1, h1, y, l2, f2, h2, n, l3, f3, h3, l4, h4, h5⟩ := h
            simp at h5; obtain ⟨_, rfl, rfl⟩ := h5
            have := rdParts_le ih _ h1; have := rdPart_le ih h2; have := rdPart_le ih h3; have := Cut.le h4
            exact ⟨by omega, by omega⟩


theorem rdB_ask (d : Nat) (levels : List Ty) (left : Nat) {l r : Bs} (h : cut [40] l = some r) : rdB d levels (left + 1) l = (match lvl (wordOf r) levels.length with
        | none => none
        | some v => match d with
          | 0 => none
          | d + 1 => match levels[v]? with
            | none => none
            | some t => rdAsk (rdB d) levels v t left (wordRest r)) := by
  cases d <;> (unfold rdB; simp only [h]) <;> rfl
theorem rdB_leaf (d : Nat) (levels : List Ty) (left : Nat) {l : Bs} (h : cut [40] l = none) : rdB d levels (left + 1) l = (if wordOf l = [116] then some (Bd.leaf 116, wordRest l, left) else if wordOf l = [102] then some (.leaf 102, wordRest l, left) else if wordOf l = [117] then some (.leaf 117, wordRest l, left) else none) := by
  unfold rdB; simp only [h]


theorem rdParts_append_none (rd : Rd) (hs gs : List (List Ty)) : ∀ (left : Nat) (l : Bs), rdParts rd hs left l = none → rdParts rd (hs ++ gs) left l = none := by
  induction hs with
  | nil => intro left l h; simp [rdParts] at h
  | cons h' hs ih =>
    intro left l h
    rw [rdParts_cons] at h
    rw [List.cons_append, rdParts_cons]
    simp only [Option.bind_eq_bind] at *
    cases hp : rdPart rd h' left l with
    | none => simp
    | some x =>
      obtain ⟨b, l2, left2⟩ := x
      rw [hp] at h
      simp only [Option.bind_some] at *
      cases hq : rdParts rd hs left2 l2 with
      | none => rw [ih _ _ hq]; simp
      | some y => rw [hq] at h; simp at h

theorem hands_none {rd : Rd} {levels ts : List Ty} {left : Nat} {l : Bs} (k : Nat) (h : rdParts rd (hands levels (ts.take k)) left l = none) : rdParts rd (hands levels ts) left l = none := by
  have e : hands levels ts = hands levels (ts.take k) ++ hands levels (ts.drop k) := by
    unfold hands; rw [← List.map_append, List.take_append_drop]
  rw [e]; exact rdParts_append_none rd _ _ _ _ h

theorem hands_next {rd : Rd} {levels ts : List Ty} {left : Nat} {l : Bs} {k : Nat} {t : Ty} {bs : List Bd} {lk : Bs} {leftk : Nat} (ht : ts[k]? = some t) (h : rdParts rd (hands levels (ts.take k)) left l = some (bs, lk, leftk)) :
    rdParts rd (hands levels (ts.take (k + 1))) left l = (rdPart rd (levels ++ t.args) leftk lk).map fun x => (bs ++ [x.1], x.2.1, x.2.2) := by
  rw [hands_take ht, rdParts_snoc, h]
  simp only [Option.bind_eq_bind, Option.bind_some]
  cases rdPart rd (levels ++ t.args) leftk lk with
  | none => rfl
  | some x => rfl


def partsOf : Bd → List Bd
  | .leaf _ => []
  | .ask _ ss y n => ss ++ [y, n]

mutual
def sizeB : Bd → Nat
  | .leaf _ => 1
  | .ask _ ss y n => 1 + (sizeBs ss + (sizeB y + sizeB n))
def sizeBs : List Bd → Nat
  | [] => 0
  | b :: bs => sizeB b + sizeBs bs
end
mutual
def depthB : Bd → Nat
  | .leaf _ => 0
  | .ask _ ss y n => max (depthBs ss) (max (1 + depthB y) (1 + depthB n))
def depthBs : List Bd → Nat
  | [] => 0
  | b :: bs => max (1 + depthB b) (depthBs bs)
end

theorem sizeBs_append (a b : List Bd) : sizeBs (a ++ b) = sizeBs a + sizeBs b := by
  induction a with
  | nil => simp [sizeBs]
  | cons t ts ih => simp [sizeBs, ih]; omega
theorem depthBs_append (a b : List Bd) : depthBs (a ++ b) = max (depthBs a) (depthBs b) := by
  induction a with
  | nil => simp [depthBs]
  | cons t ts ih => simp only [List.cons_append, depthBs, ih]; omega
theorem sizeB_parts (b : Bd) : sizeB b = 1 + sizeBs (partsOf b) := by
  cases b with
  | leaf c => simp [sizeB, partsOf, sizeBs]
  | ask v ss y n => simp [sizeB, partsOf, sizeBs_append, sizeBs]
theorem depthB_parts (b : Bd) : depthB b = depthBs (partsOf b) := by
  cases b with
  | leaf c => simp [depthB, partsOf, depthBs]
  | ask v ss y n => simp only [depthB, partsOf, depthBs_append, depthBs]; omega
theorem sizeBs_take {ts : List Bd} {k : Nat} {t : Bd} (h : ts[k]? = some t) : sizeBs (ts.take (k + 1)) = sizeBs (ts.take k) + sizeB t := by
  rw [List.take_add_one, h, sizeBs_append]; simp [sizeBs]
theorem depthBs_take {ts : List Bd} {k : Nat} {t : Bd} (h : ts[k]? = some t) : depthBs (ts.take (k + 1)) = max (depthBs (ts.take k)) (1 + depthB t) := by
  rw [List.take_add_one, h, depthBs_append]; simp [depthBs]
theorem sizeBs_take_le (ts : List Bd) (k : Nat) : sizeBs (ts.take k) ≤ sizeBs ts := by
  have := sizeBs_append (ts.take k) (ts.drop k); rw [List.take_append_drop] at this; omega
theorem sizeB_pos (b : Bd) : 1 ≤ sizeB b := by rw [sizeB_parts]; omega
theorem length_le_sizeBs (ts : List Bd) : ts.length ≤ sizeBs ts := by
  induction ts with
  | nil => simp
  | cons t ts ih => simp [sizeBs]; have := sizeB_pos t; omega
theorem depthBs_lt {ts : List Bd} (h : ∀ t ∈ ts, depthB t < sizeB t) : depthBs ts ≤ sizeBs ts := by
  induction ts with
  | nil => simp [depthBs]
  | cons t ts ih =>
    have h1 := h t (by simp)
    have h2 := ih (fun x hx => h x (by simp [hx]))
    simp only [depthBs, sizeBs]; omega
theorem mem_sizeBs {ts : List Bd} {t : Bd} (h : t ∈ ts) : sizeB t ≤ sizeBs ts := by
  induction ts with
  | nil => simp at h
  | cons x xs ih =>
    rcases List.mem_cons.1 h with rfl | h
    · simp [sizeBs]
    · have := ih h; simp [sizeBs]; omega
theorem depthB_lt : ∀ (n : Nat) (b : Bd), sizeB b ≤ n → depthB b < sizeB b := by
  intro n
  induction n with
  | zero => intro b h; have := sizeB_pos b; omega
  | succ n ih =>
    intro b h
    have h1 := sizeB_parts b
    rw [depthB_parts, h1]
    have := depthBs_lt (ts := partsOf b) (fun t ht => ih t (by have := mem_sizeBs ht; omega))
    omega

end Go.Proofs.YtohepefbogngfaaDoor

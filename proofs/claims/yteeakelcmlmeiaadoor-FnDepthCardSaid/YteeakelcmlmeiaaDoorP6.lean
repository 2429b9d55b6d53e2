/- Plain words: when a body is below another one; bodies that fit the types at hand. -/
import Derived.Test.YteeakelcmlmeiaaDoorW11
namespace Go.Proofs.YteeakelcmlmeiaaDoor
open Go.RowKit

mutual
def fitB : List Ty → Bd → Prop
  | _, .leaf _ => True
  | hand, .ask v ss y n => ∃ t, hand[v]? = some t ∧ fitBs (hands hand t.args) ss ∧ fitB hand y ∧ fitB hand n
def fitBs : List (List Ty) → List Bd → Prop
  | hs, [] => hs = []
  | hs, b :: bs => ∃ h hs', hs = h :: hs' ∧ fitB h b ∧ fitBs hs' bs
end

mutual
def belowB : Bd → Bd → Bool
  | .leaf c, .leaf d => c == 117 || c == d
  | .leaf c, .ask _ _ _ _ => c == 117
  | .ask _ _ _ _, .leaf _ => false
  | .ask v ss y n, .ask v' ss' y' n' => v == v' && (belowBs ss ss' && (belowB y y' && belowB n n'))
def belowBs : List Bd → List Bd → Bool
  | a :: xs, b :: bs => belowB a b && belowBs xs bs
  | [], _ => true
  | _ :: _, [] => false
end

theorem hands_length (levels ts : List Ty) : (hands levels ts).length = ts.length := by simp [hands]
theorem fitBs_append : ∀ (xs : List Bd) (bs : List Bd) (hs ks : List (List Ty)), fitBs hs xs → fitBs ks bs → fitBs (hs ++ ks) (xs ++ bs)
  | [], bs, hs, ks, h1, h2 => by rw [fitBs] at h1; subst h1; simpa using h2
  | a :: xs, bs, hs, ks, h1, h2 => by
    rw [fitBs] at h1
    obtain ⟨h, hs', rfl, e1, e2⟩ := h1
    exact ⟨h, hs' ++ ks, rfl, e1, fitBs_append xs bs hs' ks e2 h2⟩
theorem fitBs_length : ∀ (xs : List Bd) (hs : List (List Ty)), fitBs hs xs → hs.length = xs.length
  | [], hs, h => by rw [fitBs] at h; simp [h]
  | a :: xs, hs, h => by
    rw [fitBs] at h
    obtain ⟨h', hs', rfl, e1, e2⟩ := h
    simp [fitBs_length xs hs' e2]
theorem fitBs_at : ∀ (xs : List Bd) (hs : List (List Ty)), fitBs hs xs → ∀ (k : Nat) (a : Bd), xs[k]? = some a → ∃ h, hs[k]? = some h ∧ fitB h a
  | [], hs, h, k, a, ha => by simp at ha
  | a :: xs, hs, h, k, a', ha => by
    rw [fitBs] at h
    obtain ⟨h', hs', rfl, e1, e2⟩ := h
    cases k with
    | zero => simp at ha; subst ha; exact ⟨h', rfl, e1⟩
    | succ k => simp at ha; simpa using fitBs_at xs hs' e2 k a' ha
theorem fitBs_pair (h k : List Ty) (y n : Bd) : fitBs [h, k] [y, n] ↔ fitB h y ∧ fitB k n := by
  constructor
  · intro hf
    rw [fitBs] at hf
    obtain ⟨a, as', e, h1, h2⟩ := hf
    simp only [List.cons.injEq] at e
    obtain ⟨rfl, rfl⟩ := e
    rw [fitBs] at h2
    obtain ⟨a, as', e, h3, h4⟩ := h2
    simp only [List.cons.injEq] at e
    obtain ⟨rfl, rfl⟩ := e
    exact ⟨h1, h3⟩
  · rintro ⟨h1, h2⟩
    exact ⟨h, [k], rfl, h1, k, [], rfl, h2, by rw [fitBs]⟩
theorem fit_parts {hand : List Ty} {v : Nat} {ss : List Bd} {y n : Bd} (h : fitB hand (.ask v ss y n)) : ∃ t, hand[v]? = some t ∧ fitBs (allHands hand t) (partsOf (.ask v ss y n)) ∧ ss.length = t.args.length := by
  rw [fitB] at h
  obtain ⟨t, h1, h2, h3, h4⟩ := h
  refine ⟨t, h1, fitBs_append _ _ _ _ h2 ((fitBs_pair _ _ _ _).2 ⟨h3, h4⟩), ?_⟩
  have := fitBs_length _ _ h2
  rw [hands_length] at this; exact this.symm

theorem fitBs_split : ∀ (hs : List (List Ty)) (ks : List (List Ty)) (ps : List Bd), fitBs (hs ++ ks) ps → fitBs hs (ps.take hs.length) ∧ fitBs ks (ps.drop hs.length)
  | [], ks, ps, h => by
    constructor
    · simp [fitBs]
    · simpa using h
  | x :: hs, ks, [], h => by simp [fitBs] at h
  | x :: hs, ks, p :: ps, h => by
    simp only [List.cons_append] at h
    rw [fitBs] at h
    obtain ⟨h', hs', e, e1, e2⟩ := h
    simp only [List.cons.injEq] at e
    obtain ⟨rfl, rfl⟩ := e
    have := fitBs_split hs ks ps e2
    simp only [List.length_cons, List.take_succ_cons, List.drop_succ_cons]
    exact ⟨⟨x, hs, rfl, e1, this.1⟩, this.2⟩

theorem specParts_fit {rd : RdS} (hrd : ∀ {h l b r}, rd h l = some (b, r) → fitB h b) (hs : List (List Ty)) : ∀ {l r : Bs} {ps : List Bd}, specParts rd hs l = some (ps, r) → fitBs hs ps := by
  induction hs with
  | nil => intro l r ps h; simp [specParts] at h; obtain ⟨rfl, rfl⟩ := h; simp [fitBs]
  | cons h' hs ih =>
    intro l r ps h
    simp only [specParts, Option.bind_eq_bind, Option.bind_eq_some_iff, Prod.exists] at h
    obtain ⟨b, l1, h1, bs, l2, h2, h3⟩ := h
    simp at h3; obtain ⟨rfl, rfl⟩ := h3
    unfold specPart at h1
    simp only [Option.bind_eq_bind, Option.bind_eq_some_iff] at h1
    obtain ⟨l3, _, h4⟩ := h1
    exact ⟨h', hs, rfl, hrd h4, ih h2⟩
theorem rdN_fit (e : Nat) : ∀ {h : List Ty} {l : Bs} {b : Bd} {r : Bs}, rdN e h l = some (b, r) → fitB h b := by
  induction e with
  | zero => intro h l b r hq; simp [rdN] at hq
  | succ e ih =>
    intro h l b r hq
    cases l with
    | nil => simp [rdN] at hq
    | cons c m =>
      simp only [rdN] at hq
      split at hq
      · simp at hq; obtain ⟨rfl, rfl⟩ := hq; simp [fitB]
      · split at hq
        · simp at hq
        · split at hq
          · simp at hq
          · rename_i v k hsn
            split at hq
            · simp at hq
            · rename_i t ht
              simp only [Option.bind_eq_bind, Option.bind_eq_some_iff, Prod.exists] at hq
              obtain ⟨ps, l1, h1, l2, h2, b', h3, h4⟩ := hq
              simp at h4; obtain ⟨rfl, rfl⟩ := h4
              have k1 := specParts_fit ih _ h1
              have k2 := fitBs_split _ _ _ k1
              rw [hands_length] at k2
              unfold askOf at h3
              split at h3
              · rename_i y no hd
                simp at h3; subst h3
                rw [hd, fitBs_pair] at k2
                rw [fitB]
                exact ⟨t, ht, k2.1, k2.2.1, k2.2.2⟩
              · simp at h3
theorem specStrat_fit {s text : Bs} {b : Bd} (hq : specStrat s text = some b) : fitB (specType s).1.args b := by
  unfold specStrat at hq
  split at hq
  · simp at hq
  · split at hq
    · simp at hq
    · rename_i b' rest h
      split at hq
      · simp at hq; subst hq; exact rdN_fit _ h
      · simp at hq

theorem belowBs_append : ∀ (xs bs cs ds : List Bd), xs.length = bs.length → belowBs (xs ++ cs) (bs ++ ds) = (belowBs xs bs && belowBs cs ds)
  | [], [], cs, ds, _ => by simp [belowBs]
  | a :: xs, b :: bs, cs, ds, h => by
    simp only [List.cons_append, belowBs]
    rw [belowBs_append xs bs cs ds (by simpa using h), Bool.and_assoc]
theorem belowBs_true : ∀ (xs bs : List Bd), xs.length = bs.length → (belowBs xs bs = true ↔ ∀ (k : Nat) (a b : Bd), xs[k]? = some a → bs[k]? = some b → belowB a b = true)
  | [], [], _ => by simp [belowBs]
  | a :: xs, b :: bs, h => by
    simp only [belowBs, Bool.and_eq_true]
    rw [belowBs_true xs bs (by simpa using h)]
    constructor
    · rintro ⟨h1, h2⟩ k a' b' ha hb
      cases k with
      | zero => simp at ha hb; subst ha; subst hb; exact h1
      | succ k => simp at ha hb; exact h2 k a' b' ha hb
    · intro h
      exact ⟨h 0 a b rfl rfl, fun k a' b' ha hb => h (k + 1) a' b' (by simpa using ha) (by simpa using hb)⟩
def BelowTo (xs bs : List Bd) (k : Nat) : Prop := ∀ (j : Nat) (a b : Bd), j < k → xs[j]? = some a → bs[j]? = some b → belowB a b = true
theorem BelowTo.zero (xs bs : List Bd) : BelowTo xs bs 0 := fun j a b h => by omega
theorem BelowTo.next {xs bs : List Bd} {k : Nat} (h : BelowTo xs bs k) {a b : Bd} (ha : xs[k]? = some a) (hb : bs[k]? = some b) (hab : belowB a b = true) : BelowTo xs bs (k + 1) := by
  intro j a' b' hj h1 h2
  rcases Nat.lt_or_ge j k with h' | h'
  · exact h j a' b' h' h1 h2
  · obtain rfl : j = k := by omega
    rw [ha] at h1; rw [hb] at h2; simp at h1 h2; subst h1; subst h2; exact hab
theorem BelowTo.all {xs bs : List Bd} (hl : xs.length = bs.length) (h : BelowTo xs bs xs.length) : belowBs xs bs = true :=
  (belowBs_true xs bs hl).2 fun k a b ha hb => h k a b (List.getElem?_eq_some_iff.1 ha).1 ha hb
theorem below_no {xs bs : List Bd} (hl : xs.length = bs.length) {k : Nat} {a b : Bd} (ha : xs[k]? = some a) (hb : bs[k]? = some b) (hab : belowB a b = false) : belowBs xs bs = false := by
  cases hc : belowBs xs bs with
  | false => rfl
  | true => rw [(belowBs_true xs bs hl).1 hc k a b ha hb] at hab; simp at hab

def lvOf : Bd → Nat
  | .leaf _ => 0
  | .ask v _ _ _ => v
def isAsk : Bd → Bool
  | .leaf _ => false
  | .ask _ _ _ _ => true

theorem fit_lengths {hand : List Ty} {b c : Bd} (hb : fitB hand b) (hc : fitB hand c) (ha : atomOf b = atomOf c) (hv : lvOf b = lvOf c) :
    ∃ hs, fitBs hs (partsOf b) ∧ fitBs hs (partsOf c) := by
  cases b with
  | leaf x => cases c with
    | leaf y => exact ⟨[], by simp [partsOf, fitBs], by simp [partsOf, fitBs]⟩
    | ask v ss y n => simp [atomOf] at ha
  | ask v ss y n => cases c with
    | leaf y => simp [atomOf] at ha
    | ask v' ss' y' n' =>
      obtain ⟨t, h1, h2, _⟩ := fit_parts hb
      obtain ⟨t', h3, h4, _⟩ := fit_parts hc
      simp only [lvOf] at hv; subst hv
      rw [h1] at h3; simp at h3; subst h3
      exact ⟨_, h2, h4⟩
theorem fit_kids {hand : List Ty} {b c : Bd} (hb : fitB hand b) (hc : fitB hand c) (ha : atomOf b = atomOf c) (hv : lvOf b = lvOf c) :
    (kidsOf b).length = (kidsOf c).length ∧ (yesOf b).length = (yesOf c).length := by
  cases b with
  | leaf x => cases c with
    | leaf y => exact ⟨rfl, rfl⟩
    | ask v ss y n => simp [atomOf] at ha
  | ask v ss y n => cases c with
    | leaf y => simp [atomOf] at ha
    | ask v' ss' y' n' =>
      obtain ⟨t, h1, _, h2⟩ := fit_parts hb
      obtain ⟨t', h3, _, h4⟩ := fit_parts hc
      simp only [lvOf] at hv; subst hv
      rw [h1] at h3; simp at h3; subst h3
      exact ⟨h2.trans h4.symm, rfl⟩

theorem belowB_u {b c : Bd} (h : atomOf b = [117]) : belowB b c = true := by
  cases b with
  | leaf x => simp [atomOf] at h; subst h; cases c <;> simp [belowB]
  | ask v ss y n => simp [atomOf] at h
theorem belowB_atom {b c : Bd} (h : atomOf b ≠ [117]) (ha : atomOf b ≠ atomOf c) : belowB b c = false := by
  cases b with
  | leaf x =>
    simp [atomOf] at h
    cases c with
    | leaf y => simp [atomOf] at ha; simp [belowB, h, ha]
    | ask v ss y n => simp [belowB, h]
  | ask v ss y n => cases c with
    | leaf y => simp [belowB]
    | ask v' ss' y' n' => simp [atomOf] at ha
theorem belowB_lv {b c : Bd} (ha : atomOf b = atomOf c) (hv : lvOf b ≠ lvOf c) : belowB b c = false := by
  cases b with
  | leaf x => cases c with
    | leaf y => simp [lvOf] at hv
    | ask v ss y n => simp [atomOf] at ha
  | ask v ss y n => cases c with
    | leaf y => simp [belowB]
    | ask v' ss' y' n' => simp [lvOf] at hv; simp [belowB, hv]
theorem belowB_parts {hand : List Ty} {b c : Bd} (hb : fitB hand b) (hc : fitB hand c) (ha : atomOf b = atomOf c) (hv : lvOf b = lvOf c) : belowB b c = belowBs (partsOf b) (partsOf c) := by
  have hk := (fit_kids hb hc ha hv).1
  cases b with
  | leaf x => cases c with
    | leaf y => simp [atomOf] at ha; subst ha; simp [belowB, partsOf, belowBs]
    | ask v ss y n => simp [atomOf] at ha
  | ask v ss y n => cases c with
    | leaf y => simp [atomOf] at ha
    | ask v' ss' y' n' =>
      simp only [lvOf] at hv; subst hv
      simp only [kidsOf] at hk
      simp only [belowB, partsOf, belowBs_append _ _ _ _ hk, belowBs, Bool.and_true]; simp
theorem belowB_kids {hand : List Ty} {b c : Bd} (hb : fitB hand b) (hc : fitB hand c) (ha : atomOf b = atomOf c) (hv : lvOf b = lvOf c) : belowB b c = (belowBs (kidsOf b) (kidsOf c) && belowBs (yesOf b) (yesOf c)) := by
  rw [belowB_parts hb hc ha hv]
  have hk := (fit_kids hb hc ha hv).1
  rw [partsOf_eq, partsOf_eq, belowBs_append _ _ _ _ hk]
theorem isAsk_eq {b c : Bd} (ha : atomOf b = atomOf c) : isAsk b = isAsk c := by
  cases b <;> cases c <;> simp [atomOf] at ha <;> rfl
theorem lv_leaf {b c : Bd} (ha : atomOf b = atomOf c) (hi : isAsk b = false) : lvOf b = lvOf c := by
  cases b <;> cases c <;> simp [atomOf, isAsk] at * <;> rfl

theorem encN_lv {F : Nat → Prop} {w : World} {b : Bd} {s v k y : Value} (h : Reps F w (encN b) [s, v, k, y]) : v = .int .i64 (lvOf b : Nat) := by
  cases b with
  | leaf c =>
    rw [encN] at h
    obtain ⟨_, _, e, h0, h⟩ := Reps_cons.1 h
    simp only [List.cons.injEq] at e; obtain ⟨rfl, rfl⟩ := e
    obtain ⟨_, _, e, h1, h⟩ := Reps_cons.1 h
    simp only [List.cons.injEq] at e; obtain ⟨rfl, rfl⟩ := e
    exact Rep_val.1 h1
  | ask lv ss yb nb =>
    rw [encN] at h
    obtain ⟨_, _, e, h0, h⟩ := Reps_cons.1 h
    simp only [List.cons.injEq] at e; obtain ⟨rfl, rfl⟩ := e
    obtain ⟨_, _, e, h1, h⟩ := Reps_cons.1 h
    simp only [List.cons.injEq] at e; obtain ⟨rfl, rfl⟩ := e
    exact Rep_val.1 h1


end Go.Proofs.YteeakelcmlmeiaaDoor

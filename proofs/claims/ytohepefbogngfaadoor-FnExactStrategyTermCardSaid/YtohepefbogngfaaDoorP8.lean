import Derived.Test.YtohepefbogngfaaDoorP5
import Derived.Laws.Concat

/- Plain words: when a body is below another one; bodies that fit the types at hand. -/
namespace Go.Proofs.YtohepefbogngfaaDoor
open Go.RowKit

mutual
def fitB : List Ty → Bd → Prop
  | _, .leaf _ => True
  | hand, .ask v ss y n => ∃ t, hand[v]? = some t ∧ fitBs (hands hand t.args) ss ∧ fitB hand y ∧ fitB hand n
def fitBs : List (List Ty) → List Bd → Prop
  | hs, [] => hs = []
  | hs, b :: bs => ∃ h hs', hs = h :: hs' ∧ fitB h b ∧ fitBs hs' bs
end

mutual
def belowB : Bd → Bd → Bool
  | .leaf c, .leaf d => c == 117 || c == d
  | .leaf c, .ask _ _ _ _ => c == 117
  | .ask _ _ _ _, .leaf _ => false
  | .ask v ss y n, .ask v' ss' y' n' => v == v' && (belowBs ss ss' && (belowB y y' && belowB n n'))
def belowBs : List Bd → List Bd → Bool
  | a :: xs, b :: bs => belowB a b && belowBs xs bs
  | [], _ => true
  | _ :: _, [] => false
end

theorem hands_length (levels ts : List Ty) : (hands levels ts).length = ts.length := by simp [hands]
theorem fitBs_append : ∀ (xs : List Bd) (bs : List Bd) (hs ks : List (List Ty)), fitBs hs xs → fitBs ks bs → fitBs (hs ++ ks) (xs ++ bs)
  | [], bs, hs, ks, h1, h2 => by rw [fitBs] at h1; subst h1; simpa using h2
  | a :: xs, bs, hs, ks, h1, h2 => by
    rw [fitBs] at h1
    obtain ⟨h, hs', rfl, e1, e2⟩ := h1
    exact ⟨h, hs' ++ ks, rfl, e1, fitBs_append xs bs hs' ks e2 h2⟩
theorem fitBs_length : ∀ (xs : List Bd) (hs : List (List Ty)), fitBs hs xs → hs.length = xs.length
  | [], hs, h => by rw [fitBs] at h; simp [h]
  | a :: xs, hs, h => by
    rw [fitBs] at h
    obtain ⟨h', hs', rfl, e1, e2⟩ := h
    simp [fitBs_length xs hs' e2]
theorem fitBs_at : ∀ (xs : List Bd) (hs : List (List Ty)), fitBs hs xs → ∀ (k : Nat) (a : Bd), xs[k]? = some a → ∃ h, hs[k]? = some h ∧ fitB h a
  | [], hs, h, k, a, ha => by simp at ha
  | a :: xs, hs, h, k, a', ha => by
    rw [fitBs] at h
    obtain ⟨h', hs', rfl, e1, e2⟩ := h
    cases k with
    | zero => simp at ha; subst ha; exact ⟨h', rfl, e1⟩
    | succ k => simp at ha; simpa using fitBs_at xs hs' e2 k a' ha
theorem fitBs_pair (h k : List Ty) (y n : Bd) : fitBs [h, k] [y, n] ↔ fitB h y ∧ fitB k n := by
  constructor
  · intro hf
    rw [fitBs] at hf
    obtain ⟨a, as', e, h1, h2⟩ := hf
    simp only [List.cons.injEq] at e
    obtain ⟨rfl, rfl⟩ := e
    rw [fitBs] at h2
    obtain ⟨a, as', e, h3, h4⟩ := h2
    simp only [List.cons.injEq] at e
    obtain ⟨rfl, rfl⟩ := e
    exact ⟨h1, h3⟩
  · rintro ⟨h1, h2⟩
    exact ⟨h, [k], rfl, h1, k, [], rfl, h2, by rw [fitBs]⟩
theorem fit_parts {hand : List Ty} {v : Nat} {ss : List Bd} {y n : Bd} (h : fitB hand (.ask v ss y n)) : ∃ t, hand[v]? = some t ∧ fitBs (allHands hand t) (partsOf (.ask v ss y n)) ∧ ss.length = t.args.length := by
  rw [fitB] at h
  obtain ⟨t, h1, h2, h3, h4⟩ := h
  refine ⟨t, h1, fitBs_append _ _ _ _ h2 ((fitBs_pair _ _ _ _).2 ⟨h3, h4⟩), ?_⟩
  have := fitBs_length _ _ h2
  rw [hands_length] at this; exact this.symm

theorem fitBs_split : ∀ (hs : List (List Ty)) (ks : List (List Ty)) (ps : List Bd), fitBs (hs ++ ks) ps → fitBs hs (ps.take hs.length) ∧ fitBs ks (ps.drop hs.length)
  | [], ks, ps, h => by
    constructor
    · simp [fitBs]
    · simpa using h
  | x :: hs, ks, [], h => by simp [fitBs] at h
  | x :: hs, ks, p :: ps, h => by
    simp only [List.cons_append] at h
    rw [fitBs] at h
    obtain ⟨h', hs', e, e1, e2⟩ := h
    simp only [List.cons.injEq] at e
    obtain ⟨rfl, rfl⟩ := e
    have := fitBs_split hs ks ps e2
    simp only [List.length_cons, List.take_succ_cons, List.drop_succ_cons]
    exact ⟨⟨x, hs, rfl, e1, this.1⟩, this.2⟩

theorem specParts_fit {rd : RdS} (hrd : ∀ {h l b r}, rd h l = some (b, r) → fitB h b) (hs : List (List Ty)) : ∀ {l r : Bs} {ps : List Bd}, specParts rd hs l = some (ps, r) → fitBs hs ps := by
  induction hs with
  | nil => intro l r ps h; simp [specParts] at h; obtain ⟨rfl, rfl⟩ := h; simp [fitBs]
  | cons h' hs ih =>
    intro l r ps h
    simp only [specParts, Option.bind_eq_bind, Option.bind_eq_some_iff, Prod.exists] at h
    obtain ⟨b, l1, h1, bs, l2, h2, h3⟩ := h
    simp at h3; obtain ⟨rfl, rfl⟩ := h3
    unfold specPart at h1
    simp only [Option.bind_eq_bind, Option.bind_eq_some_iff] at h1
    obtain ⟨l3, _, h4⟩ := h1
    exact ⟨h', hs, rfl, hrd h4, ih h2⟩
theorem rdN_fit (e : Nat) : ∀ {h : List Ty} {l : Bs} {b : Bd} {r : Bs}, rdN e h l = some (b, r) → fitB h b := by
  induction e with
  | zero => intro h l b r hq; simp [rdN] at hq
  | succ e ih =>
    intro h l b r hq
    cases l with
    | nil => simp [rdN] at hq
    | cons c m =>
      simp only [rdN] at hq
      split at hq
      · simp at hq; obtain ⟨rfl, rfl⟩ := hq; simp [fitB]
      · split at hq
        · simp at hq
        · split at hq
          · simp at hq
          · rename_i v k hsn
            split at hq
            · simp at hq
            · rename_i t ht
              simp only [Option.bind_eq_bind, Option.bind_eq_some_iff, Prod.exists] at hq
              obtain ⟨ps, l1, h1, l2, h2, b', h3, h4⟩ := hq
              simp at h4; obtain ⟨rfl, rfl⟩ := h4
              have k1 := specParts_fit ih _ h1
              have k2 := fitBs_split _ _ _ k1
              rw [hands_length] at k2
              unfold askOf at h3
              split at h3
              · rename_i y no hd
                simp at h3; subst h3
                rw [hd, fitBs_pair] at k2
                rw [fitB]
                exact ⟨t, ht, k2.1, k2.2.1, k2.2.2⟩
              · simp at h3
theorem specStrat_fit {s text : Bs} {b : Bd} (hq : specStrat s text = some b) : fitB (specType s).1.args b := by
  unfold specStrat at hq
  split at hq
  · simp at hq
  · split at hq
    · simp at hq
    · rename_i b' rest h
      split at hq
      · simp at hq; subst hq; exact rdN_fit _ h
      · simp at hq

theorem belowBs_append : ∀ (xs bs cs ds : List Bd), xs.length = bs.length → belowBs (xs ++ cs) (bs ++ ds) = (belowBs xs bs && belowBs cs ds)
  | [], [], cs, ds, _ => by simp [belowBs]
  | a :: xs, b :: bs, cs, ds, h => by
    simp only [List.cons_append, belowBs]
    rw [belowBs_append xs bs cs ds (by simpa using h), Bool.and_assoc]
theorem belowBs_true : ∀ (xs bs : List Bd), xs.length = bs.length → (belowBs xs bs = true ↔ ∀ (k : Nat) (a b : Bd), xs[k]? = some a → bs[k]? = some b → belowB a b = true)
  | [], [], _ => by simp [belowBs]
  | a :: xs, b :: bs, h => by
    simp only [belowBs, Bool.and_eq_true]
    rw [belowBs_true xs bs (by simpa using h)]
    constructor
    · rintro ⟨h1, h2⟩ k a' b' ha hb
      cases k with
      | zero => simp at ha hb; subst ha; subst hb; exact h1
      | succ k => simp at ha hb; exact h2 k a' b' ha hb
    · intro h
      exact ⟨h 0 a b rfl rfl, fun k a' b' ha hb => h (k + 1) a' b' (by simpa using ha) (by simpa using hb)⟩
def BelowTo (xs bs : List Bd) (k : Nat) : Prop := ∀ (j : Nat) (a b : Bd), j < k → xs[j]? = some a → bs[j]? = some b → belowB a b = true
theorem BelowTo.zero (xs bs : List Bd) : BelowTo xs bs 0 := fun j a b h => by omega
theorem BelowTo.next {xs bs : List Bd} {k : Nat} (h : BelowTo xs bs k) {a b : Bd} (ha : xs[k]? = some a) (hb : bs[k]? = some b) (hab : belowB a b = true) : BelowTo xs bs (k + 1) := by
  intro j a' b' hj h1 h2
  rcases Nat.lt_or_ge j k with h' | h'
  · exact h j a' b' h' h1 h2
  · obtain rfl : j = k := by omega
    rw [ha] at h1; rw [hb] at h2; simp at h1 h2; subst h1; subst h2; exact hab
theorem BelowTo.all {xs bs : List Bd} (hl : xs.length = bs.length) (h : BelowTo xs bs xs.length) : belowBs xs bs = true :=
  (belowBs_true xs bs hl).2 fun k a b ha hb => h k a b (List.getElem?_eq_some_iff.1 ha).1 ha hb
theorem below_no {xs bs : List Bd} (hl : xs.length = bs.length) {k : Nat} {a b : Bd} (ha : xs[k]? = some a) (hb : bs[k]? = some b) (hab : belowB a b = false) : belowBs xs bs = false := by
  cases hc : belowBs xs bs with
  | false => rfl
  | true => rw [(belowBs_true xs bs hl).1 hc k a b ha hb] at hab; simp at hab

def lvOf : Bd → Nat
  | .leaf _ => 0
  | .ask v _ _ _ => v
def isAsk : Bd → Bool
  | .leaf _ => false
  | .ask _ _ _ _ => true

theorem fit_lengths {hand : List Ty} {b c : Bd} (hb : fitB hand b) (hc : fitB hand c) (ha : atomOf b = atomOf c) (hv : lvOf b = lvOf c) :
    ∃ hs, fitBs hs (partsOf b) ∧ fitBs hs (partsOf c) := by
  cases b with
  | leaf x => cases c with
    | leaf y => exact ⟨[], by simp [partsOf, fitBs], by simp [partsOf, fitBs]⟩
    | ask v ss y n => simp [atomOf] at ha
  | ask v ss y n => cases c with
    | leaf y => simp [atomOf] at ha
    | ask v' ss' y' n' =>
      obtain ⟨t, h1, h2, _⟩ := fit_parts hb
      obtain ⟨t', h3, h4, _⟩ := fit_parts hc
      simp only [lvOf] at hv; subst hv
      rw [h1] at h3; simp at h3; subst h3
      exact ⟨_, h2, h4⟩
theorem fit_kids {hand : List Ty} {b c : Bd} (hb : fitB hand b) (hc : fitB hand c) (ha : atomOf b = atomOf c) (hv : lvOf b = lvOf c) :
    (kidsOf b).length = (kidsOf c).length ∧ (yesOf b).length = (yesOf c).length := by
  cases b with
  | leaf x => cases c with
    | leaf y => exact ⟨rfl, rfl⟩
    | ask v ss y n => simp [atomOf] at ha
  | ask v ss y n => cases c with
    | leaf y => simp [atomOf] at ha
    | ask v' ss' y' n' =>
      obtain ⟨t, h1, _, h2⟩ := fit_parts hb
      obtain ⟨t', h3, _, h4⟩ := fit_parts hc
      simp only [lvOf] at hv; subst hv
      rw [h1] at h3; simp at h3; subst h3
      exact ⟨h2.trans h4.symm, rfl⟩

theorem belowB_u {b c : Bd} (h : atomOf b = [117]) : belowB b c = true := by
  cases b with
  | leaf x => simp [atomOf] at h; subst h; cases c <;> simp [belowB]
  | ask v ss y n => simp [atomOf] at h
theorem belowB_atom {b c : Bd} (h : atomOf b ≠ [117]) (ha : atomOf b ≠ atomOf c) : belowB b c = false := by
  cases b with
  | leaf x =>
    simp [atomOf] at h
    cases c with
    | leaf y => simp [atomOf] at ha; simp [belowB, h, ha]
    | ask v ss y n => simp [belowB, h]
  | ask v ss y n => cases c with
    | leaf y => simp [belowB]
    | ask v' ss' y' n' => simp [atomOf] at ha
theorem belowB_lv {b c : Bd} (ha : atomOf b = atomOf c) (hv : lvOf b ≠ lvOf c) : belowB b c = false := by
  cases b with
  | leaf x => cases c with
    | leaf y => simp [lvOf] at hv
    | ask v ss y n => simp [atomOf] at ha
  | ask v ss y n => cases c with
    | leaf y => simp [belowB]
    | ask v' ss' y' n' => simp [lvOf] at hv; simp [belowB, hv]
theorem belowB_parts {hand : List Ty} {b c : Bd} (hb : fitB hand b) (hc : fitB hand c) (ha : atomOf b = atomOf c) (hv : lvOf b = lvOf c) : belowB b c = belowBs (partsOf b) (partsOf c) := by
  have hk := (fit_kids hb hc ha hv).1
  cases b with
  | leaf x => cases c with
    | leaf y => simp [atomOf] at ha; subst ha; simp [belowB, partsOf, belowBs]
    | ask v ss y n => simp [atomOf] at ha
  | ask v ss y n => cases c with
    | leaf y => simp [atomOf] at ha
    | ask v' ss' y' n' =>
      simp only [lvOf] at hv; subst hv
      simp only [kidsOf] at hk
      simp only [belowB, partsOf, belowBs_append _ _ _ _ hk, belowBs, Bool.and_true]; simp
theorem belowB_kids {hand : List Ty} {b c : Bd} (hb : fitB hand b) (hc : fitB hand c) (ha : atomOf b = atomOf c) (hv : lvOf b = lvOf c) : belowB b c = (belowBs (kidsOf b) (kidsOf c) && belowBs (yesOf b) (yesOf c)) := by
  rw [belowB_parts hb hc ha hv]
  have hk := (fit_kids hb hc ha hv).1
  rw [partsOf_eq, partsOf_eq, belowBs_append _ _ _ _ hk]
theorem isAsk_eq {b c : Bd} (ha : atomOf b = atomOf c) : isAsk b = isAsk c := by
  cases b <;> cases c <;> simp [atomOf] at ha <;> rfl
theorem lv_leaf {b c : Bd} (ha : atomOf b = atomOf c) (hi : isAsk b = false) : lvOf b = lvOf c := by
  cases b <;> cases c <;> simp [atomOf, isAsk] at * <;> rfl

theorem encN_lv {F : Nat → Prop} {w : World} {b : Bd} {s v k y : Value} (h : Reps F w (encN b) [s, v, k, y]) : v = .int .i64 (lvOf b : Nat) := by
  cases b with
  | leaf c =>
    rw [encN] at h
    obtain ⟨_, _, e, h0, h⟩ := Reps_cons.1 h
    simp only [List.cons.injEq] at e; obtain ⟨rfl, rfl⟩ := e
    obtain ⟨_, _, e, h1, h⟩ := Reps_cons.1 h
    simp only [List.cons.injEq] at e; obtain ⟨rfl, rfl⟩ := e
    exact Rep_val.1 h1
  | ask lv ss yb nb =>
    rw [encN] at h
    obtain ⟨_, _, e, h0, h⟩ := Reps_cons.1 h
    simp only [List.cons.injEq] at e; obtain ⟨rfl, rfl⟩ := e
    obtain ⟨_, _, e, h1, h⟩ := Reps_cons.1 h
    simp only [List.cons.injEq] at e; obtain ⟨rfl, rfl⟩ := e
    exact Rep_val.1 h1


end Go.Proofs.YtohepefbogngfaaDoor

/- Plain words: numbers in decimals, bodies written. -/
namespace Go.Proofs.YtohepefbogngfaaDoor
open Go.RowKit

theorem tmod_nat (a b : Nat) : ((a : Int).tmod (b : Int)) = ((a % b : Nat) : Int) := rfl
theorem tdiv_nat (a b : Nat) : ((a : Int).tdiv (b : Int)) = ((a / b : Nat) : Int) := rfl
theorem wrap_nat (n : Nat) (h : n < 9223372036854775808) : IntKind.i64.wrap (n : Int) = (n : Int) := by
  simp [IntKind.wrap, IntKind.bits, IntKind.signed]; omega

def digit (r : Nat) : UInt8 := UInt8.ofNat (48 + r)
/-- A number in decimals. -/
def dec (n : Nat) : Bs := if n < 10 then [digit n] else dec (n / 10) ++ [digit (n % 10)]
theorem dec_small {n : Nat} (h : n < 10) : dec n = [digit n] := by rw [dec, if_pos h]
theorem dec_great {n : Nat} (h : ¬ n < 10) : dec n = dec (n / 10) ++ [digit (n % 10)] := by rw [dec, if_neg h]
theorem dec_length (k : Nat) : ∀ n, n < 10 ^ (k + 1) → (dec n).length ≤ k + 1 := by
  induction k with
  | zero => intro n h; rw [dec_small (by simpa using h)]; simp
  | succ k ih =>
    intro n h
    by_cases h10 : n < 10
    · rw [dec_small h10]; simp
    · rw [dec_great h10]
      have := ih (n / 10) (by rw [Nat.div_lt_iff_lt_mul (by omega), ← Nat.pow_succ]; exact h)
      simp; omega

theorem str_add (a b : Bs) : (⟨a.toArray⟩ : ByteArray) ++ (⟨b.toArray⟩ : ByteArray) = ⟨(a ++ b).toArray⟩ := by
  have h : ((⟨a.toArray⟩ : ByteArray) ++ (⟨b.toArray⟩ : ByteArray)).data = (a ++ b).toArray := by
    rw [ByteArray.data_append]; simp
  cases hx : (⟨a.toArray⟩ : ByteArray) ++ (⟨b.toArray⟩ : ByteArray) with
  | mk d => rw [hx] at h; simp at h; rw [h]

theorem add_str {P : Program} (a b : Bs) (h : a.length + b.length ≤ 9223372036854775807) (w : World) : (Op.stringOp .add ⟨a.toArray⟩ ⟨b.toArray⟩).run P w = .ok (str (a ++ b)) w := by
  rw [run_string_add_sum w _ _ (by rw [size_str, size_str]; exact h), str_add]

mutual
def textB : Bd → Bs
  | .leaf c => [c]
  | .ask v ss y n => (((([40] ++ dec v ++ textBs ss ++ [32]) ++ textB y) ++ [32]) ++ textB n) ++ [41]
def textBs : List Bd → Bs
  | [] => []
  | b :: bs => [32] ++ textB b ++ textBs bs
end
mutual
def lvB : Bd → Prop
  | .leaf _ => True
  | .ask v ss y n => v ≤ 10000 ∧ lvBs ss ∧ lvB y ∧ lvB n
def lvBs : List Bd → Prop
  | [] => True
  | b :: bs => lvB b ∧ lvBs bs
end
theorem textBs_append : ∀ (xs ys : List Bd), textBs (xs ++ ys) = textBs xs ++ textBs ys
  | [], ys => by simp [textBs]
  | x :: xs, ys => by simp [textBs, textBs_append xs ys]
theorem textBs_take {ts : List Bd} {k : Nat} {t : Bd} (h : ts[k]? = some t) : textBs (ts.take (k + 1)) = textBs (ts.take k) ++ [32] ++ textB t := by
  rw [List.take_add_one, h, textBs_append]; simp [textBs]
theorem lvBs_at : ∀ (xs : List Bd), lvBs xs → ∀ (k : Nat) (t : Bd), xs[k]? = some t → lvB t
  | [], _, k, t, h => by simp at h
  | x :: xs, hl, k, t, h => by
    rw [lvBs] at hl
    cases k with
    | zero => simp at h; subst h; exact hl.1
    | succ k => simp at h; exact lvBs_at xs hl.2 k t h

mutual
theorem textB_length : ∀ (b : Bd), lvB b → (textB b).length + 1 ≤ 12 * sizeB b
  | .leaf c, _ => by simp [textB, sizeB]
  | .ask v ss y n, h => by
    rw [lvB] at h
    have h1 := textBs_length ss h.2.1
    have h2 := textB_length y h.2.2.1
    have h3 := textB_length n h.2.2.2
    have h4 : (dec v).length ≤ 5 := dec_length 4 v (by have := h.1; omega)
    simp only [textB, sizeB, List.length_append, List.length_cons, List.length_nil]
    omega
theorem textBs_length : ∀ (bs : List Bd), lvBs bs → (textBs bs).length ≤ 12 * sizeBs bs
  | [], _ => by simp [textBs]
  | b :: bs, h => by
    rw [lvBs] at h
    have h1 := textB_length b h.1
    have h2 := textBs_length bs h.2
    simp only [textBs, sizeBs, List.length_append, List.length_cons, List.length_nil]
    omega
end
theorem textBs_take_len (xs : List Bd) (k : Nat) : (textBs (xs.take k)).length ≤ (textBs xs).length := by
  have := congrArg List.length (textBs_append (xs.take k) (xs.drop k))
  rw [List.take_append_drop, List.length_append] at this
  omega

end Go.Proofs.YtohepefbogngfaaDoor

/- Plain words: types are written and read again; the machine that runs strategies against others. -/
namespace Go.Proofs.YtohepefbogngfaaDoor
open Go.RowKit

mutual
def textT : Ty → Bs
  | .mk ts => textTs ts
def textTs : List Ty → Bs
  | [] => [98]
  | a :: ts => [40, 62, 32] ++ (textT a ++ ([32] ++ (textTs ts ++ [41])))
end
theorem textT_nil : textT (.mk []) = [98] := by rw [textT, textTs]
theorem textT_cons (a : Ty) (ts : List Ty) : textT (.mk (a :: ts)) = [40, 62, 32] ++ (textT a ++ ([32] ++ (textT (.mk ts) ++ [41]))) := by
  rw [textT, textTs, textT]
theorem atomsT_cons (a : Ty) (ts : List Ty) : atomsT (.mk (a :: ts)) = 1 + atomsT a + atomsT (.mk ts) := by
  simp only [atomsT, atomsTs]; omega
theorem cut_app (p r : Bs) : cut p (p ++ r) = some r := by
  unfold cut
  have h : p.isPrefixOf (p ++ r) = true := List.isPrefixOf_iff_prefix.2 (List.prefix_append _ _)
  rw [if_pos h]; simp

theorem noCut_b (r : Bs) : NoCut [98] ([40, 62, 32] ++ r) := by
  show cut [98] ([40, 62, 32] ++ r) = none
  rfl

/-- What is written is read again. -/
theorem rdK_text (d : Nat) : ∀ (t : Ty) (r : Bs), atomsT t ≤ 2 * d + 1 → rdK d (textT t ++ r) = some (t, r) := by
  have hb : ∀ (d : Nat) (r : Bs), rdK d (textT (.mk []) ++ r) = some (.mk [], r) := fun d r => by
    rw [textT_nil]; exact rdK_b (cut_app [98] r)
  induction d with
  | zero =>
    intro t r h
    obtain ⟨ts⟩ := t
    cases ts with
    | nil => exact hb 0 r
    | cons a ts => rw [atomsT_cons] at h; have := atomsT_pos a; have := atomsT_pos (.mk ts); omega
  | succ d ih =>
    intro t r h
    obtain ⟨ts⟩ := t
    cases ts with
    | nil => exact hb _ r
    | cons a ts =>
      rw [atomsT_cons] at h
      have h1 := atomsT_pos a; have h2 := atomsT_pos (.mk ts)
      rw [textT_cons]
      have e : ([40, 62, 32] ++ (textT a ++ ([32] ++ (textT (.mk ts) ++ [41])))) ++ r = [40, 62, 32] ++ (textT a ++ ([32] ++ (textT (.mk ts) ++ ([41] ++ r)))) := by simp
      rw [e, rdK_succ (noCut_b _)]
      simp only [cut_app, Option.bind_eq_bind, Option.bind_some, ih a _ (by omega : atomsT a ≤ 2 * d + 1), ih (.mk ts) _ (by omega : atomsT (.mk ts) ≤ 2 * d + 1)]
      rfl
theorem textT_length : ∀ (n : Nat) (t : Ty), atomsT t ≤ n → (textT t).length + 2 = 3 * atomsT t := by
  intro n
  induction n with
  | zero => intro t h; have := atomsT_pos t; omega
  | succ n ih =>
    intro t h
    obtain ⟨ts⟩ := t
    cases ts with
    | nil => rw [textT_nil]; simp [atomsT, atomsTs]
    | cons a ts =>
      rw [atomsT_cons] at h ⊢
      have h1 := atomsT_pos a; have h2 := atomsT_pos (.mk ts)
      have k1 := ih a (by omega)
      have k2 := ih (.mk ts) (by omega)
      rw [textT_cons]
      simp only [List.length_append, List.length_cons, List.length_nil]
      omega
theorem specType_text {t : Ty} (h : atomsT t ≤ 15) : specType (textT t) = (t, true) := by
  have hl := textT_length 15 t h
  unfold specType
  rw [if_neg (by omega)]
  have := rdK_text 20 t [] (by omega)
  rw [List.append_nil] at this
  have h2 : rdS 21 (textT t) = some (t, []) := this
  rw [h2]
  simp [h]
theorem rdKind_text {t : Ty} (h : atomsT t ≤ 15) : rdKind (textT t) = some t := by
  unfold rdKind
  have := rdK_text 15 t [] (by omega)
  rw [List.append_nil] at this
  rw [this]
  simp [h]
/-- Both readers read the same strategies of a type that is at hand. -/
theorem rdStrat_text {t : Ty} (h : atomsT t ≤ 15) (l : Bs) : rdStrat t l = specStrat (textT t) l := by
  have h1 := rdTS_eq (textT t) l
  unfold rdTS at h1
  rw [rdKind_text h] at h1
  simp only [Option.bind_eq_bind, Option.bind_some] at h1
  rw [specType_text h] at h1
  cases ha : rdStrat t l <;> cases hb : specStrat (textT t) l <;> rw [ha, hb] at h1 <;> simp at h1 ⊢
  exact h1

/-- What stands for a level: a body with what stands for its levels; where it is asked: the question with which its type began, and its path. -/
inductive Clo where
  | mk (b : Bd) (env : List Clo) (begun : Nat) (path : Bs)
def Clo.body : Clo → Bd | .mk b _ _ _ => b
def Clo.env : Clo → List Clo | .mk _ e _ _ => e
def Clo.begun : Clo → Nat | .mk _ _ n _ => n
def Clo.path : Clo → Bs | .mk _ _ _ p => p

mutual
/-- A level's body fits its type. -/
def cloFit : Clo → Ty → Prop
  | .mk b e _ _, t => ∃ h, envFit e h ∧ fitB (h ++ t.args) b
def envFit : List Clo → List Ty → Prop
  | [], h => h = []
  | c :: cs, h => ∃ t ts, h = t :: ts ∧ cloFit c t ∧ envFit cs ts
end
theorem envFit_length : ∀ (cs : List Clo) (h : List Ty), envFit cs h → cs.length = h.length
  | [], h, k => by rw [envFit] at k; simp [k]
  | c :: cs, h, k => by
    rw [envFit] at k
    obtain ⟨t, ts, rfl, _, k2⟩ := k
    simp [envFit_length cs ts k2]
theorem envFit_at : ∀ (cs : List Clo) (h : List Ty), envFit cs h → ∀ (i : Nat) (c : Clo), cs[i]? = some c → ∃ t, h[i]? = some t ∧ cloFit c t
  | [], h, k, i, c, hc => by simp at hc
  | c :: cs, h, k, i, c', hc => by
    rw [envFit] at k
    obtain ⟨t, ts, rfl, k1, k2⟩ := k
    cases i with
    | zero => simp at hc; subst hc; exact ⟨t, rfl, k1⟩
    | succ i => simp at hc; simpa using envFit_at cs ts k2 i c' hc
theorem envFit_append : ∀ (xs bs : List Clo) (h k : List Ty), envFit xs h → envFit bs k → envFit (xs ++ bs) (h ++ k)
  | [], bs, h, k, h1, h2 => by rw [envFit] at h1; subst h1; simpa using h2
  | a :: xs, bs, h, k, h1, h2 => by
    rw [envFit] at h1
    obtain ⟨t, ts, rfl, k1, k2⟩ := h1
    simp only [List.cons_append]
    rw [envFit]
    exact ⟨t, ts ++ k, rfl, k1, envFit_append xs bs ts k k2 h2⟩

end Go.Proofs.YtohepefbogngfaaDoor

/- Plain words: the term of a strategy. -/
import Derived.Test.YtohepefbogngfaaDoorP24
namespace Go.Proofs.YtohepefbogngfaaDoor
open Go.RowKit

/-- The name of a level. -/
def lname (v : Nat) : Bs := 120 :: dec v
/-- A term with names bound ahead of it. -/
def lamsTm (n : Nat) : List Ty → Tm → Tm
  | [], b => b
  | t :: ts, b => .lam (lname n) t (lamsTm (n + 1) ts b)
mutual
/-- The term of a body, with levels at hand. -/
def tmB (hand : List Ty) : Bd → Tm
  | .leaf c => .wd [c]
  | .ask v ss y n => .ite (tmApps hand (.nm (lname v)) ((hand[v]?.map Ty.args).getD []) ss) (tmB hand y) (tmB hand n)
def tmApps (hand : List Ty) (f : Tm) : List Ty → List Bd → Tm
  | t :: ts, s :: ss => tmApps hand (.app f (lamsTm hand.length t.args (tmB (hand ++ t.args) s))) ts ss
  | [], _ => f
  | _ :: _, [] => f
end
/-- The term of a strategy of a type, with levels at hand. -/
def tmL (hand : List Ty) (t : Ty) (b : Bd) : Tm := lamsTm hand.length t.args (tmB (hand ++ t.args) b)
theorem tmApps_nil (hand : List Ty) (f : Tm) (ss : List Bd) : tmApps hand f [] ss = f := by rw [tmApps]
theorem tmApps_cons (hand : List Ty) (f : Tm) (t : Ty) (ts : List Ty) (s : Bd) (ss : List Bd) : tmApps hand f (t :: ts) (s :: ss) = tmApps hand (.app f (tmL hand t s)) ts ss := by rw [tmApps]; rfl
theorem tmApps_snoc (hand : List Ty) : ∀ (ts : List Ty) (ss : List Bd) (f : Tm) (t : Ty) (s : Bd), ts.length = ss.length → tmApps hand f (ts ++ [t]) (ss ++ [s]) = .app (tmApps hand f ts ss) (tmL hand t s)
  | [], [], f, t, s, _ => by rw [List.nil_append, List.nil_append, tmApps_cons, tmApps_nil, tmApps_nil]
  | [], s' :: ss, f, t, s, h => by simp at h
  | t' :: ts, [], f, t, s, h => by simp at h
  | t' :: ts, s' :: ss, f, t, s, h => by rw [List.cons_append, List.cons_append, tmApps_cons, tmApps_cons, tmApps_snoc hand ts ss _ t s (by simpa using h)]

theorem dec_sep (n : Nat) : ∀ c ∈ dec n, sep c = false := fun c hc => dig_sep (dec_all n c hc)
theorem lname_sep (v : Nat) : lname v ≠ [] ∧ ∀ c ∈ lname v, sep c = false := by
  refine ⟨by simp [lname], fun c hc => ?_⟩
  rcases List.mem_cons.1 hc with rfl | hc
  · decide
  · exact dec_sep v c hc
/-- A term whose names and words are words. -/
def wordTm : Tm → Prop
  | .nm x => x ≠ [] ∧ ∀ c ∈ x, sep c = false
  | .wd w => w ≠ [] ∧ ∀ c ∈ w, sep c = false
  | .lam x _ t => (x ≠ [] ∧ ∀ c ∈ x, sep c = false) ∧ wordTm t
  | .app m n => wordTm m ∧ wordTm n
  | .ite l m n => wordTm l ∧ wordTm m ∧ wordTm n
theorem okTr_word : ∀ t : Tm, wordTm t → okTr (trTm t)
  | .nm x, h => by rw [trTm, okTr]; exact h
  | .wd w, h => by rw [trTm, okTr]; exact h
  | .lam x k t, h => by
    rw [trTm, okTr, okTrs, okTrs, okTrs, okTrs, okTrs]
    exact ⟨by simp, by rw [okTr]; exact ⟨by decide, by decide⟩, by rw [okTr]; exact h.1, okTr_T k, okTr_word t h.2, trivial⟩
  | .app m n, h => by
    rw [trTm, okTr, okTrs, okTrs, okTrs, okTrs]
    exact ⟨by simp, by rw [okTr]; exact ⟨by decide, by decide⟩, okTr_word m h.1, okTr_word n h.2, trivial⟩
  | .ite l m n, h => by
    rw [trTm, okTr, okTrs, okTrs, okTrs, okTrs, okTrs]
    exact ⟨by simp, by rw [okTr]; exact ⟨by decide, by decide⟩, okTr_word l h.1, okTr_word m h.2.1, okTr_word n h.2.2, trivial⟩
theorem trT_inj {a b : Ty} (h : trT a = trT b) : atomsT a = atomsT b := by rw [← sizeTr_T a, h, sizeTr_T]
theorem small_tree : ∀ a b : Tm, trTm a = trTm b → smallTm a = smallTm b
  | .nm x, b, h => by cases b <;> simp [trTm] at h <;> simp [smallTm]
  | .wd x, b, h => by cases b <;> simp [trTm] at h <;> simp [smallTm]
  | .lam x k t, b, h => by
    cases b with
    | lam y l u =>
      simp only [trTm, Tr.ls.injEq, List.cons.injEq, and_true, true_and] at h
      rw [smallTm, smallTm, small_tree t u h.2.2, trT_inj h.2.1]
    | nm y => simp [trTm] at h
    | wd y => simp [trTm] at h
    | app m n => simp [trTm] at h
    | ite l m n => simp [trTm, lamW, ifW] at h
  | .app m n, b, h => by
    cases b with
    | app p q =>
      simp only [trTm, Tr.ls.injEq, List.cons.injEq, and_true, true_and] at h
      rw [smallTm, smallTm, small_tree m p h.1, small_tree n q h.2]
    | nm y => simp [trTm] at h
    | wd y => simp [trTm] at h
    | lam y l u => simp [trTm] at h
    | ite l m n => simp [trTm] at h
  | .ite l m n, b, h => by
    cases b with
    | ite o p q =>
      simp only [trTm, Tr.ls.injEq, List.cons.injEq, and_true, true_and] at h
      rw [smallTm, smallTm, small_tree l o h.1, small_tree m p h.2.1, small_tree n q h.2.2]
    | nm y => simp [trTm] at h
    | wd y => simp [trTm] at h
    | lam y l u => simp [trTm, lamW, ifW] at h
    | app p q => simp [trTm] at h
/-- Of a term of words and small types both say the same. -/
theorem term_both {t : Tm} (hw : wordTm t) (hs : smallTm t = true) : (specTerm (textTm t)).isSome = (implTerm (textTm t)).isSome := by
  rw [term_eq]
  cases h : implTerm (textTm t) with
  | none => rfl
  | some u =>
    obtain ⟨e, ho, _⟩ := implTerm_some h
    have : trTm t = trTm u := textTr_inj (okTr_word t hw) (okTr_Tm u ho) e
    rw [Option.bind_some, ← small_tree t u this, hs]
    rfl

theorem lams_word : ∀ (ts : List Ty) (n : Nat) (b : Tm), wordTm b → wordTm (lamsTm n ts b)
  | [], n, b, h => h
  | t :: ts, n, b, h => ⟨lname_sep n, lams_word ts (n + 1) b h⟩
theorem lams_small : ∀ (ts : List Ty) (n : Nat) (b : Tm), (∀ t ∈ ts, atomsT t ≤ 15) → smallTm b = true → smallTm (lamsTm n ts b) = true
  | [], n, b, _, h => h
  | t :: ts, n, b, ht, h => by
    rw [lamsTm, smallTm, decide_eq_true (ht t (by simp)), lams_small ts (n + 1) b (fun x hx => ht x (by simp [hx])) h]; rfl
theorem leaf_word {c : UInt8} (h : c = 116 ∨ c = 102 ∨ c = 117) : wordTm (.wd [c]) := by
  refine ⟨by simp, fun x hx => ?_⟩
  simp at hx; subst hx
  rcases h with rfl | rfl | rfl <;> decide
mutual
theorem tmB_word : ∀ (b : Bd) (hand : List Ty), wfB b → wordTm (tmB hand b)
  | .leaf c, hand, h => by rw [wfB] at h; rw [tmB]; exact leaf_word h
  | .ask v ss y n, hand, h => by
    rw [wfB] at h
    rw [tmB]
    exact ⟨tmApps_word ss hand _ _ h.1 (lname_sep v), tmB_word y hand h.2.1, tmB_word n hand h.2.2⟩
theorem tmApps_word : ∀ (ss : List Bd) (hand ts : List Ty) (f : Tm), wfBs ss → wordTm f → wordTm (tmApps hand f ts ss)
  | ss, hand, [], f, _, hf => by rw [tmApps]; exact hf
  | [], hand, t :: ts, f, _, hf => by rw [tmApps]; exact hf
  | s :: ss, hand, t :: ts, f, h, hf => by
    rw [wfBs] at h
    rw [tmApps_cons]
    exact tmApps_word ss hand ts _ h.2 ⟨hf, lams_word _ _ _ (tmB_word s _ h.1)⟩
end
theorem arg_small {t : Ty} (h : atomsT t ≤ 15) : ∀ a ∈ t.args, atomsT a ≤ 15 := (hand_of_type h).1
mutual
theorem tmB_small : ∀ (b : Bd) (hand : List Ty), (∀ t ∈ hand, atomsT t ≤ 15) → smallTm (tmB hand b) = true
  | .leaf c, hand, h => by rw [tmB, smallTm]
  | .ask v ss y n, hand, h => by
    rw [tmB, smallTm, tmB_small y hand h, tmB_small n hand h]
    rw [tmApps_small ss hand _ _ h (fun t ht => ?_) (by rw [smallTm])]
    · rfl
    · cases hv : hand[v]? with
      | none => rw [hv] at ht; simp at ht
      | some k =>
        rw [hv] at ht
        exact arg_small (h k (List.mem_of_getElem? hv)) t (by simpa using ht)
theorem tmApps_small : ∀ (ss : List Bd) (hand ts : List Ty) (f : Tm), (∀ t ∈ hand, atomsT t ≤ 15) → (∀ t ∈ ts, atomsT t ≤ 15) → smallTm f = true → smallTm (tmApps hand f ts ss) = true
  | ss, hand, [], f, _, _, hf => by rw [tmApps]; exact hf
  | [], hand, t :: ts, f, _, _, hf => by rw [tmApps]; exact hf
  | s :: ss, hand, t :: ts, f, h, hts, hf => by
    rw [tmApps_cons]
    have ha := arg_small (hts t (by simp))
    refine tmApps_small ss hand ts _ h (fun x hx => hts x (by simp [hx])) ?_
    rw [smallTm, hf, tmL, lams_small _ _ _ ha (tmB_small s _ fun x hx => ?_)]
    · rfl
    · rcases List.mem_append.1 hx with hx | hx
      · exact h x hx
      · exact ha x hx
end
/-- The term of a strategy. -/
def termOf (t : Ty) (b : Bd) : Tm := tmL [] t b
/-- What StrategyTerm gives. -/
def stratTerm (s text : Bs) : Option Bs := (specStrat s text).bind fun b => if (implTerm (textTm (termOf (specType s).1 b))).isSome then some (textTm (termOf (specType s).1 b)) else none
theorem termOf_good {t : Ty} {b : Bd} (h : Good t b) : wordTm (termOf t b) ∧ smallTm (termOf t b) = true := by
  refine ⟨lams_word _ _ _ (tmB_word b _ h.wf), lams_small _ _ _ (arg_small h.atoms) (tmB_small b _ fun x hx => ?_)⟩
  rw [List.nil_append] at hx
  exact arg_small h.atoms x hx
theorem stratTerm_both {s text : Bs} {b : Bd} (h : specStrat s text = some b) : (specTerm (textTm (termOf (specType s).1 b))).isSome = (implTerm (textTm (termOf (specType s).1 b))).isSome := by
  obtain ⟨h1, h2⟩ := termOf_good (specStrat_good h).1
  exact term_both h1 h2

end Go.Proofs.YtohepefbogngfaaDoor

/- Plain words: the text of a strategy's term, as it is put together. -/
import Derived.Test.YtohepefbogngfaaDoorP25
namespace Go.Proofs.YtohepefbogngfaaDoor
open Go.RowKit

/-- What stands ahead of a body in a term. -/
def headTx : Nat → List Ty → Bs
  | _, [] => []
  | n, t :: ts => [40, 108, 97, 109, 32] ++ lname n ++ [32] ++ textT t ++ [32] ++ headTx (n + 1) ts
def closeTx (n : Nat) : Bs := List.replicate n 41
theorem closeTx_succ (n : Nat) : closeTx (n + 1) = closeTx n ++ [41] := by unfold closeTx; rw [List.replicate_succ']
theorem closeTx_length (n : Nat) : (closeTx n).length = n := by simp [closeTx]
theorem headTx_snoc : ∀ (ts : List Ty) (n : Nat) (t : Ty), headTx n (ts ++ [t]) = headTx n ts ++ ([40, 108, 97, 109, 32] ++ lname (n + ts.length) ++ [32] ++ textT t ++ [32])
  | [], n, t => by rw [List.nil_append, headTx, headTx, headTx]; simp
  | u :: ts, n, t => by
    rw [List.cons_append, headTx, headTx, headTx_snoc ts (n + 1) t, List.length_cons, show n + 1 + ts.length = n + (ts.length + 1) from by omega]; simp
theorem lams_text : ∀ (ts : List Ty) (n : Nat) (b : Tm), textTm (lamsTm n ts b) = headTx n ts ++ textTm b ++ closeTx ts.length
  | [], n, b => by rw [lamsTm, headTx]; simp [closeTx]
  | t :: ts, n, b => by
    rw [lamsTm, textTm_lam, lams_text ts (n + 1) b, headTx, List.length_cons, closeTx_succ]
    simp [lamW]
/-- The text of a list of applications, one more. -/
theorem apps_text (hand : List Ty) (f : Tm) (t : Ty) (s : Bd) : textTm (.app f (tmL hand t s)) = [40, 97, 112, 112, 32] ++ textTm f ++ [32] ++ textTm (tmL hand t s) ++ [41] := by
  rw [textTm_app]; simp [appW]
theorem ite_text (l m n : Tm) : textTm (.ite l m n) = [40, 105, 102, 32] ++ textTm l ++ [32] ++ textTm m ++ [32] ++ textTm n ++ [41] := by
  rw [textTm_ite]; simp [ifW]
theorem nm_text (x : Bs) : textTm (.nm x) = x := by unfold textTm; rw [trTm, textTr]
theorem wd_text (x : Bs) : textTm (.wd x) = x := by unfold textTm; rw [trTm, textTr]

theorem lname_len {v : Nat} (h : v < 100000) : (lname v).length ≤ 6 := by
  have := dec_length 4 v (Nat.lt_of_lt_of_le h (by decide))
  simp [lname]; omega
theorem headTx_len : ∀ (ts : List Ty) (n : Nat), (∀ t ∈ ts, atomsT t ≤ 15) → n + ts.length ≤ 100000 → (headTx n ts).length ≤ 60 * ts.length
  | [], n, _, _ => by simp [headTx]
  | t :: ts, n, ht, hn => by
    rw [List.length_cons] at hn
    have h1 := headTx_len ts (n + 1) (fun x hx => ht x (by simp [hx])) (by omega)
    have h2 := textT_length 15 t (ht t (by simp))
    have h3 := lname_len (v := n) (by omega)
    have h4 := ht t (by simp)
    rw [headTx]
    simp only [List.length_append, List.length_cons, List.length_nil]
    omega
theorem arg_count {t : Ty} (h : atomsT t ≤ 15) : t.args.length ≤ 14 := by
  have := length_le_atomsTs t.args
  have := atomsT_mk t
  omega
mutual
/-- How long the term of a body is. -/
theorem tmB_len : ∀ (b : Bd) (hand : List Ty), fitB hand b → (∀ t ∈ hand, atomsT t ≤ 15) → hand.length + 15 * sizeB b ≤ 10000 → (textTm (tmB hand b)).length + 900 ≤ 1900 * sizeB b
  | .leaf c, hand, _, _, _ => by rw [tmB, wd_text, sizeB]; simp
  | .ask v ss y n, hand, hf, hh, hl => by
    rw [sizeB] at hl
    rw [fitB] at hf
    obtain ⟨t, ht, f1, f2, f3⟩ := hf
    have h1 := tmB_len y hand f2 hh (by omega)
    have h2 := tmB_len n hand f3 hh (by omega)
    have hv := (List.getElem?_eq_some_iff.1 ht).1
    have hn := lname_len (v := v) (by omega)
    have e : (hand[v]?.map Ty.args).getD [] = t.args := by rw [ht]; rfl
    have h3 := tmApps_len ss hand t.args (.nm (lname v)) f1 hh (arg_small (hh t (List.mem_of_getElem? ht))) (by omega)
    rw [nm_text] at h3
    rw [tmB, ite_text, sizeB, e]
    simp only [List.length_append, List.length_cons, List.length_nil]
    omega
theorem tmApps_len : ∀ (ss : List Bd) (hand ts : List Ty) (f : Tm), fitBs (hands hand ts) ss → (∀ t ∈ hand, atomsT t ≤ 15) → (∀ t ∈ ts, atomsT t ≤ 15) → hand.length + 15 * (1 + sizeBs ss) ≤ 10000 → (textTm (tmApps hand f ts ss)).length ≤ (textTm f).length + 1900 * sizeBs ss
  | ss, hand, [], f, _, _, _, _ => by rw [tmApps]; omega
  | [], hand, t :: ts, f, _, _, _, _ => by rw [tmApps]; omega
  | s :: ss, hand, t :: ts, f, hf, hh, ht, hl => by
    rw [sizeBs] at hl
    rw [fitBs] at hf
    obtain ⟨h', hs', e, f1, f2⟩ := hf
    simp only [hands, List.map_cons, List.cons.injEq] at e
    obtain ⟨rfl, rfl⟩ := e
    have ps := sizeB_pos s
    have hc := arg_count (ht t (by simp))
    have ha := arg_small (ht t (by simp))
    have h1 := tmApps_len ss hand ts (.app f (tmL hand t s)) f2 hh (fun x hx => ht x (by simp [hx])) (by omega)
    have h2 := tmB_len s (hand ++ t.args) f1 (fun x hx => by
      rcases List.mem_append.1 hx with hx | hx
      · exact hh x hx
      · exact ha x hx) (by rw [List.length_append]; omega)
    have h3 := headTx_len t.args hand.length ha (by omega)
    rw [apps_text] at h1
    have h4 : (textTm (tmL hand t s)).length = (headTx hand.length t.args).length + (textTm (tmB (hand ++ t.args) s)).length + t.args.length := by
      unfold tmL
      rw [lams_text, List.length_append, List.length_append, closeTx_length]
    rw [tmApps_cons, sizeBs]
    simp only [List.length_append, List.length_cons, List.length_nil] at h1
    omega
end

end Go.Proofs.YtohepefbogngfaaDoor

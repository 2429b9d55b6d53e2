/- Plain words: the machine that runs a strategy against others: what it does, and that it never stands still. -/
import Derived.Test.YtibnnbdpfkgfhaaGreatDoorP8
namespace Go.Proofs.YtibnnbdpfkgfhaaGreatDoor
open Go.RowKit

/-- What goes on behind an answer. -/
structure Fr where
  yes : Bd
  no : Bd
  env : List Clo
  begun : Nat
  path : Bs

/-- What stands for arguments that are given with levels at hand. -/
def ownFrom (env : List Clo) (asked : Nat) (path : Bs) : Nat → List Bd → List Clo
  | _, [] => []
  | i, s :: ss => .mk s env asked (path ++ dec i) :: ownFrom env asked path (i + 1) ss

/-- The machine, with so many moves left, and so many made: the result, and the moves with their points. -/
def runM : Nat → Nat → Bd → List Clo → Nat → Bs → List Fr → Option (UInt8 × List (Bs × Nat))
  | f, m, .leaf c, _, begun, path, st =>
    if c = 117 then some (117, []) else
    match f with
    | 0 => none
    | f + 1 => match st with
      | [] => some (c, [(c :: path, begun)])
      | fr :: st' => (runM f (m + 1) (if c = 116 then fr.yes else fr.no) fr.env fr.begun fr.path st').map fun x => (x.1, (c :: path, begun) :: x.2)
  | f, m, .ask v ss y n, env, begun, path, st =>
    match f with
    | 0 => none
    | f + 1 => match env[v]? with
      | none => none
      | some e => (runM f (m + 1) e.body (e.env ++ ownFrom env m e.path 0 ss) m e.path (⟨y, n, env, begun, path⟩ :: st)).map fun x => (x.1, (113 :: e.path, e.begun) :: x.2)

theorem runM_u (f m : Nat) (env : List Clo) (begun : Nat) (path : Bs) (st : List Fr) : runM f m (.leaf 117) env begun path st = some (117, []) := by
  cases f <;> simp [runM]
theorem runM_out {c : UInt8} (hc : c ≠ 117) (m : Nat) (env : List Clo) (begun : Nat) (path : Bs) (st : List Fr) : runM 0 m (.leaf c) env begun path st = none := by
  simp [runM, hc]
theorem runM_end {c : UInt8} (hc : c ≠ 117) (f m : Nat) (env : List Clo) (begun : Nat) (path : Bs) : runM (f + 1) m (.leaf c) env begun path [] = some (c, [(c :: path, begun)]) := by
  simp [runM, hc]
theorem runM_back {c : UInt8} (hc : c ≠ 117) (f m : Nat) (env : List Clo) (begun : Nat) (path : Bs) (fr : Fr) (st : List Fr) :
    runM (f + 1) m (.leaf c) env begun path (fr :: st) = (runM f (m + 1) (if c = 116 then fr.yes else fr.no) fr.env fr.begun fr.path st).map fun x => (x.1, (c :: path, begun) :: x.2) := by
  simp [runM, hc]
theorem runM_out2 (m v : Nat) (ss : List Bd) (y n : Bd) (env : List Clo) (begun : Nat) (path : Bs) (st : List Fr) : runM 0 m (.ask v ss y n) env begun path st = none := by
  simp [runM]
theorem runM_ask (f m v : Nat) (ss : List Bd) (y n : Bd) (env : List Clo) (begun : Nat) (path : Bs) (st : List Fr) {e : Clo} (he : env[v]? = some e) :
    runM (f + 1) m (.ask v ss y n) env begun path st = (runM f (m + 1) e.body (e.env ++ ownFrom env m e.path 0 ss) m e.path (⟨y, n, env, begun, path⟩ :: st)).map fun x => (x.1, (113 :: e.path, e.begun) :: x.2) := by
  simp [runM, he]

theorem ownFrom_length (env : List Clo) (asked : Nat) (path : Bs) : ∀ (ss : List Bd) (i : Nat), (ownFrom env asked path i ss).length = ss.length
  | [], i => rfl
  | s :: ss, i => by simp [ownFrom, ownFrom_length env asked path ss (i + 1)]
theorem ownFrom_fit {hand : List Ty} {env : List Clo} (h : envFit env hand) (asked : Nat) (path : Bs) : ∀ (ss : List Bd) (ts : List Ty) (i : Nat), fitBs (hands hand ts) ss → envFit (ownFrom env asked path i ss) ts
  | [], ts, i, hf => by
    rw [fitBs] at hf
    have : ts = [] := by cases ts with
      | nil => rfl
      | cons t ts => simp [hands] at hf
    subst this
    simp [ownFrom, envFit]
  | s :: ss, ts, i, hf => by
    rw [fitBs] at hf
    obtain ⟨h', hs', e, h1, h2⟩ := hf
    cases ts with
    | nil => simp [hands] at e
    | cons t ts =>
      simp only [hands, List.map_cons, List.cons.injEq] at e
      obtain ⟨rfl, rfl⟩ := e
      rw [ownFrom, envFit]
      refine ⟨t, ts, rfl, ?_, ownFrom_fit h asked path ss ts (i + 1) h2⟩
      rw [cloFit]
      exact ⟨hand, h, h1⟩

/-- A question finds what stands for its level; what comes next fits again. -/
theorem ask_next {hand : List Ty} {env : List Clo} {v : Nat} {ss : List Bd} {y n : Bd} (hf : fitB hand (.ask v ss y n)) (he : envFit env hand) (asked : Nat) :
    ∃ e, env[v]? = some e ∧ ∃ hand', envFit (e.env ++ ownFrom env asked e.path 0 ss) hand' ∧ fitB hand' e.body := by
  rw [fitB] at hf
  obtain ⟨t, h1, h2, _, _⟩ := hf
  have hl := envFit_length _ _ he
  have hv := (List.getElem?_eq_some_iff.1 h1).1
  obtain ⟨e, hev⟩ : ∃ e, env[v]? = some e := ⟨env[v]'(by omega), by simp [show v < env.length by omega]⟩
  refine ⟨e, hev, ?_⟩
  obtain ⟨t', ht', hc⟩ := envFit_at _ _ he v e hev
  rw [h1] at ht'; simp at ht'; subst ht'
  obtain ⟨b, e', bg, p⟩ := e
  rw [cloFit] at hc
  obtain ⟨h', k1, k2⟩ := hc
  exact ⟨h' ++ t.args, envFit_append _ _ _ _ k1 (ownFrom_fit he asked p ss t.args 0 h2), k2⟩

/-- A frame fits. -/
def frFit (fr : Fr) : Prop := ∃ hand, envFit fr.env hand ∧ fitB hand fr.yes ∧ fitB hand fr.no
theorem frame_next {hand : List Ty} {env : List Clo} {v : Nat} {ss : List Bd} {y n : Bd} (hf : fitB hand (.ask v ss y n)) (he : envFit env hand) (begun : Nat) (path : Bs) : frFit ⟨y, n, env, begun, path⟩ := by
  rw [fitB] at hf
  obtain ⟨t, _, _, h3, h4⟩ := hf
  exact ⟨hand, he, h3, h4⟩

end Go.Proofs.YtibnnbdpfkgfhaaGreatDoor

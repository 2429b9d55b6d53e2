/- Plain words: the reference's machine, and that it does what impl's does. -/
import Derived.Test.YtibnnbdpfkgfhaaGreatDoorE9
namespace Go.Proofs.YtibnnbdpfkgfhaaGreatDoor
open Go.RowKit

/-- What stands for a level, for the reference. -/
inductive SC where
  | mk (b : Bd) (t : Ty) (env : List SC) (begun arg : Nat)
def SC.body : SC → Bd | .mk b _ _ _ _ => b
def SC.kind : SC → Ty | .mk _ t _ _ _ => t
def SC.env : SC → List SC | .mk _ _ e _ _ => e
def SC.begun : SC → Nat | .mk _ _ _ n _ => n
def SC.arg : SC → Nat | .mk _ _ _ _ n => n
/-- Where a body goes on. -/
structure SF where
  v : Nat
  ss : List Bd
  yes : Bd
  no : Bd
  env : List SC
  opens : Nat

/-- What stands for the arguments of a level that is asked. -/
def ownS (env : List SC) (asked : Nat) : Nat → List Ty → List Bd → List SC
  | i, t :: ts, s :: ss => .mk s t env asked i :: ownS env asked (i + 1) ts ss
  | _, _, _ => []
/-- The path of a move that was made, if moves are kept. -/
def pthS (keep : Bool) (log : List (Bs × Int)) (i : Nat) : Bs := if keep then ((log[i]?).map fun x => x.1.drop 1).getD [] else []

def runS (keep : Bool) : Nat → List (Bs × Int) → Bd → List SC → Nat → List SF → Option (UInt8 × List (Bs × Int))
  | f, log, .leaf c, _, opens, st =>
    if c = 117 then some (117, log) else
    match f with
    | 0 => none
    | f + 1 => match st with
      | [] => some (c, log ++ [(c :: pthS keep log opens, (opens : Int))])
      | fr :: st' => runS keep f (log ++ [(c :: pthS keep log opens, (opens : Int))]) (if c = 102 then fr.no else fr.yes) fr.env fr.opens st'
  | f, log, .ask v ss y n, env, opens, st =>
    match f with
    | 0 => none
    | f + 1 => match env[v]? with
      | none => none
      | some e => runS keep f (log ++ [(113 :: (pthS keep log e.begun ++ dec e.arg), (e.begun : Int))]) e.body (e.env ++ ownS env log.length 0 e.kind.args ss) log.length (⟨v, ss, y, n, env, opens⟩ :: st)

mutual
/-- Both stand for the same. -/
def simC (keep : Bool) (log : List (Bs × Int)) : SC → Clo → Prop
  | .mk b t env bg i, c => c.body = b ∧ simCs keep log env c.env ∧ c.begun = bg ∧ (keep = true → ∃ q p, log[bg]? = some (q, p) ∧ c.path = q.drop 1 ++ dec i)
def simCs (keep : Bool) (log : List (Bs × Int)) : List SC → List Clo → Prop
  | [], cs => cs = []
  | x :: xs, cs => ∃ c cs', cs = c :: cs' ∧ simC keep log x c ∧ simCs keep log xs cs'
end
mutual
theorem simC_more {keep : Bool} {log : List (Bs × Int)} (m : List (Bs × Int)) : ∀ (x : SC) (c : Clo), simC keep log x c → simC keep (log ++ m) x c
  | .mk b t env bg i, c, h => by
    rw [simC] at *
    refine ⟨h.1, simCs_more m env _ h.2.1, h.2.2.1, fun hk => ?_⟩
    obtain ⟨q, p, h1, h2⟩ := h.2.2.2 hk
    exact ⟨q, p, by rw [List.getElem?_append_left (List.getElem?_eq_some_iff.1 h1).1]; exact h1, h2⟩
theorem simCs_more {keep : Bool} {log : List (Bs × Int)} (m : List (Bs × Int)) : ∀ (xs : List SC) (cs : List Clo), simCs keep log xs cs → simCs keep (log ++ m) xs cs
  | [], cs, h => by rw [simCs] at *; exact h
  | x :: xs, cs, h => by
    rw [simCs] at *
    obtain ⟨c, cs', rfl, h1, h2⟩ := h
    exact ⟨c, cs', rfl, simC_more m x c h1, simCs_more m xs cs' h2⟩
end
theorem simCs_at {keep : Bool} {log : List (Bs × Int)} : ∀ (xs : List SC) (cs : List Clo), simCs keep log xs cs → ∀ (i : Nat) (c : Clo), cs[i]? = some c → ∃ x, xs[i]? = some x ∧ simC keep log x c
  | [], cs, h, i, c, hc => by rw [simCs] at h; subst h; simp at hc
  | x :: xs, cs, h, i, c', hc => by
    rw [simCs] at h
    obtain ⟨c, cs', rfl, h1, h2⟩ := h
    cases i with
    | zero => simp at hc; subst hc; exact ⟨x, rfl, h1⟩
    | succ i => simpa using simCs_at xs cs' h2 i c' (by simpa using hc)
theorem simCs_append {keep : Bool} {log : List (Bs × Int)} : ∀ (xs : List SC) (cs : List Clo) (ys : List SC) (ds : List Clo), simCs keep log xs cs → simCs keep log ys ds → simCs keep log (xs ++ ys) (cs ++ ds)
  | [], cs, ys, ds, h, k => by rw [simCs] at h; subst h; simpa using k
  | x :: xs, cs, ys, ds, h, k => by
    rw [simCs] at h
    obtain ⟨c, cs', rfl, h1, h2⟩ := h
    simp only [List.cons_append]
    rw [simCs]
    exact ⟨c, cs' ++ ds, rfl, h1, simCs_append xs cs' ys ds h2 k⟩
theorem simCs_own {keep : Bool} {log : List (Bs × Int)} {env : List SC} {cenv : List Clo} (he : simCs keep log env cenv) {m : Nat} {path q : Bs} {p : Int} (hm : keep = true → log[m]? = some (q, p) ∧ q.drop 1 = path) :
    ∀ (ts : List Ty) (ss : List Bd) (i : Nat), ts.length = ss.length → simCs keep log (ownS env m i ts ss) (ownFrom cenv m path i ss)
  | [], [], i, _ => by rw [ownFrom, ownS, simCs]; intros; contradiction
  | [], s :: ss, i, h => by simp at h
  | t :: ts, [], i, h => by simp at h
  | t :: ts, s :: ss, i, h => by
    rw [ownFrom, ownS, simCs]
    refine ⟨_, _, rfl, ?_, simCs_own he hm ts ss (i + 1) (by simpa using h)⟩
    rw [simC]
    exact ⟨rfl, he, rfl, fun hk => ⟨q, p, (hm hk).1, by rw [(hm hk).2]; rfl⟩⟩

/-- Frames that go on alike. -/
structure simF (keep : Bool) (log : List (Bs × Int)) (x : SF) (f : Fr) : Prop where
  yes : f.yes = x.yes
  no : f.no = x.no
  env : simCs keep log x.env f.env
  opens : f.begun = x.opens
  path : keep = true → ∃ q p, log[x.opens]? = some (q, p) ∧ f.path = q.drop 1
theorem simF.more {keep : Bool} {log : List (Bs × Int)} {x : SF} {f : Fr} (h : simF keep log x f) (m : List (Bs × Int)) : simF keep (log ++ m) x f :=
  ⟨h.yes, h.no, simCs_more m _ _ h.env, h.opens, fun hk => by
    obtain ⟨q, p, h1, h2⟩ := h.path hk
    exact ⟨q, p, by rw [List.getElem?_append_left (List.getElem?_eq_some_iff.1 h1).1]; exact h1, h2⟩⟩
def simFs (keep : Bool) (log : List (Bs × Int)) : List SF → List Fr → Prop
  | [], fs => fs = []
  | x :: xs, fs => ∃ f fs', fs = f :: fs' ∧ simF keep log x f ∧ simFs keep log xs fs'
theorem simFs_more {keep : Bool} {log : List (Bs × Int)} (m : List (Bs × Int)) : ∀ (xs : List SF) (fs : List Fr), simFs keep log xs fs → simFs keep (log ++ m) xs fs
  | [], fs, h => h
  | x :: xs, fs, h => by
    obtain ⟨f, fs', e, h1, h2⟩ := h
    exact ⟨f, fs', e, h1.more m, simFs_more m xs fs' h2⟩

/-- What both machines leave. -/
def SameRun (keep : Bool) (log : List (Bs × Int)) (a : Option (UInt8 × List (Bs × Int))) (b : Option (UInt8 × List (Bs × Nat))) : Prop :=
  (b = none → a = none) ∧ ∀ c ms, b = some (c, ms) → ∃ log', a = some (c, log') ∧ (keep = true → log' = log ++ asInts ms)

theorem SameRun.step {keep : Bool} {log : List (Bs × Int)} {s : Bs} {n : Nat} {a : Option (UInt8 × List (Bs × Int))} {b : Option (UInt8 × List (Bs × Nat))} {s' : Bs} (h : SameRun keep (log ++ [(s, (n : Int))]) a b) (hs : keep = true → s' = s) : SameRun keep log a (b.map fun x => (x.1, (s', n) :: x.2)) := by
  constructor
  · intro hb
    cases b with
    | none => exact h.1 rfl
    | some x => simp at hb
  · intro c ms hb
    cases b with
    | none => simp at hb
    | some x =>
      simp only [Option.map_some, Option.some.injEq, Prod.mk.injEq] at hb
      obtain ⟨rfl, rfl⟩ := hb
      obtain ⟨log', h1, h2⟩ := h.2 x.1 x.2 rfl
      exact ⟨log', h1, fun hk => by rw [h2 hk, hs hk]; simp [asInts]⟩

theorem SameRun.log {keep : Bool} {log : List (Bs × Int)} (c : UInt8) : SameRun keep log (some (c, log)) (some (c, [])) :=
  ⟨fun h => by simp at h, fun c' ms h => by
    simp only [Option.some.injEq, Prod.mk.injEq] at h
    obtain ⟨rfl, rfl⟩ := h
    exact ⟨log, rfl, fun _ => by simp [asInts]⟩⟩
theorem SameRun.none {keep : Bool} {log : List (Bs × Int)} : SameRun keep log none none := ⟨fun _ => rfl, fun c ms h => by simp at h⟩

mutual
/-- What stands for a level fits its type; leaves are t, f or u. -/
def okS : SC → Prop
  | .mk b t env _ _ => wfB b ∧ okSs env ∧ fitB (env.map SC.kind ++ t.args) b
def okSs : List SC → Prop
  | [] => True
  | x :: xs => okS x ∧ okSs xs
end
theorem okSs_at : ∀ (xs : List SC), okSs xs → ∀ (i : Nat) (x : SC), xs[i]? = some x → okS x
  | [], _, i, x, h => by simp at h
  | y :: xs, k, i, x, h => by
    rw [okSs] at k
    cases i with
    | zero => simp at h; subst h; exact k.1
    | succ i => exact okSs_at xs k.2 i x (by simpa using h)
theorem okSs_append : ∀ (xs ys : List SC), okSs xs → okSs ys → okSs (xs ++ ys)
  | [], ys, _, h => h
  | x :: xs, ys, h, k => by rw [okSs] at h; exact ⟨h.1, okSs_append xs ys h.2 k⟩
theorem ownS_ok {env : List SC} (he : okSs env) (m : Nat) : ∀ (ts : List Ty) (ss : List Bd) (i : Nat), fitBs (hands (env.map SC.kind) ts) ss → wfBs ss → okSs (ownS env m i ts ss) ∧ (ownS env m i ts ss).map SC.kind = ts
  | [], ss, i, _, _ => by
    rw [ownS]
    · exact ⟨by rw [okSs]; trivial, rfl⟩
    · intros; contradiction
  | t :: ts, [], i, h, _ => by rw [fitBs] at h; simp [hands] at h
  | t :: ts, s :: ss, i, h, hw => by
    rw [fitBs] at h
    obtain ⟨h', hs', e, h1, h2⟩ := h
    simp only [hands, List.map_cons, List.cons.injEq] at e
    obtain ⟨rfl, rfl⟩ := e
    rw [wfBs] at hw
    obtain ⟨k1, k2⟩ := ownS_ok he m ts ss (i + 1) h2 hw.2
    rw [ownS]
    refine ⟨?_, by rw [List.map_cons, k2]; rfl⟩
    rw [okSs]
    exact ⟨by rw [okS]; exact ⟨hw.1, he, h1⟩, k1⟩
structure okF (x : SF) : Prop where
  yes : wfB x.yes
  no : wfB x.no
  env : okSs x.env
  node : fitB (x.env.map SC.kind) (.ask x.v x.ss x.yes x.no)
theorem okF.fits {x : SF} (h : okF x) : fitB (x.env.map SC.kind) x.yes ∧ fitB (x.env.map SC.kind) x.no := by
  have := h.node
  rw [fitB] at this
  obtain ⟨t, _, _, h1, h2⟩ := this
  exact ⟨h1, h2⟩

theorem simCs_at' {keep : Bool} {log : List (Bs × Int)} : ∀ (xs : List SC) (cs : List Clo), simCs keep log xs cs → ∀ (i : Nat) (x : SC), xs[i]? = some x → ∃ c, cs[i]? = some c ∧ simC keep log x c
  | [], cs, h, i, x, hx => by simp at hx
  | y :: xs, cs, h, i, x, hx => by
    rw [simCs] at h
    obtain ⟨c, cs', rfl, h1, h2⟩ := h
    cases i with
    | zero => simp at hx; subst hx; exact ⟨c, rfl, h1⟩
    | succ i => simpa using simCs_at' xs cs' h2 i x (by simpa using hx)

/-- What a question finds, for the reference. -/
theorem ask_find {env : List SC} {v : Nat} {ss : List Bd} {y n : Bd} (he : okSs env) (hf : fitB (env.map SC.kind) (.ask v ss y n)) :
    ∃ e, env[v]? = some e ∧ okS e ∧ ss.length = e.kind.args.length ∧ fitBs (hands (env.map SC.kind) e.kind.args) ss := by
  rw [fitB] at hf
  obtain ⟨t, h1, h2, _, _⟩ := hf
  rw [List.getElem?_map, Option.map_eq_some_iff] at h1
  obtain ⟨e, h3, rfl⟩ := h1
  refine ⟨e, h3, okSs_at _ he _ _ h3, ?_, h2⟩
  have := fitBs_length _ _ h2
  rw [hands_length] at this; exact this.symm
theorem ask_ok {env : List SC} {v : Nat} {ss : List Bd} {y n : Bd} (he : okSs env) (hf : fitB (env.map SC.kind) (.ask v ss y n)) (hw : wfB (.ask v ss y n)) {e : SC} (hv : env[v]? = some e) (m : Nat) :
    wfB e.body ∧ okSs (e.env ++ ownS env m 0 e.kind.args ss) ∧ fitB ((e.env ++ ownS env m 0 e.kind.args ss).map SC.kind) e.body := by
  obtain ⟨e', hv', hok, hl, hfs⟩ := ask_find he hf
  rw [hv] at hv'; simp at hv'; subst hv'
  rw [wfB] at hw
  obtain ⟨k1, k2⟩ := ownS_ok he m _ _ 0 hfs hw.1
  obtain ⟨b, t, en, bg, i⟩ := e
  rw [okS] at hok
  refine ⟨hok.1, okSs_append _ _ hok.2.1 k1, ?_⟩
  rw [List.map_append, k2]; exact hok.2.2

/-- The reference's machine does what impl's does. -/
theorem run_same (keep : Bool) : ∀ (f : Nat) (log : List (Bs × Int)) (b : Bd) (senv : List SC) (opens : Nat) (sst : List SF) (env : List Clo) (path : Bs) (st : List Fr),
    wfB b → okSs senv → fitB (senv.map SC.kind) b → (∀ x ∈ sst, okF x) → simCs keep log senv env → simFs keep log sst st → (keep = true → ∃ q p, log[opens]? = some (q, p) ∧ path = q.drop 1) →
    SameRun keep log (runS keep f log b senv opens sst) (runM f log.length b env opens path st) := by
  intro f
  induction f with
  | zero =>
    intro log b senv opens sst env path st hw hok hfit hfr hsim hsf hp
    cases b with
    | leaf c =>
      by_cases hc : c = 117
      · subst hc
        rw [runM_u]
        simp only [runS, if_pos]
        exact SameRun.log _
      · rw [runM_out hc]
        simp only [runS, if_neg hc]
        exact SameRun.none
    | ask v ss y n =>
      rw [runM_out2]
      simp only [runS]
      exact SameRun.none
  | succ f ih =>
    intro log b senv opens sst env path st hw hok hfit hfr hsim hsf hp
    cases b with
    | leaf c =>
      by_cases hc : c = 117
      · subst hc
        rw [runM_u]
        simp only [runS, if_pos]
        exact SameRun.log _
      · have hs : keep = true → c :: path = c :: pthS keep log opens := by
          intro hk
          obtain ⟨q, p, h1, h2⟩ := hp hk
          simp [pthS, hk, h1, h2]
        cases sst with
        | nil =>
          rw [simFs] at hsf; subst hsf
          rw [runM_end hc]
          simp only [runS, if_neg hc]
          have := SameRun.step (keep := keep) (log := log) (s := c :: pthS keep log opens) (n := opens) (SameRun.log (log := log ++ [(c :: pthS keep log opens, (opens : Int))]) c) (s' := c :: path) hs
          exact this
        | cons x sst =>
          obtain ⟨fr, st', rfl, hx, hxs⟩ := hsf
          have hok' := hfr x (by simp)
          rw [runM_back hc]
          simp only [runS, if_neg hc]
          refine SameRun.step ?_ hs
          have hl : log.length + 1 = (log ++ [(c :: pthS keep log opens, (opens : Int))]).length := by simp
          have hy : (if c = 116 then fr.yes else fr.no) = (if c = 102 then x.no else x.yes) := by
            rw [wfB] at hw
            rcases hw with rfl | rfl | rfl
            · rw [if_pos rfl, if_neg (by decide)]; exact hx.yes
            · rw [if_neg (by decide), if_pos rfl]; exact hx.no
            · exact absurd rfl hc
          rw [hl, hy, hx.opens]
          have hfits := hok'.fits
          refine ih _ _ _ _ _ _ _ _ ?_ hok'.env ?_ (fun z hz => hfr z (by simp [hz])) (simCs_more _ _ _ hx.env) (simFs_more _ _ _ hxs) (hx.more _).path
          · split
            · exact hok'.no
            · exact hok'.yes
          · split
            · exact hfits.2
            · exact hfits.1
    | ask v ss y n =>
      obtain ⟨e, hv, _, hl, _⟩ := ask_find hok hfit
      obtain ⟨k1, k2, k3⟩ := ask_ok hok hfit hw hv log.length
      obtain ⟨c, hcv, hsc⟩ := simCs_at' _ _ hsim v e hv
      rw [runM_ask _ _ _ _ _ _ _ _ _ _ hcv]
      simp only [runS, hv]
      obtain ⟨eb, et, ee, eg, ei⟩ := e
      rw [simC] at hsc
      obtain ⟨s1, s2, s3, s4⟩ := hsc
      simp only [SC.body, SC.kind, SC.env, SC.begun, SC.arg] at *
      rw [s3]
      have hpe : keep = true → c.path = pthS keep log eg ++ dec ei := by
        intro hk
        obtain ⟨q, p, h1, h2⟩ := s4 hk
        simp [pthS, hk, h1, h2]
      refine SameRun.step ?_ (fun hk => by rw [hpe hk])
      have hln : log.length + 1 = (log ++ [(113 :: (pthS keep log eg ++ dec ei), (eg : Int))]).length := by simp
      rw [hln, s1]
      have hnew : keep = true → (log ++ [(113 :: (pthS keep log eg ++ dec ei), (eg : Int))])[log.length]? = some (113 :: (pthS keep log eg ++ dec ei), (eg : Int)) := fun _ => by simp
      refine ih _ _ _ _ _ _ _ _ k1 k2 k3 ?_ ?_ ?_ ?_
      · intro z hz
        rcases List.mem_cons.1 hz with rfl | hz
        · have hw' := hw
          rw [wfB] at hw'
          exact ⟨hw'.2.1, hw'.2.2, hok, hfit⟩
        · exact hfr z hz
      · exact simCs_append _ _ _ _ (simCs_more _ _ _ s2) (simCs_own (simCs_more _ _ _ hsim) (q := 113 :: (pthS keep log eg ++ dec ei)) (p := (eg : Int)) (fun hk => ⟨hnew hk, by rw [hpe hk]; rfl⟩) _ _ 0 hl.symm)
      · refine ⟨_, _, rfl, ⟨rfl, rfl, simCs_more _ _ _ hsim, rfl, fun hk => ?_⟩, simFs_more _ _ _ hsf⟩
        obtain ⟨q, p, h1, h2⟩ := hp hk
        exact ⟨q, p, by rw [List.getElem?_append_left (List.getElem?_eq_some_iff.1 h1).1]; exact h1, h2⟩
      · intro hk
        exact ⟨_, _, hnew hk, by rw [hpe hk]; rfl⟩

end Go.Proofs.YtibnnbdpfkgfhaaGreatDoor

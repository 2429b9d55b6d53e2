import Derived.Test.YtibnnbdpfkgfhaaGreatDoorP17
import Derived.Test.YtibnnbdpfkgfhaaGreatDoorP9

/- Plain words: what a body becomes goes on as the body does: the law of what is put for open levels. -/
namespace Go.Proofs.YtibnnbdpfkgfhaaGreatDoor
open Go.RowKit

/-- The machine that writes, without a count of its steps. -/
def evFs (f : Bd → List Mn → Nat → List Gf → Option Bd) (env : List Mn) (n : Nat) : List Ty → List Bd → Option (List Bd)
  | t :: ts, s :: ss => (f s (env ++ opens n t.args) (n + t.args.length) []).bind fun x => (evFs f env n ts ss).bind fun xs => some (x :: xs)
  | _, _ => some []
def evF : Nat → Bd → List Mn → Nat → List Gf → Option Bd
  | 0, _, _, _, _ => none
  | d + 1, b, env, n, st => match b with
    | .leaf c => if c = 117 then some (.leaf c) else match st with
      | [] => some (.leaf c)
      | f :: st' => evF d (if c = 116 then f.yes else f.no) f.env n st'
    | .ask v ss y no => match env[v]? with
      | none => none
      | some (.bd t b' e) => if ss.length = t.args.length then evF d b' (e ++ owns env t.args ss) n (⟨y, no, env⟩ :: st) else none
      | some (.op o t) => if ss.length = t.args.length then (evFs (evF d) env n t.args ss).bind fun xs => (evF d y env n st).bind fun x => (evF d no env n st).bind fun z => some (.ask o xs x z) else none

theorem evF_bd {d v n : Nat} {ss : List Bd} {y no b' : Bd} {t : Ty} {env e : List Mn} {st : List Gf} (h : env[v]? = some (.bd t b' e)) (hl : ss.length = t.args.length) :
    evF (d + 1) (.ask v ss y no) env n st = evF d b' (e ++ owns env t.args ss) n (⟨y, no, env⟩ :: st) := by rw [evF.eq_def]; simp only [h, if_pos hl]
theorem evF_op {d v n o : Nat} {ss : List Bd} {y no : Bd} {t : Ty} {env : List Mn} {st : List Gf} (h : env[v]? = some (.op o t)) (hl : ss.length = t.args.length) :
    evF (d + 1) (.ask v ss y no) env n st = (evFs (evF d) env n t.args ss).bind fun xs => (evF d y env n st).bind fun x => (evF d no env n st).bind fun z => some (.ask o xs x z) := by rw [evF.eq_def]; simp only [h, if_pos hl]
theorem evF_bd_len {d v n : Nat} {ss : List Bd} {y no b' r : Bd} {t : Ty} {env e : List Mn} {st : List Gf} (h : env[v]? = some (.bd t b' e)) (k : evF (d + 1) (.ask v ss y no) env n st = some r) : ss.length = t.args.length := by
  rw [evF.eq_def] at k; simp only [h] at k
  split at k
  · assumption
  · simp at k
theorem evF_op_len {d v n o : Nat} {ss : List Bd} {y no r : Bd} {t : Ty} {env : List Mn} {st : List Gf} (h : env[v]? = some (.op o t)) (k : evF (d + 1) (.ask v ss y no) env n st = some r) : ss.length = t.args.length := by
  rw [evF.eq_def] at k; simp only [h] at k
  split at k
  · assumption
  · simp at k
theorem evF_none {d v n : Nat} {ss : List Bd} {y no : Bd} {env : List Mn} {st : List Gf} (h : env[v]? = none) : evF (d + 1) (.ask v ss y no) env n st = none := by rw [evF.eq_def]; simp only [h]
theorem evF_u {d n : Nat} {env : List Mn} {st : List Gf} : evF (d + 1) (.leaf 117) env n st = some (.leaf 117) := by rw [evF.eq_def]; simp
theorem evF_end {d n : Nat} {c : UInt8} {env : List Mn} : evF (d + 1) (.leaf c) env n [] = some (.leaf c) := by rw [evF.eq_def]; simp
theorem evF_back {d n : Nat} {c : UInt8} (h : c ≠ 117) {env : List Mn} {f : Gf} {st : List Gf} : evF (d + 1) (.leaf c) env n (f :: st) = evF d (if c = 116 then f.yes else f.no) f.env n st := by rw [evF.eq_def]; simp only [if_neg h]

theorem evFs_mono {f g : Bd → List Mn → Nat → List Gf → Option Bd} (h : ∀ b env n st r, f b env n st = some r → g b env n st = some r) {env : List Mn} {n : Nat} :
    ∀ (ts : List Ty) (ss : List Bd) (xs : List Bd), evFs f env n ts ss = some xs → evFs g env n ts ss = some xs
  | [], ss, xs, k => by simpa [evFs] using k
  | t :: ts, [], xs, k => by simpa [evFs] using k
  | t :: ts, s :: ss, xs, k => by
    simp only [evFs, Option.bind_eq_some_iff] at *
    obtain ⟨x, h1, ys, h2, h3⟩ := k
    exact ⟨x, h _ _ _ _ _ h1, ys, evFs_mono h ts ss ys h2, h3⟩
theorem evF_mono (d : Nat) : ∀ (d' : Nat) (b : Bd) (env : List Mn) (n : Nat) (st : List Gf) (r : Bd), d ≤ d' → evF d b env n st = some r → evF d' b env n st = some r := by
  induction d with
  | zero => intro d' b env n st r _ h; simp [evF] at h
  | succ d ih =>
    intro d' b env n st r hd h
    obtain ⟨d', rfl⟩ : ∃ k, d' = k + 1 := ⟨d' - 1, by omega⟩
    cases b with
    | leaf c =>
      by_cases hc : c = 117
      · subst hc; rw [evF_u] at *; exact h
      · cases st with
        | nil => rw [evF_end] at *; exact h
        | cons f st => rw [evF_back hc] at *; exact ih _ _ _ _ _ _ (by omega) h
    | ask v ss y no =>
      cases hv : env[v]? with
      | none => rw [evF_none hv] at h; simp at h
      | some m =>
        cases m with
        | bd t b' e =>
          have hl := evF_bd_len hv h
          rw [evF_bd hv hl] at *; exact ih _ _ _ _ _ _ (by omega) h
        | op o t =>
          have hl := evF_op_len hv h
          rw [evF_op hv hl] at *
          simp only [Option.bind_eq_some_iff] at *
          obtain ⟨xs, h1, x, h2, z, h3, h4⟩ := h
          exact ⟨xs, evFs_mono (fun b env n st r hr => ih d' b env n st r (by omega) hr) _ _ _ h1, x, ih _ _ _ _ _ _ (by omega) h2, z, ih _ _ _ _ _ _ (by omega) h3, h4⟩
theorem evF_det {d d' : Nat} {b : Bd} {env : List Mn} {n : Nat} {st : List Gf} {r r' : Bd} (h : evF d b env n st = some r) (h' : evF d' b env n st = some r') : r = r' := by
  have h1 := evF_mono d (max d d') b env n st r (by omega) h
  have h2 := evF_mono d' (max d d') b env n st r' (by omega) h'
  rw [h1] at h2; exact Option.some.inj h2
theorem evSubs_F {d : Nat} {H : List Ty} {env : List Mn} (ih : ∀ (H : List Ty) (l : Nat) (b : Bd) (env : List Mn) (st : List Gf) (r : Bd) (l' : Nat), EvFit H b env st → ev d l b env H.length st = some (r, l') → evF d b env H.length st = some r) :
    ∀ (ts : List Ty) (ss : List Bd) (l : Nat) (xs : List Bd) (l' : Nat), (∀ (k : Nat) (a : Ty) (s : Bd), ts[k]? = some a → ss[k]? = some s → EvFit (H ++ a.args) s (env ++ opens H.length a.args) []) → evSubs (ev d) env H.length l ts ss = some (xs, l') → evFs (evF d) env H.length ts ss = some xs
  | [], ss, l, xs, l', _, h => by simp [evSubs] at h; obtain ⟨rfl, _⟩ := h; simp [evFs]
  | t :: ts, [], l, xs, l', _, h => by simp [evSubs] at h; obtain ⟨rfl, _⟩ := h; simp [evFs]
  | t :: ts, s :: ss, l, xs, l', hf, h => by
    simp only [evSubs, Option.bind_eq_bind, Option.bind_eq_some_iff, Prod.exists] at h
    obtain ⟨x, l1, h1, ys, l2, h2, h3⟩ := h
    simp at h3; obtain ⟨rfl, rfl⟩ := h3
    simp only [evFs, Option.bind_eq_some_iff]
    have k1 := ih (H ++ t.args) l s _ [] x l1 (hf 0 t s rfl rfl) (by rw [List.length_append]; exact h1)
    rw [List.length_append] at k1
    exact ⟨x, k1, ys, evSubs_F ih ts ss _ _ _ (fun k a s' ha hs => hf (k + 1) a s' (by simpa using ha) (by simpa using hs)) h2, rfl⟩
theorem ev_F (d : Nat) : ∀ (H : List Ty) (l : Nat) (b : Bd) (env : List Mn) (st : List Gf) (r : Bd) (l' : Nat), EvFit H b env st → ev d l b env H.length st = some (r, l') → evF d b env H.length st = some r := by
  induction d with
  | zero => intro H l b env st r l' _ h; simp [ev] at h
  | succ d ih =>
    intro H l b env st r l' hf h
    cases l with
    | zero => rw [ev.eq_def] at h; simp at h
    | succ l =>
      cases b with
      | leaf c =>
        by_cases hc : c = 117
        · subst hc; rw [ev_u] at h; rw [evF_u]; simp at h; rw [h.1]
        · cases st with
          | nil => rw [ev_end] at h; rw [evF_end]; simp at h; rw [h.1]
          | cons f st => rw [ev_back hc] at h; rw [evF_back hc]; exact ih _ _ _ _ _ _ _ (hf.back c) h
      | ask v ss y no =>
        cases hv : env[v]? with
        | none => rw [ev.eq_def] at h; simp [hv] at h
        | some m =>
          cases m with
          | bd t b' e =>
            obtain ⟨hl, hf'⟩ := hf.call hv
            rw [ev_bd hv] at h; rw [evF_bd hv hl]; exact ih _ _ _ _ _ _ _ hf' h
          | op o t =>
            obtain ⟨hl, _, k3, k4, k5⟩ := hf.keep hv
            rw [ev_op hv] at h; rw [evF_op hv hl]
            simp only [Option.bind_eq_some_iff, Prod.exists] at h ⊢
            obtain ⟨xs, l1, h1, x, l2, h2, z, l3, h3, h4⟩ := h
            simp at h4; obtain ⟨rfl, rfl⟩ := h4
            exact ⟨xs, evSubs_F ih _ _ _ _ _ k3 h1, x, ih _ _ _ _ _ _ _ k4 h2, z, ih _ _ _ _ _ _ _ k5 h3, rfl⟩

mutual
/-- What is put for the levels that are left open. -/
def subst (s : List Mn) : Mn → Mn
  | .op o t => (s[o]?).getD (.op o t)
  | .bd t b e => .bd t b (substs s e)
def substs (s : List Mn) : List Mn → List Mn
  | [] => []
  | m :: ms => subst s m :: substs s ms
end
def substGs (s : List Mn) : List Gf → List Gf
  | [] => []
  | f :: fs => ⟨f.yes, f.no, substs s f.env⟩ :: substGs s fs
/-- The type of a level. -/
def tyOf : Mn → Ty
  | .op _ t => t
  | .bd t _ _ => t
mutual
/-- All levels that are left open are of the types H. -/
def scM (H : List Ty) : Mn → Prop
  | .op o t => H[o]? = some t
  | .bd _ _ e => scMs H e
def scMs (H : List Ty) : List Mn → Prop
  | [] => True
  | m :: ms => scM H m ∧ scMs H ms
end
def scGs (H : List Ty) : List Gf → Prop
  | [] => True
  | f :: fs => scMs H f.env ∧ scGs H fs

theorem substs_append (s : List Mn) : ∀ (a b : List Mn), substs s (a ++ b) = substs s a ++ substs s b
  | [], b => by simp [substs]
  | x :: a, b => by simp [substs, substs_append s a b]
theorem substs_at (s : List Mn) : ∀ (a : List Mn) (k : Nat) (m : Mn), a[k]? = some m → (substs s a)[k]? = some (subst s m)
  | [], k, m, h => by simp at h
  | x :: a, k, m, h => by
    rw [substs]
    cases k with
    | zero => simp at h; subst h; rfl
    | succ k => simp only [List.getElem?_cons_succ] at *; exact substs_at s a k m h
theorem substs_owns (s env : List Mn) : ∀ (ts : List Ty) (ss : List Bd), substs s (owns env ts ss) = owns (substs s env) ts ss
  | [], ss => by
    rw [owns, owns]
    · rw [substs]
    · intros; contradiction
    · intros; contradiction
  | t :: ts, [] => by
    rw [owns, owns]
    · rw [substs]
    · intros; contradiction
    · intros; contradiction
  | t :: ts, x :: ss => by rw [owns, owns, substs, subst, substs_owns s env ts ss]
mutual
theorem subst_more {H : List Ty} {s a : List Mn} (hs : s.length = H.length) : ∀ m : Mn, scM H m → subst (s ++ a) m = subst s m
  | .op o t, h => by
    rw [scM] at h
    have := (List.getElem?_eq_some_iff.1 h).1
    rw [subst, subst, List.getElem?_append_left (by omega)]
  | .bd t b e, h => by rw [scM] at h; rw [subst, subst, substs_more hs e h]
theorem substs_more {H : List Ty} {s a : List Mn} (hs : s.length = H.length) : ∀ ms : List Mn, scMs H ms → substs (s ++ a) ms = substs s ms
  | [], _ => by rw [substs, substs]
  | m :: ms, h => by rw [scMs] at h; rw [substs, substs, subst_more hs m h.1, substs_more hs ms h.2]
end
theorem substs_opens (s : List Mn) : ∀ (ts : List Ty) (a : List Mn) (n : Nat), s.length = n → a.length = ts.length → substs (s ++ a) (opens n ts) = a
  | [], a, n, hs, ha => by
    rw [opens, substs]; exact (List.eq_nil_of_length_eq_zero ha).symm
  | t :: ts, [], n, hs, ha => by simp at ha
  | t :: ts, x :: a, n, hs, ha => by
    rw [opens, substs, subst, List.getElem?_append_right (by omega), hs, Nat.sub_self]
    simp only [List.getElem?_cons_zero, Option.getD_some]
    have := substs_opens (s ++ [x]) ts a (n + 1) (by simp [hs]) (by simpa using ha)
    rw [List.append_assoc, List.singleton_append] at this
    rw [this]
mutual
theorem scM_mono {H X : List Ty} : ∀ x, scM H x → scM (H ++ X) x
  | .op o t, k => by
    rw [scM] at *
    rw [List.getElem?_append_left (List.getElem?_eq_some_iff.1 k).1]; exact k
  | .bd t b e, k => by rw [scM] at *; exact scMs_mono e k
theorem scMs_mono {H X : List Ty} : ∀ xs, scMs H xs → scMs (H ++ X) xs
  | [], _ => by rw [scMs]; trivial
  | x :: xs, k => by rw [scMs] at *; exact ⟨scM_mono x k.1, scMs_mono xs k.2⟩
end
theorem scMs_append {H : List Ty} : ∀ (a b : List Mn), scMs H a → scMs H b → scMs H (a ++ b)
  | [], b, _, h => h
  | x :: a, b, h, k => by rw [scMs] at h; exact ⟨h.1, scMs_append a b h.2 k⟩
theorem scMs_at {H : List Ty} : ∀ (a : List Mn), scMs H a → ∀ (k : Nat) (m : Mn), a[k]? = some m → scM H m
  | [], _, k, m, h => by simp at h
  | x :: a, hs, k, m, h => by
    rw [scMs] at hs
    cases k with
    | zero => simp at h; subst h; exact hs.1
    | succ k => exact scMs_at a hs.2 k m (by simpa using h)
theorem scMs_opens {H : List Ty} : ∀ (ts : List Ty) (n : Nat), (∀ i t, ts[i]? = some t → H[n + i]? = some t) → scMs H (opens n ts)
  | [], n, _ => by rw [opens]; trivial
  | t :: ts, n, h => by
    rw [opens, scMs]
    refine ⟨by rw [scM]; simpa using h 0 t rfl, scMs_opens ts (n + 1) fun i t' hi => ?_⟩
    rw [show n + 1 + i = n + (i + 1) from by omega]; exact h (i + 1) t' (by simpa using hi)
theorem scMs_opens_end (H ts : List Ty) : scMs (H ++ ts) (opens H.length ts) :=
  scMs_opens ts H.length fun i t h => by rw [List.getElem?_append_right (by omega), Nat.add_sub_cancel_left]; exact h
theorem scMs_owns {H : List Ty} {env : List Mn} (he : scMs H env) : ∀ (ts : List Ty) (ss : List Bd), scMs H (owns env ts ss)
  | [], ss => by
    rw [owns]
    · trivial
    · intros; contradiction
  | t :: ts, [] => by
    rw [owns]
    · trivial
    · intros; contradiction
  | t :: ts, s :: ss => by rw [owns, scMs]; exact ⟨by rw [scM]; exact he, scMs_owns he ts ss⟩
mutual
theorem scM_of_fit {H : List Ty} : ∀ (m : Mn) (t : Ty), mnFit H m t → scM H m
  | .op o t, t', h => by rw [mnFit] at h; rw [scM]; exact h.2
  | .bd t b e, t', h => by rw [mnFit] at h; obtain ⟨_, k, h2, _⟩ := h; rw [scM]; exact scMs_of_fit e k h2
theorem scMs_of_fit {H : List Ty} : ∀ (ms : List Mn) (h : List Ty), mnFits H ms h → scMs H ms
  | [], h, _ => by rw [scMs]; trivial
  | m :: ms, h, k => by
    rw [mnFits] at k
    obtain ⟨t, ts, rfl, k1, k2⟩ := k
    rw [scMs]; exact ⟨scM_of_fit m t k1, scMs_of_fit ms ts k2⟩
end
theorem owns_tys {env : List Mn} : ∀ (ts : List Ty) (ss : List Bd), ss.length = ts.length → (owns env ts ss).map tyOf = ts
  | [], [], _ => by
    rw [owns]
    · rfl
    · intros; contradiction
  | [], s :: ss, h => by simp at h
  | t :: ts, [], h => by simp at h
  | t :: ts, s :: ss, h => by rw [owns, List.map_cons, owns_tys ts ss (by simpa using h)]; rfl
theorem opens_tys : ∀ (ts : List Ty) (n : Nat), (opens n ts).map tyOf = ts
  | [], n => by rw [opens]; rfl
  | t :: ts, n => by rw [opens, List.map_cons, opens_tys ts]; rfl

mutual
/-- What stands for a level, and the same with what was written put back to what it was written of. -/
inductive MR : Mn → Mn → Prop
  | op (o : Nat) (t : Ty) : MR (.op o t) (.op o t)
  | same {t : Ty} {b : Bd} {e1 e2 : List Mn} (h : MRs e1 e2) : MR (.bd t b e1) (.bd t b e2)
  | wrote {t : Ty} {b1 b2 : Bd} {env s1 s2 : List Mn} {d : Nat} {H : List Ty} (h : evF d b2 (env ++ opens H.length t.args) (H.length + t.args.length) [] = some b1) (hs : scMs H env) (hl : s1.map tyOf = H) (hr : MRs s1 s2) : MR (.bd t b1 s1) (.bd t b2 (substs s2 env))
inductive MRs : List Mn → List Mn → Prop
  | nil : MRs [] []
  | cons {a b : Mn} {la lb : List Mn} (h : MR a b) (hs : MRs la lb) : MRs (a :: la) (b :: lb)
end
inductive GRs : List Gf → List Gf → Prop
  | nil : GRs [] []
  | same {y no : Bd} {e1 e2 : List Mn} {K1 K2 : List Gf} (h : MRs e1 e2) (hk : GRs K1 K2) : GRs (⟨y, no, e1⟩ :: K1) (⟨y, no, e2⟩ :: K2)
  | wrote {x z y no : Bd} {env s1 s2 : List Mn} {st K1 K2 : List Gf} {d : Nat} {H : List Ty} (hy : evF d y env H.length st = some x) (hn : evF d no env H.length st = some z) (hs : scMs H env) (hg : scGs H st) (hl : s1.map tyOf = H) (hr : MRs s1 s2) (hk : GRs K1 K2) :
      GRs (⟨x, z, s1⟩ :: K1) (⟨y, no, substs s2 env⟩ :: (substGs s2 st ++ K2))

theorem MRs.length : ∀ {a b : List Mn}, MRs a b → a.length = b.length
  | _, _, .nil => rfl
  | _, _, .cons _ hs => by simp [MRs.length hs]
theorem MR.tys : ∀ {a b : Mn}, MR a b → tyOf a = tyOf b
  | _, _, .op _ _ => rfl
  | _, _, .same _ => rfl
  | _, _, .wrote _ _ _ _ => rfl
theorem MRs.at : ∀ {a b : List Mn}, MRs a b → ∀ (k : Nat) (m : Mn), a[k]? = some m → ∃ m', b[k]? = some m' ∧ MR m m'
  | _, _, .nil, k, m, h => by simp at h
  | _, _, .cons h hs, k, m, hk => by
    cases k with
    | zero => simp at hk; subst hk; exact ⟨_, rfl, h⟩
    | succ k => simp only [List.getElem?_cons_succ] at *; exact MRs.at hs k m hk
theorem MRs.append : ∀ {a b : List Mn}, MRs a b → ∀ {c d : List Mn}, MRs c d → MRs (a ++ c) (b ++ d)
  | _, _, .nil, _, _, h => h
  | _, _, .cons h hs, _, _, k => .cons h (MRs.append hs k)
mutual
theorem MR.refl : ∀ m : Mn, MR m m
  | .op o t => .op o t
  | .bd t b e => .same (MRs.refl e)
theorem MRs.refl : ∀ ms : List Mn, MRs ms ms
  | [] => .nil
  | m :: ms => .cons (MR.refl m) (MRs.refl ms)
end
theorem MRs.owns {e1 e2 : List Mn} (h : MRs e1 e2) : ∀ (ts : List Ty) (ss : List Bd), MRs (owns e1 ts ss) (Go.Proofs.YtibnnbdpfkgfhaaGreatDoor.owns e2 ts ss)
  | [], ss => by
    rw [Go.Proofs.YtibnnbdpfkgfhaaGreatDoor.owns, Go.Proofs.YtibnnbdpfkgfhaaGreatDoor.owns]
    · exact .nil
    · intros; contradiction
    · intros; contradiction
  | t :: ts, [] => by
    rw [Go.Proofs.YtibnnbdpfkgfhaaGreatDoor.owns, Go.Proofs.YtibnnbdpfkgfhaaGreatDoor.owns]
    · exact .nil
    · intros; contradiction
    · intros; contradiction
  | t :: ts, s :: ss => by
    rw [Go.Proofs.YtibnnbdpfkgfhaaGreatDoor.owns, Go.Proofs.YtibnnbdpfkgfhaaGreatDoor.owns]
    exact .cons (.same h) (MRs.owns h ts ss)
/-- The parts that were written, against those that they were written of. -/
theorem MRs.ownsW {env s1 s2 : List Mn} {d : Nat} {H : List Ty} (hs : scMs H env) (hl : s1.map tyOf = H) (hr : MRs s1 s2) : ∀ (ts : List Ty) (ss xs : List Bd), evFs (evF d) env H.length ts ss = some xs → MRs (Go.Proofs.YtibnnbdpfkgfhaaGreatDoor.owns s1 ts xs) (Go.Proofs.YtibnnbdpfkgfhaaGreatDoor.owns (substs s2 env) ts ss)
  | [], ss, xs, h => by
    rw [Go.Proofs.YtibnnbdpfkgfhaaGreatDoor.owns, Go.Proofs.YtibnnbdpfkgfhaaGreatDoor.owns]
    · exact .nil
    · intros; contradiction
    · intros; contradiction
  | t :: ts, [], xs, h => by
    simp [evFs] at h; subst h
    rw [Go.Proofs.YtibnnbdpfkgfhaaGreatDoor.owns, Go.Proofs.YtibnnbdpfkgfhaaGreatDoor.owns]
    · exact .nil
    · intros; contradiction
    · intros; contradiction
  | t :: ts, s :: ss, xs, h => by
    simp only [evFs, Option.bind_eq_some_iff] at h
    obtain ⟨x, h1, ys, h2, h3⟩ := h
    simp at h3; subst h3
    rw [Go.Proofs.YtibnnbdpfkgfhaaGreatDoor.owns, Go.Proofs.YtibnnbdpfkgfhaaGreatDoor.owns]
    exact .cons (.wrote h1 hs hl hr) (MRs.ownsW hs hl hr ts ss ys h2)

/-- A run of parts that goes on as another one does. -/
theorem evFs_sim {s1 e2 : List Mn} {k n' : Nat} : ∀ (ts : List Ty) (xs ss rs : List Bd), xs.length = ss.length →
    (∀ (j : Nat) (a : Ty) (x s r : Bd), ts[j]? = some a → xs[j]? = some x → ss[j]? = some s → evF k x (s1 ++ opens n' a.args) (n' + a.args.length) [] = some r → ∃ d2, evF d2 s (e2 ++ opens n' a.args) (n' + a.args.length) [] = some r) →
    evFs (evF k) s1 n' ts xs = some rs → ∃ d2, evFs (evF d2) e2 n' ts ss = some rs
  | [], xs, ss, rs, hl, hp, h => by simp [evFs] at h; subst h; exact ⟨0, by simp [evFs]⟩
  | t :: ts, [], ss, rs, hl, hp, h => by
    simp [evFs] at h; subst h
    obtain rfl : ss = [] := List.eq_nil_of_length_eq_zero hl.symm
    exact ⟨0, by simp [evFs]⟩
  | t :: ts, x :: xs, [], rs, hl, hp, h => by simp at hl
  | t :: ts, x :: xs, s :: ss, rs, hl, hp, h => by
    simp only [evFs, Option.bind_eq_some_iff] at h
    obtain ⟨r, h1, rs', h2, h3⟩ := h
    simp at h3; subst h3
    obtain ⟨d1, k1⟩ := hp 0 t x s r rfl rfl rfl h1
    obtain ⟨d2, k2⟩ := evFs_sim ts xs ss rs' (by simpa using hl) (fun j a x' s' r' ha hx hs => hp (j + 1) a x' s' r' (by simpa using ha) (by simpa using hx) (by simpa using hs)) h2
    refine ⟨max d1 d2, ?_⟩
    simp only [evFs, Option.bind_eq_some_iff]
    exact ⟨r, evF_mono d1 _ _ _ _ _ _ (by omega) k1, rs', evFs_mono (fun b env n st r hr => evF_mono d2 _ _ _ _ _ _ (by omega) hr) _ _ _ k2, rfl⟩
theorem evFs_length {f : Bd → List Mn → Nat → List Gf → Option Bd} {env : List Mn} {n : Nat} : ∀ (ts : List Ty) (ss xs : List Bd), evFs f env n ts ss = some xs → xs.length = min ts.length ss.length
  | [], ss, xs, h => by simp [evFs] at h; subst h; simp
  | t :: ts, [], xs, h => by simp [evFs] at h; subst h; simp
  | t :: ts, s :: ss, xs, h => by
    simp only [evFs, Option.bind_eq_some_iff] at h
    obtain ⟨x, h1, ys, h2, h3⟩ := h
    simp at h3; subst h3
    simp [evFs_length ts ss ys h2]
theorem evFs_at {f : Bd → List Mn → Nat → List Gf → Option Bd} {env : List Mn} {n : Nat} : ∀ (ts : List Ty) (ss xs : List Bd), evFs f env n ts ss = some xs → ∀ (j : Nat) (a : Ty) (s x : Bd), ts[j]? = some a → ss[j]? = some s → xs[j]? = some x → f s (env ++ opens n a.args) (n + a.args.length) [] = some x
  | [], ss, xs, h, j, a, s, x, ha, _, _ => by simp at ha
  | t :: ts, [], xs, h, j, a, s, x, _, hs, _ => by simp at hs
  | t :: ts, s' :: ss, xs, h, j, a, s, x, ha, hs, hx => by
    simp only [evFs, Option.bind_eq_some_iff] at h
    obtain ⟨y, h1, ys, h2, h3⟩ := h
    simp at h3; subst h3
    cases j with
    | zero => simp at ha hs hx; subst ha; subst hs; subst hx; exact h1
    | succ j => exact evFs_at ts ss ys h2 j a s x (by simpa using ha) (by simpa using hs) (by simpa using hx)

/-- What goes on: the one side is made of the other. -/
inductive CR : Bd → List Mn → List Gf → Bd → List Mn → List Gf → Prop
  | same {b : Bd} {e1 e2 : List Mn} {K1 K2 : List Gf} (h : MRs e1 e2) (hk : GRs K1 K2) : CR b e1 K1 b e2 K2
  | wrote {b1 b2 : Bd} {env s1 s2 : List Mn} {st K1 K2 : List Gf} {d : Nat} {H : List Ty} (h : evF d b2 env H.length st = some b1) (hs : scMs H env) (hg : scGs H st) (hl : s1.map tyOf = H) (hr : MRs s1 s2) (hk : GRs K1 K2) :
      CR b1 s1 K1 b2 (substs s2 env) (substGs s2 st ++ K2)

def SimTo (k : Nat) : Prop := ∀ (b1 : Bd) (e1 : List Mn) (K1 : List Gf) (b2 : Bd) (e2 : List Mn) (K2 : List Gf) (n' : Nat) (r : Bd), CR b1 e1 K1 b2 e2 K2 → evF k b1 e1 n' K1 = some r → ∃ d2, evF d2 b2 e2 n' K2 = some r

/-- Behind an answer both go on alike. -/
theorem sim_leaf {k : Nat} (ih : SimTo k) {c : UInt8} {e1 e2 : List Mn} {K1 K2 : List Gf} {n' : Nat} {r : Bd} (hk : GRs K1 K2) (h : evF (k + 1) (.leaf c) e1 n' K1 = some r) : ∃ d2, evF d2 (.leaf c) e2 n' K2 = some r := by
  by_cases hc : c = 117
  · subst hc; rw [evF_u] at h; exact ⟨1, by rw [evF_u]; exact h⟩
  · cases hk with
    | nil => rw [evF_end] at h; exact ⟨1, by rw [evF_end]; exact h⟩
    | same hm hk =>
      rw [evF_back hc] at h
      obtain ⟨d2, k2⟩ := ih _ _ _ _ _ _ _ _ (.same hm hk) h
      exact ⟨d2 + 1, by rw [evF_back hc]; exact k2⟩
    | @wrote x z y no env s1 s2 st K1 K2 d H hy hn hs hg hl hr hk =>
      rw [evF_back hc] at h
      have key : evF d (if c = 116 then y else no) env H.length st = some (if c = 116 then x else z) := by
        split
        · exact hy
        · exact hn
      have h' : evF k (if c = 116 then x else z) s1 n' K1 = some r := h
      obtain ⟨d2, k2⟩ := ih _ _ _ _ _ _ _ _ (.wrote key hs hg hl hr hk) h'
      exact ⟨d2 + 1, by rw [evF_back hc]; exact k2⟩

/-- Behind a question of a level that both hold alike. -/
theorem sim_ask {k : Nat} (ih : SimTo k) {v v2 n' : Nat} {ss ss2 : List Bd} {y no y2 no2 : Bd} {e1 e2 : List Mn} {K1 K2 : List Gf} {r : Bd} {m1 m2 : Mn} (h1 : e1[v]? = some m1) (h2 : e2[v2]? = some m2) (hm : MR m1 m2)
    (hlen : ss.length = ss2.length) (hown : ∀ t : Ty, tyOf m1 = t → ss.length = t.args.length → MRs (owns e1 t.args ss) (owns e2 t.args ss2))
    (hfr : GRs (⟨y, no, e1⟩ :: K1) (⟨y2, no2, e2⟩ :: K2))
    (hsub : ∀ t : Ty, tyOf m1 = t → ss.length = t.args.length → ∀ (j : Nat) (a : Ty) (x s : Bd), t.args[j]? = some a → ss[j]? = some x → ss2[j]? = some s → CR x (e1 ++ opens n' a.args) [] s (e2 ++ opens n' a.args) [])
    (hy : CR y e1 K1 y2 e2 K2) (hn : CR no e1 K1 no2 e2 K2)
    (h : evF (k + 1) (.ask v ss y no) e1 n' K1 = some r) : ∃ d2, evF d2 (.ask v2 ss2 y2 no2) e2 n' K2 = some r := by
  cases hm with
  | op o t =>
    have hl := evF_op_len h1 h
    rw [evF_op h1 hl] at h
    simp only [Option.bind_eq_some_iff] at h
    obtain ⟨xs, k1, x, k2, z, k3, k4⟩ := h
    obtain ⟨d1, q1⟩ := evFs_sim (e2 := e2) t.args ss ss2 xs hlen (fun j a x s r ha hx hs hr => ih _ _ _ _ _ _ _ _ (hsub t rfl hl j a x s ha hx hs) hr) k1
    obtain ⟨d2, q2⟩ := ih _ _ _ _ _ _ _ _ hy k2
    obtain ⟨d3, q3⟩ := ih _ _ _ _ _ _ _ _ hn k3
    refine ⟨max d1 (max d2 d3) + 1, ?_⟩
    rw [evF_op h2 (hlen.symm.trans hl)]
    simp only [Option.bind_eq_some_iff]
    exact ⟨xs, evFs_mono (fun b env n st r hr => evF_mono d1 _ _ _ _ _ _ (by omega) hr) _ _ _ q1, x, evF_mono d2 _ _ _ _ _ _ (by omega) q2, z, evF_mono d3 _ _ _ _ _ _ (by omega) q3, k4⟩
  | @same t b a1 a2 hq =>
    have hl := evF_bd_len h1 h
    rw [evF_bd h1 hl] at h
    obtain ⟨d2, k2⟩ := ih _ _ _ _ _ _ _ _ (.same (hq.append (hown t rfl hl)) hfr) h
    exact ⟨d2 + 1, by rw [evF_bd h2 (hlen.symm.trans hl)]; exact k2⟩
  | @wrote t b1 b2 env s1 s2 d H hq hs hl' hr =>
    have hl := evF_bd_len h1 h
    rw [evF_bd h1 hl] at h
    have hl2 := hlen.symm.trans hl
    have l2 := owns_length (env := e2) t.args ss2 hl2.symm
    have hz : s2.length = H.length := by rw [← hr.length, ← hl', List.length_map]
    have hq' : evF d b2 (env ++ opens H.length t.args) (H ++ t.args).length [] = some b1 := by rw [List.length_append]; exact hq
    have hc : CR b1 (s1 ++ owns e1 t.args ss) (⟨y, no, e1⟩ :: K1) b2 (substs (s2 ++ owns e2 t.args ss2) (env ++ opens H.length t.args)) (substGs (s2 ++ owns e2 t.args ss2) [] ++ (⟨y2, no2, e2⟩ :: K2)) :=
      .wrote hq' (scMs_append _ _ (scMs_mono _ hs) (scMs_opens_end H t.args)) trivial (by rw [List.map_append, hl', owns_tys _ _ hl]) (hr.append (hown t rfl hl)) hfr
    rw [substs_append, substs_more hz env hs, substs_opens s2 t.args (owns e2 t.args ss2) H.length hz l2] at hc
    obtain ⟨d2, k2⟩ := ih _ _ _ _ _ _ _ _ hc h
    exact ⟨d2 + 1, by rw [evF_bd h2 hl2]; exact k2⟩

theorem substGs_back (s : List Mn) (f : Gf) (st : List Gf) : substGs s (f :: st) = ⟨f.yes, f.no, substs s f.env⟩ :: substGs s st := rfl

/-- What was written goes on as what it was written of. -/
theorem sim_wrote {k : Nat} (ih : ∀ k', k = k' + 1 → SimTo k') (d : Nat) : ∀ (b1 b2 : Bd) (env s1 s2 : List Mn) (st K1 K2 : List Gf) (H : List Ty) (n' : Nat) (r : Bd), evF d b2 env H.length st = some b1 → scMs H env → scGs H st → s1.map tyOf = H → MRs s1 s2 → GRs K1 K2 →
    evF k b1 s1 n' K1 = some r → ∃ d2, evF d2 b2 (substs s2 env) n' (substGs s2 st ++ K2) = some r := by
  induction d with
  | zero => intro b1 b2 env s1 s2 st K1 K2 H n' r h; simp [evF] at h
  | succ d ihd =>
    intro b1 b2 env s1 s2 st K1 K2 H n' r h hs hg hl hr hk hev
    obtain ⟨k, rfl⟩ : ∃ k', k = k' + 1 := by
      cases k with
      | zero => simp [evF] at hev
      | succ k => exact ⟨k, rfl⟩
    have IH := ih k rfl
    cases b2 with
    | leaf c =>
      by_cases hc : c = 117
      · subst hc; rw [evF_u] at h; simp at h; subst h; rw [evF_u] at hev; exact ⟨1, by rw [evF_u]; exact hev⟩
      · cases st with
        | nil =>
          rw [evF_end] at h; simp at h; subst h
          exact sim_leaf IH hk hev
        | cons f st =>
          rw [evF_back hc] at h
          rw [scGs] at hg
          obtain ⟨d2, k2⟩ := ihd _ _ _ _ _ _ _ _ _ _ _ h hg.1 hg.2 hl hr hk hev
          refine ⟨d2 + 1, ?_⟩
          rw [substGs, List.cons_append, evF_back hc]
          exact k2
    | ask v ss y no =>
      cases hv : env[v]? with
      | none => rw [evF_none hv] at h; simp at h
      | some m =>
        have hm := scMs_at _ hs _ _ hv
        have hv2 := substs_at s2 env v m hv
        cases m with
        | bd t b' e =>
          have hll := evF_bd_len hv h
          rw [evF_bd hv hll] at h
          rw [scM] at hm
          obtain ⟨d2, k2⟩ := ihd _ _ _ _ _ (⟨y, no, env⟩ :: st) _ _ _ _ _ h (scMs_append _ _ hm (scMs_owns hs _ _)) ⟨hs, hg⟩ hl hr hk hev
          refine ⟨d2 + 1, ?_⟩
          rw [subst] at hv2
          rw [evF_bd hv2 hll]
          rw [substs_append, substs_owns, substGs, List.cons_append] at k2
          exact k2
        | op o t =>
          have hll := evF_op_len hv h
          rw [evF_op hv hll] at h
          simp only [Option.bind_eq_some_iff] at h
          obtain ⟨xs, k1, x, k2, z, k3, k4⟩ := h
          simp at k4; subst k4
          rw [scM, ← hl, List.getElem?_map, Option.map_eq_some_iff] at hm
          obtain ⟨m1, hm1, htm⟩ := hm
          obtain ⟨m2, hm2, hmr⟩ := hr.at o m1 hm1
          have hv3 : (substs s2 env)[v]? = some m2 := by rw [hv2, subst, hm2]; rfl
          have hxl := evFs_length _ _ _ k1
          have hxl' : xs.length = ss.length := by omega
          refine sim_ask IH hm1 hv3 hmr hxl' (fun t' et ht' => ?_) (.wrote k2 k3 hs hg hl hr hk) (fun t' et ht' j a x' s' ha hx hss => ?_) (.wrote k2 hs hg hl hr hk) (.wrote k3 hs hg hl hr hk) hev
          · obtain rfl : t' = t := et.symm.trans htm
            exact MRs.ownsW hs hl hr _ _ _ k1
          · obtain rfl : t' = t := et.symm.trans htm
            have key := evFs_at _ _ _ k1 j a s' x' ha hss hx
            have hz : s2.length = H.length := by rw [← hr.length, ← hl, List.length_map]
            have key' : evF d s' (env ++ opens H.length a.args) (H ++ a.args).length [] = some x' := by rw [List.length_append]; exact key
            have hc : CR x' (s1 ++ opens n' a.args) [] s' (substs (s2 ++ opens n' a.args) (env ++ opens H.length a.args)) (substGs (s2 ++ opens n' a.args) [] ++ []) :=
              .wrote key' (scMs_append _ _ (scMs_mono _ hs) (scMs_opens_end H a.args)) trivial (by rw [List.map_append, hl, opens_tys]) (hr.append (MRs.refl _)) .nil
            rw [substs_append, substs_more hz env hs, substs_opens s2 a.args (opens n' a.args) H.length hz (opens_length _ _)] at hc
            exact hc

/-- The law: what one side gives the other side gives, too. -/
theorem sim_to (k : Nat) : SimTo k := by
  induction k with
  | zero => intro b1 e1 K1 b2 e2 K2 n' r _ h; simp [evF] at h
  | succ k ih =>
    intro b1 e1 K1 b2 e2 K2 n' r hc h
    cases hc with
    | wrote hq hs hg hl hr hk =>
      have key : ∀ k', k + 1 = k' + 1 → SimTo k' := fun k' e => by
        have e2 : k = k' := by omega
        subst e2
        exact ih
      exact sim_wrote (k := k + 1) key _ _ _ _ _ _ _ _ _ _ _ _ hq hs hg hl hr hk h
    | same hm hk =>
      cases b1 with
      | leaf c => exact sim_leaf ih hk h
      | ask v ss y no =>
        cases hv : e1[v]? with
        | none => rw [evF_none hv] at h; simp at h
        | some m =>
          obtain ⟨m2, hm2, hmr⟩ := hm.at v m hv
          exact sim_ask ih hv hm2 hmr rfl (fun t _ _ => hm.owns _ _) (.same hm hk) (fun t _ _ j a x s _ hx hs => by
            rw [hx] at hs; obtain rfl := Option.some.inj hs
            exact .same (hm.append (MRs.refl _)) .nil) (.same hm hk) (.same hm hk) h

end Go.Proofs.YtibnnbdpfkgfhaaGreatDoor

/- Plain words: results are those of strategies that are applied; composing applies. -/
namespace Go.Proofs.YtibnnbdpfkgfhaaGreatDoor
open Go.RowKit

/-- What a body becomes, and what it does with something put for the levels that are left open. -/
theorem become_F {t : Ty} {b : Bd} {env : List Mn} (hf : EvFit t.args b env []) {out : Bd} (h : become b env t.args.length = some out) : ∃ d, evF d b env t.args.length [] = some out := by
  unfold become at h
  cases hq : ev 20000 20000 b env t.args.length [] with
  | none => rw [hq] at h; simp at h
  | some x =>
    obtain ⟨o, l⟩ := x
    rw [hq] at h
    simp only at h
    split at h
    · simp at h; subst h
      exact ⟨20000, ev_F _ _ _ _ _ _ _ _ hf hq⟩
    · simp at h
theorem scMs_evFit {H : List Ty} {b : Bd} {env : List Mn} {st : List Gf} (h : EvFit H b env st) : scMs H env := by
  obtain ⟨⟨hh, h1, _⟩, _⟩ := h
  exact scMs_of_fit env hh h1
theorem become_sim {t : Ty} {b : Bd} {env : List Mn} (hf : EvFit t.args b env []) {out : Bd} (h : become b env t.args.length = some out) {s : List Mn} (hs : s.map tyOf = t.args) {d n' : Nat} {r : Bd} (hr : evF d out s n' [] = some r) :
    ∃ d2, evF d2 b (substs s env) n' [] = some r := by
  obtain ⟨d0, h0⟩ := become_F hf h
  exact sim_to d _ _ _ _ _ _ _ _ (.wrote (st := []) (K1 := []) (K2 := []) h0 (scMs_evFit hf) trivial hs (MRs.refl s) .nil) hr

theorem substs_apply {a : Ty} {n : Bd} {rest : List Ty} {s : List Mn} (hs : s.map tyOf = rest) : substs s (applyEnv a n rest) = .bd a n [] :: s := by
  rw [applyEnv, substs, subst, substs]
  have := substs_opens [] rest s 0 rfl (by rw [← hs, List.length_map])
  rw [List.nil_append] at this
  rw [this]

/-- What a strategy that is applied to one does, this does with it. -/
theorem applyOne_sim {t : Ty} {m : Bd} (hm : Good t m) {l : Bs} {t' : Ty} {out : Bd} (h : applyOne t m l = some (t', out)) :
    ∃ a n, t.args = a :: t'.args ∧ rdStrat a l = some n ∧ ∀ (s : List Mn) (d n' : Nat) (r : Bd), s.map tyOf = t'.args → evF d out s n' [] = some r → ∃ d2, evF d2 m (.bd a n [] :: s) n' [] = some r := by
  unfold applyOne at h
  cases ht : t.args with
  | nil => rw [ht] at h; simp at h
  | cons a rest =>
    rw [ht] at h
    simp only [Option.bind_eq_some_iff, Option.map_eq_some_iff] at h
    obtain ⟨n, h1, out', h2, h3⟩ := h
    simp only [Prod.mk.injEq] at h3
    obtain ⟨rfl, rfl⟩ := h3
    have hat := Ty_atoms_cons ht
    have h15 := hm.atoms
    obtain ⟨hn, _⟩ := rdStrat_good (by omega) h1
    have hf := hm.fit
    rw [ht] at hf
    refine ⟨a, n, rfl, h1, fun s d n' r hs hr => ?_⟩
    have hfit : EvFit (Ty.mk rest).args m (applyEnv a n rest) [] := applyEnv_fit hn.fit hf
    obtain ⟨d2, k2⟩ := become_sim (t := .mk rest) hfit h2 (s := s) hs hr
    rw [substs_apply (show s.map tyOf = rest from hs)] at k2
    exact ⟨d2, k2⟩

/-- Texts read as strategies of types. -/
def readMany : List Ty → List Bs → Option (List Bd)
  | t :: ts, l :: ls => (rdStrat t l).bind fun b => (readMany ts ls).bind fun bs => some (b :: bs)
  | _, _ => some []
theorem applyMany_sim : ∀ (ls : List Bs) {t : Ty} {m : Bd} {t' : Ty} {out : Bd}, Good t m → applyMany t m ls = some (t', out) →
    ∃ bs, ls.length ≤ t.args.length ∧ t'.args = t.args.drop ls.length ∧ readMany (t.args.take ls.length) ls = some bs ∧ ∀ (s : List Mn) (d n' : Nat) (r : Bd), s.map tyOf = t'.args → evF d out s n' [] = some r → ∃ d2, evF d2 m (owns [] (t.args.take ls.length) bs ++ s) n' [] = some r
  | [], t, m, t', out, hm, h => by
    simp only [applyMany, Option.some.injEq, Prod.mk.injEq] at h
    obtain ⟨rfl, rfl⟩ := h
    refine ⟨[], Nat.zero_le _, rfl, by simp [readMany], fun s d n' r hs hr => ⟨d, ?_⟩⟩
    simp only [List.length_nil, List.take_zero]
    rw [owns]
    · simpa using hr
    · intros; contradiction
  | l :: ls, t, m, t', out, hm, h => by
    simp only [applyMany, Option.bind_eq_some_iff] at h
    obtain ⟨⟨t1, m1⟩, h1, h2⟩ := h
    obtain ⟨a, n, ha, hn, hsim⟩ := applyOne_sim hm h1
    have g1 := applyOne_good hm h1
    obtain ⟨bs, k0, k1, k2, k3⟩ := applyMany_sim ls g1 h2
    simp only at k0 k1 k2 k3 h2
    refine ⟨n :: bs, by rw [ha]; simpa using k0, by rw [ha]; simpa using k1, ?_, fun s d n' r hs hr => ?_⟩
    · rw [ha, List.length_cons, List.take_succ_cons, readMany, hn, k2]; rfl
    · obtain ⟨d2, q2⟩ := k3 s d n' r hs hr
      have hl : bs.length = (t1.args.take ls.length).length := by
        have key : ∀ (ts : List Ty) (xs : List Bs) (bs : List Bd), ts.length = xs.length → readMany ts xs = some bs → bs.length = ts.length := by
          intro ts
          induction ts with
          | nil => intro xs bs _ h; simp [readMany] at h; subst h; rfl
          | cons t ts ih =>
            intro xs bs hl h
            cases xs with
            | nil => simp at hl
            | cons x xs =>
              simp only [readMany, Option.bind_eq_some_iff] at h
              obtain ⟨b, _, bs', h2, h3⟩ := h
              simp at h3; subst h3
              simp [ih xs bs' (by simpa using hl) h2]
        exact key _ _ _ (by rw [List.length_take]; omega) k2
      have htys : (owns [] (t1.args.take ls.length) bs ++ s).map tyOf = t1.args := by
        rw [List.map_append, owns_tys _ _ hl, hs, k1, List.take_append_drop]
      obtain ⟨d3, q3⟩ := hsim _ _ _ _ htys q2
      refine ⟨d3, ?_⟩
      rw [ha, List.length_cons, List.take_succ_cons, owns]
      exact q3

mutual
/-- What stands for a level, for the machine that writes and for the one that runs. -/
def cm : Mn → Clo → Prop
  | .op _ _, _ => False
  | .bd _ b e, c => b = c.body ∧ cms e c.env
def cms : List Mn → List Clo → Prop
  | [], cs => cs = []
  | m :: ms, cs => ∃ c cs', cs = c :: cs' ∧ cm m c ∧ cms ms cs'
end
theorem cms_at : ∀ (ms : List Mn) (cs : List Clo), cms ms cs → ∀ (k : Nat), (∀ m, ms[k]? = some m → ∃ c, cs[k]? = some c ∧ cm m c) ∧ (ms[k]? = none → cs[k]? = none)
  | [], cs, h, k => by rw [cms] at h; subst h; simp
  | m :: ms, cs, h, k => by
    rw [cms] at h
    obtain ⟨c, cs', rfl, h1, h2⟩ := h
    cases k with
    | zero => simp; exact h1
    | succ k => simpa using cms_at ms cs' h2 k
theorem cms_append : ∀ (ms : List Mn) (cs : List Clo) (ns : List Mn) (ds : List Clo), cms ms cs → cms ns ds → cms (ms ++ ns) (cs ++ ds)
  | [], cs, ns, ds, h, k => by rw [cms] at h; subst h; simpa using k
  | m :: ms, cs, ns, ds, h, k => by
    rw [cms] at h
    obtain ⟨c, cs', rfl, h1, h2⟩ := h
    simp only [List.cons_append]
    rw [cms]
    exact ⟨c, cs' ++ ds, rfl, h1, cms_append ms cs' ns ds h2 k⟩
theorem cms_owns {env : List Mn} {cenv : List Clo} (h : cms env cenv) (asked : Nat) (path : Bs) : ∀ (ts : List Ty) (ss : List Bd) (i : Nat), ss.length = ts.length → cms (owns env ts ss) (ownFrom cenv asked path i ss)
  | [], [], i, _ => by
    rw [owns]
    · rw [cms, ownFrom]
    · intros; contradiction
  | [], s :: ss, i, hl => by simp at hl
  | t :: ts, [], i, hl => by simp at hl
  | t :: ts, s :: ss, i, hl => by
    rw [owns, ownFrom, cms]
    refine ⟨_, _, rfl, ?_, cms_owns h asked path ts ss (i + 1) (by simpa using hl)⟩
    rw [cm]; exact ⟨rfl, h⟩
/-- Frames alike. -/
def gfr : List Gf → List Fr → Prop
  | [], fs => fs = []
  | g :: gs, fs => ∃ f fs', fs = f :: fs' ∧ g.yes = f.yes ∧ g.no = f.no ∧ cms g.env f.env ∧ gfr gs fs'

/-- Both machines give the same result. -/
theorem run_evF (f : Nat) : ∀ (m d : Nat) (b : Bd) (env : List Clo) (begun : Nat) (path : Bs) (st : List Fr) (menv : List Mn) (mst : List Gf) (n' : Nat) (c : UInt8) (ms : List (Bs × Nat)) (r : Bd), runM f m b env begun path st = some (c, ms) → cms menv env → gfr mst st → evF d b menv n' mst = some r → r = .leaf c := by
  induction f with
  | zero =>
    intro m d b env begun path st menv mst n' c ms r h hc hg hr
    cases b with
    | leaf x =>
      by_cases hx : x = 117
      · subst hx
        rw [runM_u] at h; simp at h
        cases d with
        | zero => simp [evF] at hr
        | succ d => rw [evF_u] at hr; simp at hr; rw [← hr, h.1]
      · rw [runM_out hx] at h; simp at h
    | ask v ss y no => rw [runM_out2] at h; simp at h
  | succ f ih =>
    intro m d b env begun path st menv mst n' c ms r h hc hg hr
    cases d with
    | zero => simp [evF] at hr
    | succ d =>
      cases b with
      | leaf x =>
        by_cases hx : x = 117
        · subst hx
          rw [runM_u] at h; simp at h
          rw [evF_u] at hr; simp at hr; rw [← hr, h.1]
        · cases mst with
          | nil =>
            rw [gfr] at hg; subst hg
            rw [runM_end hx] at h; simp at h
            rw [evF_end] at hr; simp at hr; rw [← hr, h.1]
          | cons g mst =>
            rw [gfr] at hg
            obtain ⟨fr, st', rfl, e1, e2, e3, e4⟩ := hg
            rw [runM_back hx, Option.map_eq_some_iff] at h
            obtain ⟨⟨c', ms'⟩, h1, h2⟩ := h
            simp only [Prod.mk.injEq] at h2
            obtain ⟨rfl, _⟩ := h2
            rw [evF_back hx, e1, e2] at hr
            exact ih _ _ _ _ _ _ _ _ _ _ _ _ _ h1 e3 e4 hr
      | ask v ss y no =>
        obtain ⟨k1, k2⟩ := cms_at _ _ hc v
        cases hv : menv[v]? with
        | none => rw [evF_none hv] at hr; simp at hr
        | some mm =>
          obtain ⟨e, he, hm⟩ := k1 mm hv
          cases mm with
          | op o t => rw [cm] at hm; exact hm.elim
          | bd t b' e' =>
            rw [cm] at hm
            obtain ⟨rfl, hm⟩ := hm
            have hl := evF_bd_len hv hr
            rw [evF_bd hv hl] at hr
            rw [runM_ask _ _ _ _ _ _ _ _ _ _ he, Option.map_eq_some_iff] at h
            obtain ⟨⟨c', ms'⟩, h1, h2⟩ := h
            simp only [Prod.mk.injEq] at h2
            obtain ⟨rfl, _⟩ := h2
            refine ih _ _ _ _ _ _ _ _ _ _ _ _ _ h1 (cms_append _ _ _ _ hm (cms_owns hc _ _ _ _ _ hl)) ?_ hr
            rw [gfr]
            exact ⟨_, _, rfl, rfl, rfl, hc, hg⟩

end Go.Proofs.YtibnnbdpfkgfhaaGreatDoor

/- Plain words: what the copying strategy does where it is applied; applying one after the other. -/
namespace Go.Proofs.YtibnnbdpfkgfhaaGreatDoor
open Go.RowKit

/-- A text that CopyOf copies. -/
theorem copy_some {s out : Bs} (h : specCopy s = some out) : ∃ t, specType s = (t, true) ∧ s = textT t ∧ atomsT (arrowT t t) ≤ 15 ∧ out = textB (eta t 0 1) := by
  unfold specCopy at h
  split at h
  · rename_i hc
    obtain ⟨h1, h2⟩ := hc
    rw [Option.map_eq_some_iff] at h
    obtain ⟨_, _, h3⟩ := h
    exact ⟨(specType s).1, by rw [← h1], (specType_canon h1).1, h2, h3.symm⟩
  · simp at h
theorem copy_strat {t : Ty} (h : atomsT (arrowT t t) ≤ 15) : specStrat (arrowText (textT t) (textT t)) (textB (eta t 0 1)) = some (eta t 0 1) := by
  rw [arrowText_eq]
  exact specStrat_of_good (eta_good h)
/-- What is copied stays. -/
theorem copy_apply {t : Ty} (h : atomsT (arrowT t t) ≤ 15) {b : Bd} (hb : Good t b) : specApplyOf (arrowText (textT t) (textT t)) (textB (eta t 0 1)) (textB b) = some (textB b) := by
  rw [specApplyOf_eq (copy_strat h), arrowText_eq, specType_text h]
  have ha : (arrowT t t).args = t :: t.args := rfl
  unfold applyOne
  rw [ha]
  simp only
  rw [rdStrat_text hb.atoms, specStrat_of_good hb]
  simp only [Option.bind_some]
  rw [copy_neutral hb]
  rfl
theorem good_leaf {t : Ty} (h : atomsT t ≤ 15) {c : UInt8} (hc : c = 116 ∨ c = 102 ∨ c = 117) : Good t (.leaf c) :=
  ⟨h, by simp [fitB], by rw [wfB]; exact hc, by simp [sizeB], by simp [depthB]⟩
theorem copy_small {s out : Bs} (h : specCopy s = some out) {c : UInt8} (hc : c = 116 ∨ c = 102 ∨ c = 117) : specApplyOf (arrowText s s) out [c] = some [c] := by
  obtain ⟨t, _, e, h15, rfl⟩ := copy_some h
  subst e
  have ha := arrow_atoms t t
  have := copy_apply h15 (good_leaf (t := t) (by omega) hc)
  simpa [textB] using this
theorem copy_valid {s out : Bs} (h : specCopy s = some out) : ∃ b, specStrat (arrowText s s) out = some b := by
  obtain ⟨t, _, e, h15, rfl⟩ := copy_some h
  subst e
  exact ⟨_, copy_strat h15⟩
theorem copy_given {s out text : Bs} {b : Bd} (h : specCopy s = some out) (hb : specStrat s text = some b) : specApplyOf (arrowText s s) out text = some text := by
  obtain ⟨t, e1, e, h15, rfl⟩ := copy_some h
  obtain ⟨hg, rfl⟩ := specStrat_good hb
  rw [e1] at hg
  subst e
  exact copy_apply h15 hg
theorem copy_len {s out : Bs} (h : specCopy s = some out) : s.length ≤ 100 := by
  unfold specCopy at h
  split at h
  · rename_i hc
    have := hc.1
    unfold specType at this
    split at this
    · simp at this
    · omega
  · simp at h

end Go.Proofs.YtibnnbdpfkgfhaaGreatDoor

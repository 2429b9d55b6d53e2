/- Plain words for FnCompose: the copy is neutral where strategies are composed, and composing applies. -/
import Derived.Test.YtibnnbdpfkgfhaaGreatDoorP20
namespace Go.Proofs.YtibnnbdpfkgfhaaGreatDoor
open Go.RowKit

/-- For each level at hand there stands the same level, or its copy. -/
structure Mixed (env : List Mn) (hand : List Ty) : Prop where
  len : env.length = hand.length
  each : ∀ i t, hand[i]? = some t → env[i]? = some (Mn.op i t) ∨ ∃ (v : Nat) (e : List Mn), env[i]? = some (Mn.bd t (eta t v e.length) e) ∧ e[v]? = some (Mn.op i t)
theorem Mixed.opens {env : List Mn} {hand : List Ty} (h : Mixed env hand) (ts : List Ty) : Mixed (env ++ Go.Proofs.YtibnnbdpfkgfhaaGreatDoor.opens hand.length ts) (hand ++ ts) := by
  have hl := h.len
  refine ⟨by rw [List.length_append, List.length_append, opens_length, hl], fun i t hi => ?_⟩
  rcases Nat.lt_or_ge i hand.length with hlt | hge
  · rw [List.getElem?_append_left hlt] at hi
    rw [List.getElem?_append_left (by omega)]
    exact h.each i t hi
  · rw [List.getElem?_append_right hge] at hi
    left
    rw [List.getElem?_append_right (by omega), hl, opens_at ts hand.length _ t hi, show hand.length + (i - hand.length) = i from by omega]
theorem Mixed.more {env : List Mn} {hand : List Ty} (h : Mixed env hand) (e2 : List Mn) (ts : List Ty) :
    Mixed (env ++ owns (e2 ++ Go.Proofs.YtibnnbdpfkgfhaaGreatDoor.opens hand.length ts) ts (etas ts e2.length (e2.length + ts.length))) (hand ++ ts) := by
  have hl := h.len
  refine ⟨?_, fun i t hi => ?_⟩
  · rw [List.length_append, List.length_append, owns_length _ _ (etas_length _ _ _).symm, hl]
  · rcases Nat.lt_or_ge i hand.length with hlt | hge
    · rw [List.getElem?_append_left hlt] at hi
      rw [List.getElem?_append_left (by omega)]
      exact h.each i t hi
    · rw [List.getElem?_append_right hge] at hi
      have h1 := etas_at ts e2.length (e2.length + ts.length) _ t hi
      have h2 := owns_at (env := e2 ++ Go.Proofs.YtibnnbdpfkgfhaaGreatDoor.opens hand.length ts) ts _ _ t _ hi h1
      have h3 := opens_at ts hand.length _ t hi
      right
      refine ⟨e2.length + (i - hand.length), e2 ++ Go.Proofs.YtibnnbdpfkgfhaaGreatDoor.opens hand.length ts, ?_, ?_⟩
      · rw [List.getElem?_append_right (by omega), hl, h2, List.length_append, opens_length]
      · rw [List.getElem?_append_right (by omega), Nat.add_sub_cancel_left, h3, show hand.length + (i - hand.length) = i from by omega]

theorem fitBs_at' {hand ts : List Ty} {ss : List Bd} (h : fitBs (hands hand ts) ss) {j : Nat} {a : Ty} {s : Bd} (ha : ts[j]? = some a) (hs : ss[j]? = some s) : fitB (hand ++ a.args) s := by
  obtain ⟨h', e, k⟩ := fitBs_at _ _ h j s hs
  simp only [hands, List.getElem?_map, ha, Option.map_some, Option.some.injEq] at e
  subst e; exact k

/-- Nothing waits, or a copy waits. -/
def Waits (st : List Gf) : Prop := st = [] ∨ ∃ e, st = [⟨.leaf 116, .leaf 102, e⟩]

theorem evFs_all {d n : Nat} {env : List Mn} : ∀ (ts : List Ty) (ss xs : List Bd), evFs (evF d) env n ts ss = some xs → ss.length = ts.length →
    ∀ (ys : List Bd), ys.length = ts.length → (∀ (j : Nat) (a : Ty) (s y x : Bd), ts[j]? = some a → ss[j]? = some s → ys[j]? = some y → evF d s (env ++ opens n a.args) (n + a.args.length) [] = some x → x = y) → xs = ys
  | [], ss, xs, h, hl, ys, hy, _ => by
    obtain rfl : ss = [] := List.eq_nil_of_length_eq_zero (by simpa using hl)
    obtain rfl : ys = [] := List.eq_nil_of_length_eq_zero (by simpa using hy)
    simp [evFs] at h; exact h
  | t :: ts, [], xs, h, hl, ys, hy, _ => by simp at hl
  | t :: ts, s :: ss, xs, h, hl, [], hy, _ => by simp at hy
  | t :: ts, s :: ss, xs, h, hl, y :: ys, hy, hk => by
    simp only [evFs, Option.bind_eq_some_iff] at h
    obtain ⟨x, h1, zs, h2, h3⟩ := h
    simp at h3; subst h3
    rw [hk 0 t s y x rfl rfl rfl h1, evFs_all ts ss zs h2 (by simpa using hl) ys (by simpa using hy) fun j a s' y' x' ha hs hy' hx => hk (j + 1) a s' y' x' (by simpa using ha) (by simpa using hs) (by simpa using hy') hx]

/-- A body at whose levels copies stand becomes itself, if it becomes something. -/
theorem evF_mixed (d : Nat) : ∀ (b : Bd) (hand : List Ty) (env : List Mn) (st : List Gf) (r : Bd), fitB hand b → wfB b → Mixed env hand → Waits st → evF d b env hand.length st = some r → r = b := by
  induction d using Nat.strongRecOn with
  | ind d ih =>
    intro b hand env st r hf hw hm hst h
    cases d with
    | zero => simp [evF] at h
    | succ d =>
      cases b with
      | leaf c =>
        rw [wfB] at hw
        by_cases hc : c = 117
        · subst hc; rw [evF_u] at h; simpa using h.symm
        · rcases hst with rfl | ⟨e, rfl⟩
          · rw [evF_end] at h; simpa using h.symm
          · rw [evF_back hc] at h
            have e1 : (if c = 116 then (Gf.mk (.leaf 116) (.leaf 102) e).yes else (Gf.mk (.leaf 116) (.leaf 102) e).no) = .leaf c := by
              rcases hw with rfl | rfl | rfl
              · rfl
              · rfl
              · exact absurd rfl hc
            rw [e1] at h
            cases d with
            | zero => simp [evF] at h
            | succ d => rw [evF_end] at h; simpa using h.symm
      | ask i ss y no =>
        rw [wfB] at hw
        rw [fitB] at hf
        obtain ⟨t, ht, h1, h2, h3⟩ := hf
        have hlen := fitBs_length _ _ h1
        rw [hands_length] at hlen
        have hfit : ∀ (j : Nat) (a : Ty) (s : Bd), t.args[j]? = some a → ss[j]? = some s → fitB (hand ++ a.args) s := fun j a s ha hs => fitBs_at' h1 ha hs
        rcases hm.each i t ht with k1 | ⟨v, e, k1, k2⟩
        · rw [evF_op k1 hlen.symm] at h
          simp only [Option.bind_eq_some_iff] at h
          obtain ⟨xs, q1, x, q2, z, q3, q4⟩ := h
          simp at q4; subst q4
          obtain rfl := ih d (by omega) y hand env st x h2 hw.2.1 hm hst q2
          obtain rfl := ih d (by omega) no hand env st z h3 hw.2.2 hm hst q3
          rw [evFs_all _ _ _ q1 hlen.symm ss hlen.symm fun j a s s' x' ha hs hs' hx => by
            rw [hs] at hs'; obtain rfl := Option.some.inj hs'
            refine ih d (by omega) s (hand ++ a.args) _ [] x' (hfit j a s ha hs) (wfBs_at _ hw.1 j s hs) (hm.opens a.args) (.inl rfl) ?_
            rw [List.length_append]; exact hx]
        · have hv := (List.getElem?_eq_some_iff.1 k2).1
          rw [evF_bd k1 hlen.symm, eta_eq] at h
          cases d with
          | zero => simp [evF] at h
          | succ d =>
          rw [evF_op (t := t) (o := i) (by rw [List.getElem?_append_left hv]; exact k2) (etas_length _ _ _)] at h
          simp only [Option.bind_eq_some_iff] at h
          obtain ⟨xs, q1, x, q2, z, q3, q4⟩ := h
          simp at q4; subst q4
          cases d with
          | zero => simp [evF] at q2
          | succ d =>
          rw [evF_back (by decide)] at q2 q3
          simp only [if_true] at q2
          rw [if_neg (by decide)] at q3
          obtain rfl := ih d (by omega) y hand env st x h2 hw.2.1 hm hst q2
          obtain rfl := ih d (by omega) no hand env st z h3 hw.2.2 hm hst q3
          rw [evFs_all _ _ _ q1 (etas_length _ _ _) ss hlen.symm fun j a s s' x' ha hs hs' hx => by
            rw [etas_at _ _ _ j a ha] at hs
            obtain rfl := Option.some.inj hs
            rw [eta_eq] at hx
            have hown : ((e ++ owns env t.args ss) ++ opens hand.length a.args)[e.length + j]? = some (.bd a s' env) := by
              have hj := owns_at (env := env) t.args ss j a s' ha hs'
              have hjl := (List.getElem?_eq_some_iff.1 hj).1
              rw [List.getElem?_append_left (by rw [List.length_append]; omega), List.getElem?_append_right (by omega), Nat.add_sub_cancel_left]; exact hj
            rw [evF_bd hown (etas_length _ _ _)] at hx
            have hm2 := hm.more (e ++ owns env t.args ss) a.args
            rw [List.length_append, owns_length _ _ hlen] at hm2
            refine ih d (by omega) s' (hand ++ a.args) _ _ x' (hfit j a s' ha hs') (wfBs_at _ hw.1 j s' hs') hm2 (Or.inr (Exists.intro ((e ++ owns env t.args ss) ++ Go.Proofs.YtibnnbdpfkgfhaaGreatDoor.opens hand.length a.args) rfl)) ?_
            rw [List.length_append]; exact hx]

/-- A strategy composed with a copy stays. -/
theorem compose_neutral {x z : Ty} {g out : Bd} (hg : Good (arrowT x z) g) (h : become g (composeEnv x x (eta x 0 1) z.args) (1 + z.args.length) = some out) : out = g := by
  have hfit := hg.fit
  have e0 : (arrowT x z).args = x :: z.args := rfl
  rw [e0] at hfit
  have hx : fitB (x :: x.args) (eta x 0 1) := eta_fit x 0 1 [x] rfl rfl
  have el : 1 + z.args.length = (x :: z.args).length := by simp; omega
  have hfit2 := composeEnv_fit hx hfit
  rw [el] at h
  obtain ⟨d, hd⟩ := become_F (t := .mk (x :: z.args)) hfit2 h
  refine evF_mixed d g (x :: z.args) _ [] out hfit hg.wf ⟨?_, fun i t hi => ?_⟩ (.inl rfl) hd
  · rw [composeEnv, List.length_cons, opens_length, List.length_cons]
  · cases i with
    | zero =>
      simp at hi; subst hi
      exact .inr ⟨0, [.op 0 x], rfl, rfl⟩
    | succ i =>
      left
      rw [composeEnv, List.getElem?_cons_succ, opens_at _ 1 i t (by simpa using hi), Nat.add_comm]

/-- Composing applies. -/
theorem compose_applies {x y z : Ty} {f g a u v o r : Bd} (hf : Good (arrowT x y) f) (hg : Good (arrowT y z) g) (ha : Good x a)
    (hu : become f (applyEnv x a y.args) y.args.length = some u) (hv : become g (applyEnv y u z.args) z.args.length = some v)
    (ho : become g (composeEnv x y f z.args) (1 + z.args.length) = some o) (hr : become o (applyEnv x a z.args) z.args.length = some r) (h15 : atomsT (arrowT x z) ≤ 15) : v = r := by
  have ff := hf.fit
  have fg := hg.fit
  rw [show (arrowT x y).args = x :: y.args from rfl] at ff
  rw [show (arrowT y z).args = y :: z.args from rfl] at fg
  have el : 1 + z.args.length = (x :: z.args).length := by simp; omega
  have hcf := composeEnv_fit ff fg
  rw [el] at ho
  have ho15 := become_good (t := arrowT x z) h15 (b := g) (env := composeEnv x y f z.args) hcf hg.wf (composeEnv_wf hf.wf) ho
  have fo := ho15.fit
  rw [show (arrowT x z).args = x :: z.args from rfl] at fo
  obtain ⟨d1, k1⟩ := become_F (t := .mk z.args) (applyEnv_fit ha.fit fo) hr
  have hs : (applyEnv x a z.args).map tyOf = x :: z.args := by rw [applyEnv, List.map_cons, opens_tys]; rfl
  obtain ⟨d2, k2⟩ := become_sim (t := .mk (x :: z.args)) hcf ho hs k1
  have e1 : substs (applyEnv x a z.args) (composeEnv x y f z.args) = .bd y f [.bd x a []] :: opens 0 z.args := by
    have := substs_opens [.bd x a []] z.args (opens 0 z.args) 1 rfl (opens_length _ _)
    rw [composeEnv, substs, subst, substs, substs, subst, applyEnv]
    rw [show (Mn.bd x a [] :: opens 0 z.args) = [.bd x a []] ++ opens 0 z.args from rfl, this]
    rfl
  rw [e1] at k2
  obtain ⟨d3, k3⟩ := become_F (t := .mk y.args) (applyEnv_fit ha.fit ff) hu
  have hgu : fitB y.args u := (become_good (t := y) (by have := hf.atoms; have := arrow_atoms x y; omega) (applyEnv_fit ha.fit ff) hf.wf (applyEnv_wf ha.wf) hu).fit
  obtain ⟨d4, k4⟩ := become_F (t := .mk z.args) (applyEnv_fit hgu fg) hv
  have hmr : MRs (applyEnv y u z.args) (.bd y f [.bd x a []] :: opens 0 z.args) := by
    refine .cons ?_ (MRs.refl _)
    have hw : MR (.bd y u []) (.bd y f (substs [] [.bd x a []])) := by
      refine .wrote (d := d3) (H := []) ?_ ?_ rfl .nil
      · have k4' : evF d3 f (applyEnv x a y.args) y.args.length [] = some u := k3
        simpa [applyEnv] using k4'
      · rw [scMs, scM, scMs]; exact ⟨trivial, trivial⟩
    rw [substs, subst, substs] at hw
    exact hw
  obtain ⟨d5, k5⟩ := sim_to d4 _ _ _ _ _ _ _ _ (.same hmr .nil) k4
  exact evF_det k5 k2

/-- What it means that ComposeOf gives a text. -/
structure Composed (a b c m n out : Bs) (x y z : Ty) (f g o : Bd) : Prop where
  ta : specType a = (x, true)
  tb : specType b = (y, true)
  tc : specType c = (z, true)
  ea : a = textT x
  eb : b = textT y
  ec : c = textT z
  gf : Good (arrowT x y) f
  gg : Good (arrowT y z) g
  em : m = textB f
  en : n = textB g
  ho : become g (composeEnv x y f z.args) (1 + z.args.length) = some o
  go : Good (arrowT x z) o
  eo : out = textB o
theorem kind_some {a : Bs} {x : Ty} (h : rdKind a = some x) : specType a = (x, true) ∧ a = textT x := by
  rw [specType_eq] at h
  split at h
  · rename_i hc
    obtain rfl := Option.some.inj h
    exact ⟨by rw [← hc], (specType_canon hc).1⟩
  · simp at h
theorem compose_some {a b c m n out : Bs} (h : specCompose a b c m n = some out) : ∃ x y z f g o, Composed a b c m n out x y z f g o := by
  rw [← compose_eq] at h
  unfold implCompose at h
  simp only [Option.bind_eq_some_iff] at h
  obtain ⟨x, hx, y, hy, z, hz, h⟩ := h
  split at h
  · simp at h
  · rename_i hsz
    simp only [Option.bind_eq_some_iff, Option.map_eq_some_iff] at h
    obtain ⟨f, hf, g, hg, o, ho, rfl⟩ := h
    obtain ⟨ta, ea⟩ := kind_some hx
    obtain ⟨tb, eb⟩ := kind_some hy
    obtain ⟨tc, ec⟩ := kind_some hz
    obtain ⟨gf, em⟩ := rdStrat_good (by omega) hf
    obtain ⟨gg, en⟩ := rdStrat_good (by omega) hg
    refine ⟨x, y, z, f, g, o, ta, tb, tc, ea, eb, ec, gf, gg, em, en, ho, ?_, rfl⟩
    have ff := gf.fit
    have fg := gg.fit
    rw [show (arrowT x y).args = x :: y.args from rfl] at ff
    rw [show (arrowT y z).args = y :: z.args from rfl] at fg
    rw [show 1 + z.args.length = (x :: z.args).length from by simp; omega] at ho
    exact become_good (t := arrowT x z) (by omega) (b := g) (env := composeEnv x y f z.args) (composeEnv_fit ff fg) gg.wf (composeEnv_wf gf.wf) ho
theorem Composed.valid {a b c m n out : Bs} {x y z : Ty} {f g o : Bd} (h : Composed a b c m n out x y z f g o) : specStrat (arrowText a c) out = some o := by
  rw [h.ea, h.ec, arrowText_eq, h.eo]
  exact specStrat_of_good h.go
theorem compose_valid {a b c m n out : Bs} (h : specCompose a b c m n = some out) : ∃ o, specStrat (arrowText a c) out = some o := by
  obtain ⟨x, y, z, f, g, o, k⟩ := compose_some h
  exact ⟨o, k.valid⟩
theorem textB_inj {t : Ty} {b c : Bd} (hb : Good t b) (hc : Good t c) (h : textB b = textB c) : b = c := by
  have h1 := specStrat_of_good hb
  rw [h, specStrat_of_good hc] at h1
  exact (Option.some.inj h1).symm
/-- Composing with a copy changes nothing. -/
theorem compose_copy {a b c m n out same r : Bs} (h0 : specCompose a b c m n = some out) (h1 : specCopy a = some same) (h2 : specCompose a a c same out = some r) : r = out := by
  obtain ⟨x, y, z, f, g, o, k⟩ := compose_some h0
  obtain ⟨t, e1, e2, h15, rfl⟩ := copy_some h1
  obtain ⟨x', y', z', f', g', o', q⟩ := compose_some h2
  obtain rfl : x = t := by have := k.ta; rw [e1] at this; exact (Prod.mk.inj this).1.symm
  obtain rfl : x = x' := by have := k.ta; rw [q.ta] at this; exact (Prod.mk.inj this).1.symm
  obtain rfl : x = y' := by have := k.ta; rw [q.tb] at this; exact (Prod.mk.inj this).1.symm
  obtain rfl : z = z' := by have := k.tc; rw [q.tc] at this; exact (Prod.mk.inj this).1.symm
  obtain rfl : eta x 0 1 = f' := textB_inj (eta_good h15) q.gf q.em
  obtain rfl : o = g' := textB_inj k.go q.gg (k.eo.symm.trans q.en)
  rw [q.eo, k.eo, compose_neutral k.go q.ho]
theorem apply_some {s m n out : Bs} {t : Ty} {b : Bd} (ht : specType s = (t, true)) (hb : Good t b) (hs : s = textT t) (hm : m = textB b) (h : specApplyOf s m n = some out) :
    ∃ a rest c o, t = .mk (a :: rest) ∧ specStrat (textT a) n = some c ∧ Good a c ∧ n = textB c ∧ become b (applyEnv a c rest) rest.length = some o ∧ Good (.mk rest) o ∧ out = textB o := by
  have hst : specStrat s m = some b := by rw [hs, hm]; exact specStrat_of_good hb
  rw [specApplyOf_eq hst, ht] at h
  rw [Option.map_eq_some_iff] at h
  obtain ⟨⟨t', o⟩, h1, rfl⟩ := h
  have hgo := applyOne_good hb h1
  unfold applyOne at h1
  cases t with
  | mk ts =>
    cases ts with
    | nil => simp [Ty.args] at h1
    | cons a rest =>
      simp only [Ty.args, Option.bind_eq_some_iff, Option.map_eq_some_iff, Prod.mk.injEq] at h1
      obtain ⟨c, h2, o', h3, rfl, rfl⟩ := h1
      have ha : atomsT a ≤ 15 := by have := Ty_atoms_cons (t := .mk (a :: rest)) rfl; have := hb.atoms; omega
      obtain ⟨gc, ec⟩ := rdStrat_good ha h2
      rw [rdStrat_text ha] at h2
      exact ⟨a, rest, c, _, rfl, h2, gc, ec, h3, hgo, rfl⟩
/-- Composing applies, by texts. -/
theorem compose_three {a b c m n out l u v r : Bs} (h0 : specCompose a b c m n = some out) (h1 : specApplyOf (arrowText a b) m l = some u) (h2 : specApplyOf (arrowText b c) n u = some v) (h3 : specApplyOf (arrowText a c) out l = some r) : v = r := by
  obtain ⟨x, y, z, f, g, o, k⟩ := compose_some h0
  have exy : arrowText a b = textT (arrowT x y) := by rw [k.ea, k.eb, arrowText_eq]
  have eyz : arrowText b c = textT (arrowT y z) := by rw [k.eb, k.ec, arrowText_eq]
  have exz : arrowText a c = textT (arrowT x z) := by rw [k.ea, k.ec, arrowText_eq]
  obtain ⟨a1, r1, c1, u1, e1, s1, g1, t1, b1, q1, o1⟩ := apply_some (by rw [exy]; exact specType_text k.gf.atoms) k.gf exy k.em h1
  obtain ⟨a2, r2, c2, u2, e2, s2, g2, t2, b2, q2, o2⟩ := apply_some (by rw [eyz]; exact specType_text k.gg.atoms) k.gg eyz k.en h2
  obtain ⟨a3, r3, c3, u3, e3, s3, g3, t3, b3, q3, o3⟩ := apply_some (by rw [exz]; exact specType_text k.go.atoms) k.go exz k.eo h3
  unfold arrowT at e1 e2 e3
  simp only [Ty.mk.injEq, List.cons.injEq] at e1 e2 e3
  obtain ⟨rfl, rfl⟩ := e1
  obtain ⟨rfl, rfl⟩ := e2
  obtain ⟨rfl, rfl⟩ := e3
  obtain rfl : c1 = c3 := by rw [s1] at s3; exact Option.some.inj s3
  have q1' : Good y u1 := by cases y; exact q1
  obtain rfl : u1 = c2 := textB_inj q1' g2 (o1.symm.trans t2)
  rw [o2, o3, compose_applies k.gf k.gg g1 b1 b2 k.ho b3 k.go.atoms]

end Go.Proofs.YtibnnbdpfkgfhaaGreatDoor

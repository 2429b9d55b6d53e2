/- Plain words for FnResult and FnApply: results are those of strategies that are applied; what is applied plays the same. -/
import Derived.Test.YtibnnbdpfkgfhaaGreatDoorP22
import Derived.Test.YtibnnbdpfkgfhaaGreatDoorE9
namespace Go.Proofs.YtibnnbdpfkgfhaaGreatDoor
open Go.RowKit

theorem readMany_all : ∀ (ts : List Ty) (xs : List Bs), readMany ts xs = readAll ts xs
  | [], xs => by simp [readMany, readAll]
  | t :: ts, [] => by simp [readMany, readAll]
  | t :: ts, x :: xs => by
    simp only [readMany, readAll]
    rw [readMany_all ts xs]
    cases rdStrat t x with
    | none => rfl
    | some b => cases readAll ts xs <;> rfl
theorem fit_leaf {b : Bd} (h : fitB [] b) : ∃ c, b = .leaf c := by
  cases b with
  | leaf c => exact ⟨c, rfl⟩
  | ask v ss y no => rw [fitB] at h; obtain ⟨t, ht, _⟩ := h; simp at ht
/-- What a run gives is what the machine that writes gives. -/
theorem run_all_evF {most : Nat} {b : Bd} {ts : List Ty} {bs : List Bd} {c : UInt8} {log : List (Bs × Int)} (h : runAll most b bs = some (c, log)) (hl : bs.length = ts.length) {d n' : Nat} {r : Bd} (hr : evF d b (owns [] ts bs) n' [] = some r) : r = .leaf c := by
  unfold runAll at h
  rw [Option.map_eq_some_iff] at h
  obtain ⟨⟨c', ms⟩, h1, h2⟩ := h
  simp only [Prod.mk.injEq] at h2
  obtain ⟨rfl, _⟩ := h2
  have hc : cms (owns [] ts bs) (ownFrom [] 0 [] 0 bs) := cms_owns (env := []) (cenv := []) (by rw [cms]) 0 [] ts bs 0 hl
  exact run_evF _ _ _ _ _ _ _ _ _ _ _ _ _ _ h1 hc (by rw [gfr]) hr
/-- What it means that a run gives a result. -/
theorem run_some {most : Nat} {s text : Bs} {xs : List Bs} {c : UInt8} {log : List (Bs × Int)} (h : implRun most s text xs = some (c, log)) :
    ∃ t b bs, specType s = (t, true) ∧ s = textT t ∧ Good t b ∧ text = textB b ∧ t.args.length = xs.length ∧ readAll t.args xs = some bs ∧ runAll most b bs = some (c, log) := by
  unfold implRun at h
  simp only [Option.bind_eq_some_iff] at h
  obtain ⟨x, hx, h⟩ := h
  obtain ⟨h1, h2, h3, h4⟩ := rdTS_some hx
  split at h
  · rename_i hl
    simp only [Option.bind_eq_some_iff] at h
    obtain ⟨bs, hb, hr⟩ := h
    exact ⟨x.1, x.2, bs, h1, h2, h3, h4, hl, hb, hr⟩
  · simp at h
/-- Results are those of strategies that are applied. -/
theorem result_all {most : Nat} {s text x : Bs} {xs : List Bs} {c : UInt8} {log : List (Bs × Int)} (h : implRun most s text xs = some (c, log)) (hx : implAll s text xs = some x) : x = [c] := by
  obtain ⟨t, b, bs, h1, h2, h3, h4, h5, h6, h7⟩ := run_some h
  obtain ⟨t0, b0, t', o, k1, k2, k3, k4, k5, k6, k7, k8, k9⟩ := all_some hx
  obtain rfl : t = t0 := by rw [h1] at k1; exact (Prod.mk.inj k1).1
  obtain rfl : b = b0 := textB_inj h3 k3 (h4.symm.trans k4)
  have ht' : t'.args = [] := by rw [k9, ← h5]; simp
  obtain ⟨bs', q0, q1, q2, q3⟩ := applyMany_sim xs h3 k5
  rw [← h5, List.take_length, readMany_all, h6] at q2
  obtain rfl := Option.some.inj q2
  have hfo := k6.fit
  rw [ht'] at hfo
  obtain ⟨c', rfl⟩ := fit_leaf hfo
  have hlb := readAll_length _ _ _ h5 h6
  have hev : evF 1 (.leaf c') [] 0 [] = some (.leaf c') := by
    by_cases hc : c' = 117
    · subst hc; exact evF_u
    · exact evF_end
  obtain ⟨d2, hd2⟩ := q3 [] 1 0 _ (by rw [ht']; rfl) hev
  rw [← h5, List.take_length, List.append_nil] at hd2
  have := run_all_evF h7 (by omega) hd2
  rw [k7, this]
  rfl

/-- Strategies that say nothing. -/
def us (n : Nat) : List Bs := List.replicate n [117]
theorem readAll_us : ∀ (ts : List Ty), (∀ a ∈ ts, atomsT a ≤ 15) → readAll ts (us ts.length) = some (List.replicate ts.length (.leaf 117))
  | [], _ => by simp [readAll, us]
  | t :: ts, h => by
    have h1 : rdStrat t [117] = some (.leaf 117) := by
      rw [rdStrat_text (h t (by simp))]
      have := specStrat_of_good (good_leaf (t := t) (h t (by simp)) (c := 117) (.inr (.inr rfl)))
      simpa [textB] using this
    have h2 := readAll_us ts fun a ha => h a (by simp [ha])
    unfold us at *
    rw [List.length_cons, List.replicate_succ, readAll, h1, h2]
    rfl
/-- What a body gives where nothing is answered. -/
def usOf : Bd → UInt8
  | .leaf c => c
  | .ask _ _ _ _ => 117
theorem run_us {t : Ty} {b : Bd} (hf : fitB t.args b) : ∃ log, runAll 5000 b (List.replicate t.args.length (.leaf 117)) = some (usOf b, log) := by
  unfold runAll
  cases b with
  | leaf c =>
    by_cases hc : c = 117
    · subst hc; rw [runM_u]; exact ⟨_, rfl⟩
    · rw [runM_end hc]; exact ⟨_, rfl⟩
  | ask v ss y no =>
    rw [fitB] at hf
    obtain ⟨a, ha, _⟩ := hf
    have hlt := (List.getElem?_eq_some_iff.1 ha).1
    have key : ∀ (n i k : Nat), k < n → (ownFrom [] 0 [] i (List.replicate n (.leaf 117)))[k]? = some (.mk (.leaf 117) [] 0 ([] ++ dec (i + k))) := by
      intro n
      induction n with
      | zero => intro i k h; omega
      | succ n ih =>
        intro i k h
        rw [List.replicate_succ, ownFrom]
        cases k with
        | zero => rfl
        | succ k => rw [List.getElem?_cons_succ, ih (i + 1) k (by omega), show i + 1 + k = i + (k + 1) from by omega]
    have he := key t.args.length 0 v hlt
    rw [runM_ask _ _ _ _ _ _ _ _ _ _ he]
    simp only [Clo.body]
    rw [runM_u]
    exact ⟨_, rfl⟩
theorem owns_us_at {ts : List Ty} {k : Nat} {t : Ty} (h : ts[k]? = some t) : (owns [] ts (List.replicate ts.length (.leaf 117)))[k]? = some (.bd t (.leaf 117) []) := by
  have := (List.getElem?_eq_some_iff.1 h).1
  exact owns_at ts _ k t (.leaf 117) h (by rw [List.getElem?_replicate, if_pos this])
theorem evF_us {t : Ty} {b : Bd} (hf : fitB t.args b) (n' : Nat) : evF 2 b (owns [] t.args (List.replicate t.args.length (.leaf 117))) n' [] = some (.leaf (usOf b)) := by
  cases b with
  | leaf c =>
    by_cases hc : c = 117
    · subst hc; exact evF_u
    · exact evF_end
  | ask v ss y no =>
    rw [fitB] at hf
    obtain ⟨a, ha, h1, _⟩ := hf
    have hlen := fitBs_length _ _ h1
    rw [hands_length] at hlen
    rw [evF_bd (owns_us_at ha) hlen.symm, evF_u]
    rfl
/-- What is applied is a strategy that plays the same. -/
theorem apply_plays {s m n out : Bs} (h : specApplyOf s m n = some out) :
    ∃ t c log, specType s = (t, true) ∧ s = textT t ∧ atomsT t ≤ 15 ∧ 1 ≤ t.args.length ∧ (∃ o, specStrat (textT (.mk (t.args.drop 1))) out = some o) ∧ implRun 5000 (textT (.mk (t.args.drop 1))) out (us (t.args.length - 1)) = some (c, log) ∧
      ∀ (c' : UInt8) (log' : List (Bs × Int)), implRun 5000 s m (n :: us (t.args.length - 1)) = some (c', log') → c = c' := by
  cases hq : specStrat s m with
  | none => rw [specApplyOf_none hq] at h; simp at h
  | some b =>
    obtain ⟨hg, hmt⟩ := specStrat_good hq
    obtain ⟨htt, _, _⟩ := specStrat_some hq
    obtain ⟨hst, _⟩ := specType_canon htt
    have hpair : specType s = ((specType s).1, true) := by rw [← htt]
    rw [specApplyOf_eq hq, Option.map_eq_some_iff] at h
    obtain ⟨⟨t', o⟩, h1, h2⟩ := h
    generalize hT : (specType s).1 = t at *
    have hgo := applyOne_good hg h1
    obtain ⟨a, nb, ha, hn, hsim⟩ := applyOne_sim hg h1
    have h15' : ∀ x ∈ t'.args, atomsT x ≤ 15 := (args_atoms hgo.atoms).1
    have hrest : Ty.mk (t.args.drop 1) = t' := by rw [ha]; simp only [List.drop_one, List.tail_cons]; exact type_eta t'
    have hlx : t.args.length - 1 = t'.args.length := by rw [ha]; simp
    refine ⟨t, usOf o, ?_⟩
    rw [hrest, hlx]
    have hrun : ∃ log, implRun 5000 (textT t') out (us t'.args.length) = some (usOf o, log) := by
      obtain ⟨log, hl⟩ := run_us hgo.fit
      refine ⟨log, ?_⟩
      unfold implRun
      rw [rdTS_eq, ← h2, specStrat_of_good hgo, specType_text hgo.atoms]
      simp only [Option.map_some, Option.bind_some]
      rw [if_pos (by unfold us; simp), readAll_us _ h15']
      exact hl
    obtain ⟨log, hlog⟩ := hrun
    refine ⟨log, hpair, hst, hg.atoms, by rw [ha]; simp, ⟨o, by rw [← h2]; exact specStrat_of_good hgo⟩, hlog, fun c' log' hr => ?_⟩
    obtain ⟨t2, b2, bs, k1, k2, k3, k4, k5, k6, k7⟩ := run_some hr
    obtain rfl : t = t2 := by rw [hpair] at k1; exact (Prod.mk.inj k1).1
    obtain rfl : b = b2 := textB_inj hg k3 (hmt.symm.trans k4)
    rw [ha, readAll, hn, readAll_us _ h15'] at k6
    simp only [Option.bind_some, Option.map_some, Option.some.injEq] at k6
    subst k6
    have he := evF_us hgo.fit 0
    obtain ⟨d2, hd2⟩ := hsim _ 2 0 _ (owns_tys _ _ (by simp)) he
    have hd3 : evF d2 b (owns [] t.args (nb :: List.replicate t'.args.length (.leaf 117))) 0 [] = some (.leaf (usOf o)) := by rw [ha, owns]; exact hd2
    have := run_all_evF k7 (by rw [ha]; simp) hd3
    exact Bd.leaf.inj this

end Go.Proofs.YtibnnbdpfkgfhaaGreatDoor

import Derived.Test.YtibnnbdpfkgfhaaGreatDoorB5

/- Plain words on the writer's machine. -/
namespace Go.Proofs.YtibnnbdpfkgfhaaGreatDoor
open Go.RowKit

theorem evN_left (d k l : Nat) (b : Bd) (env : List Mn) (n : Nat) (st : List Gf) (r : Bd) (k' l' : Nat) (h : evN d k l b env n st = some (r, k', l')) : k' ≤ k ∧ l' ≤ l := by
  rw [evN_eq] at h
  cases hq : Go.Proofs.YtibnnbdpfkgfhaaGreatDoor.ev d l b env n st with
  | none => rw [hq] at h; simp [capN] at h
  | some x =>
    obtain ⟨o, l1⟩ := x
    rw [hq] at h
    simp only [capN] at h
    split at h
    · simp at h
      obtain ⟨_, rfl, rfl⟩ := h
      exact ⟨Nat.sub_le _ _, ev_left _ _ _ _ _ _ _ _ hq⟩
    · simp at h
theorem evSubsN_left {d : Nat} {env : List Mn} {n : Nat} : ∀ (ts : List Ty) (ss : List Bd) (k l : Nat) (xs : List Bd) (k' l' : Nat), evSubsN (evN d) env n k l ts ss = some (xs, k', l') → k' ≤ k ∧ l' ≤ l
  | [], ss, k, l, xs, k', l', h => by simp [evSubsN] at h; omega
  | t :: ts, [], k, l, xs, k', l', h => by simp [evSubsN] at h; omega
  | t :: ts, s :: ss, k, l, xs, k', l', h => by
    simp only [evSubsN, Option.bind_eq_bind, Option.bind_eq_some_iff, Prod.exists] at h
    obtain ⟨x, k1, l1, h1, ys, k2, l2, h2, h3⟩ := h
    simp at h3
    have q1 := evN_left _ _ _ _ _ _ _ _ _ _ h1
    have q2 := evSubsN_left ts ss _ _ _ _ _ h2
    omega
theorem evSubsN_snoc (f : Nat → Nat → Bd → List Mn → Nat → List Gf → Option (Bd × Nat × Nat)) (env : List Mn) (n : Nat) (t : Ty) (s : Bd) : ∀ (ts : List Ty) (ss : List Bd) (k l : Nat), ts.length = ss.length →
    evSubsN f env n k l (ts ++ [t]) (ss ++ [s]) = (evSubsN f env n k l ts ss).bind fun x => (f x.2.1 x.2.2 s (env ++ opens n t.args) (n + t.args.length) []).bind fun y => some (x.1 ++ [y.1], y.2.1, y.2.2)
  | [], [], k, l, _ => by
    simp only [List.nil_append, evSubsN, Option.bind_eq_bind, Option.bind_some]
  | [], s' :: ss, k, l, h => by simp at h
  | t' :: ts, [], k, l, h => by simp at h
  | t' :: ts, s' :: ss, k, l, h => by
    simp only [List.cons_append, evSubsN, Option.bind_eq_bind]
    cases h1 : f k l s' (env ++ opens n t'.args) (n + t'.args.length) [] with
    | none => rfl
    | some x =>
      simp only [Option.bind_some]
      rw [evSubsN_snoc f env n t s ts ss x.2.1 x.2.2 (by simpa using h)]
      cases h2 : evSubsN f env n x.2.1 x.2.2 ts ss with
      | none => rfl
      | some y =>
        simp only [Option.bind_some]
        cases h3 : f y.2.1 y.2.2 s (env ++ opens n t.args) (n + t.args.length) [] with
        | none => rfl
        | some z => rfl
theorem evSubsN_take {f : Nat → Nat → Bd → List Mn → Nat → List Gf → Option (Bd × Nat × Nat)} {env : List Mn} {n k l j : Nat} {ts : List Ty} {ss : List Bd} {t : Ty} {s : Bd} (ht : ts[j]? = some t) (hs : ss[j]? = some s) :
    evSubsN f env n k l (ts.take (j + 1)) (ss.take (j + 1)) = (evSubsN f env n k l (ts.take j) (ss.take j)).bind fun x => (f x.2.1 x.2.2 s (env ++ opens n t.args) (n + t.args.length) []).bind fun y => some (x.1 ++ [y.1], y.2.1, y.2.2) := by
  have h1 := (List.getElem?_eq_some_iff.1 ht).1
  have h2 := (List.getElem?_eq_some_iff.1 hs).1
  rw [List.take_add_one, List.take_add_one, ht, hs]
  exact evSubsN_snoc f env n t s _ _ k l (by rw [List.length_take, List.length_take]; omega)
theorem evSubsN_none {f : Nat → Nat → Bd → List Mn → Nat → List Gf → Option (Bd × Nat × Nat)} {env : List Mn} {n : Nat} : ∀ (j : Nat) (ts : List Ty) (ss : List Bd) (k l : Nat), evSubsN f env n k l (ts.take j) (ss.take j) = none → evSubsN f env n k l ts ss = none
  | 0, ts, ss, k, l, h => by simp [evSubsN] at h
  | j + 1, [], ss, k, l, h => by simp [evSubsN] at h
  | j + 1, t :: ts, [], k, l, h => by simp [evSubsN] at h
  | j + 1, t :: ts, s :: ss, k, l, h => by
    simp only [List.take_succ_cons, evSubsN, Option.bind_eq_bind] at h ⊢
    cases h1 : f k l s (env ++ opens n t.args) (n + t.args.length) [] with
    | none => rfl
    | some x =>
      rw [h1] at h
      simp only [Option.bind_some] at h ⊢
      cases h2 : evSubsN f env n x.2.1 x.2.2 (ts.take j) (ss.take j) with
      | none => rw [evSubsN_none j ts ss x.2.1 x.2.2 h2]; rfl
      | some y => rw [h2] at h; simp at h

/-- What the writer makes of a question of a level that is left open. -/
def keptN (d k l n o : Nat) (t : Ty) (ss : List Bd) (y no : Bd) (env : List Mn) (st : List Gf) : Option (Bd × Nat × Nat) :=
  (evSubsN (evN d) env n k l t.args ss).bind fun x => (evN d x.2.1 x.2.2 y env n st).bind fun z => (evN d z.2.1 z.2.2 no env n st).bind fun u => some (.ask o x.1 z.1 u.1, u.2.1, u.2.2)
theorem evN_op {d k l v n o : Nat} {ss : List Bd} {y no : Bd} {t : Ty} {env : List Mn} {st : List Gf} (h : env[v]? = some (.op o t)) :
    evN (d + 1) (k + 1) (l + 1) (.ask v ss y no) env n st = keptN d k l n o t ss y no env st := by rw [evN.eq_def]; simp only [h]; rfl
theorem evN_bd {d k l v n : Nat} {ss : List Bd} {y no b' : Bd} {t : Ty} {env e : List Mn} {st : List Gf} (h : env[v]? = some (.bd t b' e)) :
    evN (d + 1) (k + 1) (l + 1) (.ask v ss y no) env n st = evN d (k + 1) l b' (e ++ owns env t.args ss) n (⟨y, no, env⟩ :: st) := by rw [evN.eq_def]; simp only [h]
theorem evN_u {d k l n : Nat} {env : List Mn} {st : List Gf} : evN (d + 1) (k + 1) (l + 1) (.leaf 117) env n st = some (.leaf 117, k, l) := by rw [evN.eq_def]; simp
theorem evN_end {d k l n : Nat} {c : UInt8} {env : List Mn} : evN (d + 1) (k + 1) (l + 1) (.leaf c) env n [] = some (.leaf c, k, l) := by rw [evN.eq_def]; simp
theorem evN_back {d k l n : Nat} {c : UInt8} (h : c ≠ 117) {env : List Mn} {f : Gf} {st : List Gf} : evN (d + 1) (k + 1) (l + 1) (.leaf c) env n (f :: st) = evN d (k + 1) l (if c = 116 then f.yes else f.no) f.env n st := by rw [evN.eq_def]; simp only [if_neg h]
theorem evN_zl {d k n : Nat} {b : Bd} {env : List Mn} {st : List Gf} : evN d k 0 b env n st = none := by cases d <;> rw [evN.eq_def]
theorem evN_zk {d l n : Nat} {b : Bd} {env : List Mn} {st : List Gf} : evN d 0 l b env n st = none := by
  cases d with
  | zero => rw [evN.eq_def]
  | succ d => cases l <;> rw [evN.eq_def]

end Go.Proofs.YtibnnbdpfkgfhaaGreatDoor

/- What stands for a level for the reference, found in memory. -/
namespace Go.Proofs.YtibnnbdpfkgfhaaGreatDoor
open Go.RowKit

theorem bound_at {F : Nat → Prop} {w : World} {env : List Mn} {ev : Value} (h : Rep F w (.sl 60 9 env.length (encWs env)) ev) {v : Nat} {m : Mn} (hc : env[v]? = some m) :
    ∃ b o cap us, ev = .slice (some ⟨b, o, none⟩) env.length cap ∧ F b ∧ b < w.heap.size ∧ (∀ (j : Nat) (u : Value), us[j]? = some u → w.cell? ⟨b, o + v * 9 + j, none⟩ = some u) ∧ Reps F w (encW m) us := by
  have hv := (List.getElem?_eq_some_iff.1 hc).1
  rw [Rep_sl] at h
  obtain ⟨hl, a, cap, rfl, hn, hz, h⟩ := h
  rcases h with h0 | ⟨b, o, cs, fr, rfl, hb, hcs, hr⟩
  · omega
  have hsplit : encWs env = encWs (env.take v) ++ (encW m ++ encWs (env.drop (v + 1))) := by
    have e : env = env.take v ++ m :: env.drop (v + 1) := by
      have : env[v] = m := (List.getElem?_eq_some_iff.1 hc).2
      rw [← this, List.getElem_cons_drop, List.take_append_drop]
    conv => lhs; rw [e]
    rw [encWs_append, encWs]
  rw [hsplit] at hr
  have h2 := hr.split.2
  rw [encWs_length, List.length_take, Nat.min_eq_left (by omega)] at h2
  have h3 := h2.split.1
  rw [encW_length] at h3
  refine ⟨b, o, cap, _, rfl, hb, lt_of_heap hcs, fun j u h => ?_, h3⟩
  rw [List.getElem?_take] at h
  split at h
  · rename_i hj
    rw [List.getElem?_drop, List.getElem?_take, if_pos (by omega), List.getElem?_drop] at h
    simp only [World.cell?, hcs]
    simpa [Nat.add_assoc] using h
  · simp at h

/-- A level that is left open, found. -/
theorem bound_op {F : Nat → Prop} {w : World} {env : List Mn} {ev : Value} (h : Rep F w (.sl 60 9 env.length (encWs env)) ev) {v o : Nat} {t : Ty} (hc : env[v]? = some (.op o t)) :
    ∃ b p cap ta tc i, ev = .slice (some ⟨b, p, none⟩) env.length cap ∧ F b ∧ b < w.heap.size ∧ w.cell? ⟨b, p + v * 9, none⟩ = some (.int .i64 (o : Nat)) ∧ w.cell? ⟨b, p + v * 9 + 1, none⟩ = some (str []) ∧ w.cell? ⟨b, p + v * 9 + 2, none⟩ = some (.int .i64 0) ∧
      w.cell? ⟨b, p + v * 9 + 3, none⟩ = some (.slice none 0 0) ∧ w.cell? ⟨b, p + v * 9 + 4, none⟩ = some (.slice none 0 0) ∧ w.cell? ⟨b, p + v * 9 + 5, none⟩ = some (.slice ta t.args.length tc) ∧ w.cell? ⟨b, p + v * 9 + 6, none⟩ = some (.slice none 0 0) ∧
      w.cell? ⟨b, p + v * 9 + 7, none⟩ = some (.int .i64 0) ∧ w.cell? ⟨b, p + v * 9 + 8, none⟩ = some (.int .i64 i) ∧ Rep F w (encS t) (.slice ta t.args.length tc) := by
  obtain ⟨b, p, cap, us, rfl, hb, hw, get, hr⟩ := bound_at h hc
  simp only [encW, Reps_cons, Reps_nil, Rep_val, Rep_any] at hr
  obtain ⟨_, _, rfl, rfl, _, _, rfl, rfl, _, _, rfl, rfl, _, _, rfl, rfl, _, _, rfl, rfl, x1, _, rfl, q1, _, _, rfl, rfl, _, _, rfl, rfl, x3, _, rfl, ⟨i3, rfl⟩, rfl⟩ := hr
  obtain ⟨sa, sc, rfl⟩ := encS_slice q1
  exact ⟨b, p, cap, sa, sc, i3, rfl, hb, hw, get 0 _ rfl, get 1 _ rfl, get 2 _ rfl, get 3 _ rfl, get 4 _ rfl, get 5 _ rfl, get 6 _ rfl, get 7 _ rfl, get 8 _ rfl, q1⟩

/-- A level that stands for a body, found. -/
theorem bound_bd {F : Nat → Prop} {w : World} {env : List Mn} {ev : Value} (h : Rep F w (.sl 60 9 env.length (encWs env)) ev) {v : Nat} {t : Ty} {b' : Bd} {e' : List Mn} (hc : env[v]? = some (.bd t b' e')) :
    ∃ b p cap ta tc s v1 a1 m1 c1 a2 m2 c2 ha hcap i, ev = .slice (some ⟨b, p, none⟩) env.length cap ∧ F b ∧ b < w.heap.size ∧ w.cell? ⟨b, p + v * 9, none⟩ = some (.int .i64 (-1)) ∧ w.cell? ⟨b, p + v * 9 + 1, none⟩ = some (str s) ∧ w.cell? ⟨b, p + v * 9 + 2, none⟩ = some (.int .i64 v1) ∧
      w.cell? ⟨b, p + v * 9 + 3, none⟩ = some (.slice a1 m1 c1) ∧ w.cell? ⟨b, p + v * 9 + 4, none⟩ = some (.slice a2 m2 c2) ∧ w.cell? ⟨b, p + v * 9 + 5, none⟩ = some (.slice ta t.args.length tc) ∧ w.cell? ⟨b, p + v * 9 + 6, none⟩ = some (.slice ha e'.length hcap) ∧
      w.cell? ⟨b, p + v * 9 + 7, none⟩ = some (.int .i64 0) ∧ w.cell? ⟨b, p + v * 9 + 8, none⟩ = some (.int .i64 i) ∧ Rep F w (encS t) (.slice ta t.args.length tc) ∧ Reps F w (encN b') [str s, .int .i64 v1, .slice a1 m1 c1, .slice a2 m2 c2] ∧ Rep F w (.sl 60 9 e'.length (encWs e')) (.slice ha e'.length hcap) := by
  obtain ⟨b, p, cap, us, rfl, hb, hw, get, hr⟩ := bound_at h hc
  rw [encW] at hr
  obtain ⟨x0, us1, rfl, h0, h1⟩ := Reps_cons.1 (show Reps F w (.val (.int .i64 (-1)) :: (encN b' ++ [encS t, .sl 60 9 e'.length (encWs e'), .val (.int .i64 (0 : Nat)), .any])) us from hr)
  rw [Rep_val] at h0
  subst h0
  obtain ⟨h2, h3⟩ := h1.split
  rw [encN_length] at h2 h3
  obtain ⟨v1, m2, c2, m3, c3, e4, _, _⟩ := encN_open h2
  simp only [Reps_cons, Reps_nil, Rep_val, Rep_any] at h3
  obtain ⟨y1, _, e5, q1, y2, _, rfl, q2, _, _, rfl, rfl, y4, _, rfl, ⟨i4, rfl⟩, rfl⟩ := h3
  obtain ⟨sa, sc, rfl⟩ := encS_slice q1
  obtain ⟨_, ha, hcap, rfl, _⟩ := Rep_sl.1 q2
  rw [e4] at h2
  have eu : us1 = [str (atomOf b'), .int .i64 v1, .slice m2 (kidsOf b').length c2, .slice m3 (yesOf b').length c3] ++ [.slice sa t.args.length sc, .slice ha e'.length hcap, .int .i64 (0 : Nat), .int .i64 i4] := by
    rw [← List.take_append_drop 4 us1, e4, e5]
  subst eu
  exact ⟨b, p, cap, sa, sc, _, _, _, _, _, _, _, _, _, _, i4, rfl, hb, hw, get 0 _ rfl, get 1 _ rfl, get 2 _ rfl, get 3 _ rfl, get 4 _ rfl, get 5 _ rfl, get 6 _ rfl, get 7 _ rfl, get 8 _ rfl, q1, h2, q2⟩

/-- What the writer's functions do at their end: the result is stored into its box. -/
theorem write_ret {F : Nat → Prop} {ww : Nat} {D : Int} {o : Option (Bd × Nat × Nat)} {w W : World} {s : Bs} {v : Int} {a1 a2 : Option Addr} {n1 c1 n2 c2 : Nat}
    (hb : But (· = ww) w W) (hww : ww < w.heap.size) (hr : NewN (w.heap.size + 1) 0 (.slice none 0 0) (.slice none 0 0) W)
    (hn : o = none → ∃ st, Wri W ww (-1) st ∧ 0 ≤ st ∧ st ≤ D)
    (hy : ∀ x, o = some x → Wri W ww (x.2.1 : Nat) (20000 - (x.2.2 : Nat)) ∧ Reps (fun i => (F i ∧ i < w.heap.size) ∨ w.heap.size + 2 ≤ i) W (encN x.1) [str s, .int .i64 v, .slice a1 n1 c1, .slice a2 n2 c2]) :
    ∃ W4, W4 = ((((W.setCell ⟨w.heap.size + 1, 0, none⟩ (str s)).setCell ⟨w.heap.size + 1, 1, none⟩ (.int .i64 v)).setCell ⟨w.heap.size + 1, 2, none⟩ (.slice a1 n1 c1)).setCell ⟨w.heap.size + 1, 3, none⟩ (.slice a2 n2 c2)) ∧
      W4.cell? ⟨w.heap.size + 1, 0, none⟩ = some (str s) ∧ W4.cell? ⟨w.heap.size + 1, 1, none⟩ = some (.int .i64 v) ∧ W4.cell? ⟨w.heap.size + 1, 2, none⟩ = some (.slice a1 n1 c1) ∧ W4.cell? ⟨w.heap.size + 1, 3, none⟩ = some (.slice a2 n2 c2) ∧
      WritePost F ww D o w (.returned (.agg #[str s, .int .i64 v, .slice a1 n1 c1, .slice a2 n2 c2])) W4 := by
  obtain ⟨W4, hW4, s0', s1', s2', s3', _, hk⟩ := hr.store (str s) (.int .i64 v) (.slice a1 n1 c1) (.slice a2 n2 c2)
  have hle : w.heap.size ≤ w.heap.size + 1 := by omega
  refine ⟨W4, hW4, s0', s1', s2', s3', s, v, a1, n1, c1, a2, n2, c2, rfl, ?_, fun ho => ?_, fun x hx => ?_⟩
  · rw [hW4]
    exact (((hb.setCell (p := ⟨w.heap.size + 1, 0, none⟩) (.inr hle) _).setCell (p := ⟨w.heap.size + 1, 1, none⟩) (.inr hle) _).setCell (p := ⟨w.heap.size + 1, 2, none⟩) (.inr hle) _).setCell (p := ⟨w.heap.size + 1, 3, none⟩) (.inr hle) _
  · obtain ⟨st, h1, h2⟩ := hn ho
    exact ⟨st, hk ww _ (by omega) h1, h2⟩
  · obtain ⟨h1, h2⟩ := hy x hx
    refine ⟨hk ww _ (by omega) h1, (Rep.keep fun b ob hf hh => ?_).2 _ _ h2⟩
    rcases hf with h | h
    · exact ⟨.inl h.1, hk b _ (by have := h.2; omega) hh⟩
    · exact ⟨.inr (by omega), hk b _ (by omega) hh⟩

/-- The top of the stack, found. -/
theorem top_rep {F : Nat → Prop} {w : World} {f : Fr} {st : List Fr} {sv : Value} (h : Rep F w (.sl 112 6 (st.length + 1) (encFs (f :: st))) sv) :
    ∃ b o cap ba1 bc1 ba2 bc2 ea ec, sv = .slice (some ⟨b, o, none⟩) (st.length + 1) cap ∧ F b ∧ b < w.heap.size ∧ st.length + 1 ≤ cap ∧ w.cell? ⟨b, o + st.length * 6, none⟩ = some (str []) ∧ w.cell? ⟨b, o + st.length * 6 + 1, none⟩ = some (.int .i64 (f.v : Nat)) ∧
      w.cell? ⟨b, o + st.length * 6 + 2, none⟩ = some (.slice ba1 f.ss.length bc1) ∧ w.cell? ⟨b, o + st.length * 6 + 3, none⟩ = some (.slice ba2 2 bc2) ∧ w.cell? ⟨b, o + st.length * 6 + 4, none⟩ = some (.slice ea f.env.length ec) ∧ w.cell? ⟨b, o + st.length * 6 + 5, none⟩ = some (.int .i64 0) ∧
      Rep F w (.sl 51 4 2 (encNs [f.yes, f.no])) (.slice ba2 2 bc2) ∧ Rep F w (.sl 60 9 f.env.length (encWs f.env)) (.slice ea f.env.length ec) ∧
      Rep F w (.sl 112 6 st.length (encFs st)) (.slice (some ⟨b, o, none⟩) st.length cap) := by
  rw [Rep_sl] at h
  obtain ⟨hl, a, cap, rfl, hn, hz, h⟩ := h
  rcases h with h0 | ⟨b, o, cs, fr, rfl, hb, hcs, hr⟩
  · omega
  rw [encFs] at hr
  obtain ⟨h1, h2⟩ := hr.split
  rw [encFs_length] at h1 h2
  rw [List.take_take, Nat.min_eq_left (by omega)] at h1
  have get : ∀ (j : Nat) (u : Value), (List.drop (st.length * 6) (List.take ((st.length + 1) * 6) (List.drop o cs.toList)))[j]? = some u → w.cell? ⟨b, o + st.length * 6 + j, none⟩ = some u := by
    intro j u hu
    rw [List.getElem?_drop, List.getElem?_take] at hu
    split at hu
    · rw [List.getElem?_drop] at hu
      simp only [World.cell?, hcs]
      simpa [Nat.add_assoc] using hu
    · simp at hu
  generalize List.drop (st.length * 6) (List.take ((st.length + 1) * 6) (List.drop o cs.toList)) = us at h2 get
  rw [encF, encN_ask] at h2
  simp only [List.cons_append, List.nil_append, Reps_cons, Reps_nil, Rep_val] at h2
  obtain ⟨_, _, rfl, rfl, _, _, rfl, rfl, x2, _, rfl, q2, x3, _, rfl, q3, x4, _, rfl, q4, _, _, rfl, rfl, rfl⟩ := h2
  obtain ⟨_, ba1, bc1, e1, _⟩ := Rep_sl.1 q2
  obtain ⟨_, ba2, bc2, e2, _⟩ := Rep_sl.1 q3
  obtain ⟨_, ea, ec, e3, _⟩ := Rep_sl.1 q4
  subst e1; subst e2; subst e3
  exact ⟨b, o, cap, ba1, bc1, ba2, bc2, ea, ec, rfl, hb, lt_of_heap hcs, hn, get 0 _ rfl, get 1 _ rfl, get 2 _ rfl, get 3 _ rfl, get 4 _ rfl, get 5 _ rfl, q3, q4, Rep_sl.2 ⟨encFs_length st, _, cap, rfl, by omega, fun h => by simp at h, .inr ⟨b, o, cs, fr, rfl, hb, hcs, h1⟩⟩⟩

end Go.Proofs.YtibnnbdpfkgfhaaGreatDoor

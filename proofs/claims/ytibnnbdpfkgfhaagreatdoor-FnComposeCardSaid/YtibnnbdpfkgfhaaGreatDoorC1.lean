/- The walk of impl's ComposeOf. -/
import Derived.Test.YtibnnbdpfkgfhaaGreatDoorA16
import Derived.Test.YtibnnbdpfkgfhaaGreatDoorT3
import Derived.Deep.DeepCutAuto
import Derived.Test.YtibnnbdpfkgfhaaGreatDoorP17
namespace Go.Proofs.YtibnnbdpfkgfhaaGreatDoor
open Go.RowKit

theorem rdKind_15 {l : Bs} {t : Ty} (h : rdKind l = some t) : atomsT t ≤ 15 := by
  unfold rdKind at h
  split at h
  · split at h
    · simp only [Option.some.injEq] at h; subst h; assumption
    · simp at h
  · simp at h
set_option maxRecDepth 100000 in
set_option maxHeartbeats 8000000 in
theorem implCompose_any (a b c m n : Bs) (w : World) (hg : Glob w) (he : GlobE w) (ha : Lim a.length) (hb : Lim b.length) (hc : Lim c.length) (hm : Lim m.length) (hn : Lim n.length) :
    Calls Tryz.prog 11 #[str a, str b, str c, str m, str n] w (TextPost w (implCompose a b c m n)) := by
  have C1 := Lib.hid (readKind_any a w ha)
  have C2 := Lib.hid (fun w1 => readKind_any b w1 hb)
  have C3 := Lib.hid (fun w1 => readKind_any c w1 hc)
  have HSP : Hid (implCompose a b c m n = (rdKind a).bind fun x => (rdKind b).bind fun y => (rdKind c).bind fun z =>
    if 15 < atomsT (arrowT x y) ∨ 15 < atomsT (arrowT y z) ∨ 15 < atomsT (arrowT x z) then none else
    (rdStrat (arrowT x y) m).bind fun f => (rdStrat (arrowT y z) n).bind fun g => (become g (composeEnv x y f z.args) (1 + z.args.length)).map textB) := rfl
  generalize implCompose a b c m n = R at *
  have HG := Lib.hid (And.intro hg he)
  clear hg he ha hb hc
  go_enter Tryz.func11, Tryz.ntmps11
  go_wp2_with fail
  (with_reducible refine C1.out.mono ?_)
  rintro en w1 ⟨v1, rfl, hb1, hn1, hy1⟩
  have H1 := Lib.hid (And.intro hb1 (And.intro hn1 hy1)); clear hb1 hn1 hy1
  go_wp2_with fail
  (with_reducible refine (C2.out w1).mono ?_)
  rintro en w2 ⟨v2, rfl, hb2, hn2, hy2⟩
  have H2 := Lib.hid (And.intro hb2 (And.intro hn2 hy2)); clear hb2 hn2 hy2
  go_wp2_with fail
  (with_reducible refine (C3.out w2).mono ?_)
  rintro en w3 ⟨v3, rfl, hb3, hn3, hy3⟩
  have hbw2 : Below w.heap.size w w2 := H1.out.1.trans (H2.out.1.mono H1.out.1.size)
  have hbw3 : Below w.heap.size w w3 := hbw2.trans (hb3.mono hbw2.size)
  have HB3 := Lib.hid hbw3
  have hk1 : ∀ x, rdKind a = some x → Rep (w.heap.size ≤ ·) w3 (encK x) v1 := fun x hx => Rep.below ((H2.out.1.trans (hb3.mono H2.out.1.size))) (fun _ h => h) (H1.out.2.2 x hx)
  have hk2 : ∀ x, rdKind b = some x → Rep (w.heap.size ≤ ·) w3 (encK x) v2 := fun x hx => (Rep.below hb3 (fun _ h => h) (H2.out.2.2 x hx)).weak fun i (h : w1.heap.size ≤ i) => Nat.le_trans H1.out.1.size h
  have hk3 : ∀ x, rdKind c = some x → Rep (w.heap.size ≤ ·) w3 (encK x) v3 := fun x hx => (hy3 x hx).weak fun i (h : w2.heap.size ≤ i) => Nat.le_trans hbw2.size h
  have HN3 := Lib.hid hn3
  have HK := Lib.hid (And.intro hk1 (And.intro hk2 hk3))
  clear hb3 hn3 hy3 hbw2 hbw3 hk1 hk2 hk3 C1 C2 C3
  cases hqa : rdKind a with
  | none =>
    obtain rfl := H1.out.2.1 hqa
    have hR : R = none := by rw [HSP.out, hqa]; rfl
    have HR := Lib.hid hR; clear hR hqa
    go_wp2_with fail
    go_ret2
    rw [HR.out]
    exact ⟨rfl, HB3.out⟩
  | some x =>
  have hx := HK.out.1 x hqa
  obtain ⟨xb, rfl⟩ := encK_ptr' hx
  cases hqb : rdKind b with
  | none =>
    obtain rfl := H2.out.2.1 hqb
    have hR : R = none := by rw [HSP.out, hqa, hqb]; rfl
    have HR := Lib.hid hR; clear hR hqa hqb hx
    go_wp2_with fail
    go_ret2
    rw [HR.out]
    exact ⟨rfl, HB3.out⟩
  | some y =>
  have hy := HK.out.2.1 y hqb
  obtain ⟨yb, rfl⟩ := encK_ptr' hy
  cases hqc : rdKind c with
  | none =>
    obtain rfl := HN3.out hqc
    have hR : R = none := by rw [HSP.out, hqa, hqb, hqc]; rfl
    have HR := Lib.hid hR; clear hR hqa hqb hqc hx hy
    go_wp2_with fail
    go_ret2
    rw [HR.out]
    exact ⟨rfl, HB3.out⟩
  | some z =>
  have hz := HK.out.2.2 z hqc
  obtain ⟨zb, rfl⟩ := encK_ptr' hz
  have h15x := rdKind_15 hqa
  have h15y := rdKind_15 hqb
  have h15z := rdKind_15 hqc
  have hR : R = (if 15 < atomsT (arrowT x y) ∨ 15 < atomsT (arrowT y z) ∨ 15 < atomsT (arrowT x z) then none else
    (rdStrat (arrowT x y) m).bind fun f => (rdStrat (arrowT y z) n).bind fun g => (become g (composeEnv x y f z.args) (1 + z.args.length)).map textB) := by rw [HSP.out, hqa, hqb, hqc]; rfl
  have HR := Lib.hid hR
  have HX := Lib.hid (And.intro hx (And.intro hy hz))
  have hly := (args_atoms h15y).2
  have hlz := (args_atoms h15z).2
  have C4 := Lib.hid (arrow_any (w.heap.size ≤ ·) x y _ _ w3 hx hy (show _ ≤ _ by omega))
  clear hR hqa hqb hqc hx hy hz HN3 HK HSP H1 H2
  go_wp2_with fail
  (with_reducible refine C4.out.mono ?_)
  rintro en w4 ⟨v4, rfl, hb4, hr4⟩
  have hw4 : ∀ {d : DV} {v : Value}, Rep (w.heap.size ≤ ·) w3 d v → Rep (w.heap.size ≤ ·) w4 d v := fun h => Rep.below hb4 (fun _ h => h) h
  have hr4' : Rep (w.heap.size ≤ ·) w4 (encK (arrowT x y)) v4 := hr4.weak fun i h => by
    rcases h with h | h
    · exact h
    · exact Nat.le_trans HB3.out.size h
  have C5 := Lib.hid (arrow_any (w.heap.size ≤ ·) y z _ _ w4 (hw4 HX.out.2.1) (hw4 HX.out.2.2) (show _ ≤ _ by omega))
  have H4 := Lib.hid (And.intro hb4 (And.intro hr4' (And.intro (hw4 HX.out.1) (hw4 HX.out.2.2)))); clear hb4 hr4 hr4' hw4 C4
  go_wp2_with fail
  (with_reducible refine C5.out.mono ?_)
  rintro en w5 ⟨v5, rfl, hb5, hr5⟩
  have hw5 : ∀ {d : DV} {v : Value}, Rep (w.heap.size ≤ ·) w4 d v → Rep (w.heap.size ≤ ·) w5 d v := fun h => Rep.below hb5 (fun _ h => h) h
  have hbw4 : Below w.heap.size w w4 := HB3.out.trans (H4.out.1.mono HB3.out.size)
  have hr5' : Rep (w.heap.size ≤ ·) w5 (encK (arrowT y z)) v5 := hr5.weak fun i h => by
    rcases h with h | h
    · exact h
    · exact Nat.le_trans hbw4.size h
  have C6 := Lib.hid (arrow_any (w.heap.size ≤ ·) x z _ _ w5 (hw5 H4.out.2.2.1) (hw5 H4.out.2.2.2) (show _ ≤ _ by omega))
  have H5 := Lib.hid (And.intro (hbw4.trans (hb5.mono hbw4.size)) (And.intro hr5' (hw5 H4.out.2.1))); clear hb5 hr5 hr5' hw5 hbw4 C5
  go_wp2_with fail
  (with_reducible refine C6.out.mono ?_)
  rintro en w6 ⟨v6, rfl, hb6, hr6⟩
  have hw6 : ∀ {d : DV} {v : Value}, Rep (w.heap.size ≤ ·) w5 d v → Rep (w.heap.size ≤ ·) w6 d v := fun h => Rep.below hb6 (fun _ h => h) h
  have hbw6 : Below w.heap.size w w6 := H5.out.1.trans (hb6.mono H5.out.1.size)
  have hr6' : Rep (w.heap.size ≤ ·) w6 (encK (arrowT x z)) v6 := hr6.weak fun i h => by
    rcases h with h | h
    · exact h
    · exact Nat.le_trans H5.out.1.size h
  have A1 := arrow_atoms x y
  have A2 := arrow_atoms y z
  have A3 := arrow_atoms x z
  have D1 := Lib.hid (atoms_any (w.heap.size ≤ ·) w6 100 (arrowT x y) (by omega) (show _ ≤ _ by omega) v4 (hw6 H5.out.2.2))
  have D2 := Lib.hid (atoms_any (w.heap.size ≤ ·) w6 100 (arrowT y z) (by omega) (show _ ≤ _ by omega) v5 (hw6 H5.out.2.1))
  have D3 := Lib.hid (atoms_any (w.heap.size ≤ ·) w6 100 (arrowT x z) (by omega) (show _ ≤ _ by omega) v6 hr6')
  have H6 := Lib.hid (And.intro hbw6 (And.intro (hw6 H5.out.2.2) (And.intro (hw6 H5.out.2.1) hr6'))); clear hb6 hr6 hr6' hw6 hbw6 C6 H4 H5 A1 A2 A3
  generalize hP : atomsT (arrowT x y) = P at *
  generalize hQ : atomsT (arrowT y z) = Q at *
  generalize hS : atomsT (arrowT x z) = S at *
  have HPQ := Lib.hid (And.intro hP (And.intro hQ hS)); clear hP hQ hS
  by_cases hbig : 15 < P ∨ 15 < Q ∨ 15 < S
  · have hRn : R = none := by
      rw [HR.out, if_pos hbig]
    have HRN := Lib.hid hRn
    have hmx : (15 : Int) < (if (if P < Q then (Q : Int) else (P : Int)) < (S : Int) then (S : Int) else if P < Q then (Q : Int) else (P : Int)) := by
      split <;> split <;> omega
    clear hRn hbig
    go_wp2_with fail
    (with_reducible refine D1.out.mono ?_)
    rintro en wz ⟨rfl, ez⟩
    subst ez
    go_wp2_with fail
    (with_reducible refine D2.out.mono ?_)
    rintro en wz ⟨rfl, ez⟩
    subst ez
    go_wp2_with fail
    (with_reducible refine D3.out.mono ?_)
    rintro en wz ⟨rfl, ez⟩
    subst ez
    clear D1 D2 D3
    go_wp2_with fail
    all_goals
      go_ret2
      rw [HRN.out]
      exact ⟨rfl, H6.out.1⟩
  · have hR2 : R = (rdStrat (arrowT x y) m).bind fun f => (rdStrat (arrowT y z) n).bind fun g => (become g (composeEnv x y f z.args) (1 + z.args.length)).map textB := by
      rw [HR.out, if_neg hbig]
    have HR2 := Lib.hid hR2
    have hmx : ¬ (15 : Int) < (if (if P < Q then (Q : Int) else (P : Int)) < (S : Int) then (S : Int) else if P < Q then (Q : Int) else (P : Int)) := by
      split <;> split <;> omega
    have hPl : P ≤ 15 := by omega
    have hQl : Q ≤ 15 := by omega
    have hSl : S ≤ 15 := by omega
    have C7 := Lib.hid (readStrategy_any (w.heap.size ≤ ·) (arrowT x y) m v4 w6 (HG.out.1.below H6.out.1) H6.out.2.1 (by rw [HPQ.out.1]; exact hPl) hm)
    clear hR2 hbig HR
    go_upto_region 5 with (fail)
    go_cut [55] (fun s55 wx => s55 = .bool false ∧ wx = w6)
    case first =>
      go_wp2_with fail
      (with_reducible refine D1.out.mono ?_)
      rintro en wz ⟨rfl, ez⟩
      subst ez
      go_wp2_with fail
      (with_reducible refine D2.out.mono ?_)
      rintro en wz ⟨rfl, ez⟩
      subst ez
      go_wp2_with fail
      (with_reducible refine D3.out.mono ?_)
      rintro en wz ⟨rfl, ez⟩
      subst ez
      clear D1 D2 D3
      go_wp2_with fail
      all_goals go_meet
      all_goals first
        | (case rel => exact ⟨rfl, rfl⟩)
        | (case rel => exact ⟨by simp; omega, rfl⟩)
    case rest =>
    obtain ⟨rfl, e⟩ := hcut
    subst e
    clear D1 D2 D3
    go_wp2_with fail
    (with_reducible refine C7.out.mono ?_)
    rintro en w7 ⟨v7, rfl, hb7, hn7, hy7⟩
    have hbw7 : Below w.heap.size w w7 := H6.out.1.trans (hb7.mono H6.out.1.size)
    have hw7 : ∀ {d : DV} {v : Value}, Rep (w.heap.size ≤ ·) wc d v → Rep (w.heap.size ≤ ·) w7 d v := fun h => Rep.below hb7 (fun _ h => h) h
    have C8 := Lib.hid (readStrategy_any (w.heap.size ≤ ·) (arrowT y z) n v5 w7 (HG.out.1.below hbw7) (hw7 H6.out.2.2.1) (by rw [HPQ.out.2.1]; exact hQl) hn)
    have H7 := Lib.hid (And.intro hbw7 (And.intro hn7 (And.intro (fun x hx => (hy7 x hx).weak (G := fun i => w.heap.size ≤ i) fun i (h : wc.heap.size ≤ i) => Nat.le_trans H6.out.1.size h) (hw7 H6.out.2.2.2)))); clear hb7 hn7 hy7 hbw7 hw7 C7
    go_wp2_with fail
    (with_reducible refine C8.out.mono ?_)
    rintro en w8 ⟨v8, rfl, hb8, hn8, hy8⟩
    have hbw8 : Below w.heap.size w w8 := H7.out.1.trans (hb8.mono H7.out.1.size)
    have H8 := Lib.hid (And.intro hbw8 (And.intro hn8 (And.intro (fun x hx => (hy8 x hx).weak (G := fun i => w.heap.size ≤ i) fun i (h : w7.heap.size ≤ i) => Nat.le_trans H7.out.1.size h) (And.intro (fun x hx => Rep.below (F' := fun i => w.heap.size ≤ i) hb8 (fun _ h => h) (H7.out.2.2.1 x hx)) (Rep.below (F' := fun i => w.heap.size ≤ i) hb8 (fun _ h => h) H7.out.2.2.2))))); clear hb8 hn8 hy8 hbw8 C8
    cases hqf : rdStrat (arrowT x y) m with
    | none =>
      obtain rfl := H7.out.2.1 hqf
      have hRn : R = none := by rw [HR2.out, hqf]; rfl
      have HRN := Lib.hid hRn; clear hRn hqf
      go_wp2_with fail
      go_ret2
      rw [HRN.out]
      exact ⟨rfl, H8.out.1⟩
    | some f =>
    have hrf := H8.out.2.2.2.1 f hqf
    obtain ⟨fb, rfl⟩ := encB_ptr hrf
    cases hqg : rdStrat (arrowT y z) n with
    | none =>
      obtain rfl := H8.out.2.1 hqg
      have hRn : R = none := by rw [HR2.out, hqf, hqg]; rfl
      have HRN := Lib.hid hRn; clear hRn hqf hqg hrf
      go_wp2_with fail
      go_ret2
      rw [HRN.out]
      exact ⟨rfl, H8.out.1⟩
    | some g =>
    have hrg := H8.out.2.2.1 g hqg
    obtain ⟨gb, rfl⟩ := encB_ptr hrg
    have hR3 : R = (become g (composeEnv x y f z.args) (1 + z.args.length)).map textB := by rw [HR2.out, hqf, hqg]; rfl
    have hgf : Good (arrowT x y) f := (rdStrat_good (by rw [HPQ.out.1]; exact hPl) hqf).1
    have hgg : Good (arrowT y z) g := (rdStrat_good (by rw [HPQ.out.2.1]; exact hQl) hqg).1
    have HS3 := Lib.hid (And.intro hR3 (And.intro hgf (And.intro hgg (And.intro hrf hrg))))
    obtain ⟨kb, sb, e6, hkF, hkb, hsb⟩ := encK_open H8.out.2.2.2.2
    subst e6
    clear hqf hqg hrf hrg hR3 hgf hgg
    have hlz1 : (arrowT x z).args.length = z.args.length + 1 := rfl
    have hsb2 : Rep (w.heap.size ≤ ·) w8 (.sl 65 1 (x :: z.args).length (encKs (x :: z.args))) sb := hsb
    obtain ⟨sa, sc, esb, _⟩ := Rep_sl1_open hsb2
    subst esb
    have C9 := opens_any (w.heap.size ≤ ·) 0 (x :: z.args) _ w8 hsb2 (by simp; omega) (by omega)
    rw [show ((0 : Nat) : Int) = 0 from rfl, List.length_cons] at C9
    have C9 := Lib.hid C9
    have k8 : w8.cell? ⟨kb, 0, none⟩ = some (.slice sa (z.args.length + 1) sc) := by simp [World.cell?, hkb]
    clear hlz1 hsb hsb2 hkb hkF
    go_wp2_with fail
    (with_reducible refine C9.out.mono ?_)
    rintro en w9 ⟨oa, oc, oxs, rfl, ho9, hr9, hb9, hf9⟩
    have hopen : ∃ og, oa = some ⟨og, 0, none⟩ ∧ z.args.length + 1 ≤ oc ∧ ∀ (j : Nat) u, oxs[j]? = some u → w9.cell? ⟨og, j, none⟩ = some u := by
      have h := ho9
      rcases h.2 with ⟨e, _⟩ | ⟨g0, cap, cur, e, _, _, hnc, _⟩
      · simp at e
      · simp only [Value.slice.injEq, true_and] at e
        obtain ⟨rfl, rfl⟩ := e
        refine ⟨g0, rfl, by simpa using hnc, fun j u hu => ?_⟩
        have h2 := World.ownsRow.cells ho9 (g := g0) rfl j u hu
        rw [WideShapes.add_plain] at h2; simpa using h2
    obtain ⟨og, rfl, hoc, hocell⟩ := hopen
    have H9 := Lib.hid (And.intro ho9 (And.intro hr9 (And.intro hb9 (And.intro hf9 hocell)))); clear ho9 hr9 hb9 hf9 hocell k8 C9
    try rw [List.length_cons]
    have h1l : (1 : Int) ≤ (z.args.length : Int) + 1 := by omega
    have h1c : (1 : Int) ≤ (oc : Int) := by omega
    have KEY : Hid (∀ (a7 : Option Addr) (c7 : Nat) (w7 : World) (I : Int), I = ((1 + z.args.length : Nat) : Int) → Own w7 77 4 (.slice a7 (1 + z.args.length) c7) (1 + z.args.length) ([.int .i64 0, .pointer none, .pointer (some ⟨fb, 0, none⟩), .slice (some ⟨og, 0, none⟩) 1 oc] ++ oxs.drop 4) → Below w9.heap.size w9 w7 →
        (∀ g, (Value.slice a7 (1 + z.args.length) c7).ownBlock = some g → w9.heap.size ≤ g) → Calls Tryz.prog 41 #[.pointer (some ⟨gb, 0, none⟩), .slice a7 (1 + z.args.length) c7, .int .i64 I] w7 (BecPost (w.heap.size ≤ ·) w7 (become g (composeEnv x y f z.args) (1 + z.args.length)))) := by
      show ∀ _ _ _ _, _ → _ → _ → _ → _
      intro a7 c7 w7 I hI ho7 hB7 hg7
      subst hI
      have hw89 : Below w8.heap.size w8 w7 := H9.out.2.2.1.trans (hB7.mono H9.out.2.2.1.size)
      have hbw7 : Below w.heap.size w w7 := H8.out.1.trans (hw89.mono H8.out.1.size)
      obtain ⟨-, hgf, hgg, hrf, hrg⟩ := HS3.out
      have hlen : (composeEnv x y f z.args).length = 1 + z.args.length := by unfold composeEnv; simp [opens_length]; omega
      have hz8 := H8.out.1.size
      have hz9 := H9.out.2.2.1.size
      have k97 : ∀ (i : Nat) (o : Obj), w.heap.size ≤ i → w9.heap[i]? = some o → w.heap.size ≤ i ∧ w7.heap[i]? = some o := fun i o hi ho => ⟨hi, by rw [hB7.block i (lt_of_heap ho)]; exact ho⟩
      have hopen := (H9.out.2.1 : Reps (w.heap.size ≤ ·) w9 (encMs (opens 0 (x :: z.args))) oxs)
      rw [opens, encMs] at hopen
      obtain ⟨ho1, ho2⟩ := hopen.split
      rw [encM_length] at ho1 ho2
      have hin : Rep (w.heap.size ≤ ·) w9 (.sl 77 4 1 (encMs [.op 0 x])) (.slice (some ⟨og, 0, none⟩) 1 oc) := by
        rcases H9.out.1.2 with ⟨e, _⟩ | ⟨g0, cap, cur, e, _, hcur, hnc, _, _, htk⟩
        · simp at e
        · simp only [Value.slice.injEq, Option.some.injEq, Addr.mk.injEq, true_and, and_true] at e
          obtain ⟨rfl, rfl⟩ := e
          refine Rep_sl.2 ⟨by simp [encMs, encM_length], _, _, rfl, by omega, fun h => by simp at h, .inr ⟨og, 0, cur, _, rfl, Nat.le_trans hz8 (H9.out.2.2.2.1 og rfl), hcur, ?_⟩⟩
          have e4 : List.take (1 * 4) (List.drop 0 cur.toList) = oxs.take 4 := by
            rw [← htk, List.take_take, List.drop_zero]; congr 1; omega
          rw [e4]
          simpa [encMs] using ho1
      have hre : Rep (w.heap.size ≤ ·) w7 (.sl 77 4 (composeEnv x y f z.args).length (encMs (composeEnv x y f z.args))) (.slice a7 (1 + z.args.length) c7) := by
        rw [hlen]
        refine ho7.rep (fun g hg => by have h := hg7 g hg; show _ ≤ _; omega) ?_
        unfold composeEnv
        rw [encMs, encM]
        refine Reps.append (vs := [.int .i64 0, .pointer none, .pointer (some ⟨fb, 0, none⟩), .slice (some ⟨og, 0, none⟩) 1 oc]) ?_ ((Rep.keep k97).2 _ _ ho2)
        refine Reps_cons.2 ⟨_, _, rfl, Rep_val.2 rfl, Reps_cons.2 ⟨_, _, rfl, Rep_val.2 rfl, Reps_cons.2 ⟨_, _, rfl, Rep.below hw89 (fun _ h => h) hrf, Reps_cons.2 ⟨_, _, rfl, (Rep.keep k97).1 _ _ hin, Reps_nil.2 rfl⟩⟩⟩⟩
      have kf := hgf.fit
      have kg := hgg.fit
      exact become_any _ _ (x :: z.args) g (composeEnv x y f z.args) _ _ w7 { glob := HG.out.2.below hbw7, fit := composeEnv_fit kf kg, hn := by simp; omega, nl := by omega, el := by rw [hlen]; omega, ok := ⟨by rw [okM]; exact ⟨h15y, by simp, ⟨by rw [okM]; exact ⟨h15x, by omega⟩, trivial⟩⟩, okMs_opens _ _ (args_atoms h15z).1 (by omega)⟩, rb := Rep.below hw89 (fun _ h => h) hrg, re := hre }
    have FIN : Hid (∀ out, become g (composeEnv x y f z.args) (1 + z.args.length) = some out → sizeB out ≤ 1000 ∧ lvB out) := by
      show ∀ out, _ → _
      intro out ho
      obtain ⟨-, hgf, hgg, -, -⟩ := HS3.out
      have hgd := become_good (t := arrowT x z) (by rw [HPQ.out.2.2]; exact hSl) (b := g) (env := composeEnv x y f z.args) (composeEnv_fit hgf.fit hgg.fit) hgg.wf (composeEnv_wf hgf.wf) (out := out) (by
        have el : (arrowT x z).args.length = 1 + z.args.length := by show (x :: z.args).length = _; simp; omega
        rw [el]; exact ho)
      exact ⟨by have := hgd.size; omega, hgd.lv⟩
    by_cases hoc1 : oc = 1
    · subst hoc1
      have hz0 : z.args.length = 0 := by omega
      have hzh := Lib.hid hz0
      have SRC1 : Hid (∀ w', Below w9.heap.size w9 w' → SrcSl 4 (.slice (some ⟨og, 0, none⟩) 0 0) 0 (oxs.drop 4) w') := by
        show ∀ w', _ → _
        intro w' _
        have hl := H9.out.1.1
        refine ⟨by rw [List.length_drop, hl]; omega, fun u hu => oneCell_encMs _ _ H9.out.2.1 u (List.mem_of_mem_drop hu), .inl ⟨_, _, rfl, fun j u hu => ?_⟩⟩
        have := (List.getElem?_eq_some_iff.1 hu).1
        rw [List.length_drop, hl] at this; omega
      go_wp2_with fail
      refine wp_region_noPanic ?_
      refine wp_region_S (fun w' => Below w9.heap.size w9 w') (fun _ => false) (by kernel_rfl) ?_
      have hSd : Below w9.heap.size w9 w9.drew := Below.drew (Below.refl _ _)
      refine wpAnyS_take 0 (v := ?_) (by kernel_rfl) (by kernel_rfl) (by kernel_rfl) (by kernel_rfl) (fun _ _ _ _ h => h) hSd ?_ ?_
      rotate_left
      · (intro oi ho; simp at ho; subst ho; refine Or.inl ⟨by rfl, fun w' hw' => ?_⟩; go_simp; try with_reducible rfl)
      (intro d hd; simp at hd; subst hd; simp only [Act.put, List.setIfInBounds_toArray, List.set_cons_zero, List.set_cons_succ])
      refine wpAnyS_take 1 (v := ?_) (by kernel_rfl) (by kernel_rfl) (by kernel_rfl) (by kernel_rfl) (fun _ _ _ _ h => h) hSd ?_ ?_
      rotate_left
      · (intro oi ho; simp at ho; subst ho; refine Or.inl ⟨by rfl, fun w' hw' => ?_⟩; go_simp; try with_reducible rfl)
      (intro d hd; simp at hd; subst hd; simp only [Act.put, List.setIfInBounds_toArray, List.set_cons_zero, List.set_cons_succ])
      refine wpAnyS_take 2 (v := ?_) (by kernel_rfl) (by kernel_rfl) (by kernel_rfl) (by kernel_rfl) (fun _ _ _ _ h => h) hSd ?_ ?_
      rotate_left
      · (intro oi ho; simp at ho; subst ho; refine Or.inl ⟨by rfl, fun w' hw' => ?_⟩; go_simp; try with_reducible rfl)
      (intro d hd; simp at hd; subst hd; simp only [Act.put, List.setIfInBounds_toArray, List.set_cons_zero, List.set_cons_succ])
      refine wpAnyS_take 3 (v := ?_) (by kernel_rfl) (by kernel_rfl) (by kernel_rfl) (by kernel_rfl) (fun _ _ _ _ h => h) hSd ?_ ?_
      rotate_left
      · (intro oi ho; simp at ho; subst ho; refine Or.inl ⟨by rfl, fun w' hw' => ?_⟩; go_simp; try with_reducible rfl)
      (intro d hd; simp at hd; subst hd; simp only [Act.put, List.setIfInBounds_toArray, List.set_cons_zero, List.set_cons_succ])
      refine wpAnyS_take 5 (v := ?_) (by kernel_rfl) (by kernel_rfl) (by kernel_rfl) (by kernel_rfl) (fun _ _ _ _ h => h) hSd ?_ ?_
      rotate_left
      · (intro oi ho; simp at ho; subst ho; refine Or.inl ⟨by rfl, fun w' hw' => ?_⟩; go_simp; try with_reducible rfl)
      (intro d hd; simp at hd; subst hd; simp only [Act.put, List.setIfInBounds_toArray, List.set_cons_zero, List.set_cons_succ])
      refine wpAnyS_take 6 (v := ?_) (by kernel_rfl) (by kernel_rfl) (by kernel_rfl) (by kernel_rfl) (fun _ _ _ _ h => h) hSd ?_ ?_
      rotate_left
      · (intro oi ho; simp at ho; subst ho; refine Or.inl ⟨by rfl, fun w' hw' => ?_⟩; go_simp; try with_reducible rfl)
      (intro d hd; simp at hd; subst hd; simp only [Act.put, List.setIfInBounds_toArray, List.set_cons_zero, List.set_cons_succ])
      refine wpAnyS_one 4 (by kernel_rfl) ?_
      (intro o4 ho K' hK; simp at ho; subst ho)
      go_simp
      refine hK.out _ _ (fun _ => ?_) ?_
      · exact hSd.alloc (Nat.le_refl _) _
      clear hK K'
      (try simp only [Act.put, List.setIfInBounds_toArray, List.set_cons_zero, List.set_cons_succ])
      refine wpAnyS_one 7 (by kernel_rfl) ?_
      (intro o7 ho K' hK; simp at ho; subst ho)
      refine step_append_gen (by rfl) _ _ _ (by rfl) 77 (.agg #[.int .i64 0, .pointer none, .pointer none, .slice none 0 0]) 4 48 Tryz.underlying71 Tryz.infoMn rfl (by decide) (.slice (some ⟨w9.heap.size, 0, none⟩) 1 1) 1 [.int .i64 0, .pointer none, .pointer (some ⟨fb, 0, none⟩), .slice (some ⟨og, 0, none⟩) 1 1] (by rfl) (Own.litAt #[.int .i64 0, .pointer none, .pointer (some ⟨fb, 0, none⟩), .slice (some ⟨og, 0, none⟩) 1 1] 1 _ rfl (by decide) rfl) (.slice (some ⟨og, 0, none⟩) 0 0) 0 (oxs.drop 4) (by rfl) ((SRC1.out _ (hSd.alloc (Nat.le_refl _) (.cells #[.int .i64 0, .pointer none, .pointer (some ⟨fb, 0, none⟩), .slice (some ⟨og, 0, none⟩) 1 1] 77)))) (by unfold maxLen; omega) (by omega) ?_
      intro a7 c7 w7 ho7 hb7 hg7
      have hB7 : Below w9.heap.size w9 w7 := (hSd.alloc (Nat.le_refl _) (.cells #[.int .i64 0, .pointer none, .pointer (some ⟨fb, 0, none⟩), .slice (some ⟨og, 0, none⟩) 1 1] 77)).trans (hb7.toBelow (hSd.alloc (Nat.le_refl _) (.cells #[.int .i64 0, .pointer none, .pointer (some ⟨fb, 0, none⟩), .slice (some ⟨og, 0, none⟩) 1 1] 77)).size fun i hi e => by simp [Value.ownBlock] at e; omega)
      have hg7' : ∀ g, (Value.slice a7 (1 + 0) c7).ownBlock = some g → w9.heap.size ≤ g := fun g hg => by rcases hg7 g hg with h | h; simp [Value.ownBlock] at h; omega; exact Nat.le_trans (hSd.alloc (Nat.le_refl _) (.cells #[.int .i64 0, .pointer none, .pointer (some ⟨fb, 0, none⟩), .slice (some ⟨og, 0, none⟩) 1 1] 77)).size (Nat.le_of_eq h.symm)
      refine hK.out _ _ (fun _ => ?_) ?_
      · exact hB7
      clear hK K'
      (try simp only [Act.put, List.setIfInBounds_toArray, List.set_cons_zero, List.set_cons_succ])
      refine wpAnyS_one 8 (by kernel_rfl) ?_
      (intro o8 ho K' hK; simp at ho; subst ho)
      go_simp
      refine hK.out _ _ (fun _ => ?_) ?_
      · exact hB7
      clear hK K'
      (try simp only [Act.put, List.setIfInBounds_toArray, List.set_cons_zero, List.set_cons_succ])
      refine wpAnyS_done (by kernel_rfl) (NoPanic.normal ?_) _
      have CB := KEY.out a7 c7 w7 1 (by omega) (by rw [hzh.out]; exact ho7) hB7 (by rw [hzh.out]; exact hg7')
      rw [hzh.out] at CB
      have CB := Lib.hid CB
      have HB7 := Lib.hid (H8.out.1.trans ((H9.out.2.2.1.trans (hB7.mono H9.out.2.2.1.size)).mono H8.out.1.size))
      clear ho7 hB7 hg7' hb7 hg7 hSd
      have hR3 := HS3.out.1
      have FINq := FIN.out
      rw [hzh.out] at hR3 FINq
      obtain ⟨bo, hbo⟩ : ∃ o, o = become g (composeEnv x y f z.args) (1 + 0) := ⟨_, rfl⟩
      rw [← hbo] at CB hR3 FINq
      have HR3 := Lib.hid hR3; have HFQ := Lib.hid FINq
      clear hR3 FINq hbo
      go_wp2_with fail
      (with_reducible refine CB.out.mono ?_)
      rintro en wb ⟨vb, rfl, hbb, hnb, hyb⟩
      have HBB := Lib.hid (HB7.out.trans (hbb.mono HB7.out.size))
      cases bo with
      | none =>
        obtain rfl := hnb rfl
        clear hbb hnb hyb
        go_wp2_with fail
        go_ret2
        rw [HR3.out]
        exact ⟨rfl, HBB.out⟩
      | some out =>
        have hro := hyb out rfl
        obtain ⟨ob, rfl⟩ := encB_ptr hro
        obtain ⟨hs1, hs2⟩ := HFQ.out out rfl
        have CT := Lib.hid (text_any 1000 out hs1 (by omega) hs2 _ wb _ (HG.out.1.below HBB.out) hro)
        clear hbb hnb hyb hro hs1 hs2
        go_wp2_with fail
        (with_reducible refine CT.out.mono ?_)
        rintro en we ⟨rfl, hbe⟩
        have HBE := Lib.hid (HBB.out.trans (hbe.mono HBB.out.size)); clear hbe
        go_wp2_with fail
        go_ret2
        rw [HR3.out]
        exact ⟨rfl, HBE.out⟩
    · have SRC1 : Hid (∀ w', Below w9.heap.size w9 w' → SrcSl 4 (.slice (some ⟨og, 4, none⟩) z.args.length (oc - 1)) z.args.length (oxs.drop 4) w') := by
        show ∀ w', _ → _
        intro w' hb'
        have hl := H9.out.1.1
        refine ⟨by rw [List.length_drop, hl]; omega, fun u hu => oneCell_encMs _ _ H9.out.2.1 u (List.mem_of_mem_drop hu), .inl ⟨_, _, rfl, fun j u hu => ?_⟩⟩
        rw [List.getElem?_drop] at hu
        have h := H9.out.2.2.2.2 (4 + j) u hu
        rw [WideShapes.add_plain]
        exact (hb'.cell (World.block_lt_of_cell? _ _ h)).trans h
      go_wp2_with fail
      refine wp_region_noPanic ?_
      refine wp_region_S (fun w' => Below w9.heap.size w9 w') (fun _ => false) (by kernel_rfl) ?_
      have hSd : Below w9.heap.size w9 w9.drew := Below.drew (Below.refl _ _)
      refine wpAnyS_take 0 (v := ?_) (by kernel_rfl) (by kernel_rfl) (by kernel_rfl) (by kernel_rfl) (fun _ _ _ _ h => h) hSd ?_ ?_
      rotate_left
      · (intro oi ho; simp at ho; subst ho; refine Or.inl ⟨by rfl, fun w' hw' => ?_⟩; go_simp; try with_reducible rfl)
      (intro d hd; simp at hd; subst hd; simp only [Act.put, List.setIfInBounds_toArray, List.set_cons_zero, List.set_cons_succ])
      refine wpAnyS_take 1 (v := ?_) (by kernel_rfl) (by kernel_rfl) (by kernel_rfl) (by kernel_rfl) (fun _ _ _ _ h => h) hSd ?_ ?_
      rotate_left
      · (intro oi ho; simp at ho; subst ho; refine Or.inl ⟨by rfl, fun w' hw' => ?_⟩; go_simp; try with_reducible rfl)
      (intro d hd; simp at hd; subst hd; simp only [Act.put, List.setIfInBounds_toArray, List.set_cons_zero, List.set_cons_succ])
      refine wpAnyS_take 2 (v := ?_) (by kernel_rfl) (by kernel_rfl) (by kernel_rfl) (by kernel_rfl) (fun _ _ _ _ h => h) hSd ?_ ?_
      rotate_left
      · (intro oi ho; simp at ho; subst ho; refine Or.inl ⟨by rfl, fun w' hw' => ?_⟩; go_simp; try with_reducible rfl)
      (intro d hd; simp at hd; subst hd; simp only [Act.put, List.setIfInBounds_toArray, List.set_cons_zero, List.set_cons_succ])
      refine wpAnyS_take 3 (v := ?_) (by kernel_rfl) (by kernel_rfl) (by kernel_rfl) (by kernel_rfl) (fun _ _ _ _ h => h) hSd ?_ ?_
      rotate_left
      · (intro oi ho; simp at ho; subst ho; refine Or.inl ⟨by rfl, fun w' hw' => ?_⟩; go_simp; try with_reducible rfl)
      (intro d hd; simp at hd; subst hd; simp only [Act.put, List.setIfInBounds_toArray, List.set_cons_zero, List.set_cons_succ])
      refine wpAnyS_take 5 (v := ?_) (by kernel_rfl) (by kernel_rfl) (by kernel_rfl) (by kernel_rfl) (fun _ _ _ _ h => h) hSd ?_ ?_
      rotate_left
      · (intro oi ho; simp at ho; subst ho; refine Or.inl ⟨by rfl, fun w' hw' => ?_⟩; go_simp; try with_reducible rfl)
      (intro d hd; simp at hd; subst hd; simp only [Act.put, List.setIfInBounds_toArray, List.set_cons_zero, List.set_cons_succ])
      refine wpAnyS_take 6 (v := ?_) (by kernel_rfl) (by kernel_rfl) (by kernel_rfl) (by kernel_rfl) (fun _ _ _ _ h => h) hSd ?_ ?_
      rotate_left
      · (intro oi ho; simp at ho; subst ho; refine Or.inl ⟨by rfl, fun w' hw' => ?_⟩; go_simp; try with_reducible rfl)
      (intro d hd; simp at hd; subst hd; simp only [Act.put, List.setIfInBounds_toArray, List.set_cons_zero, List.set_cons_succ])
      refine wpAnyS_one 4 (by kernel_rfl) ?_
      (intro o4 ho K' hK; simp at ho; subst ho)
      go_simp
      refine hK.out _ _ (fun _ => ?_) ?_
      · exact hSd.alloc (Nat.le_refl _) _
      clear hK K'
      (try simp only [Act.put, List.setIfInBounds_toArray, List.set_cons_zero, List.set_cons_succ])
      refine wpAnyS_one 7 (by kernel_rfl) ?_
      (intro o7 ho K' hK; simp at ho; subst ho)
      refine step_append_gen (by rfl) _ _ _ (by rfl) 77 (.agg #[.int .i64 0, .pointer none, .pointer none, .slice none 0 0]) 4 48 Tryz.underlying71 Tryz.infoMn rfl (by decide) (.slice (some ⟨w9.heap.size, 0, none⟩) 1 1) 1 [.int .i64 0, .pointer none, .pointer (some ⟨fb, 0, none⟩), .slice (some ⟨og, 0, none⟩) 1 oc] (by rfl) (Own.litAt #[.int .i64 0, .pointer none, .pointer (some ⟨fb, 0, none⟩), .slice (some ⟨og, 0, none⟩) 1 oc] 1 _ rfl (by decide) rfl) (.slice (some ⟨og, 4, none⟩) z.args.length (oc - 1)) z.args.length (oxs.drop 4) (by rfl) ((SRC1.out _ (hSd.alloc (Nat.le_refl _) (.cells #[.int .i64 0, .pointer none, .pointer (some ⟨fb, 0, none⟩), .slice (some ⟨og, 0, none⟩) 1 oc] 77)))) (by unfold maxLen; omega) (by omega) ?_
      intro a7 c7 w7 ho7 hb7 hg7
      have hB7 : Below w9.heap.size w9 w7 := (hSd.alloc (Nat.le_refl _) (.cells #[.int .i64 0, .pointer none, .pointer (some ⟨fb, 0, none⟩), .slice (some ⟨og, 0, none⟩) 1 oc] 77)).trans (hb7.toBelow (hSd.alloc (Nat.le_refl _) (.cells #[.int .i64 0, .pointer none, .pointer (some ⟨fb, 0, none⟩), .slice (some ⟨og, 0, none⟩) 1 oc] 77)).size fun i hi e => by simp [Value.ownBlock] at e; omega)
      have hg7' : ∀ g, (Value.slice a7 (1 + z.args.length) c7).ownBlock = some g → w9.heap.size ≤ g := fun g hg => by rcases hg7 g hg with h | h; simp [Value.ownBlock] at h; omega; exact Nat.le_trans (hSd.alloc (Nat.le_refl _) (.cells #[.int .i64 0, .pointer none, .pointer (some ⟨fb, 0, none⟩), .slice (some ⟨og, 0, none⟩) 1 oc] 77)).size (Nat.le_of_eq h.symm)
      refine hK.out _ _ (fun _ => ?_) ?_
      · exact hB7
      clear hK K'
      (try simp only [Act.put, List.setIfInBounds_toArray, List.set_cons_zero, List.set_cons_succ])
      refine wpAnyS_one 8 (by kernel_rfl) ?_
      (intro o8 ho K' hK; simp at ho; subst ho)
      go_simp
      refine hK.out _ _ (fun _ => ?_) ?_
      · exact hB7
      clear hK K'
      (try simp only [Act.put, List.setIfInBounds_toArray, List.set_cons_zero, List.set_cons_succ])
      refine wpAnyS_done (by kernel_rfl) (NoPanic.normal ?_) _
      have CB := KEY.out a7 c7 w7 ((z.args.length : Int) + 1) (by omega) ho7 hB7 hg7'
      have CB := Lib.hid CB
      have HB7 := Lib.hid (H8.out.1.trans ((H9.out.2.2.1.trans (hB7.mono H9.out.2.2.1.size)).mono H8.out.1.size))
      clear ho7 hB7 hg7' hb7 hg7 hSd
      have hR3 := HS3.out.1
      have FINq := FIN.out
      obtain ⟨bo, hbo⟩ : ∃ o, o = become g (composeEnv x y f z.args) (1 + z.args.length) := ⟨_, rfl⟩
      rw [← hbo] at CB hR3 FINq
      have HR3 := Lib.hid hR3; have HFQ := Lib.hid FINq
      clear hR3 FINq hbo
      go_wp2_with fail
      (with_reducible refine CB.out.mono ?_)
      rintro en wb ⟨vb, rfl, hbb, hnb, hyb⟩
      have HBB := Lib.hid (HB7.out.trans (hbb.mono HB7.out.size))
      cases bo with
      | none =>
        obtain rfl := hnb rfl
        clear hbb hnb hyb
        go_wp2_with fail
        go_ret2
        rw [HR3.out]
        exact ⟨rfl, HBB.out⟩
      | some out =>
        have hro := hyb out rfl
        obtain ⟨ob, rfl⟩ := encB_ptr hro
        obtain ⟨hs1, hs2⟩ := HFQ.out out rfl
        have CT := Lib.hid (text_any 1000 out hs1 (by omega) hs2 _ wb _ (HG.out.1.below HBB.out) hro)
        clear hbb hnb hyb hro hs1 hs2
        go_wp2_with fail
        (with_reducible refine CT.out.mono ?_)
        rintro en we ⟨rfl, hbe⟩
        have HBE := Lib.hid (HBB.out.trans (hbe.mono HBB.out.size)); clear hbe
        go_wp2_with fail
        go_ret2
        rw [HR3.out]
        exact ⟨rfl, HBE.out⟩

end Go.Proofs.YtibnnbdpfkgfhaaGreatDoor

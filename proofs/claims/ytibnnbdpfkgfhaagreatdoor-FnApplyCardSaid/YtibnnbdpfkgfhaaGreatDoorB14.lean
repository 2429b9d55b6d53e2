import Derived.Test.YtibnnbdpfkgfhaaGreatDoorB12
import Derived.Test.YtibnnbdpfkgfhaaGreatDoorS15
import Derived.Deep.DeepCutAuto

/- The walk of l4Written. -/
namespace Go.Proofs.YtibnnbdpfkgfhaaGreatDoor
open Go.RowKit

/-- What l4Written gives of what was written for a type. -/
def wrOf (t : Ty) (o : Option Bd) : Option Bs := o.bind fun out => (specStrat (textT t) (textB out)).map fun _ => textB out
/-- A text, or none. -/
def TxtPost (o : Option Bs) (w : World) (en : Ending) (w' : World) : Prop := en = .returned (.tuple #[str (o.getD []), .bool o.isSome]) ∧ Below w.heap.size w w'

set_option maxRecDepth 100000 in
set_option maxHeartbeats 8000000 in
theorem l4Written_any (F : Nat → Prop) (t : Ty) (o : Option Bd) (tv : Value) (s : Bs) (v : Int) (a1 : Option Addr) (n1 c1 : Nat) (a2 : Option Addr) (n2 c2 : Nat) (w : World) (h15 : atomsT t ≤ 15) (ht : Rep F w (encS t) tv)
    (hn : ∀ x, o = some x → Reps F w (encN x) [str s, .int .i64 v, .slice a1 n1 c1, .slice a2 n2 c2] ∧ sizeB x ≤ 1000 ∧ lvB x) :
    Calls Tryz.prog 35 #[.agg #[tv], .agg #[str s, .int .i64 v, .slice a1 n1 c1, .slice a2 n2 c2], .bool o.isSome] w (TxtPost (wrOf t o) w) := by
  obtain ⟨ta, tc, rfl⟩ := encS_slice ht
  obtain ⟨W, hW⟩ : ∃ W, (w.alloc (.cells #[.slice ta t.args.length tc] 46)).alloc (.cells #[str s, .int .i64 v, .slice a1 n1 c1, .slice a2 n2 c2] 51) = W := ⟨_, rfl⟩
  have hbW : Below w.heap.size w W := by rw [← hW]; exact ((Below.refl _ _).alloc (Nat.le_refl _) _).alloc (by rw [size_alloc]; omega) _
  have bT : W.heap[w.heap.size]? = some (.cells #[.slice ta t.args.length tc] 46 (0, 0)) := by rw [← hW]; exact heap_past (heap_new _ _)
  have bN : W.heap[w.heap.size + 1]? = some (.cells #[str s, .int .i64 v, .slice a1 n1 c1, .slice a2 n2 c2] 51 (0, 0)) := by
    have := heap_new (w.alloc (.cells #[.slice ta t.args.length tc] 46)) (.cells #[str s, .int .i64 v, .slice a1 n1 c1, .slice a2 n2 c2] 51)
    rw [size_alloc, hW] at this; exact this
  obtain ⟨y0, y1, y2, y3⟩ := cells4 bN
  have HW := Lib.hid (And.intro hW (And.intro hbW (And.intro bT (And.intro bN (And.intro ht hn))))); clear hW hbW bT bN ht hn
  cases o with
  | none =>
    simp only [Option.isSome_none]
    go_enter Tryz.func35, Tryz.ntmps35
    go_wp2_with fail
    go_ret2
    have h := HW.out.2.1
    rw [← HW.out.1] at h
    exact ⟨rfl, h⟩
  | some x =>
    simp only [Option.isSome_some]
    obtain ⟨hrx, hsz, hlv⟩ := HW.out.2.2.2.2.2 x rfl
    have hrW := Reps.below (F' := F) HW.out.2.1 (fun _ h => h) hrx
    have C0 := Lib.hid (l3Text_any (sizeB x) x (Nat.le_refl _) (by omega) hlv F W _ _ _ _ hrW)
    have hlen : (textB x).length ≤ 12000 := by have := textB_length x hlv; omega
    have hwr : wrOf t (some x) = (specStrat (textT t) (textB x)).map fun _ => textB x := rfl
    obtain ⟨Y, hY⟩ : ∃ Y, Y = textB x := ⟨_, rfl⟩
    rw [← hY] at C0 hlen hwr
    obtain ⟨X, hX⟩ : ∃ X, X = textT t := ⟨_, rfl⟩
    have hXl : Lim X.length := by rw [hX]; have := textT_length 15 t h15; show _ ≤ _; omega
    have hYl : Lim Y.length := by show _ ≤ _; omega
    rw [← hX] at hwr
    have HWR := Lib.hid hwr
    have HX := Lib.hid (And.intro hX hY); clear hrx hsz hlv hrW hlen hwr hX hY
    go_enter Tryz.func35, Tryz.ntmps35
    go_upto_region 1 with (fail)
    rw [HW.out.1]
    go_wp2_with fail
    (with_reducible refine C0.out.mono ?_)
    rintro en w2 ⟨rfl, hb2⟩
    have hbw2 : Below w.heap.size w w2 := HW.out.2.1.trans (hb2.mono HW.out.2.1.size)
    have hT2 : w2.heap[w.heap.size]? = some (.cells #[.slice ta t.args.length tc] 46 (0, 0)) := (hb2.block _ (lt_of_heap HW.out.2.2.1)).trans HW.out.2.2.1
    have SX : Hid (∀ w', Below w2.heap.size w2 w' → w'.cell? ⟨w.heap.size, 0, none⟩ = some (.slice ta t.args.length tc) ∧ True) := by
      show ∀ w', _ → _
      intro w' hb'
      have h := (hb'.block _ (lt_of_heap hT2)).trans hT2
      exact ⟨by simp [World.cell?, h], trivial⟩
    have C1 : Hid (∀ wz, Below w2.heap.size w2 wz → Calls Tryz.prog 55 #[.agg #[.slice ta t.args.length tc]] wz fun en w' => en = .returned (str X) ∧ Below wz.heap.size wz w') := by
      show ∀ wz, _ → _
      intro wz hz
      rw [HX.out.1]
      exact l1Text_any 15 t h15 (by omega) F wz _ (Rep.below (hbw2.trans (hz.mono hbw2.size)) (fun _ h => h) HW.out.2.2.2.2.1)
    have C2 := Lib.hid (fun wz => l3Strategy_any X Y hXl hYl wz)
    have H2 := Lib.hid hbw2
    clear hb2 hbw2 hT2 y0 y1 y2 y3 hXl hYl
    have t2 := (SX.out w2 (Below.refl _ _)).1
    go_wp2_with fail
    (with_reducible refine (C1.out w2 (Below.refl _ _)).mono ?_)
    rintro en w3 ⟨rfl, hb3⟩
    have HB3 := Lib.hid hb3; clear hb3
    go_wp2_with fail
    (with_reducible refine (C2.out w3).mono ?_)
    rintro en w4 ⟨sa, sc, s', v', a2', n2', c2', a3', n3', c3', rfl, hb4, -, -⟩
    have HB := Lib.hid (H2.out.trans ((HB3.out.trans (hb4.mono HB3.out.size)).mono H2.out.size)); clear hb4 C0 C1 C2 SX t2
    have FIN : ∀ (o o' : Obj), Below w.heap.size w ((w4.alloc o).alloc o') := fun o o' => (HB.out.alloc HB.out.size _).alloc (by rw [size_alloc]; exact Nat.le_succ_of_le HB.out.size) _
    have HFIN := Lib.hid FIN; clear FIN
    cases hq : specStrat X Y with
    | none =>
      have h := HWR.out
      rw [hq] at h
      simp only [Option.isSome_none]
      have HR := Lib.hid h; clear h hq
      go_wp2_with fail
      go_ret2
      rw [HR.out]
      exact ⟨rfl, HFIN.out _ _⟩
    | some b =>
      have h := HWR.out
      rw [hq] at h
      simp only [Option.isSome_some]
      have HR := Lib.hid h; clear h hq
      go_wp2_with fail
      go_ret2
      rw [HR.out]
      exact ⟨rfl, HFIN.out _ _⟩

end Go.Proofs.YtibnnbdpfkgfhaaGreatDoor

/- The walk of the reference's ApplyOf. -/
namespace Go.Proofs.YtibnnbdpfkgfhaaGreatDoor
open Go.RowKit

theorem writes_ok {t : Ty} (ht : atomsT t ≤ 15) {b : Bd} {env : List Mn} (hf : EvFit t.args b env []) {x : Bd} (h : writes b env t.args.length = some x) : sizeB x ≤ 1000 ∧ lvB x := by
  rw [writes_eq] at h
  cases hq : ev 20000 20000 b env t.args.length [] with
  | none => rw [hq] at h; simp at h
  | some y =>
    obtain ⟨o, l⟩ := y
    rw [hq] at h
    simp only at h
    split at h
    · rename_i hs
      simp only [Option.some.injEq] at h
      subst h
      have h1 := ev_fit _ _ _ _ _ _ _ _ hf hq
      exact ⟨by omega, fit_lv 200 o t.args hs h1 (args_atoms ht).1 (by have := (args_atoms ht).2; omega)⟩
    · simp at h

set_option maxRecDepth 100000 in
set_option maxHeartbeats 8000000 in
theorem specApplyOf_any (s m n : Bs) (hs : Lim s.length) (hm : Lim m.length) (hn : Lim n.length) (w : World) :
    Calls Tryz.prog 29 #[str s, str m, str n] w (TxtPost (specApplyOf s m n) w) := by
  have C0 := Lib.hid (l3Strategy_any s m hs hm w)
  have HSP : Hid (specApplyOf s m n = (specStrat s m).bind fun b => match (specType s).1.args with
    | [] => none
    | a :: rest => (specStrat (textT a) n).bind fun c => wrOf (.mk rest) (writes b (applyEnv a c rest) rest.length)) := by
    show _ = _
    unfold specApplyOf wrOf
    cases specStrat s m with
    | none => rfl
    | some b => simp only [Option.bind_some]; cases (specType s).1.args <;> rfl
  generalize specApplyOf s m n = R at *
  have HG := Lib.hid (fun b (h : specStrat s m = some b) => (specStrat_good h).1)
  go_enter Tryz.func29, Tryz.ntmps29
  go_wp2_with fail
  (with_reducible refine C0.out.mono ?_)
  rintro en w1 ⟨ta, tc, s1, v1, a2, n2, c2, a3, n3, c3, rfl, hb1, hrt, hrs⟩
  generalize hT : (specType s).1 = t at *
  have HT := Lib.hid hT; clear hT C0
  cases hq : specStrat s m with
  | none =>
    have hR : R = none := by rw [HSP.out, hq]; rfl
    have HR := Lib.hid hR
    have HB := Lib.hid hb1; clear hR hb1 hrt hrs hq
    simp only [Option.isSome_none]
    go_wp2_with fail
    go_ret2
    rw [HR.out]
    exact ⟨rfl, (HB.out.alloc HB.out.size _).alloc (by rw [size_alloc]; exact Nat.le_succ_of_le HB.out.size) _⟩
  | some b =>
    have hg := HG.out b hq
    have hrb := hrs b hq
    simp only [Option.isSome_some]
    cases hts : t.args with
    | nil =>
      have hR : R = none := by rw [HSP.out, hq]; simp only [Option.bind_some]; rw [hts]
      have HR := Lib.hid hR
      have HB := Lib.hid hb1; clear hR hb1 hrt hrs hq hg hrb hts
      rw [List.length_nil]
      go_wp2_with fail
      go_ret2
      rw [HR.out]
      exact ⟨rfl, (HB.out.alloc HB.out.size _).alloc (by rw [size_alloc]; exact Nat.le_succ_of_le HB.out.size) _⟩
    | cons a rest =>
      have hat := Ty_atoms_cons hts
      have h15 := hg.atoms
      have hlen : t.args.length = rest.length + 1 := by rw [hts]; rfl
      have hrt2 := hrt
      rw [encS_eq] at hrt2
      obtain ⟨_, _, e, htc, _, hta⟩ := Rep_sl1_open hrt2
      simp only [Value.slice.injEq] at e
      obtain ⟨rfl, _, rfl⟩ := e
      rw [hts] at hrt2 htc hta
      obtain ⟨kb, ko, u, d1, e, hkF, hkw, hd1, hk0, hru⟩ := hta 0 (by simp)
      subst e
      simp only [encSs, List.getElem?_cons_zero, Option.some.injEq] at hd1
      subst hd1
      obtain ⟨ua, uc, rfl⟩ := encS_slice hru
      rw [← hts, hlen]
      have hk0' : w1.cell? ⟨kb, ko, none⟩ = some (.slice ua a.args.length uc) := hk0
      obtain ⟨W, hW⟩ : ∃ W, (w1.alloc (.cells #[.slice (some ⟨kb, ko, none⟩) (rest.length + 1) tc] 46)).alloc (.cells #[str s1, .int .i64 v1, .slice a2 n2 c2, .slice a3 n3 c3] 51) = W := ⟨_, rfl⟩
      have hbW : Below w1.heap.size w1 W := by rw [← hW]; exact ((Below.refl _ _).alloc (Nat.le_refl _) _).alloc (by rw [size_alloc]; omega) _
      have bT : W.heap[w1.heap.size]? = some (.cells #[.slice (some ⟨kb, ko, none⟩) (rest.length + 1) tc] 46 (0, 0)) := by rw [← hW]; exact heap_past (heap_new _ _)
      have bN : W.heap[w1.heap.size + 1]? = some (.cells #[str s1, .int .i64 v1, .slice a2 n2 c2, .slice a3 n3 c3] 51 (0, 0)) := by
        have := heap_new (w1.alloc (.cells #[.slice (some ⟨kb, ko, none⟩) (rest.length + 1) tc] 46)) (.cells #[str s1, .int .i64 v1, .slice a2 n2 c2, .slice a3 n3 c3] 51)
        rw [size_alloc, hW] at this; exact this
      have t0 : W.cell? ⟨w1.heap.size, 0, none⟩ = some (.slice (some ⟨kb, ko, none⟩) (rest.length + 1) tc) := by simp [World.cell?, bT]
      have k0 : W.cell? ⟨kb, ko, none⟩ = some (.slice ua a.args.length uc) := (hbW.cell hkw).trans hk0'
      have htx := textT_length 15 a (by omega)
      obtain ⟨X, hX⟩ : ∃ X, X = textT a := ⟨_, rfl⟩
      rw [← hX] at htx
      have hXl : Lim X.length := by show _ ≤ _; omega
      have C1 := l1Text_any 15 a (by omega) (by omega) _ W _ (Rep.below (F' := fun _ => True) hbW (fun _ _ => trivial) hru)
      rw [← hX] at C1
      have C1 := Lib.hid C1
      have C2 := Lib.hid (fun wz => l3Strategy_any X n hXl hn wz)
      have hR : R = (specStrat X n).bind fun c => wrOf (.mk rest) (writes b (applyEnv a c rest) rest.length) := by rw [HSP.out, hq, hX]; simp only [Option.bind_some]; rw [hts]
      have H1 := Lib.hid (And.intro hR (And.intro hW (And.intro hbW (And.intro bT (And.intro bN (And.intro hb1 (And.intro hrt2 (And.intro htc (And.intro hrb (And.intro hg (And.intro hts (And.intro hrt (And.intro hX hlen)))))))))))))
      have h0t : (0 : Int) < (rest.length : Int) + 1 := by omega
      have hne0 : (((rest.length : Int) + 1) == 0) = false := by rw [beq_eq_false_iff_ne]; omega
      clear hR hW hbW bT bN hb1 hrt2 htc hrb hg hts hrs hq hk0 hk0' hru hta hX htx hrt hlen
      go_upto_region 2 with (fail)
      rw [H1.out.2.1]
      go_wp2_with fail
      (with_reducible refine C1.out.mono ?_)
      rintro en w2 ⟨rfl, hb2⟩
      have HB2 := Lib.hid hb2; clear hb2
      go_wp2_with fail
      (with_reducible refine (C2.out w2).mono ?_)
      rintro en w3 ⟨qa, qc, s', v', b2, p2, d2, b3, p3, d3, rfl, hb3, -, hrs3⟩
      have hbW3 : Below W.heap.size W w3 := HB2.out.trans (hb3.mono HB2.out.size)
      have hbw3 : Below w.heap.size w w3 := (H1.out.2.2.2.2.2.1.trans (H1.out.2.2.1.mono H1.out.2.2.2.2.2.1.size)).trans (hbW3.mono (Nat.le_trans H1.out.2.2.2.2.2.1.size H1.out.2.2.1.size))
      cases hq : specStrat X n with
      | none =>
        have h := H1.out.1
        rw [hq] at h
        have HR : Hid (R = none) := h
        have HB := Lib.hid hbw3; clear h hq hb3 hrs3 hbW3 hbw3 t0 k0
        simp only [Option.isSome_none]
        go_wp2_with fail
        go_ret2
        rw [HR.out]
        exact ⟨rfl, (HB.out.alloc HB.out.size _).alloc (by rw [size_alloc]; exact Nat.le_succ_of_le HB.out.size) _⟩
      | some c =>
        have hrc := hrs3 c hq
        have hgc : Good a c := by
          refine (rdStrat_good (t := a) (l := n) (by have := H1.out.2.2.2.2.2.2.2.2.2.1.atoms; omega) ?_).1
          rw [rdStrat_text (by omega), ← H1.out.2.2.2.2.2.2.2.2.2.2.2.2.1]; exact hq
        have hRR : R = wrOf (.mk rest) (writes b (applyEnv a c rest) rest.length) := by have h := H1.out.1; rw [hq] at h; exact h
        obtain ⟨W4, hW4⟩ : ∃ W, (w3.alloc (.cells #[.slice qa (specType X).1.args.length qc] 46)).alloc (.cells #[str s', .int .i64 v', .slice b2 p2 d2, .slice b3 p3 d3] 51) = W := ⟨_, rfl⟩
        have hb4 : Below w3.heap.size w3 W4 := by rw [← hW4]; exact ((Below.refl _ _).alloc (Nat.le_refl _) _).alloc (by rw [size_alloc]; omega) _
        have bB : W4.heap[w3.heap.size + 1]? = some (.cells #[str s', .int .i64 v', .slice b2 p2 d2, .slice b3 p3 d3] 51 (0, 0)) := by
          have := heap_new (w3.alloc (.cells #[.slice qa (specType X).1.args.length qc] 46)) (.cells #[str s', .int .i64 v', .slice b2 p2 d2, .slice b3 p3 d3] 51)
          rw [size_alloc, hW4] at this; exact this
        have hbW4 : Below W.heap.size W W4 := hbW3.trans (hb4.mono hbW3.size)
        have hw14 : Below w1.heap.size w1 W4 := H1.out.2.2.1.trans (hbW4.mono H1.out.2.2.1.size)
        have bT4 := (hbW4.block _ (lt_of_heap H1.out.2.2.2.1)).trans H1.out.2.2.2.1
        have bN4 := (hbW4.block _ (lt_of_heap H1.out.2.2.2.2.1)).trans H1.out.2.2.2.2.1
        have t4 : W4.cell? ⟨w1.heap.size, 0, none⟩ = some (.slice (some ⟨kb, ko, none⟩) (rest.length + 1) tc) := by simp [World.cell?, bT4]
        obtain ⟨x0, x1, x2, x3⟩ := cells4 bN4
        obtain ⟨y0, y1, y2, y3⟩ := cells4 bB
        have hbw4 : Below w.heap.size w (W4.alloc (.cells #[] 46)) := (hbw3.trans (hb4.mono hbw3.size)).alloc (Nat.le_trans hbw3.size hb4.size) _
        have k1 : ∀ (i : Nat) (o : Obj), w.heap.size ≤ i → w1.heap[i]? = some o → i < (W4.alloc (.cells #[] 46)).heap.size ∧ (W4.alloc (.cells #[] 46)).heap[i]? = some o := fun i o _ ho => by
          have h := heap_past (o := .cells #[] 46) ((hw14.block i (lt_of_heap ho)).trans ho)
          exact ⟨lt_of_heap h, h⟩
        have hg := H1.out.2.2.2.2.2.2.2.2.2.1
        have hts := H1.out.2.2.2.2.2.2.2.2.2.2.1
        have hlen := H1.out.2.2.2.2.2.2.2.2.2.2.2.2.2
        have hfit : EvFit rest b (applyEnv a c rest) [] := applyEnv_fit hgc.fit (by have := hg.fit; rwa [hts] at this)
        have hrl : atomsT (.mk rest) ≤ 15 := by omega
        have hgm := (args_atoms hrl)
        have C4 := l4Apply_any (fun i => i < (W4.alloc (.cells #[] 46)).heap.size) t a rest [] b c (.slice (some ⟨kb, ko, none⟩) (rest.length + 1) tc) (.slice (some ⟨W4.heap.size, 0, none⟩) 0 0) s1 s' v1 v' a2 a3 b2 b3 n2 c2 n3 c3 p2 d2 p3 d3 (W4.alloc (.cells #[] 46))
          { ts := hts, t15 := h15, bl := by simp, b15 := by simp, fit := by rw [betweenEnv_nil]; exact hfit, wm := hg.wf, wn := hgc.wf,
            rt := (by have h := H1.out.2.2.2.2.2.2.2.2.2.2.2.1; rw [hlen] at h; exact (Rep.keep k1).1 _ _ h), rm := (Rep.keep k1).2 _ _ H1.out.2.2.2.2.2.2.2.2.1,
            rn := (Rep.keep fun i o _ ho => (by
              have h := heap_past (o := .cells #[] 46) ((hb4.block i (lt_of_heap ho)).trans ho)
              exact ⟨lt_of_heap h, h⟩)).2 _ _ hrc,
            rb := Rep_sl.2 ⟨by simp [encSs], _, _, rfl, Nat.le_refl _, fun h => by simp at h, .inl rfl⟩, hF := fun _ h => h }
        rw [betweenEnv_nil, List.length_nil, Nat.zero_add] at C4
        have C4 := Lib.hid C4
        have H4 := Lib.hid (And.intro hRR (And.intro hW4 (And.intro hbw4 (And.intro hfit (And.intro hrl hw14)))))
        clear hrc hgc hRR hW4 hb4 bB hbW4 hw14 bT4 bN4 hbw4 k1 hg hts hlen hfit hrl hgm hb3 hrs3 hbW3 hbw3 hq t0 k0 h15 hat
        simp only [Option.isSome_some]
        go_upto_region 5 with (fail)
        rw [H4.out.2.1]
        go_wp2_with fail
        (with_reducible refine C4.out.mono ?_)
        rintro en w6 ⟨s6, v6, e1, f1, g1, e2, f2, g2, rfl, hb6, hy6⟩
        have hbw6 : Below w.heap.size w w6 := H4.out.2.2.1.trans (hb6.mono H4.out.2.2.1.size)
        have hw16 : Below w1.heap.size w1 w6 := (H4.out.2.2.2.2.2.alloc H4.out.2.2.2.2.2.size _).trans (hb6.mono (Nat.le_trans H4.out.2.2.2.2.2.size (by rw [size_alloc]; omega)))
        have t6 : w6.cell? ⟨w1.heap.size, 0, none⟩ = some (.slice (some ⟨kb, ko, none⟩) (rest.length + 1) tc) := (hb6.cell (World.block_lt_of_cell? _ _ (cell_alloc t4))).trans (cell_alloc t4)
        obtain ⟨W7, hW7⟩ : ∃ W, w6.alloc (.cells #[.string ⟨s6.toArray⟩, .int .i64 v6, .slice e1 f1 g1, .slice e2 f2 g2] 51) = W := ⟨_, rfl⟩
        have hb7 : Below w6.heap.size w6 W7 := by rw [← hW7]; exact (Below.refl _ _).alloc (Nat.le_refl _) _
        have bO : W7.heap[w6.heap.size]? = some (.cells #[str s6, .int .i64 v6, .slice e1 f1 g1, .slice e2 f2 g2] 51 (0, 0)) := by rw [← hW7]; exact heap_new _ _
        have t7 : W7.cell? ⟨w1.heap.size, 0, none⟩ = some (.slice (some ⟨kb, ko, none⟩) (rest.length + 1) tc) := (hb7.cell (World.block_lt_of_cell? _ _ t6)).trans t6
        obtain ⟨z0, z1, z2, z3⟩ := cells4 bO
        have SX : Hid (∀ w', Below W7.heap.size W7 w' → w'.cell? ⟨w1.heap.size, 0, none⟩ = some (.slice (some ⟨kb, ko, none⟩) (rest.length + 1) tc) ∧ w'.cell? ⟨w6.heap.size, 0, none⟩ = some (str s6) ∧ w'.cell? ⟨w6.heap.size, 1, none⟩ = some (.int .i64 v6) ∧ w'.cell? ⟨w6.heap.size, 2, none⟩ = some (.slice e1 f1 g1) ∧ w'.cell? ⟨w6.heap.size, 3, none⟩ = some (.slice e2 f2 g2)) := by
          show ∀ w', _ → _
          intro w' hb'
          exact ⟨(hb'.cell (World.block_lt_of_cell? _ _ t7)).trans t7, (hb'.cell (World.block_lt_of_cell? _ _ z0)).trans z0, (hb'.cell (World.block_lt_of_cell? _ _ z1)).trans z1, (hb'.cell (World.block_lt_of_cell? _ _ z2)).trans z2, (hb'.cell (World.block_lt_of_cell? _ _ z3)).trans z3⟩
        have HB7 := Lib.hid (hbw6.trans (hb7.mono hbw6.size))
        have KEY : Hid (∀ (ra : Option Addr) (rc : Nat), Rep (w.heap.size ≤ ·) w1 (.sl 46 1 rest.length (encSs rest)) (.slice ra rest.length rc) → ∀ wz, Below W7.heap.size W7 wz →
            Calls Tryz.prog 35 #[.agg #[.slice ra rest.length rc], .agg #[str s6, .int .i64 v6, .slice e1 f1 g1, .slice e2 f2 g2], .bool (writes b (applyEnv a c rest) rest.length).isSome] wz
              (fun en w' => en = .returned (.tuple #[str (R.getD []), .bool R.isSome]) ∧ Below wz.heap.size wz w')) := by
          show ∀ _ _, _ → ∀ _, _ → _
          intro ra rc hrr wz hz
          have h6z : Below w6.heap.size w6 wz := hb7.trans (hz.mono hb7.size)
          have C := l4Written_any (fun _ => True) (.mk rest) (writes b (applyEnv a c rest) rest.length) (.slice ra rest.length rc) s6 v6 e1 f1 g1 e2 f2 g2 wz H4.out.2.2.2.2.1
            (by rw [encS_eq]; exact (Rep.keep fun i o _ ho => ⟨trivial, by
              have h := (hw16.block i (lt_of_heap ho)).trans ho
              exact (h6z.block i (lt_of_heap h)).trans h⟩).1 _ _ hrr)
            (fun x hx => ⟨(Rep.keep fun i o _ ho => ⟨trivial, (h6z.block i (lt_of_heap ho)).trans ho⟩).2 _ _ (hy6 x hx), writes_ok (t := .mk rest) H4.out.2.2.2.2.1 H4.out.2.2.2.1 hx⟩)
          rw [← H4.out.1] at C
          exact C
        have HW7 := Lib.hid hW7; clear hW7 hb7 bO t7 z0 z1 z2 z3
        have hT2 : ¬ tc = 1 → Rep (w.heap.size ≤ ·) w1 (.sl 46 1 rest.length (encSs rest)) (.slice (some ⟨kb, ko + 1, none⟩) rest.length (tc - 1)) := fun _ => Rep_sl1_tail (d := encS a) H1.out.2.2.2.2.2.2.1
        have htc := H1.out.2.2.2.2.2.2.2.1
        have hT1 : tc = 1 → rest.length = 0 ∧ Rep (w.heap.size ≤ ·) w1 (.sl 46 1 rest.length (encSs rest)) (.slice (some ⟨kb, ko, none⟩) rest.length 0) := fun h => by
          obtain rfl : rest = [] := by
            have h1 := htc
            rw [h] at h1
            simp at h1; exact h1
          exact ⟨rfl, Rep_sl.2 ⟨by simp [encSs], _, _, rfl, Nat.zero_le _, fun h => by simp at h, .inl rfl⟩⟩
        have htc' : rest.length + 1 ≤ tc := by simpa using htc
        clear hb6 hy6 hbw6 hw16 htc C1 C2 C4 t6
        have h1l : (1 : Int) ≤ (rest.length : Int) + 1 := by omega
        by_cases htc1 : tc = 1
        · have h := hT1 htc1
          have CK := Lib.hid (KEY.out _ _ h.2)
          have htc0 : (rest.length : Int) = 0 := by omega
          subst htc1
          clear h hT1 hT2 htc' KEY
          go_wp2_with fail
          rw [HW7.out]
          refine wp_region_noPanic ?_
          refine wp_region_S (fun w' => Below W7.heap.size W7 w') (fun _ => false) (by kernel_rfl) ?_
          obtain ⟨x0, hx0⟩ : ∃ x, W7.drew = x := ⟨_, rfl⟩
          rw [hx0]
          have hBx0 : Below W7.heap.size W7 x0 := by rw [← hx0]; exact Below.drew (Below.refl _ _)
          clear hx0
          refine wpAnyS_take 0 (v := ?_) (by kernel_rfl) (by kernel_rfl) (by kernel_rfl) (by kernel_rfl) (fun _ _ _ _ h => h) hBx0 ?_ ?_
          rotate_left
          · (intro oi ho; simp at ho; subst ho; refine Or.inl ⟨by rfl, fun w' hw' => ?_⟩; go_simp; try with_reducible rfl)
          (intro d hd; simp at hd; subst hd; simp only [Act.put, List.setIfInBounds_toArray, List.set_cons_zero, List.set_cons_succ])
          refine wpAnyS_take 1 (v := ?_) (by kernel_rfl) (by kernel_rfl) (by kernel_rfl) (by kernel_rfl) (fun _ _ _ _ h => h) hBx0 ?_ ?_
          rotate_left
          · (intro oi ho; simp at ho; subst ho; refine Or.inl ⟨by rfl, fun w' hw' => ?_⟩; obtain ⟨i0, i1, i2, i3, i4⟩ := SX.out w' hw'; go_simp; try with_reducible rfl)
          (intro d hd; simp at hd; subst hd; simp only [Act.put, List.setIfInBounds_toArray, List.set_cons_zero, List.set_cons_succ])
          refine wpAnyS_take 2 (v := ?_) (by kernel_rfl) (by kernel_rfl) (by kernel_rfl) (by kernel_rfl) (fun _ _ _ _ h => h) hBx0 ?_ ?_
          rotate_left
          · (intro oi ho; simp at ho; subst ho; refine Or.inl ⟨by rfl, fun w' hw' => ?_⟩; go_simp; try with_reducible rfl)
          (intro d hd; simp at hd; subst hd; simp only [Act.put, List.setIfInBounds_toArray, List.set_cons_zero, List.set_cons_succ])
          refine wpAnyS_take 3 (v := ?_) (by kernel_rfl) (by kernel_rfl) (by kernel_rfl) (by kernel_rfl) (fun _ _ _ _ h => h) hBx0 ?_ ?_
          rotate_left
          · (intro oi ho; simp at ho; subst ho; refine Or.inl ⟨by rfl, fun w' hw' => ?_⟩; go_simp; try with_reducible rfl)
          (intro d hd; simp at hd; subst hd; simp only [Act.put, List.setIfInBounds_toArray, List.set_cons_zero, List.set_cons_succ])
          refine wpAnyS_take 4 (v := ?_) (by kernel_rfl) (by kernel_rfl) (by kernel_rfl) (by kernel_rfl) (fun _ _ _ _ h => h) hBx0 ?_ ?_
          rotate_left
          · (intro oi ho; simp at ho; subst ho; refine Or.inl ⟨by rfl, fun w' hw' => ?_⟩; obtain ⟨i0, i1, i2, i3, i4⟩ := SX.out w' hw'; go_simp; try with_reducible rfl)
          (intro d hd; simp at hd; subst hd; simp only [Act.put, List.setIfInBounds_toArray, List.set_cons_zero, List.set_cons_succ])
          refine wpAnyS_take 5 (v := ?_) (by kernel_rfl) (by kernel_rfl) (by kernel_rfl) (by kernel_rfl) (fun _ _ _ _ h => h) hBx0 ?_ ?_
          rotate_left
          · (intro oi ho; simp at ho; subst ho; refine Or.inl ⟨by rfl, fun w' hw' => ?_⟩; go_simp; try with_reducible rfl)
          (intro d hd; simp at hd; subst hd; simp only [Act.put, List.setIfInBounds_toArray, List.set_cons_zero, List.set_cons_succ])
          refine wpAnyS_one 6 (by kernel_rfl) ?_
          (intro o6 ho K' hK; simp at ho; subst ho)
          go_simp
          go_at_call 35
          (with_reducible refine (CK.out x0 hBx0).mono ?_)
          rintro en x1 ⟨rfl, hb⟩
          have hBx1 : Below W7.heap.size W7 x1 := hBx0.trans (hb.mono hBx0.size)
          have hbx1 := Lib.hid hb; clear hb
          refine hK.out _ _ (fun _ => ?_) ?_
          · exact hBx1
          clear hK K'
          (try simp only [Act.put, List.setIfInBounds_toArray, List.set_cons_zero, List.set_cons_succ])
          refine wpAnyS_take 7 (v := ?_) (by kernel_rfl) (by kernel_rfl) (by kernel_rfl) (by kernel_rfl) (fun _ _ _ _ h => h) hBx1 ?_ ?_
          rotate_left
          · (intro oi ho; simp at ho; subst ho; refine Or.inl ⟨by rfl, fun w' hw' => ?_⟩; go_simp; try with_reducible rfl)
          (intro d hd; simp at hd; subst hd; simp only [Act.put, List.setIfInBounds_toArray, List.set_cons_zero, List.set_cons_succ])
          refine wpAnyS_take 8 (v := ?_) (by kernel_rfl) (by kernel_rfl) (by kernel_rfl) (by kernel_rfl) (fun _ _ _ _ h => h) hBx1 ?_ ?_
          rotate_left
          · (intro oi ho; simp at ho; subst ho; refine Or.inl ⟨by rfl, fun w' hw' => ?_⟩; go_simp; try with_reducible rfl)
          (intro d hd; simp at hd; subst hd; simp only [Act.put, List.setIfInBounds_toArray, List.set_cons_zero, List.set_cons_succ])
          refine wpAnyS_one 9 (by kernel_rfl) ?_
          (intro o9 ho K' hK; simp at ho; subst ho)
          go_simp
          refine hK.out _ _ (fun _ => ?_) ?_
          · exact hBx1
          clear hK K'
          (try simp only [Act.put, List.setIfInBounds_toArray, List.set_cons_zero, List.set_cons_succ])
          refine wpAnyS_one 10 (by kernel_rfl) ?_
          (intro o10 ho K' hK; simp at ho; subst ho)
          go_simp
          refine hK.out _ _ (fun _ => ?_) ?_
          · exact hBx1
          clear hK K'
          (try simp only [Act.put, List.setIfInBounds_toArray, List.set_cons_zero, List.set_cons_succ])
          refine wpAnyS_done (by kernel_rfl) (NoPanic.normal ?_) _
          go_wp2_with fail
          go_ret2
          exact ⟨rfl, HB7.out.trans (hBx1.mono HB7.out.size)⟩
        · have CK := Lib.hid (KEY.out _ _ (hT2 htc1))
          clear hT1 hT2 KEY
          go_wp2_with fail
          rw [HW7.out]
          refine wp_region_noPanic ?_
          refine wp_region_S (fun w' => Below W7.heap.size W7 w') (fun _ => false) (by kernel_rfl) ?_
          obtain ⟨x0, hx0⟩ : ∃ x, W7.drew = x := ⟨_, rfl⟩
          rw [hx0]
          have hBx0 : Below W7.heap.size W7 x0 := by rw [← hx0]; exact Below.drew (Below.refl _ _)
          clear hx0
          refine wpAnyS_take 0 (v := ?_) (by kernel_rfl) (by kernel_rfl) (by kernel_rfl) (by kernel_rfl) (fun _ _ _ _ h => h) hBx0 ?_ ?_
          rotate_left
          · (intro oi ho; simp at ho; subst ho; refine Or.inl ⟨by rfl, fun w' hw' => ?_⟩; go_simp; try with_reducible rfl)
          (intro d hd; simp at hd; subst hd; simp only [Act.put, List.setIfInBounds_toArray, List.set_cons_zero, List.set_cons_succ])
          refine wpAnyS_take 1 (v := ?_) (by kernel_rfl) (by kernel_rfl) (by kernel_rfl) (by kernel_rfl) (fun _ _ _ _ h => h) hBx0 ?_ ?_
          rotate_left
          · (intro oi ho; simp at ho; subst ho; refine Or.inl ⟨by rfl, fun w' hw' => ?_⟩; obtain ⟨i0, i1, i2, i3, i4⟩ := SX.out w' hw'; go_simp; try with_reducible rfl)
          (intro d hd; simp at hd; subst hd; simp only [Act.put, List.setIfInBounds_toArray, List.set_cons_zero, List.set_cons_succ])
          refine wpAnyS_take 2 (v := ?_) (by kernel_rfl) (by kernel_rfl) (by kernel_rfl) (by kernel_rfl) (fun _ _ _ _ h => h) hBx0 ?_ ?_
          rotate_left
          · (intro oi ho; simp at ho; subst ho; refine Or.inl ⟨by rfl, fun w' hw' => ?_⟩; go_simp; try with_reducible rfl)
          (intro d hd; simp at hd; subst hd; simp only [Act.put, List.setIfInBounds_toArray, List.set_cons_zero, List.set_cons_succ])
          refine wpAnyS_take 3 (v := ?_) (by kernel_rfl) (by kernel_rfl) (by kernel_rfl) (by kernel_rfl) (fun _ _ _ _ h => h) hBx0 ?_ ?_
          rotate_left
          · (intro oi ho; simp at ho; subst ho; refine Or.inl ⟨by rfl, fun w' hw' => ?_⟩; go_simp; try with_reducible rfl)
          (intro d hd; simp at hd; subst hd; simp only [Act.put, List.setIfInBounds_toArray, List.set_cons_zero, List.set_cons_succ])
          refine wpAnyS_take 4 (v := ?_) (by kernel_rfl) (by kernel_rfl) (by kernel_rfl) (by kernel_rfl) (fun _ _ _ _ h => h) hBx0 ?_ ?_
          rotate_left
          · (intro oi ho; simp at ho; subst ho; refine Or.inl ⟨by rfl, fun w' hw' => ?_⟩; obtain ⟨i0, i1, i2, i3, i4⟩ := SX.out w' hw'; go_simp; try with_reducible rfl)
          (intro d hd; simp at hd; subst hd; simp only [Act.put, List.setIfInBounds_toArray, List.set_cons_zero, List.set_cons_succ])
          refine wpAnyS_take 5 (v := ?_) (by kernel_rfl) (by kernel_rfl) (by kernel_rfl) (by kernel_rfl) (fun _ _ _ _ h => h) hBx0 ?_ ?_
          rotate_left
          · (intro oi ho; simp at ho; subst ho; refine Or.inl ⟨by rfl, fun w' hw' => ?_⟩; go_simp; try with_reducible rfl)
          (intro d hd; simp at hd; subst hd; simp only [Act.put, List.setIfInBounds_toArray, List.set_cons_zero, List.set_cons_succ])
          refine wpAnyS_one 6 (by kernel_rfl) ?_
          (intro o6 ho K' hK; simp at ho; subst ho)
          go_simp
          go_at_call 35
          (with_reducible refine (CK.out x0 hBx0).mono ?_)
          rintro en x1 ⟨rfl, hb⟩
          have hBx1 : Below W7.heap.size W7 x1 := hBx0.trans (hb.mono hBx0.size)
          have hbx1 := Lib.hid hb; clear hb
          refine hK.out _ _ (fun _ => ?_) ?_
          · exact hBx1
          clear hK K'
          (try simp only [Act.put, List.setIfInBounds_toArray, List.set_cons_zero, List.set_cons_succ])
          refine wpAnyS_take 7 (v := ?_) (by kernel_rfl) (by kernel_rfl) (by kernel_rfl) (by kernel_rfl) (fun _ _ _ _ h => h) hBx1 ?_ ?_
          rotate_left
          · (intro oi ho; simp at ho; subst ho; refine Or.inl ⟨by rfl, fun w' hw' => ?_⟩; go_simp; try with_reducible rfl)
          (intro d hd; simp at hd; subst hd; simp only [Act.put, List.setIfInBounds_toArray, List.set_cons_zero, List.set_cons_succ])
          refine wpAnyS_take 8 (v := ?_) (by kernel_rfl) (by kernel_rfl) (by kernel_rfl) (by kernel_rfl) (fun _ _ _ _ h => h) hBx1 ?_ ?_
          rotate_left
          · (intro oi ho; simp at ho; subst ho; refine Or.inl ⟨by rfl, fun w' hw' => ?_⟩; go_simp; try with_reducible rfl)
          (intro d hd; simp at hd; subst hd; simp only [Act.put, List.setIfInBounds_toArray, List.set_cons_zero, List.set_cons_succ])
          refine wpAnyS_one 9 (by kernel_rfl) ?_
          (intro o9 ho K' hK; simp at ho; subst ho)
          go_simp
          refine hK.out _ _ (fun _ => ?_) ?_
          · exact hBx1
          clear hK K'
          (try simp only [Act.put, List.setIfInBounds_toArray, List.set_cons_zero, List.set_cons_succ])
          refine wpAnyS_one 10 (by kernel_rfl) ?_
          (intro o10 ho K' hK; simp at ho; subst ho)
          go_simp
          refine hK.out _ _ (fun _ => ?_) ?_
          · exact hBx1
          clear hK K'
          (try simp only [Act.put, List.setIfInBounds_toArray, List.set_cons_zero, List.set_cons_succ])
          refine wpAnyS_done (by kernel_rfl) (NoPanic.normal ?_) _
          go_wp2_with fail
          go_ret2
          exact ⟨rfl, HB7.out.trans (hBx1.mono HB7.out.size)⟩

end Go.Proofs.YtibnnbdpfkgfhaaGreatDoor

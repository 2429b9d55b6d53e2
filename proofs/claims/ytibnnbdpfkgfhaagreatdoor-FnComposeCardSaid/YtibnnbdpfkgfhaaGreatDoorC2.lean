/- The walk of the reference's ComposeOf. -/
import Derived.Test.YtibnnbdpfkgfhaaGreatDoorB14
import Derived.Test.YtibnnbdpfkgfhaaGreatDoorP16
namespace Go.Proofs.YtibnnbdpfkgfhaaGreatDoor
open Go.RowKit

/-- What the applying machine asks of what stands for the levels where strategies are composed. -/
structure CMP (x y : Ty) (f g : Bd) (z : Ty) : Prop where
  fit : EvFit (x :: z.args) g (composeEnv x y f z.args) []
  ok : okMs (1000000 - 16 * 20000) (composeEnv x y f z.args)
  wf : wfB g
  wfe : wfMs (composeEnv x y f z.args)
theorem CMP.mk' {x y z : Ty} {f g : Bd} {m n : Bs} (hx : atomsT x ≤ 15) (hy : atomsT y ≤ 15) (hz : atomsT z ≤ 15) (hf : specStrat (textT (arrowT x y)) m = some f) (hg : specStrat (textT (arrowT y z)) n = some g) : CMP x y f g z := by
  have h1 : atomsT (arrowT x y) ≤ 15 := by
    rcases Nat.lt_or_ge 15 (atomsT (arrowT x y)) with h | h
    · rw [specStrat_big h] at hf; simp at hf
    · exact h
  have h2 : atomsT (arrowT y z) ≤ 15 := by
    rcases Nat.lt_or_ge 15 (atomsT (arrowT y z)) with h | h
    · rw [specStrat_big h] at hg; simp at hg
    · exact h
  have gf := (specStrat_good hf).1
  have gg := (specStrat_good hg).1
  rw [specType_text h1] at gf
  rw [specType_text h2] at gg
  have k1 : fitB (x :: y.args) f := gf.fit
  have k2 : fitB (y :: z.args) g := gg.fit
  refine ⟨composeEnv_fit k1 k2, ?_, gg.wf, composeEnv_wf gf.wf⟩
  have hzs := args_atoms hz
  exact ⟨by rw [okM]; exact ⟨hy, by simp, by rw [okMs, okM]; exact ⟨⟨hx, by omega⟩, trivial⟩⟩, okMs_opens _ _ hzs.1 (by omega)⟩
theorem CMP.small {x y z : Ty} {f g : Bd} (h : CMP x y f g z) (h15 : atomsT (arrowT x z) ≤ 15) {q : Bd} (hq : writes g (composeEnv x y f z.args) (1 + z.args.length) = some q) : sizeB q ≤ 1000 ∧ lvB q := by
  have el : (arrowT x z).args.length = 1 + z.args.length := by show (x :: z.args).length = _; simp; omega
  rw [← el] at hq
  exact writes_ok h15 h.fit hq

theorem specType_len {l : Bs} (h : (specType l).2 = true) : l.length ≤ 100 := by
  rcases Nat.lt_or_ge 100 l.length with h1 | h1
  · have e : specType l = (.mk [], false) := by unfold specType; rw [if_pos h1]
    rw [e] at h; simp at h
  · exact h1

set_option maxRecDepth 100000 in
set_option maxHeartbeats 8000000 in
theorem specCompose_any (a b c m n : Bs) (w : World) (ha : Lim a.length) (hb : Lim b.length) (hc : Lim c.length) (hm : Lim m.length) (hn : Lim n.length) :
    Calls Tryz.prog 10 #[str a, str b, str c, str m, str n] w (TxtPost (specCompose a b c m n) w) := by
  have C1 := Lib.hid (l1Type_any a ha w)
  have C2 := Lib.hid (fun wz => l1Type_any b hb wz)
  have C3 := Lib.hid (fun wz => l1Type_any c hc wz)
  have HSP : Hid (specCompose a b c m n = if (specType a).2 = true ∧ (specType b).2 = true ∧ (specType c).2 = true then
    (specStrat (arrowText a b) m).bind fun f => (specStrat (arrowText b c) n).bind fun g =>
      if 15 < atomsT (arrowT (specType a).1 (specType c).1) then none else
      wrOf (arrowT (specType a).1 (specType c).1) (writes g (composeEnv (specType a).1 (specType b).1 f (specType c).1.args) (1 + (specType c).1.args.length))
  else none) := rfl
  have HC1 := Lib.hid (fun h => specType_ok (l := a) h)
  have HC2 := Lib.hid (fun h => specType_ok (l := b) h)
  have HC3 := Lib.hid (fun h => specType_ok (l := c) h)
  have HL1 := Lib.hid (fun h => specType_len (l := a) h)
  have HL2 := Lib.hid (fun h => specType_len (l := b) h)
  have HL3 := Lib.hid (fun h => specType_len (l := c) h)
  have AB := Lib.hid (show arrowText a b = [40, 62, 32] ++ a ++ [32] ++ b ++ [41] from rfl)
  have BC := Lib.hid (show arrowText b c = [40, 62, 32] ++ b ++ [32] ++ c ++ [41] from rfl)
  generalize specCompose a b c m n = R at *
  generalize arrowText a b = ab at *
  generalize arrowText b c = bc at *
  go_enter Tryz.func10, Tryz.ntmps10
  go_wp2_with fail
  (with_reducible refine C1.out.mono ?_)
  rintro en w1 ⟨v1, rfl, hb1, hr1⟩
  generalize hx : (specType a).1 = x at *
  generalize hp : (specType a).2 = p at *
  obtain ⟨xa, xc, rfl⟩ := encS_slice hr1
  have H1 := Lib.hid (And.intro hb1 (And.intro hr1 (And.intro hx hp))); clear hb1 hr1 hx hp
  obtain ⟨W1, hW1⟩ : ∃ W, w1.alloc (.cells #[.slice xa x.args.length xc] 46) = W := ⟨_, rfl⟩
  have bX : W1.heap[w1.heap.size]? = some (.cells #[.slice xa x.args.length xc] 46 (0, 0)) := by rw [← hW1]; exact heap_new _ _
  have hbW1 : Below w.heap.size w W1 := by rw [← hW1]; exact H1.out.1.alloc H1.out.1.size _
  have hrW1 : Rep (w.heap.size ≤ ·) W1 (encS x) (.slice xa x.args.length xc) := by rw [← hW1]; exact (Rep.keep fun i o hi ho => ⟨hi, heap_past ho⟩).1 _ _ H1.out.2.1
  have HW1 := Lib.hid (And.intro hW1 (And.intro bX (And.intro hbW1 hrW1))); clear hW1 bX hbW1 hrW1
  go_wp2_with fail
  rw [HW1.out.1]
  (with_reducible refine (C2.out W1).mono ?_)
  rintro en w2 ⟨v2, rfl, hb2, hr2⟩
  generalize hy : (specType b).1 = y at *
  generalize hq : (specType b).2 = q at *
  obtain ⟨ya, yc, rfl⟩ := encS_slice hr2
  obtain ⟨W2, hW2⟩ : ∃ W, w2.alloc (.cells #[.slice ya y.args.length yc] 46) = W := ⟨_, rfl⟩
  have hb12 : Below W1.heap.size W1 W2 := by rw [← hW2]; exact hb2.alloc hb2.size _
  have bX2 := (hb12.block _ (lt_of_heap HW1.out.2.1)).trans HW1.out.2.1
  have bY : W2.heap[w2.heap.size]? = some (.cells #[.slice ya y.args.length yc] 46 (0, 0)) := by rw [← hW2]; exact heap_new _ _
  have hbW2 : Below w.heap.size w W2 := HW1.out.2.2.1.trans (hb12.mono HW1.out.2.2.1.size)
  have hrx2 : Rep (w.heap.size ≤ ·) W2 (encS x) (.slice xa x.args.length xc) := Rep.below hb12 (fun _ h => h) HW1.out.2.2.2
  have hry2 : Rep (w.heap.size ≤ ·) W2 (encS y) (.slice ya y.args.length yc) := by rw [← hW2]; exact (Rep.keep fun i o hi ho => ⟨Nat.le_trans HW1.out.2.2.1.size hi, heap_past ho⟩).1 _ _ hr2
  have HW2 := Lib.hid (And.intro hW2 (And.intro bX2 (And.intro bY (And.intro hbW2 (And.intro hrx2 (And.intro hry2 (And.intro hy hq))))))); clear hW2 hb12 bX2 bY hbW2 hrx2 hry2 hy hq hb2 hr2 C1 C2
  go_wp2_with fail
  rw [HW2.out.1]
  (with_reducible refine (C3.out W2).mono ?_)
  rintro en w3 ⟨v3, rfl, hb3, hr3⟩
  generalize hz : (specType c).1 = z at *
  generalize hr : (specType c).2 = r at *
  obtain ⟨za, zc, rfl⟩ := encS_slice hr3
  obtain ⟨W3, hW3⟩ : ∃ W, w3.alloc (.cells #[.slice za z.args.length zc] 46) = W := ⟨_, rfl⟩
  have hb23 : Below W2.heap.size W2 W3 := by rw [← hW3]; exact hb3.alloc hb3.size _
  have bX3 := (hb23.block _ (lt_of_heap HW2.out.2.1)).trans HW2.out.2.1
  have bY3 := (hb23.block _ (lt_of_heap HW2.out.2.2.1)).trans HW2.out.2.2.1
  have bZ : W3.heap[w3.heap.size]? = some (.cells #[.slice za z.args.length zc] 46 (0, 0)) := by rw [← hW3]; exact heap_new _ _
  have hbW3 : Below w.heap.size w W3 := HW2.out.2.2.2.1.trans (hb23.mono HW2.out.2.2.2.1.size)
  have hrx3 : Rep (w.heap.size ≤ ·) W3 (encS x) (.slice xa x.args.length xc) := Rep.below hb23 (fun _ h => h) HW2.out.2.2.2.2.1
  have hry3 : Rep (w.heap.size ≤ ·) W3 (encS y) (.slice ya y.args.length yc) := Rep.below hb23 (fun _ h => h) HW2.out.2.2.2.2.2.1
  have hrz3 : Rep (w.heap.size ≤ ·) W3 (encS z) (.slice za z.args.length zc) := by rw [← hW3]; exact (Rep.keep fun i o hi ho => ⟨Nat.le_trans HW2.out.2.2.2.1.size hi, heap_past ho⟩).1 _ _ hr3
  have HW3 := Lib.hid (And.intro hW3 (And.intro hbW3 (And.intro bX3 (And.intro bY3 (And.intro bZ (And.intro hrx3 (And.intro hry3 hrz3))))))); have HZ := Lib.hid (And.intro hz hr)
  clear hW3 hb23 bX3 bY3 bZ hbW3 hrx3 hry3 hrz3 hz hr hb3 hr3 C3
  by_cases hall : p = true ∧ q = true ∧ r = true
  rotate_left
  · have hR : R = none := by rw [HSP.out, if_neg hall]
    have HR := Lib.hid hR; clear hR
    have hcase : p = false ∨ (p = true ∧ q = false) ∨ (p = true ∧ q = true ∧ r = false) := by
      cases p <;> cases q <;> cases r <;> simp at hall ⊢
    clear hall
    rcases hcase with rfl | ⟨rfl, rfl⟩ | ⟨rfl, rfl, rfl⟩
    all_goals
      go_wp2_with fail
      rw [HW3.out.1]
      go_ret2
      rw [HR.out]
      exact ⟨rfl, HW3.out.2.1⟩
  · obtain ⟨rfl, rfl, rfl⟩ := hall
    have h15x := HC1.out rfl
    have h15y := HC2.out rfl
    have h15z := HC3.out rfl
    have hR1 : R = (specStrat ab m).bind fun f => (specStrat bc n).bind fun g => if 15 < atomsT (arrowT x z) then none else
        wrOf (arrowT x z) (writes g (composeEnv x y f z.args) (1 + z.args.length)) := by rw [HSP.out, if_pos ⟨rfl, rfl, rfl⟩]
    have HR1 := Lib.hid hR1; clear hR1 HSP HC1 HC2 HC3
    have ha' := HL1.out rfl; have hb' := HL2.out rfl; have hc' := HL3.out rfl
    clear HL1 HL2 HL3
    obtain ⟨O1, hO1⟩ : ∃ O : Bs, O = [40, 62, 32] ++ a := ⟨_, rfl⟩
    obtain ⟨O2, hO2⟩ : ∃ O : Bs, O = O1 ++ [32] := ⟨_, rfl⟩
    obtain ⟨O3, hO3⟩ : ∃ O : Bs, O = O2 ++ b := ⟨_, rfl⟩
    have hab : ab = O3 ++ [41] := by rw [AB.out, hO3, hO2, hO1]
    have l1 : O1.length = 3 + a.length := by rw [hO1]; simp; omega
    have l2 : O2.length = 4 + a.length := by rw [hO2, List.length_append, l1]; simp; omega
    have l3 : O3.length = 4 + a.length + b.length := by rw [hO3, List.length_append, l2]
    have l4 : ab.length = 5 + a.length + b.length := by rw [hab, List.length_append, l3]; simp; omega
    have s1 := fun w0 => add_str (P := Tryz.prog) [40, 62, 32] a (by simp; omega) w0
    rw [← hO1] at s1
    have s2 := fun w0 => add_str (P := Tryz.prog) O1 [32] (by simp; omega) w0
    rw [← hO2] at s2
    have s3 := fun w0 => add_str (P := Tryz.prog) O2 b (by omega) w0
    rw [← hO3] at s3
    have s4 := fun w0 => add_str (P := Tryz.prog) O3 [41] (by simp; omega) w0
    rw [← hab] at s4
    have hLab : Lim ab.length := show _ ≤ _ by omega
    have CA := Lib.hid (l3Strategy_any ab m hLab hm W3)
    clear hO1 hO2 hO3 hab l1 l2 l3 l4
    go_wp2_with fail
    rw [HW3.out.1]
    (with_reducible refine CA.out.mono ?_)
    rintro en w4 ⟨fa, fc, fs, fv, fa2, fn2, fc2, fa3, fn3, fc3, rfl, hb4, -, hrs4⟩
    obtain ⟨W4, hW4⟩ : ∃ W, (w4.alloc (.cells #[.slice fa (specType ab).1.args.length fc] 46)).alloc (.cells #[str fs, .int .i64 fv, .slice fa2 fn2 fc2, .slice fa3 fn3 fc3] 51) = W := ⟨_, rfl⟩
    have hb34 : Below W3.heap.size W3 W4 := by rw [← hW4]; exact (hb4.alloc hb4.size _).alloc (by rw [size_alloc]; exact Nat.le_succ_of_le hb4.size) _
    have bF4 : W4.heap[w4.heap.size + 1]? = some (.cells #[str fs, .int .i64 fv, .slice fa2 fn2 fc2, .slice fa3 fn3 fc3] 51 (0, 0)) := by
      have := heap_new (w4.alloc (.cells #[.slice fa (specType ab).1.args.length fc] 46)) (.cells #[str fs, .int .i64 fv, .slice fa2 fn2 fc2, .slice fa3 fn3 fc3] 51)
      rw [size_alloc, hW4] at this; exact this
    have hrf4 : ∀ f, specStrat ab m = some f → Reps (w.heap.size ≤ ·) W4 (encN f) [str fs, .int .i64 fv, .slice fa2 fn2 fc2, .slice fa3 fn3 fc3] := fun f hf => by
      rw [← hW4]; exact (Rep.keep fun i o hi ho => ⟨Nat.le_trans HW3.out.2.1.size hi, heap_past (heap_past ho)⟩).2 _ _ (hrs4 f hf)
    obtain ⟨P1, hP1⟩ : ∃ O : Bs, O = [40, 62, 32] ++ b := ⟨_, rfl⟩
    obtain ⟨P2, hP2⟩ : ∃ O : Bs, O = P1 ++ [32] := ⟨_, rfl⟩
    obtain ⟨P3, hP3⟩ : ∃ O : Bs, O = P2 ++ c := ⟨_, rfl⟩
    have hbc : bc = P3 ++ [41] := by rw [BC.out, hP3, hP2, hP1]
    have l1 : P1.length = 3 + b.length := by rw [hP1]; simp; omega
    have l2 : P2.length = 4 + b.length := by rw [hP2, List.length_append, l1]; simp; omega
    have l3 : P3.length = 4 + b.length + c.length := by rw [hP3, List.length_append, l2]
    have l4 : bc.length = 5 + b.length + c.length := by rw [hbc, List.length_append, l3]; simp; omega
    have r1 := fun w0 => add_str (P := Tryz.prog) [40, 62, 32] b (by simp; omega) w0
    rw [← hP1] at r1
    have r2 := fun w0 => add_str (P := Tryz.prog) P1 [32] (by simp; omega) w0
    rw [← hP2] at r2
    have r3 := fun w0 => add_str (P := Tryz.prog) P2 c (by omega) w0
    rw [← hP3] at r3
    have r4 := fun w0 => add_str (P := Tryz.prog) P3 [41] (by simp; omega) w0
    rw [← hbc] at r4
    have hLbc : Lim bc.length := show _ ≤ _ by omega
    have CB := Lib.hid (l3Strategy_any bc n hLbc hn W4)
    have H4 := Lib.hid (And.intro hW4 (And.intro hb34 (And.intro bF4 hrf4)))
    clear hP1 hP2 hP3 hbc l1 l2 l3 l4 hW4 hb34 bF4 hrf4 hb4 hrs4 s1 s2 s3 s4 CA
    go_wp2_with fail
    rw [H4.out.1]
    (with_reducible refine CB.out.mono ?_)
    rintro en w5 ⟨ga, gc, gs, gv, ga2, gn2, gc2, ga3, gn3, gc3, rfl, hb5, -, hrs5⟩
    obtain ⟨W5, hW5⟩ : ∃ W, (w5.alloc (.cells #[.slice ga (specType bc).1.args.length gc] 46)).alloc (.cells #[str gs, .int .i64 gv, .slice ga2 gn2 gc2, .slice ga3 gn3 gc3] 51) = W := ⟨_, rfl⟩
    have hb45 : Below W4.heap.size W4 W5 := by rw [← hW5]; exact (hb5.alloc hb5.size _).alloc (by rw [size_alloc]; exact Nat.le_succ_of_le hb5.size) _
    have hb35 : Below W3.heap.size W3 W5 := H4.out.2.1.trans (hb45.mono H4.out.2.1.size)
    have hbW5 : Below w.heap.size w W5 := HW3.out.2.1.trans (hb35.mono HW3.out.2.1.size)
    have bG5 : W5.heap[w5.heap.size + 1]? = some (.cells #[str gs, .int .i64 gv, .slice ga2 gn2 gc2, .slice ga3 gn3 gc3] 51 (0, 0)) := by
      have := heap_new (w5.alloc (.cells #[.slice ga (specType bc).1.args.length gc] 46)) (.cells #[str gs, .int .i64 gv, .slice ga2 gn2 gc2, .slice ga3 gn3 gc3] 51)
      rw [size_alloc, hW5] at this; exact this
    have hrg5 : ∀ g, specStrat bc n = some g → Reps (w.heap.size ≤ ·) W5 (encN g) [str gs, .int .i64 gv, .slice ga2 gn2 gc2, .slice ga3 gn3 gc3] := fun g hg => by
      rw [← hW5]; exact (Rep.keep fun i o hi ho => ⟨Nat.le_trans HW3.out.2.1.size (Nat.le_trans H4.out.2.1.size hi), heap_past (heap_past ho)⟩).2 _ _ (hrs5 g hg)
    have hrf5 : ∀ f, specStrat ab m = some f → Reps (w.heap.size ≤ ·) W5 (encN f) [str fs, .int .i64 fv, .slice fa2 fn2 fc2, .slice fa3 fn3 fc3] := fun f hf => Reps.below hb45 (fun _ h => h) (H4.out.2.2.2 f hf)
    have bF5 := (hb45.block _ (lt_of_heap H4.out.2.2.1)).trans H4.out.2.2.1
    have bX5 := (hb35.block _ (lt_of_heap HW3.out.2.2.1)).trans HW3.out.2.2.1
    have bY5 := (hb35.block _ (lt_of_heap HW3.out.2.2.2.1)).trans HW3.out.2.2.2.1
    have bZ5 := (hb35.block _ (lt_of_heap HW3.out.2.2.2.2.1)).trans HW3.out.2.2.2.2.1
    have hrx5 := Rep.below (F' := fun i => w.heap.size ≤ i) hb35 (fun _ h => h) HW3.out.2.2.2.2.2.1
    have hry5 := Rep.below (F' := fun i => w.heap.size ≤ i) hb35 (fun _ h => h) HW3.out.2.2.2.2.2.2.1
    have hrz5 := Rep.below (F' := fun i => w.heap.size ≤ i) hb35 (fun _ h => h) HW3.out.2.2.2.2.2.2.2
    have hrz5' := hrz5
    rw [encS_eq] at hrz5'
    obtain ⟨zxs, hzxs, hzsrc⟩ := SrcSl.ofRep hrz5' (oneCell_encSs _)
    have x5 : W5.cell? ⟨w1.heap.size, 0, none⟩ = some (.slice xa x.args.length xc) := by simp [World.cell?, bX5]
    have y5 : W5.cell? ⟨w2.heap.size, 0, none⟩ = some (.slice ya y.args.length yc) := by simp [World.cell?, bY5]
    have z5 : W5.cell? ⟨w3.heap.size, 0, none⟩ = some (.slice za z.args.length zc) := by simp [World.cell?, bZ5]
    have hlz := (args_atoms h15z).2
    have H5 := Lib.hid (And.intro hW5 (And.intro hbW5 (And.intro bF5 (And.intro bG5 (And.intro hrf5 (And.intro hrg5 (And.intro hrx5 (And.intro hry5 (And.intro hrz5 (And.intro hzxs hzsrc))))))))))
    have HB5 := Lib.hid (And.intro bX5 (And.intro bY5 bZ5))
    clear hW5 hb45 hb35 hbW5 bG5 hrg5 hrf5 bF5 bX5 bY5 bZ5 hrx5 hry5 hrz5 hrz5' hzxs hzsrc hb5 hrs5 CB r1 r2 r3 r4
    go_upto_region 8 with (fail)
    rw [H5.out.1]
    have z5' : (W5.alloc (.cells #[.slice xa x.args.length xc] 46)).cell? ⟨w3.heap.size, 0, none⟩ = some (.slice za z.args.length zc) := cell_alloc z5
    go_wp2_with (at_builtin; refine wpList_append_gen rfl _ _ 44 rfl 46 (.agg #[.slice none 0 0]) 1 24 Tryz.underlying44 Tryz.infoS rfl (by decide) (.slice (some ⟨W5.heap.size, 0, none⟩) 1 1) 1 [.slice xa x.args.length xc] rfl (Own.litAt #[.slice xa x.args.length xc] 1 _ rfl (by decide) rfl) _ z.args.length zxs rfl (H5.out.2.2.2.2.2.2.2.2.2.2.alloc _) (by unfold maxLen; omega) (by omega) ?_)
    intro a6 c6 w6 ho6 hb6 hg6
    have hb56 : Below W5.heap.size W5 w6 := ((Below.refl _ _).alloc (Nat.le_refl _) _).trans (hb6.toBelow (by rw [size_alloc]; omega) fun i hi e => by simp [Value.ownBlock] at e; omega)
    have hg6' : ∀ g, (Value.slice a6 (1 + z.args.length) c6).ownBlock = some g → W5.heap.size ≤ g := fun g hg => by
      rcases hg6 g hg with h | h
      · simp [Value.ownBlock] at h; omega
      · first | omega | (rw [size_alloc] at h; omega) | (simp [World.alloc] at h; omega)
    have hrw6 : Rep (w.heap.size ≤ ·) w6 (encS (arrowT x z)) (.slice a6 (1 + z.args.length) c6) := by
      rw [encS_eq]
      have el : (arrowT x z).args.length = 1 + z.args.length := by show (x :: z.args).length = _; simp; omega
      rw [el]
      refine ho6.rep (fun g hg => Nat.le_trans H5.out.2.1.size (hg6' g hg)) ?_
      show Reps _ w6 (encSs (x :: z.args)) _
      rw [encSs]
      exact Reps_cons.2 ⟨_, _, rfl, Rep.below hb56 (fun _ h => h) H5.out.2.2.2.2.2.2.1, Reps.below hb56 (fun _ h => h) H5.out.2.2.2.2.2.2.2.2.2.1⟩
    have H6 := Lib.hid (And.intro hb56 hrw6); clear ho6 hb6 hg6 hb56 hg6' hrw6
    go_upto_region 9 with (fail)
    have hbE : Below w.heap.size w (w6.alloc (.cells #[.slice a6 (1 + z.args.length) c6] 46)) := (H5.out.2.1.trans (H6.out.1.mono H5.out.2.1.size)).alloc (Nat.le_trans H5.out.2.1.size H6.out.1.size) _
    have HE := Lib.hid hbE; clear hbE
    cases hf : specStrat ab m with
    | none =>
      have hR : R = none := by rw [HR1.out, hf]; rfl
      have HR := Lib.hid hR; clear hR
      rw [Option.isSome_none]
      go_wp2_with fail
      go_ret2
      rw [HR.out]
      exact ⟨rfl, HE.out⟩
    | some f =>
      rw [show (some f).isSome = true from rfl]
      cases hg : specStrat bc n with
      | none =>
        have hR : R = none := by rw [HR1.out, hf, hg]; rfl
        have HR := Lib.hid hR; clear hR
        rw [Option.isSome_none]
        go_wp2_with fail
        go_ret2
        rw [HR.out]
        exact ⟨rfl, HE.out⟩
      | some g =>
        rw [show (some g).isSome = true from rfl]
        have hat : atomsT (arrowT x z) = 1 + atomsT x + atomsT z := arrow_atoms x z
        have hrwE : Rep (w.heap.size ≤ ·) (w6.alloc (.cells #[.slice a6 (1 + z.args.length) c6] 46)) (encS (arrowT x z)) (.slice a6 (1 + z.args.length) c6) := (Rep.keep fun i o hi ho => ⟨hi, heap_past ho⟩).1 _ _ H6.out.2
        have CZ := Lib.hid (l1Size_any (atomsT (arrowT x z)) (arrowT x z) (Nat.le_refl _) (show _ ≤ _ by omega) (w.heap.size ≤ ·) _ _ hrwE)
        go_wp2_with fail
        (with_reducible refine CZ.out.mono ?_)
        rintro en w7 ⟨rfl, hb7⟩
        have hbE7 : Below w.heap.size w w7 := HE.out.trans (hb7.mono HE.out.size)
        have HE7 := Lib.hid hbE7; clear hbE7
        by_cases h9 : 15 < atomsT (arrowT x z)
        · have hR : R = none := by rw [HR1.out, hf, hg]; exact if_pos h9
          have HR := Lib.hid hR; clear hR
          have h9' : (15 : Int) < (atomsT (arrowT x z) : Int) := by omega
          go_wp2_with fail
          all_goals first | (exfalso; omega) | (go_ret2; rw [HR.out]; exact ⟨rfl, HE7.out⟩)
        · have h9' : ¬ (15 : Int) < (atomsT (arrowT x z) : Int) := by omega
          have hb57 : Below W5.heap.size W5 w7 := (H6.out.1.alloc H6.out.1.size _).trans (hb7.mono (by rw [size_alloc]; have := H6.out.1.size; omega))
          have b24 : w7.heap[w6.heap.size]? = some (.cells #[.slice a6 (1 + z.args.length) c6] 46 (0, 0)) := (hb7.block _ (by rw [size_alloc]; omega)).trans (heap_new _ _)
          have bX7 := (hb57.block _ (lt_of_heap HB5.out.1)).trans HB5.out.1
          have bY7 := (hb57.block _ (lt_of_heap HB5.out.2.1)).trans HB5.out.2.1
          have bZ7 := (hb57.block _ (lt_of_heap HB5.out.2.2)).trans HB5.out.2.2
          have bF7 := (hb57.block _ (lt_of_heap H5.out.2.2.1)).trans H5.out.2.2.1
          have bG7 := (hb57.block _ (lt_of_heap H5.out.2.2.2.1)).trans H5.out.2.2.2.1
          have x7 : w7.cell? ⟨w1.heap.size, 0, none⟩ = some (.slice xa x.args.length xc) := by simp [World.cell?, bX7]
          have y7 : w7.cell? ⟨w2.heap.size, 0, none⟩ = some (.slice ya y.args.length yc) := by simp [World.cell?, bY7]
          go_upto_region 11 with (first | (exfalso; omega) | fail)
          all_goals try (exfalso; omega)
          obtain ⟨W8, hW8⟩ : ∃ W, ((((w7.alloc (.cells #[.int .i64 200, .int .i64 0] 57)).alloc (.cells #[.int .i64 0, str [], .int .i64 0, .slice none 0 0, .slice none 0 0, .slice xa x.args.length xc, .slice none 0 0, .int .i64 0, .int .i64 0] 60)).alloc (.cells #[.int .i64 0, str [], .int .i64 0, .slice none 0 0, .slice none 0 0, .slice xa x.args.length xc, .slice none 0 0, .int .i64 0, .int .i64 0] 60)).alloc (.cells #[.int .i64 (-1), str fs, .int .i64 fv, .slice fa2 fn2 fc2, .slice fa3 fn3 fc3, .slice ya y.args.length yc, .slice (some ⟨w7.heap.size + 1 + 1, 0, none⟩) 1 1, .int .i64 0, .int .i64 0] 60)) = W := ⟨_, rfl⟩
          have hz8 : W8.heap.size = w7.heap.size + 4 := by rw [← hW8]; simp only [size_alloc]
          have hb78 : Below w7.heap.size w7 W8 := by rw [← hW8]; exact ((((Below.refl _ _).alloc (Nat.le_refl _) _).alloc (by simp only [size_alloc]; omega) _).alloc (by simp only [size_alloc]; omega) _).alloc (by simp only [size_alloc]; omega) _
          have bWr : Wri W8 w7.heap.size 200 0 := by unfold Wri; rw [← hW8]; exact heap_past (heap_past (heap_past (heap_new _ _)))
          have bRow : W8.heap[w7.heap.size + 2]? = some (.cells #[.int .i64 0, str [], .int .i64 0, .slice none 0 0, .slice none 0 0, .slice xa x.args.length xc, .slice none 0 0, .int .i64 0, .int .i64 0] 60 (0, 0)) := by
            rw [← hW8]; refine heap_past ?_
            have := heap_new ((w7.alloc (.cells #[.int .i64 200, .int .i64 0] 57)).alloc (.cells #[.int .i64 0, str [], .int .i64 0, .slice none 0 0, .slice none 0 0, .slice xa x.args.length xc, .slice none 0 0, .int .i64 0, .int .i64 0] 60)) (.cells #[.int .i64 0, str [], .int .i64 0, .slice none 0 0, .slice none 0 0, .slice xa x.args.length xc, .slice none 0 0, .int .i64 0, .int .i64 0] 60)
            simp only [size_alloc] at this
            exact this
          have bIn : W8.heap[w7.heap.size + 3]? = some (.cells #[.int .i64 (-1), str fs, .int .i64 fv, .slice fa2 fn2 fc2, .slice fa3 fn3 fc3, .slice ya y.args.length yc, .slice (some ⟨w7.heap.size + 1 + 1, 0, none⟩) 1 1, .int .i64 0, .int .i64 0] 60 (0, 0)) := by
            rw [← hW8]
            have := heap_new (((w7.alloc (.cells #[.int .i64 200, .int .i64 0] 57)).alloc (.cells #[.int .i64 0, str [], .int .i64 0, .slice none 0 0, .slice none 0 0, .slice xa x.args.length xc, .slice none 0 0, .int .i64 0, .int .i64 0] 60)).alloc (.cells #[.int .i64 0, str [], .int .i64 0, .slice none 0 0, .slice none 0 0, .slice xa x.args.length xc, .slice none 0 0, .int .i64 0, .int .i64 0] 60)) (.cells #[.int .i64 (-1), str fs, .int .i64 fv, .slice fa2 fn2 fc2, .slice fa3 fn3 fc3, .slice ya y.args.length yc, .slice (some ⟨w7.heap.size + 1 + 1, 0, none⟩) 1 1, .int .i64 0, .int .i64 0] 60)
            simp only [size_alloc] at this
            exact this
          have hcmp := HZ.out
          have bZ8 := (hb78.block _ (lt_of_heap bZ7)).trans bZ7
          have b24' := (hb78.block _ (lt_of_heap b24)).trans b24
          have bG8 := (hb78.block _ (lt_of_heap bG7)).trans bG7
          have hbw8 : Below w.heap.size w W8 := HE7.out.trans (hb78.mono HE7.out.size)
          have hb58 : Below W5.heap.size W5 W8 := hb57.trans (hb78.mono hb57.size)
          have hb68 : Below w6.heap.size w6 W8 := ((Below.refl _ _).alloc (Nat.le_refl _) _).trans ((hb7.mono (by rw [size_alloc]; omega)).trans (hb78.mono (by have := hb7.size; rw [size_alloc] at this; omega)))
          have hF8 : ∀ i, w.heap.size ≤ i → i < w7.heap.size → w.heap.size ≤ i ∧ i ≠ w7.heap.size := fun i h1 h2 => ⟨h1, by omega⟩
          have k5 : ∀ (i : Nat) (o : Obj), w.heap.size ≤ i → W5.heap[i]? = some o → (w.heap.size ≤ i ∧ i ≠ w7.heap.size) ∧ W8.heap[i]? = some o := fun i o hi ho => ⟨hF8 i hi (by have := lt_of_heap ho; have := hb57.size; omega), (hb58.block i (lt_of_heap ho)).trans ho⟩
          have hrf8 := (Rep.keep k5).2 _ _ (H5.out.2.2.2.2.1 f hf)
          have hrg8 := (Rep.keep k5).2 _ _ (H5.out.2.2.2.2.2.1 g hg)
          have hrx8 := (Rep.keep k5).1 _ _ H5.out.2.2.2.2.2.2.1
          have hry8 := (Rep.keep k5).1 _ _ H5.out.2.2.2.2.2.2.2.1
          have hrz8 := (Rep.keep k5).1 _ _ H5.out.2.2.2.2.2.2.2.2.1
          have hrw8 : Rep (fun i => w.heap.size ≤ i ∧ i ≠ w7.heap.size) W8 (encS (arrowT x z)) (.slice a6 (1 + z.args.length) c6) :=
            (Rep.keep fun i o hi ho => ⟨hF8 i hi (by have h1 := lt_of_heap ho; have h2 := hb7.size; rw [size_alloc] at h2; omega), (hb68.block i (lt_of_heap ho)).trans ho⟩).1 _ _ H6.out.2
          have hrz8s := hrz8
          rw [encS_eq] at hrz8s
          have C10 : Hid (∀ w', Below W8.heap.size W8 w' → Calls Tryz.prog 33 #[.slice za z.args.length zc, .int .i64 1] w' (FreshV w' 60 9 z.args.length fun w'' xs => Reps (fun i => (w.heap.size ≤ i ∧ i ≠ w7.heap.size) ∧ i < W8.heap.size) w'' (encWs (opens 1 z.args)) xs)) := by
            show ∀ w', _ → _
            intro w' hb'
            have C := l4Opens_any (fun i => (w.heap.size ≤ i ∧ i ≠ w7.heap.size) ∧ i < W8.heap.size) 1 z.args (.slice za z.args.length zc) w' (Rep.below hb' (fun _ h => h) hrz8s.low) (by omega) (by omega)
            rw [show ((1 : Nat) : Int) = 1 from rfl] at C
            exact C
          have SX : Hid (∀ w', Below W8.heap.size W8 w' → w'.cell? ⟨w7.heap.size + 1 + 1 + 1, 0, none⟩ = some (.int .i64 (-1)) ∧ w'.cell? ⟨w7.heap.size + 1 + 1 + 1, 1, none⟩ = some (str fs) ∧ w'.cell? ⟨w7.heap.size + 1 + 1 + 1, 2, none⟩ = some (.int .i64 fv) ∧ w'.cell? ⟨w7.heap.size + 1 + 1 + 1, 3, none⟩ = some (.slice fa2 fn2 fc2) ∧ w'.cell? ⟨w7.heap.size + 1 + 1 + 1, 4, none⟩ = some (.slice fa3 fn3 fc3) ∧
              w'.cell? ⟨w7.heap.size + 1 + 1 + 1, 5, none⟩ = some (.slice ya y.args.length yc) ∧ w'.cell? ⟨w7.heap.size + 1 + 1 + 1, 6, none⟩ = some (.slice (some ⟨w7.heap.size + 1 + 1, 0, none⟩) 1 1) ∧ w'.cell? ⟨w7.heap.size + 1 + 1 + 1, 7, none⟩ = some (.int .i64 0) ∧ w'.cell? ⟨w7.heap.size + 1 + 1 + 1, 8, none⟩ = some (.int .i64 0) ∧ w'.cell? ⟨w3.heap.size, 0, none⟩ = some (.slice za z.args.length zc)) := by
            show ∀ w', _ → _
            intro w' hb'
            have h := (hb'.block (w7.heap.size + 1 + 1 + 1) (by omega)).trans bIn
            have h2 := (hb'.block w3.heap.size (lt_of_heap bZ8)).trans bZ8
            simp [World.cell?, h, h2]
          have hcx : CMP x y f g z := by
            obtain ⟨hx, hp⟩ := And.intro H1.out.2.2.1 H1.out.2.2.2
            obtain ⟨hy, hq⟩ := And.intro HW2.out.2.2.2.2.2.2.1 HW2.out.2.2.2.2.2.2.2
            obtain ⟨hz, hr⟩ := hcmp
            have ea := (specType_canon hp).1; have eb := (specType_canon hq).1; have ec := (specType_canon hr).1
            rw [hx] at ea; rw [hy] at eb; rw [hz] at ec
            have e1 : ab = textT (arrowT x y) := by rw [← arrowText_eq, ← ea, ← eb]; exact AB.out
            have e2 : bc = textT (arrowT y z) := by rw [← arrowText_eq, ← eb, ← ec]; exact BC.out
            rw [e1] at hf; rw [e2] at hg
            exact CMP.mk' h15x h15y h15z hf hg
          have HR2 : Hid (R = wrOf (arrowT x z) (writes g (composeEnv x y f z.args) (1 + z.args.length))) := by show R = _; rw [HR1.out, hf, hg]; exact if_neg h9
          have x7a : (w7.alloc (.cells #[.int .i64 200, .int .i64 0] 57)).cell? ⟨w1.heap.size, 0, none⟩ = some (.slice xa x.args.length xc) := cell_alloc x7
          have y7a : ((w7.alloc (.cells #[.int .i64 200, .int .i64 0] 57)).alloc (.cells #[.int .i64 0, str [], .int .i64 0, .slice none 0 0, .slice none 0 0, .slice xa x.args.length xc, .slice none 0 0, .int .i64 0, .int .i64 0] 60)).cell? ⟨w2.heap.size, 0, none⟩ = some (.slice ya y.args.length yc) := cell_alloc (cell_alloc y7)
          obtain ⟨f0, f1, f2, f3⟩ := cells4 bF7
          have f0a : ((w7.alloc (.cells #[.int .i64 200, .int .i64 0] 57)).alloc (.cells #[.int .i64 0, str [], .int .i64 0, .slice none 0 0, .slice none 0 0, .slice xa x.args.length xc, .slice none 0 0, .int .i64 0, .int .i64 0] 60)).cell? ⟨w4.heap.size + 1, 0, none⟩ = some (str fs) := cell_alloc (cell_alloc f0)
          have f1a : ((w7.alloc (.cells #[.int .i64 200, .int .i64 0] 57)).alloc (.cells #[.int .i64 0, str [], .int .i64 0, .slice none 0 0, .slice none 0 0, .slice xa x.args.length xc, .slice none 0 0, .int .i64 0, .int .i64 0] 60)).cell? ⟨w4.heap.size + 1, 1, none⟩ = some (.int .i64 fv) := cell_alloc (cell_alloc f1)
          have f2a : ((w7.alloc (.cells #[.int .i64 200, .int .i64 0] 57)).alloc (.cells #[.int .i64 0, str [], .int .i64 0, .slice none 0 0, .slice none 0 0, .slice xa x.args.length xc, .slice none 0 0, .int .i64 0, .int .i64 0] 60)).cell? ⟨w4.heap.size + 1, 2, none⟩ = some (.slice fa2 fn2 fc2) := cell_alloc (cell_alloc f2)
          have f3a : ((w7.alloc (.cells #[.int .i64 200, .int .i64 0] 57)).alloc (.cells #[.int .i64 0, str [], .int .i64 0, .slice none 0 0, .slice none 0 0, .slice xa x.args.length xc, .slice none 0 0, .int .i64 0, .int .i64 0] 60)).cell? ⟨w4.heap.size + 1, 3, none⟩ = some (.slice fa3 fn3 fc3) := cell_alloc (cell_alloc f3)
          clear f0 f1 f2 f3
          have H8 := Lib.hid (And.intro hW8 (And.intro hz8 (And.intro hbw8 (And.intro bWr (And.intro bRow (And.intro bIn (And.intro b24' (And.intro bG8 (And.intro hrf8 (And.intro hrg8 (And.intro hrx8 (And.intro hry8 (And.intro hrw8 hcx)))))))))))))
          clear hW8 hz8 hbw8 bWr bRow bIn b24' bG8 hrf8 hrg8 hrx8 hry8 hrz8 hrz8s hrw8 hcx hb78 hb58 hb68 hF8 k5 hcmp bZ8 b24 bX7 bY7 bZ7 bF7 bG7 hb57 hb7 hf hg CZ HZ
          go_upto_region 14 with (first | (exfalso; omega) | fail)
          all_goals try (exfalso; omega)
          rw [H8.out.1]
          clear x7a y7a f0a f1a f2a f3a x7 y7
          refine wp_region_noPanic ?_
          refine wp_region_S (fun w' => Below W8.heap.size W8 w') (fun _ => false) (by kernel_rfl) ?_
          have hSd : Below W8.heap.size W8 W8.drew := Below.drew (Below.refl _ _)
          refine wpAnyS_take 0 (v := ?_) (by kernel_rfl) (by kernel_rfl) (by kernel_rfl) (by kernel_rfl) (fun _ _ _ _ h => h) hSd ?_ ?_
          rotate_left
          · (intro oi ho; simp at ho; subst ho; refine Or.inl ⟨by rfl, fun w' hw' => ?_⟩; obtain ⟨e0, e1, e2, e3, e4, e5, e6, e7, e8, e9⟩ := SX.out w' hw'; go_simp; try with_reducible rfl)
          (intro d hd; simp at hd; subst hd; simp only [Act.put, List.setIfInBounds_toArray, List.set_cons_zero, List.set_cons_succ])
          refine wpAnyS_take 2 (v := ?_) (by kernel_rfl) (by kernel_rfl) (by kernel_rfl) (by kernel_rfl) (fun _ _ _ _ h => h) hSd ?_ ?_
          rotate_left
          · (intro oi ho; simp at ho; subst ho; refine Or.inl ⟨by rfl, fun w' hw' => ?_⟩; go_simp; try with_reducible rfl)
          (intro d hd; simp at hd; subst hd; simp only [Act.put, List.setIfInBounds_toArray, List.set_cons_zero, List.set_cons_succ])
          refine wpAnyS_take 3 (v := ?_) (by kernel_rfl) (by kernel_rfl) (by kernel_rfl) (by kernel_rfl) (fun _ _ _ _ h => h) hSd ?_ ?_
          rotate_left
          · (intro oi ho; simp at ho; subst ho; refine Or.inl ⟨by rfl, fun w' hw' => ?_⟩; obtain ⟨e0, e1, e2, e3, e4, e5, e6, e7, e8, e9⟩ := SX.out w' hw'; go_simp; try with_reducible rfl)
          (intro d hd; simp at hd; subst hd; simp only [Act.put, List.setIfInBounds_toArray, List.set_cons_zero, List.set_cons_succ])
          refine wpAnyS_two 1 4 (by kernel_rfl) ?_ ?_
          · (intro o1 ho K' hK; simp at ho; subst ho)
            go_simp
            refine hK.out _ _ (fun _ => ?_) ?_
            · exact (hSd.alloc (Nat.le_refl _) (.cells #[.int .i64 (-1), str fs, .int .i64 fv, .slice fa2 fn2 fc2, .slice fa3 fn3 fc3, .slice ya y.args.length yc, .slice (some ⟨w7.heap.size + 1 + 1, 0, none⟩) 1 1, .int .i64 0, .int .i64 0] 60))
            clear hK K'
            (try simp only [Act.put, List.setIfInBounds_toArray, List.set_cons_zero, List.set_cons_succ])
            refine wpAnyS_one 4 (by kernel_rfl) ?_
            (intro o4 ho K' hK; simp at ho; subst ho)
            go_simp
            go_at_call 33
            (with_reducible refine (C10.out _ (Below.drew ((Below.refl _ W8).alloc (Nat.le_refl _) (.cells #[.int .i64 (-1), str fs, .int .i64 fv, .slice fa2 fn2 fc2, .slice fa3 fn3 fc3, .slice ya y.args.length yc, .slice (some ⟨w7.heap.size + 1 + 1, 0, none⟩) 1 1, .int .i64 0, .int .i64 0] 60)))).mono ?_)
            rintro en10 w10 ⟨a10, c10, xs10, rfl, ho10, hr10, hb10, hf10⟩
            have hB10 : Below W8.heap.size W8 w10 := (Below.drew ((Below.refl _ W8).alloc (Nat.le_refl _) (.cells #[.int .i64 (-1), str fs, .int .i64 fv, .slice fa2 fn2 fc2, .slice fa3 fn3 fc3, .slice ya y.args.length yc, .slice (some ⟨w7.heap.size + 1 + 1, 0, none⟩) 1 1, .int .i64 0, .int .i64 0] 60))).trans (hb10.mono (Below.drew ((Below.refl _ W8).alloc (Nat.le_refl _) (.cells #[.int .i64 (-1), str fs, .int .i64 fv, .slice fa2 fn2 fc2, .slice fa3 fn3 fc3, .slice ya y.args.length yc, .slice (some ⟨w7.heap.size + 1 + 1, 0, none⟩) 1 1, .int .i64 0, .int .i64 0] 60))).size)
            have hW10 : Own w10 60 9 (.slice (some ⟨W8.heap.size, 0, none⟩) 1 1) 1 [.int .i64 (-1), str fs, .int .i64 fv, .slice fa2 fn2 fc2, .slice fa3 fn3 fc3, .slice ya y.args.length yc, .slice (some ⟨w7.heap.size + 1 + 1, 0, none⟩) 1 1, .int .i64 0, .int .i64 0] := (Own.litAt (w := W8) #[.int .i64 (-1), str fs, .int .i64 fv, .slice fa2 fn2 fc2, .slice fa3 fn3 fc3, .slice ya y.args.length yc, .slice (some ⟨w7.heap.size + 1 + 1, 0, none⟩) 1 1, .int .i64 0, .int .i64 0] 1 W8.heap.size rfl (by decide) rfl : Own (W8.alloc (.cells #[.int .i64 (-1), str fs, .int .i64 fv, .slice fa2 fn2 fc2, .slice fa3 fn3 fc3, .slice ya y.args.length yc, .slice (some ⟨w7.heap.size + 1 + 1, 0, none⟩) 1 1, .int .i64 0, .int .i64 0] 60)) 60 9 _ 1 _).drew.keep (w' := w10) fun i o _ ho => by rw [hb10.block i (lt_of_heap ho)]; exact ho
            have hS10 := ho10.src (oneCell_encWs _ _ hr10)
            refine hK.out _ _ (fun _ => ?_) ?_
            · exact hB10
            clear hK K'
            (try simp only [Act.put, List.setIfInBounds_toArray, List.set_cons_zero, List.set_cons_succ])
            refine wpAnyS_one 5 (by kernel_rfl) ?_
            (intro o5 ho K' hK; simp at ho; subst ho)
            refine step_append_gen (by rfl) _ _ _ (by rfl) 60 (.agg #[.int .i64 0, str [], .int .i64 0, .slice none 0 0, .slice none 0 0, .slice none 0 0, .slice none 0 0, .int .i64 0, .int .i64 0]) 9 144 Tryz.underlying58 Tryz.infoBo rfl (by decide) (.slice (some ⟨W8.heap.size, 0, none⟩) 1 1) 1 [.int .i64 (-1), str fs, .int .i64 fv, .slice fa2 fn2 fc2, .slice fa3 fn3 fc3, .slice ya y.args.length yc, .slice (some ⟨w7.heap.size + 1 + 1, 0, none⟩) 1 1, .int .i64 0, .int .i64 0] (by rfl) (hW10) _ z.args.length xs10 (by rfl) (hS10) (by unfold maxLen; omega) (by omega) ?_
            intro a12 c12 w12 ho12 hb12 hg12
            have hB12 : Below W8.heap.size W8 w12 := hB10.trans (hb12.toBelow (hB10).size fun i hi e => by simp [Value.ownBlock] at e; omega)
            have hg12' : ∀ i, (Value.slice a12 (1 + z.args.length) c12).ownBlock = some i → W8.heap.size ≤ i := fun i hi => by rcases hg12 i hi with h | h; simp [Value.ownBlock] at h; omega; exact Nat.le_trans (hB10).size (Nat.le_of_eq h.symm)
            have hr12 : Reps (fun i => w.heap.size ≤ i ∧ i ≠ w7.heap.size) w12 (encWs (opens 1 z.args)) xs10 := (Rep.keep fun i o (hi : (w.heap.size ≤ i ∧ i ≠ w7.heap.size) ∧ i < W8.heap.size) ho => ⟨hi.1, (hb12.block i (lt_of_heap ho) (fun e => by simp [Value.ownBlock] at e; omega)).trans ho⟩).2 _ _ hr10
            refine hK.out _ _ (fun _ => ?_) ?_
            · exact hB12
            clear hK K'
            (try simp only [Act.put, List.setIfInBounds_toArray, List.set_cons_zero, List.set_cons_succ])
            refine wpAnyS_one 6 (by kernel_rfl) ?_
            (intro o6 ho K' hK; simp at ho; subst ho)
            go_simp
            refine hK.out _ _ (fun _ => ?_) ?_
            · exact hB12
            clear hK K'
            (try simp only [Act.put, List.setIfInBounds_toArray, List.set_cons_zero, List.set_cons_succ])
            refine wpAnyS_done (by kernel_rfl) (NoPanic.normal ?_) _
            clear hb12 hg12 hSd hr10 hS10 hb10 hf10 ho10
            have hcl8 := H8.out
            obtain ⟨g0, g1, g2, g3⟩ := cells4 ((hB12.block _ (lt_of_heap hcl8.2.2.2.2.2.2.2.1)).trans hcl8.2.2.2.2.2.2.2.1)
            have z12 : w12.cell? ⟨w3.heap.size, 0, none⟩ = some (.slice za z.args.length zc) := (SX.out w12 hB12).2.2.2.2.2.2.2.2.2
            have z12' : (w12.alloc (.cells #[] 112)).cell? ⟨w3.heap.size, 0, none⟩ = some (.slice za z.args.length zc) := cell_alloc z12
            obtain ⟨W13, hW13⟩ : ∃ W, w12.alloc (.cells #[] 112) = W := ⟨_, rfl⟩
            have hB13 : Below W8.heap.size W8 W13 := by rw [← hW13]; exact hB12.alloc hB12.size _
            have k13 : ∀ (i : Nat) (o : Obj), (w.heap.size ≤ i ∧ i ≠ w7.heap.size) → w12.heap[i]? = some o → (w.heap.size ≤ i ∧ i ≠ w7.heap.size) ∧ W13.heap[i]? = some o := fun i o hi ho => ⟨hi, by rw [← hW13]; exact heap_past ho⟩
            have k8 : ∀ {d : List DV} {v : List Value}, Reps (fun i => w.heap.size ≤ i ∧ i ≠ w7.heap.size) W8 d v → Reps (fun i => w.heap.size ≤ i ∧ i ≠ w7.heap.size) W13 d v := fun h => Reps.below hB13 (fun _ h => h) h
            have k8' : ∀ {d : DV} {v : Value}, Rep (fun i => w.heap.size ≤ i ∧ i ≠ w7.heap.size) W8 d v → Rep (fun i => w.heap.size ≤ i ∧ i ≠ w7.heap.size) W13 d v := fun h => Rep.below hB13 (fun _ h => h) h
            have hlen : (composeEnv x y f z.args).length = 1 + z.args.length := by unfold composeEnv; simp [opens_length]; omega
            have hre13 : Rep (fun i => w.heap.size ≤ i ∧ i ≠ w7.heap.size) W13 (.sl 60 9 (composeEnv x y f z.args).length (encWs (composeEnv x y f z.args))) (.slice a12 (1 + z.args.length) c12) := by
              rw [hlen]
              refine (ho12.keep (w' := W13) fun i o _ ho => by rw [← hW13]; exact heap_past ho).rep (fun i hi => by have := hg12' i hi; have := hcl8.2.1; have := hcl8.2.2.1.size; exact ⟨by omega, by omega⟩) ?_
              unfold composeEnv
              rw [encWs]
              refine Reps.append ?_ ((Rep.keep k13).2 _ _ hr12)
              rw [encW]
              refine Reps.append (vs := [.int .i64 (-1)]) (Reps.one (Rep_val.2 rfl)) (Reps.append (ds := encN f) (vs := [str fs, .int .i64 fv, .slice fa2 fn2 fc2, .slice fa3 fn3 fc3]) (k8 hcl8.2.2.2.2.2.2.2.2.1) ?_)
              refine Reps_cons.2 ⟨_, _, rfl, k8' hcl8.2.2.2.2.2.2.2.2.2.2.2.1, Reps_cons.2 ⟨_, _, rfl, ?_, Reps_cons.2 ⟨_, _, rfl, Rep_val.2 rfl, Reps_cons.2 ⟨_, _, rfl, Rep_any.2 ⟨_, rfl⟩, Reps_nil.2 rfl⟩⟩⟩⟩
              refine Rep_sl.2 ⟨rfl, _, _, rfl, Nat.le_refl _, fun h => by simp at h, .inr ⟨w7.heap.size + 1 + 1, 0, _, _, rfl, ⟨by have := hcl8.2.1; have := hcl8.2.2.1.size; have := HE7.out.size; omega, by omega⟩, (hB13.block _ (by have := hcl8.2.1; omega)).trans hcl8.2.2.2.2.1, ?_⟩⟩
              rw [encWs, encWs, encW]
              exact Reps_cons.2 ⟨_, _, rfl, Rep_val.2 rfl, Reps_cons.2 ⟨_, _, rfl, Rep_val.2 rfl, Reps_cons.2 ⟨_, _, rfl, Rep_val.2 rfl, Reps_cons.2 ⟨_, _, rfl, Rep_val.2 rfl, Reps_cons.2 ⟨_, _, rfl, Rep_val.2 rfl, Reps_cons.2 ⟨_, _, rfl, k8' hcl8.2.2.2.2.2.2.2.2.2.2.1, Reps_cons.2 ⟨_, _, rfl, Rep_val.2 rfl, Reps_cons.2 ⟨_, _, rfl, Rep_val.2 rfl, Reps_cons.2 ⟨_, _, rfl, Rep_any.2 ⟨_, rfl⟩, Reps_nil.2 rfl⟩⟩⟩⟩⟩⟩⟩⟩⟩
            have hcmp := hcl8.2.2.2.2.2.2.2.2.2.2.2.2.2
            have hwri13 : Wri W13 w7.heap.size ((200 : Nat) : Int) (20000 - ((20000 : Nat) : Int)) := (hB13.block _ (lt_of_heap hcl8.2.2.2.1)).trans hcl8.2.2.2.1
            have C14 := write_any 20000 (fun i => w.heap.size ≤ i ∧ i ≠ w7.heap.size) w7.heap.size 200 20000 (1 + z.args.length) (x :: z.args) g (composeEnv x y f z.args) [] gs gv ga2 ga3 gn2 gc2 gn3 gc3 (.slice a12 (1 + z.args.length) c12) (.slice (some ⟨w12.heap.size, 0, none⟩) 0 0) W13
              { wri := hwri13, hF := fun i hi => hi.2, ld := Nat.le_refl _, d20 := Nat.le_refl _, k200 := Nat.le_refl _, fit := hcmp.fit, hn := by simp; omega, el := by rw [hlen]; omega, nl := by omega, stl := by simp,
                ok := hcmp.ok, okg := trivial, wf := ⟨hcmp.wf, hcmp.wfe, by simp⟩, rb := k8 hcl8.2.2.2.2.2.2.2.2.2.1, re := hre13, rs := Rep_sl.2 ⟨by simp [encFs], _, _, rfl, Nat.le_refl _, fun h => by simp at h, .inl rfl⟩ }
            rw [Int.natCast_add, show ((1 : Nat) : Int) = 1 from rfl] at C14
            have C14 := Lib.hid C14
            have b24 : W13.heap[w6.heap.size]? = some (.cells #[.slice a6 (1 + z.args.length) c6] 46 (0, 0)) := (hB13.block _ (lt_of_heap hcl8.2.2.2.2.2.2.1)).trans hcl8.2.2.2.2.2.2.1
            have hrw13 := k8' hcl8.2.2.2.2.2.2.2.2.2.2.2.2.1
            have hbw13 : Below w.heap.size w W13 := hcl8.2.2.1.trans (hB13.mono hcl8.2.2.1.size)
            have h67 : w6.heap.size ≠ w7.heap.size := by have := lt_of_heap hcl8.2.2.2.2.2.2.1; intro e; have h := hcl8.2.2.2.1; unfold Wri at h; have h2 := hcl8.2.2.2.2.2.2.1; rw [e, h] at h2; simp at h2
            have H13 := Lib.hid (And.intro hW13 (And.intro b24 (And.intro hrw13 (And.intro hbw13 (And.intro hcmp h67)))))
            clear hcl8 hW13 hB13 k13 k8 k8' hlen hre13 hcmp hwri13 b24 hrw13 hbw13 h67 hB12 hr12 ho12 hg12'
            go_wp2_with fail
            rw [H13.out.1]
            (with_reducible refine C14.out.mono ?_)
            rintro en w14 ⟨s, v, b1, p1, d1, b2, p2, d2, rfl, hb14, hn14, hy14⟩
            obtain ⟨L, S, hWL, hL⟩ : ∃ L S : Int, Wri w14 w7.heap.size L S ∧ decide (0 ≤ L) = (writes g (composeEnv x y f z.args) (1 + z.args.length)).isSome := by
              unfold writes
              cases hq : evN 20000 200 20000 g (composeEnv x y f z.args) (1 + z.args.length) (List.map WFr.gf []) with
              | none =>
                obtain ⟨st, u1, _, _⟩ := hn14 hq
                exact ⟨-1, st, u1, by rw [show (List.map WFr.gf [] : List Gf) = [] from rfl] at hq; rw [hq]; rfl⟩
              | some q =>
                obtain ⟨u1, _⟩ := hy14 q hq
                exact ⟨_, _, u1, by rw [show (List.map WFr.gf [] : List Gf) = [] from rfl] at hq; rw [hq]; simp⟩
            have hbw14 : Below w.heap.size w w14 := H13.out.2.2.2.1.trans (hb14.toBelow H13.out.2.2.2.1.size fun i hi e => by have e : i = w7.heap.size := e; have := HE7.out.size; omega)
            obtain ⟨W15, hW15⟩ : ∃ W, w14.alloc (.cells #[str s, .int .i64 v, .slice b1 p1 d1, .slice b2 p2 d2] 51) = W := ⟨_, rfl⟩
            have hb15 : Below w14.heap.size w14 W15 := by rw [← hW15]; exact (Below.refl _ _).alloc (Nat.le_refl _) _
            have ho15 : W15.heap[w14.heap.size]? = some (.cells #[str s, .int .i64 v, .slice b1 p1 d1, .slice b2 p2 d2] 51 (0, 0)) := by rw [← hW15]; exact heap_new _ _
            have b24 := (hb14.block _ (lt_of_heap H13.out.2.1) H13.out.2.2.2.2.2).trans H13.out.2.1
            have b24' := (hb15.block _ (lt_of_heap b24)).trans b24
            have hWL' : Wri W15 w7.heap.size L S := (hb15.block _ (lt_of_heap hWL)).trans hWL
            have SZ : Hid (∀ w', Below W15.heap.size W15 w' → w'.cell? ⟨w14.heap.size, 0, none⟩ = some (str s) ∧ w'.cell? ⟨w14.heap.size, 1, none⟩ = some (.int .i64 v) ∧ w'.cell? ⟨w14.heap.size, 2, none⟩ = some (.slice b1 p1 d1) ∧ w'.cell? ⟨w14.heap.size, 3, none⟩ = some (.slice b2 p2 d2) ∧ w'.cell? ⟨w6.heap.size, 0, none⟩ = some (.slice a6 (1 + z.args.length) c6) ∧ w'.cell? ⟨w7.heap.size, 0, none⟩ = some (.int .i64 L)) := by
              show ∀ w', _ → _
              intro w' hb'
              have h1 := (hb'.block _ (lt_of_heap ho15)).trans ho15
              have h2 := (hb'.block _ (lt_of_heap b24')).trans b24'
              have h3 := (hb'.cell (p := ⟨w7.heap.size, 0, none⟩) hWL'.cell.2.2.2).trans hWL'.cell.1
              simp [World.cell?, h1, h2]
              simpa [World.cell?] using h3
            have hrw15 : Rep (fun i => w.heap.size ≤ i) W15 (encS (arrowT x z)) (.slice a6 (1 + z.args.length) c6) := (Rep.keep fun i o (hi : w.heap.size ≤ i ∧ i ≠ w7.heap.size) ho => ⟨hi.1, by rw [hb15.block i (by have := lt_of_heap ho; have := hb14.size; omega), hb14.block i (lt_of_heap ho) hi.2]; exact ho⟩).1 _ _ H13.out.2.2.1
            have C15 : Hid (∀ w', Below W15.heap.size W15 w' → Calls Tryz.prog 35 #[.agg #[.slice a6 (1 + z.args.length) c6], .agg #[str s, .int .i64 v, .slice b1 p1 d1, .slice b2 p2 d2], .bool (decide (0 ≤ L))] w' (TxtPost (wrOf (arrowT x z) (writes g (composeEnv x y f z.args) (1 + z.args.length))) w')) := by
              show ∀ w', _ → _
              intro w' hb'
              rw [hL]
              refine l4Written_any (fun i => w.heap.size ≤ i) (arrowT x z) _ _ s v b1 p1 d1 b2 p2 d2 w' (by omega) (Rep.below hb' (fun _ h => h) hrw15) (fun q hq => ?_)
              refine ⟨?_, H13.out.2.2.2.2.1.small (by omega) hq⟩
              unfold writes at hq
              rw [Option.map_eq_some_iff] at hq
              obtain ⟨q', hq', rfl⟩ := hq
              obtain ⟨_, u2⟩ := hy14 q' hq'
              refine Reps.below (hb15.trans (hb'.mono hb15.size)) (fun i hi => ?_) u2
              rcases hi with h | h
              · exact h.1
              · exact Nat.le_trans H13.out.2.2.2.1.size h
            have HF := Lib.hid (And.intro hW15 (hbw14.trans (hb15.mono hbw14.size)))
            clear hW15 hb15 ho15 b24 b24' hWL hWL' hL hb14 hn14 hy14 hrw15 hbw14
            go_wp2_with fail
            rw [HF.out.1]
            refine wp_region_noPanic ?_
            refine wp_region_S (fun w' => Below W15.heap.size W15 w') (fun _ => false) (by kernel_rfl) ?_
            have hSd : (fun w' => Below W15.heap.size W15 w') W15.drew := Below.drew (Below.refl _ _)
            refine wpAnyS_take 0 (v := ?_) (by kernel_rfl) (by kernel_rfl) (by kernel_rfl) (by kernel_rfl) (fun _ _ _ _ h => h) hSd ?_ ?_
            rotate_left
            · (intro oi ho; simp at ho; subst ho; refine Or.inl ⟨by rfl, fun w' hw' => ?_⟩; obtain ⟨e0, e1, e2, e3, e4, e5⟩ := SZ.out w' hw'; go_simp; try with_reducible rfl)
            (intro d hd; simp at hd; subst hd; simp only [Act.put, List.setIfInBounds_toArray, List.set_cons_zero, List.set_cons_succ])
            refine wpAnyS_take 1 (v := ?_) (by kernel_rfl) (by kernel_rfl) (by kernel_rfl) (by kernel_rfl) (fun _ _ _ _ h => h) hSd ?_ ?_
            rotate_left
            · (intro oi ho; simp at ho; subst ho; refine Or.inl ⟨by rfl, fun w' hw' => ?_⟩; obtain ⟨e0, e1, e2, e3, e4, e5⟩ := SZ.out w' hw'; go_simp; try with_reducible rfl)
            (intro d hd; simp at hd; subst hd; simp only [Act.put, List.setIfInBounds_toArray, List.set_cons_zero, List.set_cons_succ])
            refine wpAnyS_take 2 (v := ?_) (by kernel_rfl) (by kernel_rfl) (by kernel_rfl) (by kernel_rfl) (fun _ _ _ _ h => h) hSd ?_ ?_
            rotate_left
            · (intro oi ho; simp at ho; subst ho; refine Or.inl ⟨by rfl, fun w' hw' => ?_⟩; go_simp; try with_reducible rfl)
            (intro d hd; simp at hd; subst hd; simp only [Act.put, List.setIfInBounds_toArray, List.set_cons_zero, List.set_cons_succ])
            refine wpAnyS_take 3 (v := ?_) (by kernel_rfl) (by kernel_rfl) (by kernel_rfl) (by kernel_rfl) (fun _ _ _ _ h => h) hSd ?_ ?_
            rotate_left
            · (intro oi ho; simp at ho; subst ho; refine Or.inl ⟨by rfl, fun w' hw' => ?_⟩; go_simp; try with_reducible rfl)
            (intro d hd; simp at hd; subst hd; simp only [Act.put, List.setIfInBounds_toArray, List.set_cons_zero, List.set_cons_succ])
            refine wpAnyS_take 4 (v := ?_) (by kernel_rfl) (by kernel_rfl) (by kernel_rfl) (by kernel_rfl) (fun _ _ _ _ h => h) hSd ?_ ?_
            rotate_left
            · (intro oi ho; simp at ho; subst ho; refine Or.inl ⟨by rfl, fun w' hw' => ?_⟩; go_simp; try with_reducible rfl)
            (intro d hd; simp at hd; subst hd; simp only [Act.put, List.setIfInBounds_toArray, List.set_cons_zero, List.set_cons_succ])
            refine wpAnyS_take 5 (v := ?_) (by kernel_rfl) (by kernel_rfl) (by kernel_rfl) (by kernel_rfl) (fun _ _ _ _ h => h) hSd ?_ ?_
            rotate_left
            · (intro oi ho; simp at ho; subst ho; refine Or.inl ⟨by rfl, fun w' hw' => ?_⟩; obtain ⟨e0, e1, e2, e3, e4, e5⟩ := SZ.out w' hw'; go_simp; try with_reducible rfl)
            (intro d hd; simp at hd; subst hd; simp only [Act.put, List.setIfInBounds_toArray, List.set_cons_zero, List.set_cons_succ])
            refine wpAnyS_take 6 (v := ?_) (by kernel_rfl) (by kernel_rfl) (by kernel_rfl) (by kernel_rfl) (fun _ _ _ _ h => h) hSd ?_ ?_
            rotate_left
            · (intro oi ho; simp at ho; subst ho; refine Or.inl ⟨by rfl, fun w' hw' => ?_⟩; go_simp; try with_reducible rfl)
            (intro d hd; simp at hd; subst hd; simp only [Act.put, List.setIfInBounds_toArray, List.set_cons_zero, List.set_cons_succ])
            refine wpAnyS_one 7 (by kernel_rfl) ?_
            (intro o7 ho K' hK; simp at ho; subst ho)
            go_simp
            go_at_call 35
            (with_reducible refine (C15.out _ hSd).mono ?_)
            rintro en9 w16 ⟨rfl, hb16⟩
            have HB16 : Hid (Below W15.heap.size W15 w16) := hSd.trans hb16
            clear hb16
            refine hK.out _ _ ?_ ?_
            · exact fun _ => HB16.out
            clear hK K'
            (try simp only [Act.put, List.setIfInBounds_toArray, List.set_cons_zero, List.set_cons_succ])
            have hS7 := HB16.out
            refine wpAnyS_take 8 (v := ?_) (by kernel_rfl) (by kernel_rfl) (by kernel_rfl) (by kernel_rfl) (fun _ _ _ _ h => h) hS7 ?_ ?_
            rotate_left
            · (intro oi ho; simp at ho; subst ho; refine Or.inl ⟨by rfl, fun w' hw' => ?_⟩; go_simp; try with_reducible rfl)
            (intro d hd; simp at hd; subst hd; simp only [Act.put, List.setIfInBounds_toArray, List.set_cons_zero, List.set_cons_succ])
            refine wpAnyS_take 9 (v := ?_) (by kernel_rfl) (by kernel_rfl) (by kernel_rfl) (by kernel_rfl) (fun _ _ _ _ h => h) hS7 ?_ ?_
            rotate_left
            · (intro oi ho; simp at ho; subst ho; refine Or.inl ⟨by rfl, fun w' hw' => ?_⟩; go_simp; try with_reducible rfl)
            (intro d hd; simp at hd; subst hd; simp only [Act.put, List.setIfInBounds_toArray, List.set_cons_zero, List.set_cons_succ])
            refine wpAnyS_one 10 (by kernel_rfl) ?_
            (intro o10 ho K' hK; simp at ho; subst ho)
            go_simp
            refine hK.out _ _ ?_ ?_
            · exact fun _ => HB16.out
            clear hK K'
            (try simp only [Act.put, List.setIfInBounds_toArray, List.set_cons_zero, List.set_cons_succ])
            refine wpAnyS_one 11 (by kernel_rfl) ?_
            (intro o11 ho K' hK; simp at ho; subst ho)
            go_simp
            refine hK.out _ _ ?_ ?_
            · exact fun _ => HB16.out
            clear hK K'
            (try simp only [Act.put, List.setIfInBounds_toArray, List.set_cons_zero, List.set_cons_succ])
            refine wpAnyS_done (by kernel_rfl) (NoPanic.normal ?_) _
            go_wp2_with fail
            go_ret2
            rw [HR2.out]
            exact ⟨rfl, HF.out.2.trans (HB16.out.mono HF.out.2.size)⟩
          · (intro o4 ho K' hK; simp at ho; subst ho)
            go_simp
            go_at_call 33
            (with_reducible refine (C10.out _ hSd).mono ?_)
            rintro en10 w10 ⟨a10, c10, xs10, rfl, ho10, hr10, hb10, hf10⟩
            have hB10 : Below W8.heap.size W8 w10 := hSd.trans hb10
            have hz10 := hB10.size
            have hS10 := ho10.src (oneCell_encWs _ _ hr10)
            refine hK.out _ _ (fun _ => ?_) ?_
            · exact hB10
            clear hK K'
            (try simp only [Act.put, List.setIfInBounds_toArray, List.set_cons_zero, List.set_cons_succ])
            refine wpAnyS_one 1 (by kernel_rfl) ?_
            (intro o1 ho K' hK; simp at ho; subst ho)
            go_simp
            refine hK.out _ _ (fun _ => ?_) ?_
            · exact (hB10.alloc hB10.size (.cells #[.int .i64 (-1), str fs, .int .i64 fv, .slice fa2 fn2 fc2, .slice fa3 fn3 fc3, .slice ya y.args.length yc, .slice (some ⟨w7.heap.size + 1 + 1, 0, none⟩) 1 1, .int .i64 0, .int .i64 0] 60))
            clear hK K'
            (try simp only [Act.put, List.setIfInBounds_toArray, List.set_cons_zero, List.set_cons_succ])
            refine wpAnyS_one 5 (by kernel_rfl) ?_
            (intro o5 ho K' hK; simp at ho; subst ho)
            refine step_append_gen (by rfl) _ _ _ (by rfl) 60 (.agg #[.int .i64 0, str [], .int .i64 0, .slice none 0 0, .slice none 0 0, .slice none 0 0, .slice none 0 0, .int .i64 0, .int .i64 0]) 9 144 Tryz.underlying58 Tryz.infoBo rfl (by decide) (.slice (some ⟨w10.heap.size, 0, none⟩) 1 1) 1 [.int .i64 (-1), str fs, .int .i64 fv, .slice fa2 fn2 fc2, .slice fa3 fn3 fc3, .slice ya y.args.length yc, .slice (some ⟨w7.heap.size + 1 + 1, 0, none⟩) 1 1, .int .i64 0, .int .i64 0] (by rfl) (Own.litAt #[.int .i64 (-1), str fs, .int .i64 fv, .slice fa2 fn2 fc2, .slice fa3 fn3 fc3, .slice ya y.args.length yc, .slice (some ⟨w7.heap.size + 1 + 1, 0, none⟩) 1 1, .int .i64 0, .int .i64 0] 1 _ rfl (by decide) rfl) _ z.args.length xs10 (by rfl) (hS10.alloc _) (by unfold maxLen; omega) (by omega) ?_
            intro a12 c12 w12 ho12 hb12 hg12
            have hB12 : Below W8.heap.size W8 w12 := (hB10.alloc hB10.size (.cells #[.int .i64 (-1), str fs, .int .i64 fv, .slice fa2 fn2 fc2, .slice fa3 fn3 fc3, .slice ya y.args.length yc, .slice (some ⟨w7.heap.size + 1 + 1, 0, none⟩) 1 1, .int .i64 0, .int .i64 0] 60)).trans (hb12.toBelow ((hB10.alloc hB10.size (.cells #[.int .i64 (-1), str fs, .int .i64 fv, .slice fa2 fn2 fc2, .slice fa3 fn3 fc3, .slice ya y.args.length yc, .slice (some ⟨w7.heap.size + 1 + 1, 0, none⟩) 1 1, .int .i64 0, .int .i64 0] 60))).size fun i hi e => by simp [Value.ownBlock] at e; omega)
            have hg12' : ∀ i, (Value.slice a12 (1 + z.args.length) c12).ownBlock = some i → W8.heap.size ≤ i := fun i hi => by rcases hg12 i hi with h | h; simp [Value.ownBlock] at h; omega; exact Nat.le_trans ((hB10.alloc hB10.size (.cells #[.int .i64 (-1), str fs, .int .i64 fv, .slice fa2 fn2 fc2, .slice fa3 fn3 fc3, .slice ya y.args.length yc, .slice (some ⟨w7.heap.size + 1 + 1, 0, none⟩) 1 1, .int .i64 0, .int .i64 0] 60))).size (Nat.le_of_eq h.symm)
            have hr12 : Reps (fun i => w.heap.size ≤ i ∧ i ≠ w7.heap.size) w12 (encWs (opens 1 z.args)) xs10 := (Rep.keep fun i o (hi : (w.heap.size ≤ i ∧ i ≠ w7.heap.size) ∧ i < W8.heap.size) ho => ⟨hi.1, (hb12.block i (lt_of_heap (heap_past (o := (.cells #[.int .i64 (-1), str fs, .int .i64 fv, .slice fa2 fn2 fc2, .slice fa3 fn3 fc3, .slice ya y.args.length yc, .slice (some ⟨w7.heap.size + 1 + 1, 0, none⟩) 1 1, .int .i64 0, .int .i64 0] 60)) ho)) (fun e => by simp [Value.ownBlock] at e; omega)).trans (heap_past (o := (.cells #[.int .i64 (-1), str fs, .int .i64 fv, .slice fa2 fn2 fc2, .slice fa3 fn3 fc3, .slice ya y.args.length yc, .slice (some ⟨w7.heap.size + 1 + 1, 0, none⟩) 1 1, .int .i64 0, .int .i64 0] 60)) ho)⟩).2 _ _ hr10
            refine hK.out _ _ (fun _ => ?_) ?_
            · exact hB12
            clear hK K'
            (try simp only [Act.put, List.setIfInBounds_toArray, List.set_cons_zero, List.set_cons_succ])
            refine wpAnyS_one 6 (by kernel_rfl) ?_
            (intro o6 ho K' hK; simp at ho; subst ho)
            go_simp
            refine hK.out _ _ (fun _ => ?_) ?_
            · exact hB12
            clear hK K'
            (try simp only [Act.put, List.setIfInBounds_toArray, List.set_cons_zero, List.set_cons_succ])
            refine wpAnyS_done (by kernel_rfl) (NoPanic.normal ?_) _
            clear hb12 hg12 hSd hr10 hS10 hb10 hf10 ho10
            have hcl8 := H8.out
            obtain ⟨g0, g1, g2, g3⟩ := cells4 ((hB12.block _ (lt_of_heap hcl8.2.2.2.2.2.2.2.1)).trans hcl8.2.2.2.2.2.2.2.1)
            have z12 : w12.cell? ⟨w3.heap.size, 0, none⟩ = some (.slice za z.args.length zc) := (SX.out w12 hB12).2.2.2.2.2.2.2.2.2
            have z12' : (w12.alloc (.cells #[] 112)).cell? ⟨w3.heap.size, 0, none⟩ = some (.slice za z.args.length zc) := cell_alloc z12
            obtain ⟨W13, hW13⟩ : ∃ W, w12.alloc (.cells #[] 112) = W := ⟨_, rfl⟩
            have hB13 : Below W8.heap.size W8 W13 := by rw [← hW13]; exact hB12.alloc hB12.size _
            have k13 : ∀ (i : Nat) (o : Obj), (w.heap.size ≤ i ∧ i ≠ w7.heap.size) → w12.heap[i]? = some o → (w.heap.size ≤ i ∧ i ≠ w7.heap.size) ∧ W13.heap[i]? = some o := fun i o hi ho => ⟨hi, by rw [← hW13]; exact heap_past ho⟩
            have k8 : ∀ {d : List DV} {v : List Value}, Reps (fun i => w.heap.size ≤ i ∧ i ≠ w7.heap.size) W8 d v → Reps (fun i => w.heap.size ≤ i ∧ i ≠ w7.heap.size) W13 d v := fun h => Reps.below hB13 (fun _ h => h) h
            have k8' : ∀ {d : DV} {v : Value}, Rep (fun i => w.heap.size ≤ i ∧ i ≠ w7.heap.size) W8 d v → Rep (fun i => w.heap.size ≤ i ∧ i ≠ w7.heap.size) W13 d v := fun h => Rep.below hB13 (fun _ h => h) h
            have hlen : (composeEnv x y f z.args).length = 1 + z.args.length := by unfold composeEnv; simp [opens_length]; omega
            have hre13 : Rep (fun i => w.heap.size ≤ i ∧ i ≠ w7.heap.size) W13 (.sl 60 9 (composeEnv x y f z.args).length (encWs (composeEnv x y f z.args))) (.slice a12 (1 + z.args.length) c12) := by
              rw [hlen]
              refine (ho12.keep (w' := W13) fun i o _ ho => by rw [← hW13]; exact heap_past ho).rep (fun i hi => by have := hg12' i hi; have := hcl8.2.1; have := hcl8.2.2.1.size; exact ⟨by omega, by omega⟩) ?_
              unfold composeEnv
              rw [encWs]
              refine Reps.append ?_ ((Rep.keep k13).2 _ _ hr12)
              rw [encW]
              refine Reps.append (vs := [.int .i64 (-1)]) (Reps.one (Rep_val.2 rfl)) (Reps.append (ds := encN f) (vs := [str fs, .int .i64 fv, .slice fa2 fn2 fc2, .slice fa3 fn3 fc3]) (k8 hcl8.2.2.2.2.2.2.2.2.1) ?_)
              refine Reps_cons.2 ⟨_, _, rfl, k8' hcl8.2.2.2.2.2.2.2.2.2.2.2.1, Reps_cons.2 ⟨_, _, rfl, ?_, Reps_cons.2 ⟨_, _, rfl, Rep_val.2 rfl, Reps_cons.2 ⟨_, _, rfl, Rep_any.2 ⟨_, rfl⟩, Reps_nil.2 rfl⟩⟩⟩⟩
              refine Rep_sl.2 ⟨rfl, _, _, rfl, Nat.le_refl _, fun h => by simp at h, .inr ⟨w7.heap.size + 1 + 1, 0, _, _, rfl, ⟨by have := hcl8.2.1; have := hcl8.2.2.1.size; have := HE7.out.size; omega, by omega⟩, (hB13.block _ (by have := hcl8.2.1; omega)).trans hcl8.2.2.2.2.1, ?_⟩⟩
              rw [encWs, encWs, encW]
              exact Reps_cons.2 ⟨_, _, rfl, Rep_val.2 rfl, Reps_cons.2 ⟨_, _, rfl, Rep_val.2 rfl, Reps_cons.2 ⟨_, _, rfl, Rep_val.2 rfl, Reps_cons.2 ⟨_, _, rfl, Rep_val.2 rfl, Reps_cons.2 ⟨_, _, rfl, Rep_val.2 rfl, Reps_cons.2 ⟨_, _, rfl, k8' hcl8.2.2.2.2.2.2.2.2.2.2.1, Reps_cons.2 ⟨_, _, rfl, Rep_val.2 rfl, Reps_cons.2 ⟨_, _, rfl, Rep_val.2 rfl, Reps_cons.2 ⟨_, _, rfl, Rep_any.2 ⟨_, rfl⟩, Reps_nil.2 rfl⟩⟩⟩⟩⟩⟩⟩⟩⟩
            have hcmp := hcl8.2.2.2.2.2.2.2.2.2.2.2.2.2
            have hwri13 : Wri W13 w7.heap.size ((200 : Nat) : Int) (20000 - ((20000 : Nat) : Int)) := (hB13.block _ (lt_of_heap hcl8.2.2.2.1)).trans hcl8.2.2.2.1
            have C14 := write_any 20000 (fun i => w.heap.size ≤ i ∧ i ≠ w7.heap.size) w7.heap.size 200 20000 (1 + z.args.length) (x :: z.args) g (composeEnv x y f z.args) [] gs gv ga2 ga3 gn2 gc2 gn3 gc3 (.slice a12 (1 + z.args.length) c12) (.slice (some ⟨w12.heap.size, 0, none⟩) 0 0) W13
              { wri := hwri13, hF := fun i hi => hi.2, ld := Nat.le_refl _, d20 := Nat.le_refl _, k200 := Nat.le_refl _, fit := hcmp.fit, hn := by simp; omega, el := by rw [hlen]; omega, nl := by omega, stl := by simp,
                ok := hcmp.ok, okg := trivial, wf := ⟨hcmp.wf, hcmp.wfe, by simp⟩, rb := k8 hcl8.2.2.2.2.2.2.2.2.2.1, re := hre13, rs := Rep_sl.2 ⟨by simp [encFs], _, _, rfl, Nat.le_refl _, fun h => by simp at h, .inl rfl⟩ }
            rw [Int.natCast_add, show ((1 : Nat) : Int) = 1 from rfl] at C14
            have C14 := Lib.hid C14
            have b24 : W13.heap[w6.heap.size]? = some (.cells #[.slice a6 (1 + z.args.length) c6] 46 (0, 0)) := (hB13.block _ (lt_of_heap hcl8.2.2.2.2.2.2.1)).trans hcl8.2.2.2.2.2.2.1
            have hrw13 := k8' hcl8.2.2.2.2.2.2.2.2.2.2.2.2.1
            have hbw13 : Below w.heap.size w W13 := hcl8.2.2.1.trans (hB13.mono hcl8.2.2.1.size)
            have h67 : w6.heap.size ≠ w7.heap.size := by have := lt_of_heap hcl8.2.2.2.2.2.2.1; intro e; have h := hcl8.2.2.2.1; unfold Wri at h; have h2 := hcl8.2.2.2.2.2.2.1; rw [e, h] at h2; simp at h2
            have H13 := Lib.hid (And.intro hW13 (And.intro b24 (And.intro hrw13 (And.intro hbw13 (And.intro hcmp h67)))))
            clear hcl8 hW13 hB13 k13 k8 k8' hlen hre13 hcmp hwri13 b24 hrw13 hbw13 h67 hB12 hr12 ho12 hg12'
            go_wp2_with fail
            rw [H13.out.1]
            (with_reducible refine C14.out.mono ?_)
            rintro en w14 ⟨s, v, b1, p1, d1, b2, p2, d2, rfl, hb14, hn14, hy14⟩
            obtain ⟨L, S, hWL, hL⟩ : ∃ L S : Int, Wri w14 w7.heap.size L S ∧ decide (0 ≤ L) = (writes g (composeEnv x y f z.args) (1 + z.args.length)).isSome := by
              unfold writes
              cases hq : evN 20000 200 20000 g (composeEnv x y f z.args) (1 + z.args.length) (List.map WFr.gf []) with
              | none =>
                obtain ⟨st, u1, _, _⟩ := hn14 hq
                exact ⟨-1, st, u1, by rw [show (List.map WFr.gf [] : List Gf) = [] from rfl] at hq; rw [hq]; rfl⟩
              | some q =>
                obtain ⟨u1, _⟩ := hy14 q hq
                exact ⟨_, _, u1, by rw [show (List.map WFr.gf [] : List Gf) = [] from rfl] at hq; rw [hq]; simp⟩
            have hbw14 : Below w.heap.size w w14 := H13.out.2.2.2.1.trans (hb14.toBelow H13.out.2.2.2.1.size fun i hi e => by have e : i = w7.heap.size := e; have := HE7.out.size; omega)
            obtain ⟨W15, hW15⟩ : ∃ W, w14.alloc (.cells #[str s, .int .i64 v, .slice b1 p1 d1, .slice b2 p2 d2] 51) = W := ⟨_, rfl⟩
            have hb15 : Below w14.heap.size w14 W15 := by rw [← hW15]; exact (Below.refl _ _).alloc (Nat.le_refl _) _
            have ho15 : W15.heap[w14.heap.size]? = some (.cells #[str s, .int .i64 v, .slice b1 p1 d1, .slice b2 p2 d2] 51 (0, 0)) := by rw [← hW15]; exact heap_new _ _
            have b24 := (hb14.block _ (lt_of_heap H13.out.2.1) H13.out.2.2.2.2.2).trans H13.out.2.1
            have b24' := (hb15.block _ (lt_of_heap b24)).trans b24
            have hWL' : Wri W15 w7.heap.size L S := (hb15.block _ (lt_of_heap hWL)).trans hWL
            have SZ : Hid (∀ w', Below W15.heap.size W15 w' → w'.cell? ⟨w14.heap.size, 0, none⟩ = some (str s) ∧ w'.cell? ⟨w14.heap.size, 1, none⟩ = some (.int .i64 v) ∧ w'.cell? ⟨w14.heap.size, 2, none⟩ = some (.slice b1 p1 d1) ∧ w'.cell? ⟨w14.heap.size, 3, none⟩ = some (.slice b2 p2 d2) ∧ w'.cell? ⟨w6.heap.size, 0, none⟩ = some (.slice a6 (1 + z.args.length) c6) ∧ w'.cell? ⟨w7.heap.size, 0, none⟩ = some (.int .i64 L)) := by
              show ∀ w', _ → _
              intro w' hb'
              have h1 := (hb'.block _ (lt_of_heap ho15)).trans ho15
              have h2 := (hb'.block _ (lt_of_heap b24')).trans b24'
              have h3 := (hb'.cell (p := ⟨w7.heap.size, 0, none⟩) hWL'.cell.2.2.2).trans hWL'.cell.1
              simp [World.cell?, h1, h2]
              simpa [World.cell?] using h3
            have hrw15 : Rep (fun i => w.heap.size ≤ i) W15 (encS (arrowT x z)) (.slice a6 (1 + z.args.length) c6) := (Rep.keep fun i o (hi : w.heap.size ≤ i ∧ i ≠ w7.heap.size) ho => ⟨hi.1, by rw [hb15.block i (by have := lt_of_heap ho; have := hb14.size; omega), hb14.block i (lt_of_heap ho) hi.2]; exact ho⟩).1 _ _ H13.out.2.2.1
            have C15 : Hid (∀ w', Below W15.heap.size W15 w' → Calls Tryz.prog 35 #[.agg #[.slice a6 (1 + z.args.length) c6], .agg #[str s, .int .i64 v, .slice b1 p1 d1, .slice b2 p2 d2], .bool (decide (0 ≤ L))] w' (TxtPost (wrOf (arrowT x z) (writes g (composeEnv x y f z.args) (1 + z.args.length))) w')) := by
              show ∀ w', _ → _
              intro w' hb'
              rw [hL]
              refine l4Written_any (fun i => w.heap.size ≤ i) (arrowT x z) _ _ s v b1 p1 d1 b2 p2 d2 w' (by omega) (Rep.below hb' (fun _ h => h) hrw15) (fun q hq => ?_)
              refine ⟨?_, H13.out.2.2.2.2.1.small (by omega) hq⟩
              unfold writes at hq
              rw [Option.map_eq_some_iff] at hq
              obtain ⟨q', hq', rfl⟩ := hq
              obtain ⟨_, u2⟩ := hy14 q' hq'
              refine Reps.below (hb15.trans (hb'.mono hb15.size)) (fun i hi => ?_) u2
              rcases hi with h | h
              · exact h.1
              · exact Nat.le_trans H13.out.2.2.2.1.size h
            have HF := Lib.hid (And.intro hW15 (hbw14.trans (hb15.mono hbw14.size)))
            clear hW15 hb15 ho15 b24 b24' hWL hWL' hL hb14 hn14 hy14 hrw15 hbw14
            go_wp2_with fail
            rw [HF.out.1]
            refine wp_region_noPanic ?_
            refine wp_region_S (fun w' => Below W15.heap.size W15 w') (fun _ => false) (by kernel_rfl) ?_
            have hSd : (fun w' => Below W15.heap.size W15 w') W15.drew := Below.drew (Below.refl _ _)
            refine wpAnyS_take 0 (v := ?_) (by kernel_rfl) (by kernel_rfl) (by kernel_rfl) (by kernel_rfl) (fun _ _ _ _ h => h) hSd ?_ ?_
            rotate_left
            · (intro oi ho; simp at ho; subst ho; refine Or.inl ⟨by rfl, fun w' hw' => ?_⟩; obtain ⟨e0, e1, e2, e3, e4, e5⟩ := SZ.out w' hw'; go_simp; try with_reducible rfl)
            (intro d hd; simp at hd; subst hd; simp only [Act.put, List.setIfInBounds_toArray, List.set_cons_zero, List.set_cons_succ])
            refine wpAnyS_take 1 (v := ?_) (by kernel_rfl) (by kernel_rfl) (by kernel_rfl) (by kernel_rfl) (fun _ _ _ _ h => h) hSd ?_ ?_
            rotate_left
            · (intro oi ho; simp at ho; subst ho; refine Or.inl ⟨by rfl, fun w' hw' => ?_⟩; obtain ⟨e0, e1, e2, e3, e4, e5⟩ := SZ.out w' hw'; go_simp; try with_reducible rfl)
            (intro d hd; simp at hd; subst hd; simp only [Act.put, List.setIfInBounds_toArray, List.set_cons_zero, List.set_cons_succ])
            refine wpAnyS_take 2 (v := ?_) (by kernel_rfl) (by kernel_rfl) (by kernel_rfl) (by kernel_rfl) (fun _ _ _ _ h => h) hSd ?_ ?_
            rotate_left
            · (intro oi ho; simp at ho; subst ho; refine Or.inl ⟨by rfl, fun w' hw' => ?_⟩; go_simp; try with_reducible rfl)
            (intro d hd; simp at hd; subst hd; simp only [Act.put, List.setIfInBounds_toArray, List.set_cons_zero, List.set_cons_succ])
            refine wpAnyS_take 3 (v := ?_) (by kernel_rfl) (by kernel_rfl) (by kernel_rfl) (by kernel_rfl) (fun _ _ _ _ h => h) hSd ?_ ?_
            rotate_left
            · (intro oi ho; simp at ho; subst ho; refine Or.inl ⟨by rfl, fun w' hw' => ?_⟩; go_simp; try with_reducible rfl)
            (intro d hd; simp at hd; subst hd; simp only [Act.put, List.setIfInBounds_toArray, List.set_cons_zero, List.set_cons_succ])
            refine wpAnyS_take 4 (v := ?_) (by kernel_rfl) (by kernel_rfl) (by kernel_rfl) (by kernel_rfl) (fun _ _ _ _ h => h) hSd ?_ ?_
            rotate_left
            · (intro oi ho; simp at ho; subst ho; refine Or.inl ⟨by rfl, fun w' hw' => ?_⟩; go_simp; try with_reducible rfl)
            (intro d hd; simp at hd; subst hd; simp only [Act.put, List.setIfInBounds_toArray, List.set_cons_zero, List.set_cons_succ])
            refine wpAnyS_take 5 (v := ?_) (by kernel_rfl) (by kernel_rfl) (by kernel_rfl) (by kernel_rfl) (fun _ _ _ _ h => h) hSd ?_ ?_
            rotate_left
            · (intro oi ho; simp at ho; subst ho; refine Or.inl ⟨by rfl, fun w' hw' => ?_⟩; obtain ⟨e0, e1, e2, e3, e4, e5⟩ := SZ.out w' hw'; go_simp; try with_reducible rfl)
            (intro d hd; simp at hd; subst hd; simp only [Act.put, List.setIfInBounds_toArray, List.set_cons_zero, List.set_cons_succ])
            refine wpAnyS_take 6 (v := ?_) (by kernel_rfl) (by kernel_rfl) (by kernel_rfl) (by kernel_rfl) (fun _ _ _ _ h => h) hSd ?_ ?_
            rotate_left
            · (intro oi ho; simp at ho; subst ho; refine Or.inl ⟨by rfl, fun w' hw' => ?_⟩; go_simp; try with_reducible rfl)
            (intro d hd; simp at hd; subst hd; simp only [Act.put, List.setIfInBounds_toArray, List.set_cons_zero, List.set_cons_succ])
            refine wpAnyS_one 7 (by kernel_rfl) ?_
            (intro o7 ho K' hK; simp at ho; subst ho)
            go_simp
            go_at_call 35
            (with_reducible refine (C15.out _ hSd).mono ?_)
            rintro en9 w16 ⟨rfl, hb16⟩
            have HB16 : Hid (Below W15.heap.size W15 w16) := hSd.trans hb16
            clear hb16
            refine hK.out _ _ ?_ ?_
            · exact fun _ => HB16.out
            clear hK K'
            (try simp only [Act.put, List.setIfInBounds_toArray, List.set_cons_zero, List.set_cons_succ])
            have hS7 := HB16.out
            refine wpAnyS_take 8 (v := ?_) (by kernel_rfl) (by kernel_rfl) (by kernel_rfl) (by kernel_rfl) (fun _ _ _ _ h => h) hS7 ?_ ?_
            rotate_left
            · (intro oi ho; simp at ho; subst ho; refine Or.inl ⟨by rfl, fun w' hw' => ?_⟩; go_simp; try with_reducible rfl)
            (intro d hd; simp at hd; subst hd; simp only [Act.put, List.setIfInBounds_toArray, List.set_cons_zero, List.set_cons_succ])
            refine wpAnyS_take 9 (v := ?_) (by kernel_rfl) (by kernel_rfl) (by kernel_rfl) (by kernel_rfl) (fun _ _ _ _ h => h) hS7 ?_ ?_
            rotate_left
            · (intro oi ho; simp at ho; subst ho; refine Or.inl ⟨by rfl, fun w' hw' => ?_⟩; go_simp; try with_reducible rfl)
            (intro d hd; simp at hd; subst hd; simp only [Act.put, List.setIfInBounds_toArray, List.set_cons_zero, List.set_cons_succ])
            refine wpAnyS_one 10 (by kernel_rfl) ?_
            (intro o10 ho K' hK; simp at ho; subst ho)
            go_simp
            refine hK.out _ _ ?_ ?_
            · exact fun _ => HB16.out
            clear hK K'
            (try simp only [Act.put, List.setIfInBounds_toArray, List.set_cons_zero, List.set_cons_succ])
            refine wpAnyS_one 11 (by kernel_rfl) ?_
            (intro o11 ho K' hK; simp at ho; subst ho)
            go_simp
            refine hK.out _ _ ?_ ?_
            · exact fun _ => HB16.out
            clear hK K'
            (try simp only [Act.put, List.setIfInBounds_toArray, List.set_cons_zero, List.set_cons_succ])
            refine wpAnyS_done (by kernel_rfl) (NoPanic.normal ?_) _
            go_wp2_with fail
            go_ret2
            rw [HR2.out]
            exact ⟨rfl, HF.out.2.trans (HB16.out.mono HF.out.2.size)⟩

end Go.Proofs.YtibnnbdpfkgfhaaGreatDoor

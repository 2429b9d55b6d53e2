/- The walk of l2With: a play with a move behind. -/
import Derived.Test.YtmkgoacclgoidaaDoorT1
import Derived.Test.YtmkgoacclgoidaaDoorP1
import Derived.Test.YtmkgoacclgoidaaDoorRows
namespace Go.Proofs.YtmkgoacclgoidaaDoor
open Go.RowKit

theorem Tryd.infoInt2 : (Tryd.prog.info? 3).map (fun i => (i.zero, i.size, i.bytes)) = some (some (.int .i64 0), 1, 8) := by kernel_rfl
theorem Tryd.infoStr2 : (Tryd.prog.info? 9).map (fun i => (i.zero, i.size, i.bytes)) = some (some (str []), 1, 16) := by kernel_rfl

def WithPost (n m : Nat) (xs ys : List Value) (s : Bs) (p : Int) (w : World) (en : Ending) (w' : World) : Prop :=
  ∃ a1 c1 a2 c2, en = .returned (.agg #[.slice a1 (n + 1) c1, .slice a2 (m + 1) c2]) ∧ Below w.heap.size w w' ∧ Own w' 9 1 (.slice a1 (n + 1) c1) (n + 1) (xs ++ [str s]) ∧ Own w' 3 1 (.slice a2 (m + 1) c2) (m + 1) (ys ++ [.int .i64 p]) ∧
    (∀ g, (Value.slice a1 (n + 1) c1).ownBlock = some g → w.heap.size ≤ g) ∧ (∀ g, (Value.slice a2 (m + 1) c2).ownBlock = some g → w.heap.size ≤ g)

/-- What holds at each step of the region. -/
structure WI (n m : Nat) (mv pt : Value) (xs ys : List Value) (s : Bs) (p : Int) (w W0 : World) (b : Nat → Bool) (t7 t8 t9 t10 t11 t12 t13 t14 t15 t16 t17 t18 t19 t20 t21 : Value) (tag : Nat → Nat) (wr : World) : Prop where
  f1 : b 1 = true → t8 = .pointer (some ⟨w.heap.size, 0, none⟩)
  f2 : b 2 = true → t9 = mv
  f4 : b 4 = true → t11 = str s
  f8 : b 8 = true → t15 = .pointer (some ⟨w.heap.size, 1, none⟩)
  f9 : b 9 = true → t16 = pt
  f11 : b 11 = true → t18 = .int .i64 p
  f14 : b 14 = true → t21 = .agg #[t13, t20]
  g14 : b 14 = true → b 6 = true ∧ b 13 = true
  g15 : b 15 = true → ∀ k, k < 15 → b k = true
  r1 : RowInv W0.heap.size tag 1 2 9 n xs (str s) (b 0) (b 3) (b 5) (b 6) t7 t10 t12 t13 wr
  r2 : RowInv W0.heap.size tag 3 4 3 m ys (.int .i64 p) (b 7) (b 10) (b 12) (b 13) t14 t17 t19 t20 wr
  w0 : b 15 = false → Below W0.heap.size W0 wr
  w1 : b 15 = true → But (· = w.heap.size + 1) W0 wr ∧ wr.heap[w.heap.size + 1]? = some (.cells #[t13, t20] 31 (0, 0))
theorem WI.not15 {n m : Nat} {mv pt : Value} {xs ys : List Value} {s : Bs} {p : Int} {w W0 : World} {b : Nat → Bool} {t7 t8 t9 t10 t11 t12 t13 t14 t15 t16 t17 t18 t19 t20 t21 : Value} {tag : Nat → Nat} {wr : World} (h : WI n m mv pt xs ys s p w W0 b t7 t8 t9 t10 t11 t12 t13 t14 t15 t16 t17 t18 t19 t20 t21 tag wr) {i : Nat} (hi : i < 15) (hb : b i = false) : b 15 = false := by
  cases h15 : b 15 with
  | false => rfl
  | true => have := h.g15 h15 i hi; rw [hb] at this; exact this.symm

/-- The frame in the region. -/
def actW (mv pt : Value) (s : Bs) (p : Int) (B : Nat) (t7 t8 t9 t10 t11 t12 t13 t14 t15 t16 t17 t18 t19 t20 t21 : Value) : Act :=
  { tmps := #[.agg #[mv, pt], str s, .int .i64 p, .pointer (some ⟨B, 0, none⟩), undef, undef, .pointer (some ⟨B + 1, 0, none⟩), t7, t8, t9, t10, t11, t12, t13, t14, t15, t16, t17, t18, t19, t20, t21], defers := [] }
def WIA (n m : Nat) (mv pt : Value) (xs ys : List Value) (s : Bs) (p : Int) (w W0 : World) (b : Nat → Bool) (a : Act) (wr : World) : Prop :=
  ∃ t7 t8 t9 t10 t11 t12 t13 t14 t15 t16 t17 t18 t19 t20 t21 tag, a = actW mv pt s p w.heap.size t7 t8 t9 t10 t11 t12 t13 t14 t15 t16 t17 t18 t19 t20 t21 ∧ WI n m mv pt xs ys s p w W0 b t7 t8 t9 t10 t11 t12 t13 t14 t15 t16 t17 t18 t19 t20 t21 tag wr

set_option maxRecDepth 100000 in
set_option maxHeartbeats 4000000 in
theorem l2With_any (n m : Nat) (mv pt : Value) (xs ys : List Value) (s : Bs) (p : Int) (w : World) (hx : SrcSl 1 mv n xs w) (hy : SrcSl 1 pt m ys w) (hn : n ≤ 1000000) (hm : m ≤ 1000000) :
    Calls Tryd.prog 53 #[.agg #[mv, pt], str s, .int .i64 p] w (WithPost n m xs ys s p w) := by
  obtain ⟨ma, mc, rfl⟩ := hx.slice1
  obtain ⟨pa, pc, rfl⟩ := hy.slice1
  have HX := Lib.hid hx; have HY := Lib.hid hy; clear hx hy
  go_enter Tryd.func53, Tryd.ntmps53
  go_wp2_with fail
  rename_i K0 hK0
  obtain ⟨W0, hW0⟩ : ∃ W, (w.alloc (.cells #[.slice ma n mc, .slice pa m pc] 31)).alloc (.cells #[.slice none 0 0, .slice none 0 0] 31) = W := ⟨_, rfl⟩
  rw [hW0]
  have z0 : W0.heap.size = w.heap.size + 1 + 1 := by rw [← hW0]; simp
  have hb0 : Below w.heap.size w W0 := by rw [← hW0]; exact ((Below.refl _ _).alloc (Nat.le_refl _) _).alloc (by rw [size_alloc]; omega) _
  have c0 : W0.cell? ⟨w.heap.size, 0, none⟩ = some (.slice ma n mc) := by rw [← hW0]; simp
  have c1 : W0.cell? ⟨w.heap.size, 1, none⟩ = some (.slice pa m pc) := by rw [← hW0]; simp
  have h6 : W0.heap[w.heap.size + 1]? = some (.cells #[.slice none 0 0, .slice none 0 0] 31 (0, 0)) := by rw [← hW0]; have := heap_new (w.alloc (.cells #[.slice ma n mc, .slice pa m pc] 31)) (.cells #[.slice none 0 0, .slice none 0 0] 31); rwa [size_alloc] at this
  clear hW0
  refine wp_region_any (by kernel_rfl) ?_
  refine wpAny_inv (I := WIA n m (.slice ma n mc) (.slice pa m pc) xs ys s p w W0) ?acy ?step ?done _ _ _ _ rfl ?cnt ?start
  case cnt => decide
  case acy => exact acy_of (by kernel_rfl)
  case start =>
    refine ⟨undef, undef, undef, undef, undef, undef, undef, undef, undef, undef, undef, undef, undef, undef, undef, fun _ => 0, rfl, ?_⟩
    have hf : ∀ k, lsOf (Array.replicate 16 false) k = false := fun k => by
      unfold lsOf
      rw [Array.getD_eq_getD_getElem?, Array.getElem?_replicate]
      split <;> rfl
    have key : ∀ b : Nat → Bool, (∀ k, b k = false) → WI n m (.slice ma n mc) (.slice pa m pc) xs ys s p w W0 b undef undef undef undef undef undef undef undef undef undef undef undef undef undef undef (fun _ => 0) W0.drew := by
      intro b hf
      refine { f1 := fun h => ?_, f2 := fun h => ?_, f4 := fun h => ?_, f8 := fun h => ?_, f9 := fun h => ?_, f11 := fun h => ?_, f14 := fun h => ?_, g14 := fun h => ?_, g15 := fun h => ?_, r1 := ?_, r2 := ?_, w0 := fun _ => (Below.refl _ _).drew, w1 := fun h => ?_ }
      case refine_10 => rw [hf, hf, hf, hf]; exact RowInv.start _ _ _ _ _ _ _ _ _ _ _ _ _
      case refine_11 => rw [hf, hf, hf, hf]; exact RowInv.start _ _ _ _ _ _ _ _ _ _ _ _ _
      all_goals (rw [hf] at h; cases h)
    exact key _ hf
  case done =>
    rintro b a wr hall ⟨t7, t8, t9, t10, t11, t12, t13, t14, t15, t16, t17, t18, t19, t20, t21, tag, rfl, hI⟩
    obtain ⟨hbt, hst⟩ := hI.w1 (hall 15 (by decide))
    have R1 := hI.r1.c' (hall 6 (by decide))
    have R2 := hI.r2.c' (hall 13 (by decide))
    obtain ⟨a13, k13, e13⟩ := R1.1.slice
    obtain ⟨a20, k20, e20⟩ := R2.1.slice
    subst e13; subst e20
    obtain ⟨u0, u1, _, _⟩ := cells2 hst
    refine hK0 _ _ ?_
    clear hK0
    unfold actW
    have HF := Lib.hid (And.intro hbt (And.intro R1 R2)); clear hbt R1 R2 hI hst
    go_wp2_with fail
    refine bodyPost_ret (v := .agg #[.slice a13 (n + 1) k13, .slice a20 (m + 1) k20]) (by simp [results, Tryd.results53, go_sem, u0, u1]) rfl ?_
    obtain ⟨hbt, R1, R2⟩ := HF.out
    exact ⟨a13, k13, a20, k20, rfl, hb0.trans (hbt.toBelow (by omega) fun i hi e => by omega), R1.1, R2.1, fun g hg => by have := (R1.2 g hg).2; omega, fun g hg => by have := (R2.2 g hg).2; omega⟩
  case step =>
    rintro b a wr i o ho hb hpre ⟨t7, t8, t9, t10, t11, t12, t13, t14, t15, t16, t17, t18, t19, t20, t21, tag, rfl, hI⟩ K' hK
    unfold actW at *
    rcases i with _ | _ | _ | _ | _ | _ | _ | _ | _ | _ | _ | _ | _ | _ | _ | _ | i
    · simp at ho; subst ho
      have h15 := hI.not15 (i := 0) (by omega) hb
      have hB : W0.heap.size ≤ wr.heap.size := (hI.w0 h15).size
      go_simp
      exact hK _ _ ⟨.slice (some ⟨wr.heap.size, 0, none⟩) 0 0, t8, t9, t10, t11, t12, t13, t14, t15, t16, t17, t18, t19, t20, t21, retag tag wr.heap.size 1, rfl, { f1 := hI.f1, f2 := hI.f2, f4 := hI.f4, f8 := hI.f8, f9 := hI.f9, f11 := hI.f11, f14 := hI.f14, g14 := hI.g14, g15 := fun h => absurd h (by rw [show set1 b 0 15 = b 15 from rfl, h15]; decide), r1 := hI.r1.stepA hB, r2 := hI.r2.alloc _ 1, w0 := fun _ => (hI.w0 h15).alloc hB _, w1 := fun h => absurd h (by rw [show set1 b 0 15 = b 15 from rfl, h15]; decide) }⟩
    · simp at ho; subst ho
      have h15 := hI.not15 (i := 1) (by omega) hb
      have hB : W0.heap.size ≤ wr.heap.size := (hI.w0 h15).size
      go_simp
      exact hK _ _ ⟨t7, .pointer (some ⟨w.heap.size, 0, none⟩), t9, t10, t11, t12, t13, t14, t15, t16, t17, t18, t19, t20, t21, tag, rfl, { f1 := fun _ => rfl, f2 := hI.f2, f4 := hI.f4, f8 := hI.f8, f9 := hI.f9, f11 := hI.f11, f14 := hI.f14, g14 := hI.g14, g15 := fun h => absurd h (by rw [show set1 b 1 15 = b 15 from rfl, h15]; decide), r1 := hI.r1, r2 := hI.r2, w0 := fun _ => hI.w0 h15, w1 := fun h => absurd h (by rw [show set1 b 1 15 = b 15 from rfl, h15]; decide) }⟩
    · simp at ho; subst ho
      simp [Region.binds] at hpre
      have h15 := hI.not15 (i := 2) (by omega) hb
      have hB : W0.heap.size ≤ wr.heap.size := (hI.w0 h15).size
      have q8 := hI.f1 hpre
      have q0 : wr.cell? ⟨w.heap.size, 0, none⟩ = some (.slice ma n mc) := ((hI.w0 h15).cell (p := ⟨w.heap.size, 0, none⟩) (by rw [z0]; show w.heap.size < _; omega)).trans c0
      go_simp
      exact hK _ _ ⟨t7, .pointer (some ⟨w.heap.size, 0, none⟩), .slice ma n mc, t10, t11, t12, t13, t14, t15, t16, t17, t18, t19, t20, t21, tag, rfl, { f1 := fun _ => rfl, f2 := fun _ => rfl, f4 := hI.f4, f8 := hI.f8, f9 := hI.f9, f11 := hI.f11, f14 := hI.f14, g14 := hI.g14, g15 := fun h => absurd h (by rw [show set1 b 2 15 = b 15 from rfl, h15]; decide), r1 := hI.r1, r2 := hI.r2, w0 := fun _ => hI.w0 h15, w1 := fun h => absurd h (by rw [show set1 b 2 15 = b 15 from rfl, h15]; decide) }⟩
    · simp at ho; subst ho
      simp [Region.binds] at hpre
      have h15 := hI.not15 (i := 3) (by omega) hb
      have hB : W0.heap.size ≤ wr.heap.size := (hI.w0 h15).size
      obtain ⟨⟨g, e7⟩, hres⟩ := hI.r1.a hpre.1 hb
      have hres2 := hres
      rw [e7] at hres2
      have q9 := hI.f2 hpre.2
      refine step_append_gen (by rfl) (.tmp 7) (.tmp 9) 22 (by rfl) 9 (str []) 1 16 Tryd.underlying22 Tryd.infoStr2 rfl (by decide) (.slice (some ⟨g, 0, none⟩) 0 0) 0 [] e7 hres2.1 (.slice ma n mc) n xs q9 ((HX.out.belowAll hb0 (Nat.le_refl _)).belowAll (hI.w0 h15) (Nat.le_refl _)) (by unfold maxLen; omega) (by omega) ?_
      intro a' c' w' ho hbt hg
      rw [← e7] at hbt hg
      simp only [Nat.zero_add, List.nil_append] at ho hg ⊢
      exact hK _ _ ⟨t7, t8, t9, .slice a' n c', t11, t12, t13, t14, t15, t16, t17, t18, t19, t20, t21, retag tag wr.heap.size 1, rfl, { f1 := hI.f1, f2 := hI.f2, f4 := hI.f4, f8 := hI.f8, f9 := hI.f9, f11 := hI.f11, f14 := hI.f14, g14 := hI.g14, g15 := fun h => absurd h (by rw [show set1 b 3 15 = b 15 from rfl, h15]; decide), r1 := hI.r1.stepC hpre.1 hb (by decide) hB ho hbt hg, r2 := hI.r2.but hbt (fun k e => by rw [(hres.2 k e).1]; decide) 1, w0 := fun _ => (hI.w0 h15).trans (hbt.toBelow hB fun k hk e => by have := (hres.2 k e).2; omega), w1 := fun h => absurd h (by rw [show set1 b 3 15 = b 15 from rfl, h15]; decide) }⟩
    · simp at ho; subst ho
      have h15 := hI.not15 (i := 4) (by omega) hb
      have hB : W0.heap.size ≤ wr.heap.size := (hI.w0 h15).size
      go_simp
      exact hK _ _ ⟨t7, t8, t9, t10, str s, t12, t13, t14, t15, t16, t17, t18, t19, t20, t21, tag, rfl, { f1 := hI.f1, f2 := hI.f2, f4 := fun _ => rfl, f8 := hI.f8, f9 := hI.f9, f11 := hI.f11, f14 := hI.f14, g14 := hI.g14, g15 := fun h => absurd h (by rw [show set1 b 4 15 = b 15 from rfl, h15]; decide), r1 := hI.r1, r2 := hI.r2, w0 := fun _ => hI.w0 h15, w1 := fun h => absurd h (by rw [show set1 b 4 15 = b 15 from rfl, h15]; decide) }⟩
    · simp at ho; subst ho
      simp [Region.binds] at hpre
      have h15 := hI.not15 (i := 5) (by omega) hb
      have hB : W0.heap.size ≤ wr.heap.size := (hI.w0 h15).size
      have q11 := hI.f4 hpre
      go_simp
      exact hK _ _ ⟨t7, t8, t9, t10, str s, .slice (some ⟨wr.heap.size, 0, none⟩) 1 1, t13, t14, t15, t16, t17, t18, t19, t20, t21, retag tag wr.heap.size 2, rfl, { f1 := hI.f1, f2 := hI.f2, f4 := fun _ => rfl, f8 := hI.f8, f9 := hI.f9, f11 := hI.f11, f14 := hI.f14, g14 := hI.g14, g15 := fun h => absurd h (by rw [show set1 b 5 15 = b 15 from rfl, h15]; decide), r1 := hI.r1.stepA' hB, r2 := hI.r2.alloc _ 2, w0 := fun _ => (hI.w0 h15).alloc hB _, w1 := fun h => absurd h (by rw [show set1 b 5 15 = b 15 from rfl, h15]; decide) }⟩
    · simp at ho; subst ho
      simp [Region.binds] at hpre
      have h15 := hI.not15 (i := 6) (by omega) hb
      have hB : W0.heap.size ≤ wr.heap.size := (hI.w0 h15).size
      have hres := hI.r1.c hpre.1 hb
      obtain ⟨⟨g, e12⟩, hres12⟩ := hI.r1.a' hpre.2.1 hb
      rw [e12] at hres12
      refine step_append_gen (by rfl) (.tmp 10) (.tmp 12) 22 (by rfl) 9 (str []) 1 16 Tryd.underlying22 Tryd.infoStr2 rfl (by decide) t10 n xs rfl hres.1 (.slice (some ⟨g, 0, none⟩) 1 1) 1 [str s] e12 (hres12.1.src1 (by simp [Value.oneCell'])) (by unfold maxLen; omega) (by omega) ?_
      intro a' c' w' ho hbt hg
      exact hK _ _ ⟨t7, t8, t9, t10, t11, t12, .slice a' (n + 1) c', t14, t15, t16, t17, t18, t19, t20, t21, retag tag wr.heap.size 1, rfl, { f1 := hI.f1, f2 := hI.f2, f4 := hI.f4, f8 := hI.f8, f9 := hI.f9, f11 := hI.f11, f14 := fun h => absurd (hI.g14 h).1 (by rw [hb]; decide), g14 := fun h => ⟨rfl, (hI.g14 h).2⟩, g15 := fun h => absurd h (by rw [show set1 b 6 15 = b 15 from rfl, h15]; decide), r1 := hI.r1.stepC' hpre.1 hb hB ho hg, r2 := hI.r2.but hbt (fun k e => by rw [(hres.2 k e).1]; decide) 1, w0 := fun _ => (hI.w0 h15).trans (hbt.toBelow hB fun k hk e => by have := (hres.2 k e).2; omega), w1 := fun h => absurd h (by rw [show set1 b 6 15 = b 15 from rfl, h15]; decide) }⟩
    · simp at ho; subst ho
      have h15 := hI.not15 (i := 7) (by omega) hb
      have hB : W0.heap.size ≤ wr.heap.size := (hI.w0 h15).size
      go_simp
      exact hK _ _ ⟨t7, t8, t9, t10, t11, t12, t13, .slice (some ⟨wr.heap.size, 0, none⟩) 0 0, t15, t16, t17, t18, t19, t20, t21, retag tag wr.heap.size 3, rfl, { f1 := hI.f1, f2 := hI.f2, f4 := hI.f4, f8 := hI.f8, f9 := hI.f9, f11 := hI.f11, f14 := hI.f14, g14 := hI.g14, g15 := fun h => absurd h (by rw [show set1 b 7 15 = b 15 from rfl, h15]; decide), r1 := hI.r1.alloc _ 3, r2 := hI.r2.stepA hB, w0 := fun _ => (hI.w0 h15).alloc hB _, w1 := fun h => absurd h (by rw [show set1 b 7 15 = b 15 from rfl, h15]; decide) }⟩
    · simp at ho; subst ho
      have h15 := hI.not15 (i := 8) (by omega) hb
      have hB : W0.heap.size ≤ wr.heap.size := (hI.w0 h15).size
      go_simp
      exact hK _ _ ⟨t7, t8, t9, t10, t11, t12, t13, t14, .pointer (some ⟨w.heap.size, 1, none⟩), t16, t17, t18, t19, t20, t21, tag, rfl, { f1 := hI.f1, f2 := hI.f2, f4 := hI.f4, f8 := fun _ => rfl, f9 := hI.f9, f11 := hI.f11, f14 := hI.f14, g14 := hI.g14, g15 := fun h => absurd h (by rw [show set1 b 8 15 = b 15 from rfl, h15]; decide), r1 := hI.r1, r2 := hI.r2, w0 := fun _ => hI.w0 h15, w1 := fun h => absurd h (by rw [show set1 b 8 15 = b 15 from rfl, h15]; decide) }⟩
    · simp at ho; subst ho
      simp [Region.binds] at hpre
      have h15 := hI.not15 (i := 9) (by omega) hb
      have hB : W0.heap.size ≤ wr.heap.size := (hI.w0 h15).size
      have q8 := hI.f8 hpre
      have q0 : wr.cell? ⟨w.heap.size, 1, none⟩ = some (.slice pa m pc) := ((hI.w0 h15).cell (p := ⟨w.heap.size, 1, none⟩) (by rw [z0]; show w.heap.size < _; omega)).trans c1
      go_simp
      exact hK _ _ ⟨t7, t8, t9, t10, t11, t12, t13, t14, .pointer (some ⟨w.heap.size, 1, none⟩), .slice pa m pc, t17, t18, t19, t20, t21, tag, rfl, { f1 := hI.f1, f2 := hI.f2, f4 := hI.f4, f8 := fun _ => rfl, f9 := fun _ => rfl, f11 := hI.f11, f14 := hI.f14, g14 := hI.g14, g15 := fun h => absurd h (by rw [show set1 b 9 15 = b 15 from rfl, h15]; decide), r1 := hI.r1, r2 := hI.r2, w0 := fun _ => hI.w0 h15, w1 := fun h => absurd h (by rw [show set1 b 9 15 = b 15 from rfl, h15]; decide) }⟩
    · simp at ho; subst ho
      simp [Region.binds] at hpre
      have h15 := hI.not15 (i := 10) (by omega) hb
      have hB : W0.heap.size ≤ wr.heap.size := (hI.w0 h15).size
      obtain ⟨⟨g, e7⟩, hres⟩ := hI.r2.a hpre.1 hb
      have hres2 := hres
      rw [e7] at hres2
      have q9 := hI.f9 hpre.2.1
      refine step_append_gen (by rfl) (.tmp 14) (.tmp 16) 29 (by rfl) 3 (.int .i64 0) 1 8 Tryd.underlying29 Tryd.infoInt2 rfl (by decide) (.slice (some ⟨g, 0, none⟩) 0 0) 0 [] e7 hres2.1 (.slice pa m pc) m ys q9 ((HY.out.belowAll hb0 (Nat.le_refl _)).belowAll (hI.w0 h15) (Nat.le_refl _)) (by unfold maxLen; omega) (by omega) ?_
      intro a' c' w' ho hbt hg
      rw [← e7] at hbt hg
      simp only [Nat.zero_add, List.nil_append] at ho hg ⊢
      exact hK _ _ ⟨t7, t8, t9, t10, t11, t12, t13, t14, t15, t16, .slice a' m c', t18, t19, t20, t21, retag tag wr.heap.size 3, rfl, { f1 := hI.f1, f2 := hI.f2, f4 := hI.f4, f8 := hI.f8, f9 := hI.f9, f11 := hI.f11, f14 := hI.f14, g14 := hI.g14, g15 := fun h => absurd h (by rw [show set1 b 10 15 = b 15 from rfl, h15]; decide), r1 := hI.r1.but hbt (fun k e => by rw [(hres.2 k e).1]; decide) 3, r2 := hI.r2.stepC hpre.1 hb (by decide) hB ho hbt hg, w0 := fun _ => (hI.w0 h15).trans (hbt.toBelow hB fun k hk e => by have := (hres.2 k e).2; omega), w1 := fun h => absurd h (by rw [show set1 b 10 15 = b 15 from rfl, h15]; decide) }⟩
    · simp at ho; subst ho
      have h15 := hI.not15 (i := 11) (by omega) hb
      have hB : W0.heap.size ≤ wr.heap.size := (hI.w0 h15).size
      go_simp
      exact hK _ _ ⟨t7, t8, t9, t10, t11, t12, t13, t14, t15, t16, t17, .int .i64 p, t19, t20, t21, tag, rfl, { f1 := hI.f1, f2 := hI.f2, f4 := hI.f4, f8 := hI.f8, f9 := hI.f9, f11 := fun _ => rfl, f14 := hI.f14, g14 := hI.g14, g15 := fun h => absurd h (by rw [show set1 b 11 15 = b 15 from rfl, h15]; decide), r1 := hI.r1, r2 := hI.r2, w0 := fun _ => hI.w0 h15, w1 := fun h => absurd h (by rw [show set1 b 11 15 = b 15 from rfl, h15]; decide) }⟩
    · simp at ho; subst ho
      simp [Region.binds] at hpre
      have h15 := hI.not15 (i := 12) (by omega) hb
      have hB : W0.heap.size ≤ wr.heap.size := (hI.w0 h15).size
      have q11 := hI.f11 hpre
      go_simp
      exact hK _ _ ⟨t7, t8, t9, t10, t11, t12, t13, t14, t15, t16, t17, .int .i64 p, .slice (some ⟨wr.heap.size, 0, none⟩) 1 1, t20, t21, retag tag wr.heap.size 4, rfl, { f1 := hI.f1, f2 := hI.f2, f4 := hI.f4, f8 := hI.f8, f9 := hI.f9, f11 := fun _ => rfl, f14 := hI.f14, g14 := hI.g14, g15 := fun h => absurd h (by rw [show set1 b 12 15 = b 15 from rfl, h15]; decide), r1 := hI.r1.alloc _ 4, r2 := hI.r2.stepA' hB, w0 := fun _ => (hI.w0 h15).alloc hB _, w1 := fun h => absurd h (by rw [show set1 b 12 15 = b 15 from rfl, h15]; decide) }⟩
    · simp at ho; subst ho
      simp [Region.binds] at hpre
      have h15 := hI.not15 (i := 13) (by omega) hb
      have hB : W0.heap.size ≤ wr.heap.size := (hI.w0 h15).size
      have hres := hI.r2.c hpre.1 hb
      obtain ⟨⟨g, e12⟩, hres12⟩ := hI.r2.a' hpre.2.1 hb
      rw [e12] at hres12
      refine step_append_gen (by rfl) (.tmp 17) (.tmp 19) 29 (by rfl) 3 (.int .i64 0) 1 8 Tryd.underlying29 Tryd.infoInt2 rfl (by decide) t17 m ys rfl hres.1 (.slice (some ⟨g, 0, none⟩) 1 1) 1 [.int .i64 p] e12 (hres12.1.src1 (by simp [Value.oneCell'])) (by unfold maxLen; omega) (by omega) ?_
      intro a' c' w' ho hbt hg
      exact hK _ _ ⟨t7, t8, t9, t10, t11, t12, t13, t14, t15, t16, t17, t18, t19, .slice a' (m + 1) c', t21, retag tag wr.heap.size 3, rfl, { f1 := hI.f1, f2 := hI.f2, f4 := hI.f4, f8 := hI.f8, f9 := hI.f9, f11 := hI.f11, f14 := fun h => absurd (hI.g14 h).2 (by rw [hb]; decide), g14 := fun h => ⟨(hI.g14 h).1, rfl⟩, g15 := fun h => absurd h (by rw [show set1 b 13 15 = b 15 from rfl, h15]; decide), r1 := hI.r1.but hbt (fun k e => by rw [(hres.2 k e).1]; decide) 3, r2 := hI.r2.stepC' hpre.1 hb hB ho hg, w0 := fun _ => (hI.w0 h15).trans (hbt.toBelow hB fun k hk e => by have := (hres.2 k e).2; omega), w1 := fun h => absurd h (by rw [show set1 b 13 15 = b 15 from rfl, h15]; decide) }⟩
    · simp at ho; subst ho
      simp [Region.binds] at hpre
      have h15 := hI.not15 (i := 14) (by omega) hb
      have hB : W0.heap.size ≤ wr.heap.size := (hI.w0 h15).size
      obtain ⟨a13, k13, e13⟩ := (hI.r1.c' hpre.1).1.slice
      obtain ⟨a20, k20, e20⟩ := (hI.r2.c' hpre.2).1.slice
      subst e13
      subst e20
      go_simp
      exact hK _ _ ⟨t7, t8, t9, t10, t11, t12, .slice a13 (n + 1) k13, t14, t15, t16, t17, t18, t19, .slice a20 (m + 1) k20, .agg #[.slice a13 (n + 1) k13, .slice a20 (m + 1) k20], tag, rfl, { f1 := hI.f1, f2 := hI.f2, f4 := hI.f4, f8 := hI.f8, f9 := hI.f9, f11 := hI.f11, f14 := fun _ => rfl, g14 := fun _ => ⟨hpre.1, hpre.2⟩, g15 := fun h => absurd h (by rw [show set1 b 14 15 = b 15 from rfl, h15]; decide), r1 := hI.r1, r2 := hI.r2, w0 := fun _ => hI.w0 h15, w1 := fun h => absurd h (by rw [show set1 b 14 15 = b 15 from rfl, h15]; decide) }⟩
    · simp at ho; subst ho
      simp [Region.binds] at hpre
      obtain ⟨a13, k13, e13⟩ := (hI.r1.c' (hI.g14 hpre.1).1).1.slice
      have hall : ∀ k, k < 15 → b k = true := fun k hk => by
        obtain ⟨p14, p0⟩ := hpre
        rcases (by omega : k = 0 ∨ k = 1 ∨ k = 2 ∨ k = 3 ∨ k = 4 ∨ k = 5 ∨ k = 6 ∨ k = 7 ∨ k = 8 ∨ k = 9 ∨ k = 10 ∨ k = 11 ∨ k = 12 ∨ k = 13 ∨ k = 14) with rfl | rfl | rfl | rfl | rfl | rfl | rfl | rfl | rfl | rfl | rfl | rfl | rfl | rfl | rfl <;> simp [*]
      obtain ⟨a20, k20, e20⟩ := (hI.r2.c' (hI.g14 hpre.1).2).1.slice
      subst e13; subst e20
      have q21 := hI.f14 hpre.1
      have hblk : wr.heap[w.heap.size + 1]? = some (.cells #[.slice none 0 0, .slice none 0 0] 31 (0, 0)) := by rw [(hI.w0 hb).block _ (by omega)]; exact h6
      obtain ⟨u0, u1, v0, v1⟩ := cells2 hblk
      have hbW := hI.w0 hb
      have hst := setc_at (o := 1) (u := .slice a20 (m + 1) k20) (setc_at (o := 0) (u := .slice a13 (n + 1) k13) hblk)
      go_simp
      have hbt : But (· = w.heap.size + 1) wr ((wr.setCell ⟨w.heap.size + 1, 0, none⟩ (.slice a13 (n + 1) k13)).setCell ⟨w.heap.size + 1, 1, none⟩ (.slice a20 (m + 1) k20)) := ((But.refl (· = w.heap.size + 1) wr).setCell (p := ⟨w.heap.size + 1, 0, none⟩) (.inl rfl) _).setCell (p := ⟨w.heap.size + 1, 1, none⟩) (.inl rfl) _
      exact hK _ _ ⟨t7, t8, t9, t10, t11, t12, .slice a13 (n + 1) k13, t14, t15, t16, t17, t18, t19, .slice a20 (m + 1) k20, .agg #[.slice a13 (n + 1) k13, .slice a20 (m + 1) k20], tag, rfl, { f1 := hI.f1, f2 := hI.f2, f4 := hI.f4, f8 := hI.f8, f9 := hI.f9, f11 := hI.f11, f14 := fun _ => rfl, g14 := hI.g14, g15 := fun _ k hk => by rw [show set1 b 15 k = b k from if_neg (by omega)]; exact hall k hk, r1 := hI.r1.low hbt (fun k e => by omega), r2 := hI.r2.low hbt (fun k e => by omega), w0 := fun h => Bool.noConfusion (show true = false from h), w1 := fun _ => ⟨(But.ofBelow hbW).trans hbt, hst⟩ }⟩
    · simp at ho

end Go.Proofs.YtmkgoacclgoidaaDoor

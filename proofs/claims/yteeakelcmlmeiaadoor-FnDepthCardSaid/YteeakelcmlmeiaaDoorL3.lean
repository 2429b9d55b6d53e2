/- The laws FnSize, FnStrategy, FnDepth. -/
import Derived.Test.YteeakelcmlmeiaaDoorD7
import Derived.Test.YteeakelcmlmeiaaDoorS12
namespace Go.Proofs.YteeakelcmlmeiaaDoor
open Go.RowKit

def Drawn (w : World) (en : Ending) (w' : World) : Prop := ∃ s text : Bs, en = .returned (.tuple #[str s, str text]) ∧ s.length ≤ 100 ∧ text.length ≤ 100000 ∧ Below w.heap.size w w'
theorem but_new {rd : Nat} {w w1 w2 : World} (h1 : Below w.heap.size w w1) (hrd : w.heap.size ≤ rd) (h2 : But (· = rd) w1 w2) : Below w.heap.size w w2 :=
  h1.trans (h2.toBelow h1.size fun i hi e => by omega)

set_option maxHeartbeats 1000000 in
theorem drawSize_any (a : Option Addr) (len cap : Nat) (zs : List Int) (w : World) (h : Row8 w a len cap zs) (hl : len ≤ 1048576) :
    Calls Tryd.prog 12 #[.slice a len cap] w (Drawn w) := by
  go_enter Tryd.func12, Tryd.ntmps12
  go_wp2_with fail
  refine (l6Open_any a len cap zs w h hl).mono ?_
  rintro en w1 ⟨rfl, hb1, hr1, _⟩
  clear h
  go_wp2_with fail
  refine (l91Given_any w.heap.size 0 w1 hr1 (by omega)).mono ?_
  rintro en w2 ⟨s, text, rfl, hs, ht, hb2, _⟩
  go_wp2_with fail
  refine bodyPost_ret (v := .tuple #[str s, str text]) (by simp [results, Tryd.results12, go_sem]) rfl ?_
  exact ⟨s, text, rfl, hs, ht, but_new hb1 (Nat.le_refl _) hb2⟩

set_option maxHeartbeats 1000000 in
theorem drawValid_any (a : Option Addr) (len cap : Nat) (zs : List Int) (w : World) (h : Row8 w a len cap zs) (hl : len ≤ 1048576) :
    Calls Tryd.prog 15 #[.slice a len cap] w (Drawn w) := by
  go_enter Tryd.func15, Tryd.ntmps15
  go_wp2_with fail
  refine (l6Open_any a len cap zs w h hl).mono ?_
  rintro en w1 ⟨rfl, hb1, hr1, _⟩
  clear h
  go_wp2_with fail
  refine (l91Given_any w.heap.size 0 w1 hr1 (by omega)).mono ?_
  rintro en w2 ⟨s, text, rfl, hs, ht, hb2, _⟩
  go_wp2_with fail
  refine bodyPost_ret (v := .tuple #[str s, str text]) (by simp [results, Tryd.results15, go_sem]) rfl ?_
  exact ⟨s, text, rfl, hs, ht, but_new hb1 (Nat.le_refl _) hb2⟩

set_option maxHeartbeats 1000000 in
theorem drawDepth_any (a : Option Addr) (len cap : Nat) (zs : List Int) (w : World) (h : Row8 w a len cap zs) (hl : len ≤ 1048576) :
    Calls Tryd.prog 18 #[.slice a len cap] w (Drawn w) := by
  go_enter Tryd.func18, Tryd.ntmps18
  go_wp2_with fail
  refine (l6Open_any a len cap zs w h hl).mono ?_
  rintro en w1 ⟨rfl, hb1, hr1, _⟩
  clear h
  go_wp2_with fail
  refine (l91Given_any w.heap.size 0 w1 hr1 (by omega)).mono ?_
  rintro en w2 ⟨s, text, rfl, hs, ht, hb2, _⟩
  go_wp2_with fail
  refine bodyPost_ret (v := .tuple #[str s, str text]) (by simp [results, Tryd.results18, go_sem]) rfl ?_
  exact ⟨s, text, rfl, hs, ht, but_new hb1 (Nat.le_refl _) hb2⟩

/-- What is read, once more: bodies of one node are one letter. -/
theorem strat_shape {s text : Bs} {b : Bd} (h : specStrat s text = some b) :
    (sizeB b = 1 ∧ depthB b = 0 ∧ (text = [116] ∨ text = [102] ∨ text = [117])) ∨ (2 ≤ sizeB b ∧ 1 ≤ depthB b ∧ text ≠ [116] ∧ text ≠ [102] ∧ text ≠ [117]) := by
  unfold specStrat at h
  split at h
  · simp at h
  · split at h
    · simp at h
    · rename_i b' rest hr
      split at h
      · rename_i hc
        simp at h; subst h
        obtain ⟨rfl, _⟩ := hc
        cases text with
        | nil =>
          change rdN (100 + 1) _ [] = _ at hr
          rw [rdN] at hr; simp at hr
        | cons c m =>
          change rdN (100 + 1) _ (c :: m) = _ at hr
          rw [rdN] at hr
          dsimp only at hr
          split at hr
          · rename_i h3
            simp at hr; obtain ⟨rfl, rfl⟩ := hr
            left
            refine ⟨by simp [sizeB], by simp [depthB], ?_⟩
            rcases h3 with rfl | rfl | rfl
            · exact .inl rfl
            · exact .inr (.inl rfl)
            · exact .inr (.inr rfl)
          · rename_i h3
            right
            split at hr
            · simp at hr
            · split at hr
              · simp at hr
              · split at hr
                · simp at hr
                · simp only [Option.bind_eq_bind, Option.bind_eq_some_iff, Prod.exists] at hr
                  obtain ⟨ps, l1, h1, l2, h2, b2, hb2, h4⟩ := hr
                  simp at h4; obtain ⟨rfl, _⟩ := h4
                  have hask : ∃ v ss y n, b2 = .ask v ss y n := by
                    unfold askOf at hb2
                    split at hb2
                    · simp at hb2; exact ⟨_, _, _, _, hb2.symm⟩
                    · simp at hb2
                  obtain ⟨v, ss, y, n, rfl⟩ := hask
                  have p1 := sizeB_pos y
                  refine ⟨by simp only [sizeB]; omega, by simp only [depthB]; omega, ?_, ?_, ?_⟩
                  · intro e; apply h3; simp at e; exact .inl e.1
                  · intro e; apply h3; simp at e; exact .inr (.inl e.1)
                  · intro e; apply h3; simp at e; exact .inr (.inr e.1)
      · simp at h

theorem belowB_leafu (b : Bd) : belowB (.leaf 117) b = true := by cases b <;> simp [belowB]
mutual
theorem belowB_refl : ∀ b : Bd, belowB b b = true
  | .leaf c => by simp [belowB]
  | .ask v ss y n => by simp [belowB, belowBs_refl ss, belowB_refl y, belowB_refl n]
theorem belowBs_refl : ∀ bs : List Bd, belowBs bs bs = true
  | [] => by simp [belowBs]
  | b :: bs => by simp [belowBs, belowB_refl b, belowBs_refl bs]
end
theorem strat_u {s text : Bs} {b : Bd} (h : specStrat s text = some b) : specStrat s [117] = some (.leaf 117) := by
  unfold specStrat at h ⊢
  split at h
  · simp at h
  · rename_i hc
    rw [if_neg (by intro h'; rcases h' with h' | h'; exact hc (.inl h'); simp at h')]
    simp [rdN, sizeB]

set_option maxRecDepth 100000 in
set_option maxHeartbeats 2000000 in
theorem fnSize_any (a : Option Addr) (len cap : Nat) (zs : List Int) (w : World) (h : Row8 w a len cap zs) (hg : Glob w) :
    Calls Tryd.prog 5 #[.slice a len cap] w fun en w' => en = .returned (.bool true) ∧ Below w.heap.size w w' := by
  by_cases hlen : 1048576 < len
  · have hlen' : (1048576 : Int) < (len : Int) := by omega
    go_enter Tryd.func5, Tryd.ntmps5
    go_wp2_with fail
    go_ret
    exact ⟨rfl, Below.refl _ _⟩
  have hlen' : ¬ (1048576 : Int) < (len : Int) := by omega
  have H := Lib.hid h; clear h
  go_enter Tryd.func5, Tryd.ntmps5
  go_wp2_with fail
  refine (drawSize_any a len cap zs w H.out (by omega)).mono ?_
  rintro en w1 ⟨s, text, rfl, hs, ht, hb1⟩
  have ls : Lim s.length := show _ ≤ _ by omega
  have lt : Lim text.length := show _ ≤ _ by omega
  have hg1 := hg.below hb1
  cases hq : specStrat s text with
  | none =>
    have HQ := Lib.hid hq; clear hq
    go_wp2_with fail
    refine (implSize_any s text ls lt w1 hg1).mono ?_
    rintro en w2 ⟨rfl, hb2⟩
    rw [HQ.out]
    simp only [sizeOf']
    go_wp2_with fail
    refine (specSize_any s text ls lt w2).mono ?_
    rintro en w3 ⟨rfl, hb3⟩
    rw [HQ.out]
    simp only [sizeOf']
    go_wp2_with fail
    go_ret
    exact ⟨rfl, hb1.trans ((hb2.mono hb1.size).trans (hb3.mono (Nat.le_trans hb1.size hb2.size)))⟩
  | some b =>
    have hsh := strat_shape hq
    have hdl := depthB_lt _ b (Nat.le_refl _)
    have hs2 := specStrat_size hq
    have HQ := Lib.hid hq; clear hq
    have HSZ : Hid (sizeOf' (specStrat s text) = ((sizeB b : Nat) : Int)) := by show sizeOf' _ = _; rw [HQ.out]; rfl
    have HDP : Hid (depthOf (specStrat s text) = ((depthB b : Nat) : Int)) := by show depthOf _ = _; rw [HQ.out]; rfl
    generalize sizeB b = sb at *
    generalize depthB b = db at *
    have hsb0 : ¬ (sb : Int) < 0 := by omega
    have hne : ((sb : Int) != (sb : Int)) = false := by simp
    have hdb : (db : Int) < (sb : Int) := by omega
    have hdep := fun w hg => implDepth_any s text ls lt w hg
    have HD := Lib.hid hdep; clear hdep
    have hfin : (((sb : Int) == 1) = true ∧ (text = [116] ∨ text = [102] ∨ text = [117])) ∨ (((sb : Int) == 1) = false ∧ (text == [116]) = false ∧ (text == [102]) = false ∧ (text == [117]) = false) := by
      rcases hsh with ⟨h1, _, h2⟩ | ⟨h1, _, h2, h3, h4⟩
      · exact .inl ⟨by rw [beq_iff_eq]; omega, h2⟩
      · exact .inr ⟨by rw [beq_eq_false_iff_ne]; omega, by rw [beq_eq_false_iff_ne]; exact h2, by rw [beq_eq_false_iff_ne]; exact h3, by rw [beq_eq_false_iff_ne]; exact h4⟩
    have HFIN := Lib.hid hfin; clear hfin hsh
    go_wp2_with fail
    refine (implSize_any s text ls lt w1 hg1).mono ?_
    rintro en w2 ⟨rfl, hb2⟩
    rw [HSZ.out]
    go_wp2_with fail
    refine (specSize_any s text ls lt w2).mono ?_
    rintro en w3 ⟨rfl, hb3⟩
    rw [HSZ.out]
    have hg3 := (hg1.below hb2).below hb3
    have hb123 := hb1.trans ((hb2.mono hb1.size).trans (hb3.mono (Nat.le_trans hb1.size hb2.size)))
    go_wp2_with fail
    refine (HD.out w3 hg3).mono ?_
    rintro en w4 ⟨rfl, hb4⟩
    have he : (rdTS s text).map Prod.snd = specStrat s text := by
      rw [rdTS_eq]; cases specStrat s text <;> rfl
    rw [he, HDP.out]
    clear he
    have hb1234 := hb123.trans (hb4.mono hb123.size)
    rcases HFIN.out with ⟨f1, rfl | rfl | rfl⟩ | ⟨f1, f2, f3, f4⟩
    all_goals
      go_wp2_with fail
      go_ret
      exact ⟨rfl, hb1234⟩

set_option maxRecDepth 100000 in
set_option maxHeartbeats 2000000 in
theorem fnDepth_any (a : Option Addr) (len cap : Nat) (zs : List Int) (w : World) (h : Row8 w a len cap zs) (hg : Glob w) :
    Calls Tryd.prog 7 #[.slice a len cap] w fun en w' => en = .returned (.bool true) ∧ Below w.heap.size w w' := by
  by_cases hlen : 1048576 < len
  · have hlen' : (1048576 : Int) < (len : Int) := by omega
    go_enter Tryd.func7, Tryd.ntmps7
    go_wp2_with fail
    go_ret
    exact ⟨rfl, Below.refl _ _⟩
  have hlen' : ¬ (1048576 : Int) < (len : Int) := by omega
  have H := Lib.hid h; clear h
  go_enter Tryd.func7, Tryd.ntmps7
  go_wp2_with fail
  refine (drawDepth_any a len cap zs w H.out (by omega)).mono ?_
  rintro en w1 ⟨s, text, rfl, hs, ht, hb1⟩
  have ls : Lim s.length := show _ ≤ _ by omega
  have lt : Lim text.length := show _ ≤ _ by omega
  have hg1 := hg.below hb1
  have he : (rdTS s text).map Prod.snd = specStrat s text := by
    rw [rdTS_eq]; cases specStrat s text <;> rfl
  have HE := Lib.hid he; clear he
  cases hq : specStrat s text with
  | none =>
    have HQ := Lib.hid hq; clear hq
    go_wp2_with fail
    refine (implDepth_any s text ls lt w1 hg1).mono ?_
    rintro en w2 ⟨rfl, hb2⟩
    rw [HE.out, HQ.out]
    simp only [depthOf]
    go_wp2_with fail
    refine (specDepth_any s text ls lt w2).mono ?_
    rintro en w3 ⟨rfl, hb3⟩
    rw [HQ.out]
    simp only [depthOf]
    go_wp2_with fail
    go_ret
    exact ⟨rfl, hb1.trans ((hb2.mono hb1.size).trans (hb3.mono (Nat.le_trans hb1.size hb2.size)))⟩
  | some b =>
    have hsh := strat_shape hq
    have hdl := depthB_lt _ b (Nat.le_refl _)
    have hs2 := specStrat_size hq
    have HQ := Lib.hid hq; clear hq
    have HSZ : Hid (sizeOf' (specStrat s text) = ((sizeB b : Nat) : Int)) := by show sizeOf' _ = _; rw [HQ.out]; rfl
    have HDP : Hid (depthOf (specStrat s text) = ((depthB b : Nat) : Int)) := by show depthOf _ = _; rw [HQ.out]; rfl
    generalize sizeB b = sb at *
    generalize depthB b = db at *
    have hsb0 : ¬ (db : Int) < 0 := by omega
    have hne : ((db : Int) != (db : Int)) = false := by simp
    have hfin : (((db : Int) == 0) = true ∧ ((sb : Int) == 1) = true) ∨ (((db : Int) == 0) = false ∧ ((sb : Int) == 1) = false) := by
      rcases hsh with ⟨h1, h2, _⟩ | ⟨h1, h2, _⟩
      · exact .inl ⟨by rw [beq_iff_eq]; omega, by rw [beq_iff_eq]; omega⟩
      · exact .inr ⟨by rw [beq_eq_false_iff_ne]; omega, by rw [beq_eq_false_iff_ne]; omega⟩
    clear hsh
    rcases hfin with ⟨f1, f2⟩ | ⟨f1, f2⟩
    all_goals
      go_wp2_with fail
      refine (implDepth_any s text ls lt w1 hg1).mono ?_
      rintro en w2 ⟨rfl, hb2⟩
      rw [HE.out, HDP.out]
      go_wp2_with fail
      refine (specDepth_any s text ls lt w2).mono ?_
      rintro en w3 ⟨rfl, hb3⟩
      rw [HDP.out]
      have hg3 := (hg1.below hb2).below hb3
      have hb123 := hb1.trans ((hb2.mono hb1.size).trans (hb3.mono (Nat.le_trans hb1.size hb2.size)))
      go_wp2_with fail
      refine (implSize_any s text ls lt w3 hg3).mono ?_
      rintro en w4 ⟨rfl, hb4⟩
      rw [HSZ.out]
      go_wp2_with fail
      go_ret
      exact ⟨rfl, hb123.trans (hb4.mono hb123.size)⟩

set_option maxRecDepth 100000 in
set_option maxHeartbeats 2000000 in
theorem fnStrategy_any (a : Option Addr) (len cap : Nat) (zs : List Int) (w : World) (h : Row8 w a len cap zs) (hg : Glob w) :
    Calls Tryd.prog 6 #[.slice a len cap] w fun en w' => en = .returned (.bool true) ∧ Below w.heap.size w w' := by
  by_cases hlen : 1048576 < len
  · have hlen' : (1048576 : Int) < (len : Int) := by omega
    go_enter Tryd.func6, Tryd.ntmps6
    go_wp2_with fail
    go_ret
    exact ⟨rfl, Below.refl _ _⟩
  have hlen' : ¬ (1048576 : Int) < (len : Int) := by omega
  have H := Lib.hid h; clear h
  go_enter Tryd.func6, Tryd.ntmps6
  go_wp2_with fail
  refine (drawValid_any a len cap zs w H.out (by omega)).mono ?_
  rintro en w1 ⟨s, text, rfl, hs, ht, hb1⟩
  have ls : Lim s.length := show _ ≤ _ by omega
  have lt : Lim text.length := show _ ≤ _ by omega
  have hg1 := hg.below hb1
  cases hq : specStrat s text with
  | none =>
    have HQ := Lib.hid hq; clear hq
    go_wp2_with fail
    refine (implValid_any s text ls lt w1 hg1).mono ?_
    rintro en w2 ⟨rfl, hb2⟩
    rw [HQ.out]
    simp only [Option.isSome_none]
    go_wp2_with fail
    refine (specValid_any s text ls lt w2).mono ?_
    rintro en w3 ⟨rfl, hb3⟩
    rw [HQ.out]
    simp only [Option.isSome_none]
    go_wp2_with fail
    go_ret
    exact ⟨rfl, hb1.trans ((hb2.mono hb1.size).trans (hb3.mono (Nat.le_trans hb1.size hb2.size)))⟩
  | some b =>
    have hs2 := sizeB_pos b
    have hs3 := specStrat_size hq
    have HU := Lib.hid (strat_u hq)
    have HQ := Lib.hid hq; clear hq
    have HSZ : Hid (sizeOf' (specStrat s text) = ((sizeB b : Nat) : Int)) := by show sizeOf' _ = _; rw [HQ.out]; rfl
    have HB1 : Hid (belowOf (specStrat s [117]) (specStrat s text) = true) := by show belowOf _ _ = _; rw [HU.out, HQ.out]; exact belowB_leafu b
    have HB2 : Hid (belowOf (specStrat s text) (specStrat s text) = true) := by show belowOf _ _ = _; rw [HQ.out]; exact belowB_refl b
    generalize sizeB b = sb at *
    have hsb0 : (1 : Int) ≤ (sb : Int) := by omega
    have lu : Lim ([117] : Bs).length := show _ ≤ _ by simp
    go_wp2_with fail
    refine (implValid_any s text ls lt w1 hg1).mono ?_
    rintro en w2 ⟨rfl, hb2⟩
    rw [HQ.out]
    simp only [Option.isSome_some]
    go_wp2_with fail
    refine (specValid_any s text ls lt w2).mono ?_
    rintro en w3 ⟨rfl, hb3⟩
    rw [HQ.out]
    simp only [Option.isSome_some]
    have hg3 := (hg1.below hb2).below hb3
    have hb123 := hb1.trans ((hb2.mono hb1.size).trans (hb3.mono (Nat.le_trans hb1.size hb2.size)))
    go_wp2_with fail
    refine (implBelow_any s [117] text ls lu lt w3 hg3).mono ?_
    rintro en w4 ⟨rfl, hb4⟩
    rw [HB1.out]
    have hg4 := hg3.below hb4
    have hb1234 := hb123.trans (hb4.mono hb123.size)
    go_wp2_with fail
    refine (implBelow_any s text text ls lt lt w4 hg4).mono ?_
    rintro en w5 ⟨rfl, hb5⟩
    rw [HB2.out]
    have hg5 := hg4.below hb5
    have hb5' := hb1234.trans (hb5.mono hb1234.size)
    go_wp2_with fail
    refine (implSize_any s text ls lt w5 hg5).mono ?_
    rintro en w6 ⟨rfl, hb6⟩
    rw [HSZ.out]
    go_wp2_with fail
    go_ret
    exact ⟨by simp, hb5'.trans (hb6.mono hb5'.size)⟩

end Go.Proofs.YteeakelcmlmeiaaDoor

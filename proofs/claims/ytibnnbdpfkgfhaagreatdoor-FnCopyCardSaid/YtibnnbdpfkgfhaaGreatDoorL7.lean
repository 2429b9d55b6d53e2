/- The laws FnCopyApply and FnCopy. -/
import Derived.Test.YtibnnbdpfkgfhaaGreatDoorP20
import Derived.Test.YtibnnbdpfkgfhaaGreatDoorK2
import Derived.Test.YtibnnbdpfkgfhaaGreatDoorW11
import Derived.Test.YtibnnbdpfkgfhaaGreatDoorD8
import Derived.Deep.DeepCutAuto
namespace Go.Proofs.YtibnnbdpfkgfhaaGreatDoor
open Go.RowKit

theorem implOne_spec (s m n : Bs) (w : World) (hg : Glob w) (he : GlobE w) (hs : Lim s.length) (hm : Lim m.length) (hn : Lim n.length) :
    Calls Tryz.prog 16 #[str s, str m, str n] w (TextPost w (specApplyOf s m n)) := by
  rw [← one_eq]; exact implOne_any s m n w hg he hs hm hn
theorem implCopy_spec (s : Bs) (w : World) (hg : Glob w) (hs : Lim s.length) :
    Calls Tryz.prog 15 #[str s] w (TextPost w (specCopy s)) := by
  rw [← copy_eq]; exact implCopy_any s w hg hs
theorem copy_lim {s out : Bs} (h : specCopy s = some out) : Lim out.length := by
  obtain ⟨t, _, _, h15, rfl⟩ := copy_some h
  have hg := eta_good h15
  have := textB_length _ hg.lv
  have := hg.size
  show _ ≤ _; omega

set_option maxRecDepth 100000 in
set_option maxHeartbeats 2000000 in
theorem fnCopyApply_any (a : Option Addr) (len cap : Nat) (zs : List Int) (w : World) (h : Row8 w a len cap zs) (hg : Glob w) (he : GlobE w) :
    Calls Tryz.prog 4 #[.slice a len cap] w fun en w' => en = .returned (.bool true) ∧ Below w.heap.size w w' := by
  by_cases hlen : 1048576 < len
  · have hlen' : (1048576 : Int) < (len : Int) := by omega
    go_enter Tryz.func4, Tryz.ntmps4
    go_wp2_with fail
    go_ret
    exact ⟨rfl, Below.refl _ _⟩
  have hlen' : ¬ (1048576 : Int) < (len : Int) := by omega
  have H := Lib.hid h; clear h
  have HG := Lib.hid (And.intro hg he); clear hg he
  go_enter Tryz.func4, Tryz.ntmps4
  go_wp2_with fail
  refine (drawValid_any a len cap zs w H.out (by omega)).mono ?_
  rintro en w1 ⟨s, text, rfl, hs, ht, hb1⟩
  have ls : Lim s.length := show _ ≤ _ by omega
  have lt : Lim text.length := show _ ≤ _ by omega
  have HB1 := Lib.hid hb1; clear hb1
  cases hq : specStrat s text with
  | none =>
    have HQ := Lib.hid hq; clear hq
    go_wp2_with fail
    refine (implValid_any s text ls lt w1 (HG.out.1.below HB1.out)).mono ?_
    rintro en w2 ⟨rfl, hb2⟩
    rw [HQ.out]
    simp only [Option.isSome_none]
    go_wp2_with fail
    refine (specValid_any s text ls lt w2).mono ?_
    rintro en w3 ⟨rfl, hb3⟩
    rw [HQ.out]
    simp only [Option.isSome_none]
    go_wp2_with fail
    go_ret
    exact ⟨rfl, HB1.out.trans ((hb2.mono HB1.out.size).trans (hb3.mono (Nat.le_trans HB1.out.size hb2.size)))⟩
  | some b =>
    have HQ := Lib.hid hq; clear hq
    obtain ⟨O1, hO1⟩ : ∃ O : Bs, O = [40, 62, 32] ++ s := ⟨_, rfl⟩
    obtain ⟨O2, hO2⟩ : ∃ O : Bs, O = O1 ++ [32] := ⟨_, rfl⟩
    obtain ⟨O3, hO3⟩ : ∃ O : Bs, O = O2 ++ s := ⟨_, rfl⟩
    obtain ⟨kd, hkd⟩ : ∃ O : Bs, O = O3 ++ [41] := ⟨_, rfl⟩
    have l1 : O1.length = 3 + s.length := by rw [hO1]; simp; omega
    have l2 : O2.length = 4 + s.length := by rw [hO2, List.length_append, l1]; simp; omega
    have l3 : O3.length = 4 + s.length + s.length := by rw [hO3, List.length_append, l2]
    have l4 : kd.length = 5 + s.length + s.length := by rw [hkd, List.length_append, l3]; simp; omega
    have s1 := fun w0 => add_str (P := Tryz.prog) [40, 62, 32] s (by simp; omega) w0
    rw [← hO1] at s1
    have s2 := fun w0 => add_str (P := Tryz.prog) O1 [32] (by simp; omega) w0
    rw [← hO2] at s2
    have s3 := fun w0 => add_str (P := Tryz.prog) O2 s (by omega) w0
    rw [← hO3] at s3
    have s4 := fun w0 => add_str (P := Tryz.prog) O3 [41] (by simp; omega) w0
    rw [← hkd] at s4
    have lk : Lim kd.length := show _ ≤ _ by omega
    have HK := Lib.hid (show kd = arrowText s s by rw [hkd, hO3, hO2, hO1]; rfl)
    clear hO1 hO2 hO3 hkd l1 l2 l3 l4
    go_wp2_with fail
    refine (implValid_any s text ls lt w1 (HG.out.1.below HB1.out)).mono ?_
    rintro en w2 ⟨rfl, hb2⟩
    rw [HQ.out]
    simp only [Option.isSome_some]
    have HB2 := Lib.hid (HB1.out.trans (hb2.mono HB1.out.size)); clear hb2
    go_wp2_with fail
    refine (specValid_any s text ls lt w2).mono ?_
    rintro en w3 ⟨rfl, hb3⟩
    rw [HQ.out]
    simp only [Option.isSome_some]
    have HB3 := Lib.hid (HB2.out.trans (hb3.mono HB2.out.size)); clear hb3
    go_wp2_with fail
    (with_reducible refine (implCopy_spec s w3 (HG.out.1.below HB3.out) ls).mono ?_)
    rintro en w4 ⟨rfl, hb4⟩
    have HB4 := Lib.hid (HB3.out.trans (hb4.mono HB3.out.size)); clear hb4
    clear s1 s2 s3 s4
    cases hc : specCopy s with
    | none =>
      rw [Option.getD_none, Option.isSome_none]
      have lz : Lim ([] : Bs).length := show _ ≤ _ by simp
      have C5 := Lib.hid (implOne_spec kd [] text w4 (HG.out.1.below HB4.out) (HG.out.2.below HB4.out) lk lz lt)
      clear hc
      generalize specApplyOf kd [] text = R at *
      go_wp2_with fail
      (with_reducible refine C5.out.mono ?_)
      rintro en w5 ⟨rfl, hb5⟩
      obtain ⟨X, hX⟩ : ∃ X, X = R.getD [] := ⟨_, rfl⟩
      obtain ⟨Y, hY⟩ : ∃ Y, Y = R.isSome := ⟨_, rfl⟩
      rw [← hX, ← hY]
      clear hX hY
      go_wp2_with fail
      go_ret
      exact ⟨by simp, HB4.out.trans (hb5.mono HB4.out.size)⟩
    | some out =>
      rw [Option.getD_some, Option.isSome_some]
      have lo := copy_lim hc
      have C5 := implOne_spec kd out text w4 (HG.out.1.below HB4.out) (HG.out.2.below HB4.out) lk lo lt
      rw [HK.out, copy_given hc HQ.out, ← HK.out] at C5
      have C5 := Lib.hid C5
      clear hc
      have e0 : (text == text) = true := by simp
      go_wp2_with fail
      (with_reducible refine C5.out.mono ?_)
      rintro en w5 ⟨rfl, hb5⟩
      rw [Option.getD_some, Option.isSome_some]
      go_wp2_with fail
      go_ret
      exact ⟨by simp, HB4.out.trans (hb5.mono HB4.out.size)⟩

/-- A drawn text. -/
def Drawn1 (w : World) (en : Ending) (w' : World) : Prop := ∃ s : Bs, en = .returned (str s) ∧ s.length ≤ 100 ∧ Below w.heap.size w w'
set_option maxHeartbeats 1000000 in
theorem drawCopy_any (a : Option Addr) (len cap : Nat) (zs : List Int) (w : World) (h : Row8 w a len cap zs) (hl : len ≤ 1048576) :
    Calls Tryz.prog 17 #[.slice a len cap] w (Drawn1 w) := by
  go_enter Tryz.func17, Tryz.ntmps17
  go_wp2_with fail
  refine (l6Open_any a len cap zs w h hl).mono ?_
  rintro en w1 ⟨rfl, hb1, hr1, _⟩
  clear h
  go_wp2_with fail
  refine (l91Odd_any w.heap.size 0 w1 hr1 (by omega)).mono ?_
  rintro en w2 ⟨s, hs, rfl, hb2, _⟩
  have HS := Lib.hid hs; clear hs
  go_wp2_with fail
  go_ret
  exact ⟨s, rfl, odd_len HS.out, but_new hb1 (Nat.le_refl _) hb2⟩

def leafText (k : Nat) : Bs := if k = 0 then [116] else if k = 1 then [102] else [117]
theorem leafText_or (k : Nat) : ∃ c : UInt8, leafText k = [c] ∧ (c = 116 ∨ c = 102 ∨ c = 117) := by
  unfold leafText
  split
  · exact ⟨_, rfl, .inl rfl⟩
  · split
    · exact ⟨_, rfl, .inr (.inl rfl)⟩
    · exact ⟨_, rfl, .inr (.inr rfl)⟩

set_option maxRecDepth 100000 in
set_option maxHeartbeats 2000000 in
theorem fnCopy_any (a : Option Addr) (len cap : Nat) (zs : List Int) (w : World) (h : Row8 w a len cap zs) (hg : Glob w) (he : GlobE w) :
    Calls Tryz.prog 5 #[.slice a len cap] w fun en w' => en = .returned (.bool true) ∧ Below w.heap.size w w' := by
  by_cases hlen : 1048576 < len
  · have hlen' : (1048576 : Int) < (len : Int) := by omega
    go_enter Tryz.func5, Tryz.ntmps5
    go_wp2_with fail
    go_ret
    exact ⟨rfl, Below.refl _ _⟩
  have hlen' : ¬ (1048576 : Int) < (len : Int) := by omega
  have H := Lib.hid h; clear h
  have HG := Lib.hid (And.intro hg he); clear hg he
  go_enter Tryz.func5, Tryz.ntmps5
  go_wp2_with fail
  refine (drawCopy_any a len cap zs w H.out (by omega)).mono ?_
  rintro en w1 ⟨s, rfl, hs, hb1⟩
  have ls : Lim s.length := show _ ≤ _ by omega
  have HB1 := Lib.hid hb1; clear hb1
  go_wp2_with fail
  (with_reducible refine (implCopy_spec s w1 (HG.out.1.below HB1.out) ls).mono ?_)
  rintro en w2 ⟨rfl, hb2⟩
  have HB2 := Lib.hid (HB1.out.trans (hb2.mono HB1.out.size)); clear hb2
  go_wp2_with fail
  (with_reducible refine (specCopy_any s w2 ls).mono ?_)
  rintro en w3 ⟨rfl, hb3⟩
  have HB3 := Lib.hid (HB2.out.trans (hb3.mono HB2.out.size)); clear hb3
  cases hc : specCopy s with
  | none =>
    rw [Option.getD_none, Option.isSome_none]
    clear hc
    have e0 : (([] : Bs) != []) = false := by simp
    go_wp2_with fail
    go_ret
    exact ⟨by simp, HB3.out⟩
  | some out =>
    rw [Option.getD_some, Option.isSome_some]
    have HC := Lib.hid hc
    have lo := copy_lim hc
    obtain ⟨b, hb⟩ := copy_valid hc
    have HBD := Lib.hid hb
    clear hc hb
    obtain ⟨O1, hO1⟩ : ∃ O : Bs, O = [40, 62, 32] ++ s := ⟨_, rfl⟩
    obtain ⟨O2, hO2⟩ : ∃ O : Bs, O = O1 ++ [32] := ⟨_, rfl⟩
    obtain ⟨O3, hO3⟩ : ∃ O : Bs, O = O2 ++ s := ⟨_, rfl⟩
    obtain ⟨kd, hkd⟩ : ∃ O : Bs, O = O3 ++ [41] := ⟨_, rfl⟩
    have l1 : O1.length = 3 + s.length := by rw [hO1]; simp; omega
    have l2 : O2.length = 4 + s.length := by rw [hO2, List.length_append, l1]; simp; omega
    have l3 : O3.length = 4 + s.length + s.length := by rw [hO3, List.length_append, l2]
    have l4 : kd.length = 5 + s.length + s.length := by rw [hkd, List.length_append, l3]; simp; omega
    have s1 := fun w0 => add_str (P := Tryz.prog) [40, 62, 32] s (by simp; omega) w0
    rw [← hO1] at s1
    have s2 := fun w0 => add_str (P := Tryz.prog) O1 [32] (by simp; omega) w0
    rw [← hO2] at s2
    have s3 := fun w0 => add_str (P := Tryz.prog) O2 s (by omega) w0
    rw [← hO3] at s3
    have s4 := fun w0 => add_str (P := Tryz.prog) O3 [41] (by simp; omega) w0
    rw [← hkd] at s4
    have lk : Lim kd.length := show _ ≤ _ by omega
    have HK := Lib.hid (show kd = arrowText s s by rw [hkd, hO3, hO2, hO1]; rfl)
    clear hO1 hO2 hO3 hkd l1 l2 l3 l4
    have e0 : (out != out) = false := by simp
    have CV := implValid_any kd out lk lo w3 (HG.out.1.below HB3.out)
    rw [HK.out, HBD.out, Option.isSome_some, ← HK.out] at CV
    have CV := Lib.hid CV
    go_wp2_with fail
    (with_reducible refine CV.out.mono ?_)
    rintro en w4 ⟨rfl, hb4⟩
    have HB4 := Lib.hid (HB3.out.trans (hb4.mono HB3.out.size)); clear hb4 s1 s2 s3 s4 e0 CV
    obtain ⟨W, hW⟩ : ∃ W, w4.alloc (.cells #[str [116], str [102], str [117]] 9) = W := ⟨_, rfl⟩
    have bL : W.heap[w4.heap.size]? = some (.cells #[str [116], str [102], str [117]] 9 (0, 0)) := by rw [← hW]; exact heap_new _ _
    have hbW : Below w.heap.size w W := by rw [← hW]; exact HB4.out.alloc HB4.out.size _
    have HW := Lib.hid (And.intro hW (And.intro bL hbW)); clear hW bL hbW
    go_wp2_with fail
    rw [HW.out.1]
    go_loopw [10] (fun i wr => ∃ k : Nat, k ≤ 3 ∧ i = .int .i64 k ∧ Below W.heap.size W wr) (fun i _ => 3 - (intOf i).toNat)
    case atStart => exact ⟨0, by omega, rfl, Below.refl _ _⟩
    case round =>
      rename_i wr
      obtain ⟨k, hk, rfl, hb⟩ := hrel
      have HBR := Lib.hid hb; clear hb
      by_cases hlt : k < 3
      · have hlt' : (k : Int) < 3 := by omega
        obtain ⟨c, hc1, hc2⟩ := leafText_or k
        have hcell : wr.cell? ⟨w4.heap.size, k, none⟩ = some (str [c]) := by
          have h := (HBR.out.block _ (lt_of_heap HW.out.2.1)).trans HW.out.2.1
          rw [← hc1]
          have : k = 0 ∨ k = 1 ∨ k = 2 := by omega
          rcases this with rfl | rfl | rfl <;> simp [World.cell?, h, leafText]
        have lc : Lim ([c] : Bs).length := show _ ≤ _ by simp
        have hbwr : Below w.heap.size w wr := HW.out.2.2.trans (HBR.out.mono HW.out.2.2.size)
        have C5 := implOne_spec kd out [c] wr (HG.out.1.below hbwr) (HG.out.2.below hbwr) lk lo lc
        rw [HK.out, copy_small HC.out hc2, ← HK.out] at C5
        have C5 := Lib.hid C5
        have e1 : (([c] : Bs) != [c]) = false := by simp
        clear hc1 hc2 hbwr
        go_wp2_with fail
        (with_reducible refine C5.out.mono ?_)
        rintro en w5 ⟨rfl, hb5⟩
        rw [Option.getD_some, Option.isSome_some]
        have HB5 : Hid (Below W.heap.size W w5) := HBR.out.trans (hb5.mono HBR.out.size)
        have hcell5 : w5.cell? ⟨w4.heap.size, k, none⟩ = some (str [c]) := (hb5.cell (World.block_lt_of_cell? _ _ hcell)).trans hcell
        clear hb5 hcell
        go_wp2_with fail
        go_roundw
        case rel => exact ⟨k + 1, by omega, by go_num, HB5.out⟩
        case measure => simp [intOf]; omega
      · obtain rfl : k = 3 := by omega
        go_wp2_with fail
        go_ret
        exact ⟨rfl, HW.out.2.2.trans (HBR.out.mono HW.out.2.2.size)⟩

end Go.Proofs.YtibnnbdpfkgfhaaGreatDoor

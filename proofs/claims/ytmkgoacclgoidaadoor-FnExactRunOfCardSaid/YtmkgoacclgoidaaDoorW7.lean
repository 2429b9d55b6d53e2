/- The walk of impl's reader of bodies in all cases. -/
import Derived.Test.YtmkgoacclgoidaaDoorW6
namespace Go.Proofs.YtmkgoacclgoidaaDoor
open Go.RowKit

set_option maxHeartbeats 2000000 in
theorem body_step (d : Nat) (hd : d ≤ 1000) (ih : ∀ d', d = d' + 1 → BodySaid d') : BodySaid d := by
  intro sr left levels l lv F w hg hn hs hl hr hh hlv hF
  have IH := Lib.hid ih; clear ih
  have HF := Lib.hid hF; clear hF
  have c1 := hs.cell1
  have f1 := hs.free 1
  have lsr := scan_lt hs
  have lsr1 : sr < w.heap.size + 1 := by omega
  have lsr2 : sr < w.heap.size + 1 + 1 := by omega
  obtain ⟨a0, k0, elv⟩ : ∃ a k, lv = .slice a levels.length k := by obtain ⟨a, k, e, _⟩ := Rep_sl1_open hlv; exact ⟨a, k, e⟩
  subst elv
  rcases left with _ | left
  · clear IH
    go_enter Tryd.func77, Tryd.ntmps77
    go_wp2_with fail
    go_ret
    refine BPost.no (by unfold rdB; rfl) (((((But.refl _ _).setS 1 _).alloc _).alloc _).alloc _) (((hs.put1).alloc _).alloc _ |>.alloc _)
  by_cases hask : ∃ d' r1 v t, d = d' + 1 ∧ Cut [40] l r1 ∧ lvl (wordOf r1) levels.length = some v ∧ levels[v]? = some t
  · obtain ⟨d', r1, v, t, rfl, h1, h2, h3⟩ := hask
    exact body_ask d' hd (IH.out d' rfl) sr left levels l _ F w hg hn hs hl hr hh hlv HF.out r1 v t h1 h2 h3
  have HASK := Lib.hid hask; clear hask IH
  go_enter Tryd.func77, Tryd.ntmps77
  go_wp2_with fail
  obtain ⟨W0, hW0⟩ : ∃ W0, W0 = ((((w.setCell ⟨sr, 1, none⟩ (.int .i64 left)).alloc (.cells #[.pointer (some ⟨sr, 0, none⟩)] 148)).alloc (.cells #[.slice a0 levels.length k0] 94)).alloc (.cells #[.int .i64 d] 3)) := ⟨_, rfl⟩
  rw [← hW0]
  have hb0 : But (fun x => x = sr) w W0 := by subst hW0; exact ((((But.refl _ _).setS 1 _).alloc _).alloc _).alloc _
  have hs0 : Scan sr [.int .i64 left] 150 l W0 := by subst hW0; exact ((hs.put1).alloc _).alloc _ |>.alloc _
  have hx0 : Boxes w.heap.size sr (.slice a0 levels.length k0) d W0 := by subst hW0; refine ⟨?_, ?_, ?_⟩ <;> go_simp
  have z0 : W0.heap.size = w.heap.size + 3 := by subst hW0; simp
  have hb0' := hb0
  clear hW0 c1 f1
  have n1 : w.heap.size ≠ sr := by omega
  have n2 : w.heap.size + 1 ≠ sr := by omega
  have n3 : w.heap.size + 1 + 1 ≠ sr := by omega
  rcases cut_cases [40] l with h1 | ⟨r1, h1⟩
  · refine (take_no hs0 h1).mono ?_
    rintro en w1 ⟨rfl, hb1, hs1⟩
    obtain ⟨x1, x2, x3⟩ := hx0.but hb1 (fun i e => by subst e; omega)
    go_wp2_with fail
    refine (word_any _ _ _ _ _ hs1 hr).mono ?_
    rintro en w2 ⟨rfl, hb2, hs2⟩
    have hb := (hb0.trans hb1).trans hb2
    have hm : rdB d levels (left + 1) l = (if wordOf l = [116] then some (Bd.leaf 116, wordRest l, left) else if wordOf l = [102] then some (.leaf 102, wordRest l, left) else if wordOf l = [117] then some (.leaf 117, wordRest l, left) else none) := by
      unfold rdB; simp only [h1.out]
    have HM := Lib.hid hm; clear hm
    go_wp2_with fail
    · have hw : wordOf l = [116] := by assumption
      go_ret
      exact leaf_end (o := rdB d levels (left + 1) l) (x := 116) rfl (by rw [HM.out, if_pos hw]) hb hs2
    · have hw : wordOf l = [102] := by assumption
      go_ret
      exact leaf_end (o := rdB d levels (left + 1) l) (x := 102) rfl (by rw [HM.out, if_neg (by rw [hw]; decide), if_pos hw]) hb hs2
    · have hw : ((!wordOf l == [116]) = true ∧ (!wordOf l == [102]) = true) ∧ (!wordOf l == [117]) = true := by assumption
      go_ret
      simp only [Bool.not_eq_true', beq_eq_false_iff_ne] at hw
      exact BPost.no (by rw [HM.out, if_neg hw.1.1, if_neg hw.1.2, if_neg hw.2]) hb hs2
    · have hw : ((!wordOf l == [116]) = false ∨ (!wordOf l == [102]) = false) ∨ (!wordOf l == [117]) = false := by assumption
      have hw1 : ¬ wordOf l = [116] := by assumption
      have hw2 : ¬ wordOf l = [102] := by assumption
      have hw3 : wordOf l = [117] := by simpa [hw1, hw2] using hw
      go_ret
      exact leaf_end (o := rdB d levels (left + 1) l) (x := 117) (by rw [hw3]) (by rw [HM.out, if_neg hw1, if_neg hw2, if_pos hw3]) hb hs2
  refine (take_yes hs0 h1).mono ?_
  rintro en w1 ⟨rfl, hb1, hs1⟩
  have hx1 := hx0.but hb1 (fun i e => by subst e; omega)
  obtain ⟨x1, x2, x3⟩ := hx1
  go_wp2_with fail
  refine (word_any _ _ _ _ _ hs1 (hr.mono h1.le)).mono ?_
  rintro en w2 ⟨rfl, hb2, hs2⟩
  have hr1 := hr.mono h1.le
  have hb := (hb0.trans hb1).trans hb2
  have hx2 := (hx0.but hb1 (fun i e => by subst e; omega)).but hb2 (fun i e => by subst e; omega)
  clear x1 x2 x3
  have hg2 := hg.but hb (fun i e => by subst e; exact hn)
  have hwl := hr1.mono (show (wordOf r1).length ≤ r1.length by have := word_le r1; omega)
  have z2 := hb.size
  have z2' : w.heap.size + 3 ≤ w2.heap.size := by have := hb1.size; have := hb2.size; omega
  clear hb1 hb2 hs0 hb0 hb0' hx0 hs1
  have HM := Lib.hid (rdB_ask d levels left h1.out)
  go_wp2_with fail
  cases hlv' : lvl (wordOf r1) levels.length with
  | none =>
    have HN : rdB d levels (left + 1) l = none := by rw [HM.out, hlv']
    rcases lvl_no hlv' with hno | ⟨v, hok, hv⟩
    · refine (atoi_no _ _ hwl hg2 hno).mono ?_
      rintro en w3 ⟨v, t, p, rfl, hb3⟩
      have HN' := Lib.hid HN; clear HN hlv' hno
      go_wp2_with fail
      go_ret
      exact BPost.no HN'.out (hb.trans (But.ofBelow hb3)) ((hb3.block sr (by omega)).trans hs2)
    · refine (atoi_ok _ _ hwl v hok).mono ?_
      rintro en w3 ⟨rfl, hb3⟩
      have HN' := Lib.hid HN; clear HN hlv'
      have hg3 := hg2.below hb3
      have hs3 := (hb3.block sr (by omega)).trans hs2
      have hx3 := hx2.but (But.ofBelow (m := fun _ => False) hb3) (fun i e => e.elim)
      have hok' := Lib.hid hok; clear hok
      go_wp2_with fail
      refine (itoa_of hok'.out w3 hg3).mono ?_
      rintro en w4 ⟨rfl, hb4⟩
      have z3 := hb3.size
      have hs4 := (hb4.block sr (by omega)).trans hs3
      obtain ⟨x1, x2, x3⟩ := hx3.but (But.ofBelow (m := fun _ => False) hb4) (fun i e => e.elim)
      have hb' := (hb.trans (But.ofBelow hb3)).trans (But.ofBelow hb4)
      rcases hv with hv | ⟨hv, hv2⟩ | ⟨hv, hv2, hv3⟩
      · have hq : (Lib.itoa v == wordOf r1) = false := by rw [beq_eq_false_iff_ne]; exact hv
        clear hv
        go_wp2_with fail
        go_ret
        exact BPost.no HN'.out hb' hs4
      · have hq : (Lib.itoa v == wordOf r1) = true := by rw [beq_iff_eq]; exact hv
        clear hv
        go_wp2_with fail
        go_ret
        exact BPost.no HN'.out hb' hs4
      · have hq : (Lib.itoa v == wordOf r1) = true := by rw [beq_iff_eq]; exact hv
        clear hv
        go_wp2_with fail
        go_ret
        exact BPost.no HN'.out hb' hs4
  | some v =>
    obtain ⟨hvl, hok, hit⟩ := lvl_lt hlv'
    have hd00 : d = 0 := by
      rcases Nat.eq_zero_or_pos d with h | h
      · exact h
      · exact absurd ⟨d - 1, r1, v, levels[v], by omega, h1, hlv', by simp [hvl]⟩ HASK.out
    have HD := Lib.hid hd00; clear hd00 HASK
    refine (atoi_ok _ _ hwl (v : Int) hok).mono ?_
    rintro en w3 ⟨rfl, hb3⟩
    have hg3 := hg2.below hb3
    have hs3 := (hb3.block sr (by omega)).trans hs2
    have hx3 := hx2.but (But.ofBelow (m := fun _ => False) hb3) (fun i e => e.elim)
    have hok' := Lib.hid hok; clear hok
    have hlvl := Lib.hid hlv'; clear hlv'
    have hit' := Lib.hid hit; clear hit
    go_wp2_with fail
    refine (itoa_of hok'.out w3 hg3).mono ?_
    rintro en w4 ⟨rfl, hb4⟩
    have z3 := hb3.size
    have z4 := hb4.size
    have hs4 := (hb4.block sr (by omega)).trans hs3
    have hg4 := hg3.below hb4
    have hx4 := hx3.but (But.ofBelow (m := fun _ => False) hb4) (fun i e => e.elim)
    obtain ⟨x1, x2, x3⟩ := hx4
    have hb' := (hb.trans (But.ofBelow hb3)).trans (But.ofBelow hb4)
    have hq : (Lib.itoa (v : Int) == wordOf r1) = true := by rw [beq_iff_eq]; exact hit'.out
    have hlen : levels.length ≤ 10000 := by have := hh.2; omega
    clear hb hb3 hb4 hs2 hx2 hx3 hs3 hg2 hg3
    have hd0 : ((d : Int) == 0) = true := by rw [beq_iff_eq]; have := HD.out; omega
    go_wp2_with fail
    go_ret
    exact BPost.no (by rw [HM.out, hlvl.out]; have := HD.out; subst this; rfl) hb' hs4
end Go.Proofs.YtmkgoacclgoidaaDoor

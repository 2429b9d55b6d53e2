/- What is drawn: three types and two strategies. -/
import Derived.Test.YtibnnbdpfkgfhaaGreatDoorD8
import Derived.Test.YtibnnbdpfkgfhaaGreatDoorP16
namespace Go.Proofs.YtibnnbdpfkgfhaaGreatDoor
open Go.RowKit

def smallA : List Bs := [[98], [40, 62, 32, 98, 32, 98, 41], [98]]
def smallB : List Bs := [[98], [40, 62, 32, 98, 32, 98, 41], [40, 62, 32, 98, 32, 98, 41]]
def handB (s : Bs) : Bool := decide (s.length ≤ 100) && ((specType s).1.args.all fun t => decide (atomsT t ≤ 15)) && decide ((specType s).1.args.length ≤ 9000)
theorem hand_of_B {s : Bs} (h : handB s = true) : s.length ≤ 100 ∧ HandOk 3 (specType s).1.args := by
  unfold handB at h
  simp only [Bool.and_eq_true, decide_eq_true_eq, List.all_eq_true] at h
  exact ⟨h.1.1, h.1.2, by omega⟩
theorem arrows_AB : (smallA.all fun a => smallB.all fun b => handB (arrowText a b)) = true := by kernel_rfl
theorem arrows_BC : (smallB.all fun a => (smallA ++ (typeTexts ++ oddTexts)).all fun b => handB (arrowText a b)) = true := by kernel_rfl
theorem hand_AB {a b : Bs} (ha : a ∈ smallA) (hb : b ∈ smallB) : (arrowText a b).length ≤ 100 ∧ HandOk 3 (specType (arrowText a b)).1.args :=
  hand_of_B (List.all_eq_true.1 (List.all_eq_true.1 arrows_AB a ha) b hb)
theorem hand_BC {a b : Bs} (ha : a ∈ smallB) (hb : b ∈ smallA ++ (typeTexts ++ oddTexts)) : (arrowText a b).length ≤ 100 ∧ HandOk 3 (specType (arrowText a b)).1.args :=
  hand_of_B (List.all_eq_true.1 (List.all_eq_true.1 arrows_BC a ha) b hb)
theorem small_lenA {s : Bs} (h : s ∈ smallA) : s.length ≤ 100 := by
  simp only [smallA, List.mem_cons, List.not_mem_nil, or_false] at h
  rcases h with rfl | rfl | rfl <;> decide
theorem small_lenB {s : Bs} (h : s ∈ smallB) : s.length ≤ 100 := by
  simp only [smallB, List.mem_cons, List.not_mem_nil, or_false] at h
  rcases h with rfl | rfl | rfl <;> decide

def Drawn5 (w : World) (en : Ending) (w' : World) : Prop := ∃ a b c m n : Bs, en = .returned (.tuple #[str a, str b, str c, str m, str n]) ∧ a.length ≤ 100 ∧ b.length ≤ 100 ∧ c.length ≤ 100 ∧ m.length ≤ 100000 ∧ n.length ≤ 100000 ∧ Below w.heap.size w w'

set_option maxRecDepth 100000 in
set_option maxHeartbeats 4000000 in
theorem drawCompose_any (a0 : Option Addr) (len cap : Nat) (zs : List Int) (w : World) (h : Row8 w a0 len cap zs) (hl : len ≤ 1048576) :
    Calls Tryz.prog 19 #[.slice a0 len cap] w (Drawn5 w) := by
  go_enter Tryz.func19, Tryz.ntmps19
  go_wp2_with fail
  refine (l6Open_any a0 len cap zs w h hl).mono ?_
  rintro en w1 ⟨rfl, hb1, hr1, hs1⟩
  clear h
  obtain ⟨rd, hrd⟩ : ∃ rd, rd = w.heap.size := ⟨_, rfl⟩
  rw [← hrd] at hr1 hs1 ⊢
  have HRD := Lib.hid (Nat.le_of_eq hrd.symm); clear hrd
  have HB1 := Lib.hid hb1; clear hb1
  go_wp2_with fail
  refine (of_any rd 0 (.slice (some ⟨w1.heap.size, 0, none⟩) 3 3) smallA _ (hr1.alloc (.cells (smallA.map str).toArray 9)) (StrSl.newAt hs1 smallA 3 rfl _ w1.heap.size rfl) (by decide) (by decide) (by omega)).mono ?_
  rintro en w2 ⟨a, ha, rfl, hb2, hr2⟩
  have HA := Lib.hid ha; clear ha
  have HB2 := Lib.hid (but_new (HB1.out.alloc HB1.out.size _) HRD.out hb2); clear hb2 hr1 hs1
  have hs2 := hr2.lt
  go_wp2_with fail
  refine (of_any rd 1 (.slice (some ⟨w2.heap.size, 0, none⟩) 3 3) smallB _ (hr2.alloc (.cells (smallB.map str).toArray 9)) (StrSl.newAt hs2 smallB 3 rfl _ w2.heap.size rfl) (by decide) (by decide) (by omega)).mono ?_
  rintro en w3 ⟨b, hb, rfl, hb3, hr3⟩
  have HBB := Lib.hid hb; clear hb
  have HB3 := Lib.hid (but_new (HB2.out.alloc HB2.out.size _) HRD.out hb3); clear hb3 hr2 hs2
  have hs3 := hr3.lt
  go_wp2_with fail
  refine (of_any rd 2 (.slice (some ⟨w3.heap.size, 0, none⟩) 3 3) smallA _ (hr3.alloc (.cells (smallA.map str).toArray 9)) (StrSl.newAt hs3 smallA 3 rfl _ w3.heap.size rfl) (by decide) (by decide) (by omega)).mono ?_
  rintro en w4 ⟨c, hc, rfl, hb4, hr4⟩
  have HC := Lib.hid hc; clear hc
  have HB4 := Lib.hid (but_new (HB3.out.alloc HB3.out.size _) HRD.out hb4); clear hb4 hr3 hs3
  go_wp2_with fail
  refine (pick_any rd 3 20 w4 hr4 (by omega) (by omega) (by omega)).mono ?_
  rintro en w5 ⟨v, rfl, hv, hb5, hr5⟩
  have HB5 := Lib.hid (but_new HB4.out HRD.out hb5); clear hb5 hr4
  have la := small_lenA HA.out
  have lb := small_lenB HBB.out
  have lc := small_lenA HC.out
  by_cases hv0 : v = 0
  · subst hv0
    go_wp2_with fail
    refine (l91Odd_any rd 4 w5 hr5 (by omega)).mono ?_
    rintro en w6 ⟨c', hc', rfl, hb6, hr6⟩
    have HB6 := Lib.hid (but_new HB5.out HRD.out hb6); clear hb6 hr5
    have lc' := odd_len hc'
    have HC' := Lib.hid hc'; clear hc'
    obtain ⟨P1, hP1⟩ : ∃ O : Bs, O = [40, 62, 32] ++ a := ⟨_, rfl⟩
    obtain ⟨P2, hP2⟩ : ∃ O : Bs, O = P1 ++ [32] := ⟨_, rfl⟩
    obtain ⟨P3, hP3⟩ : ∃ O : Bs, O = P2 ++ b := ⟨_, rfl⟩
    obtain ⟨P, hP⟩ : ∃ O : Bs, O = P3 ++ [41] := ⟨_, rfl⟩
    have lP1 : P1.length = 3 + a.length := by rw [hP1]; simp; omega
    have lP2 : P2.length = 4 + a.length := by rw [hP2, List.length_append, lP1]; simp; omega
    have lP3 : P3.length = 4 + a.length + b.length := by rw [hP3, List.length_append, lP2]
    have sP1 := fun w0 => add_str (P := Tryz.prog) [40, 62, 32] a (by simp; omega) w0
    rw [← hP1] at sP1
    have sP2 := fun w0 => add_str (P := Tryz.prog) P1 [32] (by simp; omega) w0
    rw [← hP2] at sP2
    have sP3 := fun w0 => add_str (P := Tryz.prog) P2 b (by omega) w0
    rw [← hP3] at sP3
    have sP4 := fun w0 => add_str (P := Tryz.prog) P3 [41] (by simp; omega) w0
    rw [← hP] at sP4
    have eP : P = arrowText a b := by rw [hP, hP3, hP2, hP1]; rfl
    clear hP1 hP2 hP3 hP lP1 lP2 lP3
    obtain ⟨Q1, hQ1⟩ : ∃ O : Bs, O = [40, 62, 32] ++ b := ⟨_, rfl⟩
    obtain ⟨Q2, hQ2⟩ : ∃ O : Bs, O = Q1 ++ [32] := ⟨_, rfl⟩
    obtain ⟨Q3, hQ3⟩ : ∃ O : Bs, O = Q2 ++ c' := ⟨_, rfl⟩
    obtain ⟨Q, hQ⟩ : ∃ O : Bs, O = Q3 ++ [41] := ⟨_, rfl⟩
    have lQ1 : Q1.length = 3 + b.length := by rw [hQ1]; simp; omega
    have lQ2 : Q2.length = 4 + b.length := by rw [hQ2, List.length_append, lQ1]; simp; omega
    have lQ3 : Q3.length = 4 + b.length + c'.length := by rw [hQ3, List.length_append, lQ2]
    have sQ1 := fun w0 => add_str (P := Tryz.prog) [40, 62, 32] b (by simp; omega) w0
    rw [← hQ1] at sQ1
    have sQ2 := fun w0 => add_str (P := Tryz.prog) Q1 [32] (by simp; omega) w0
    rw [← hQ2] at sQ2
    have sQ3 := fun w0 => add_str (P := Tryz.prog) Q2 c' (by omega) w0
    rw [← hQ3] at sQ3
    have sQ4 := fun w0 => add_str (P := Tryz.prog) Q3 [41] (by simp; omega) w0
    rw [← hQ] at sQ4
    have eQ : Q = arrowText b c' := by rw [hQ, hQ3, hQ2, hQ1]; rfl
    clear hQ1 hQ2 hQ3 hQ lQ1 lQ2 lQ3
    have hP := hand_AB HA.out HBB.out
    have hQ := hand_BC HBB.out (List.mem_append_right _ HC'.out)
    rw [← eP] at hP
    rw [← eQ] at hQ
    have HPQ := Lib.hid (And.intro hP hQ)
    clear hP hQ eP eQ
    go_wp2_with fail
    refine (l91Strategy_gen rd 6 P HPQ.out.1.1 HPQ.out.1.2 w6 hr6 (by omega)).mono ?_
    rintro en w7 h7
    obtain ⟨m, rfl, lm, hb7, hr7⟩ := strat_len h7
    have HB7 := Lib.hid (but_new HB6.out HRD.out hb7); clear hb7 h7 hr6
    go_wp2_with fail
    refine (l91Strategy_gen rd _ Q HPQ.out.2.1 HPQ.out.2.2 w7 hr7 (by omega)).mono ?_
    rintro en w8 h8
    obtain ⟨n, rfl, ln, hb8, hr8⟩ := strat_len h8
    have HB8 := Lib.hid (but_new HB7.out HRD.out hb8); clear hb8 h8 hr7 hr8
    go_wp2_with fail
    refine bodyPost_ret (v := .tuple #[str a, str b, str c', str m, str n]) (by simp [results, Tryz.results19, go_sem]) rfl ?_
    exact ⟨a, b, c', m, n, rfl, la, lb, lc', lm, ln, HB8.out⟩
  · have hv1 : ((v : Int) == 0) = false := by rw [beq_eq_false_iff_ne]; omega
    clear hv0
    obtain ⟨P1, hP1⟩ : ∃ O : Bs, O = [40, 62, 32] ++ a := ⟨_, rfl⟩
    obtain ⟨P2, hP2⟩ : ∃ O : Bs, O = P1 ++ [32] := ⟨_, rfl⟩
    obtain ⟨P3, hP3⟩ : ∃ O : Bs, O = P2 ++ b := ⟨_, rfl⟩
    obtain ⟨P, hP⟩ : ∃ O : Bs, O = P3 ++ [41] := ⟨_, rfl⟩
    have lP1 : P1.length = 3 + a.length := by rw [hP1]; simp; omega
    have lP2 : P2.length = 4 + a.length := by rw [hP2, List.length_append, lP1]; simp; omega
    have lP3 : P3.length = 4 + a.length + b.length := by rw [hP3, List.length_append, lP2]
    have sP1 := fun w0 => add_str (P := Tryz.prog) [40, 62, 32] a (by simp; omega) w0
    rw [← hP1] at sP1
    have sP2 := fun w0 => add_str (P := Tryz.prog) P1 [32] (by simp; omega) w0
    rw [← hP2] at sP2
    have sP3 := fun w0 => add_str (P := Tryz.prog) P2 b (by omega) w0
    rw [← hP3] at sP3
    have sP4 := fun w0 => add_str (P := Tryz.prog) P3 [41] (by simp; omega) w0
    rw [← hP] at sP4
    have eP : P = arrowText a b := by rw [hP, hP3, hP2, hP1]; rfl
    clear hP1 hP2 hP3 hP lP1 lP2 lP3
    obtain ⟨Q1, hQ1⟩ : ∃ O : Bs, O = [40, 62, 32] ++ b := ⟨_, rfl⟩
    obtain ⟨Q2, hQ2⟩ : ∃ O : Bs, O = Q1 ++ [32] := ⟨_, rfl⟩
    obtain ⟨Q3, hQ3⟩ : ∃ O : Bs, O = Q2 ++ c := ⟨_, rfl⟩
    obtain ⟨Q, hQ⟩ : ∃ O : Bs, O = Q3 ++ [41] := ⟨_, rfl⟩
    have lQ1 : Q1.length = 3 + b.length := by rw [hQ1]; simp; omega
    have lQ2 : Q2.length = 4 + b.length := by rw [hQ2, List.length_append, lQ1]; simp; omega
    have lQ3 : Q3.length = 4 + b.length + c.length := by rw [hQ3, List.length_append, lQ2]
    have sQ1 := fun w0 => add_str (P := Tryz.prog) [40, 62, 32] b (by simp; omega) w0
    rw [← hQ1] at sQ1
    have sQ2 := fun w0 => add_str (P := Tryz.prog) Q1 [32] (by simp; omega) w0
    rw [← hQ2] at sQ2
    have sQ3 := fun w0 => add_str (P := Tryz.prog) Q2 c (by omega) w0
    rw [← hQ3] at sQ3
    have sQ4 := fun w0 => add_str (P := Tryz.prog) Q3 [41] (by simp; omega) w0
    rw [← hQ] at sQ4
    have eQ : Q = arrowText b c := by rw [hQ, hQ3, hQ2, hQ1]; rfl
    clear hQ1 hQ2 hQ3 hQ lQ1 lQ2 lQ3
    have hP := hand_AB HA.out HBB.out
    have hQ := hand_BC HBB.out (List.mem_append_left _ HC.out)
    rw [← eP] at hP
    rw [← eQ] at hQ
    have HPQ := Lib.hid (And.intro hP hQ)
    clear hP hQ eP eQ
    go_wp2_with fail
    refine (l91Strategy_gen rd 4 P HPQ.out.1.1 HPQ.out.1.2 w5 hr5 (by omega)).mono ?_
    rintro en w7 h7
    obtain ⟨m, rfl, lm, hb7, hr7⟩ := strat_len h7
    have HB7 := Lib.hid (but_new HB5.out HRD.out hb7); clear hb7 h7 hr5
    go_wp2_with fail
    refine (l91Strategy_gen rd _ Q HPQ.out.2.1 HPQ.out.2.2 w7 hr7 (by omega)).mono ?_
    rintro en w8 h8
    obtain ⟨n, rfl, ln, hb8, hr8⟩ := strat_len h8
    have HB8 := Lib.hid (but_new HB7.out HRD.out hb8); clear hb8 h8 hr7 hr8
    go_wp2_with fail
    refine bodyPost_ret (v := .tuple #[str a, str b, str c, str m, str n]) (by simp [results, Tryz.results19, go_sem]) rfl ?_
    exact ⟨a, b, c, m, n, rfl, la, lb, lc, lm, ln, HB8.out⟩

end Go.Proofs.YtibnnbdpfkgfhaaGreatDoor

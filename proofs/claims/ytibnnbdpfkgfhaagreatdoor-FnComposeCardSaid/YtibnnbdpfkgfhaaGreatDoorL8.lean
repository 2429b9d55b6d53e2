/- The law FnCompose. -/
import Derived.Test.YtibnnbdpfkgfhaaGreatDoorP21
import Derived.Test.YtibnnbdpfkgfhaaGreatDoorC1
import Derived.Test.YtibnnbdpfkgfhaaGreatDoorC2
import Derived.Test.YtibnnbdpfkgfhaaGreatDoorK1
import Derived.Test.YtibnnbdpfkgfhaaGreatDoorW11
import Derived.Test.YtibnnbdpfkgfhaaGreatDoorD9
import Derived.Deep.DeepCutAuto
namespace Go.Proofs.YtibnnbdpfkgfhaaGreatDoor
open Go.RowKit

theorem good_lim {t : Ty} {b : Bd} (h : Good t b) : (textB b).length ≤ 100000 := by
  have := textB_length _ h.lv
  have := h.size
  omega
theorem apply_len {s m n out : Bs} (h : specApplyOf s m n = some out) : out.length ≤ 100000 := by
  cases hq : specStrat s m with
  | none => rw [specApplyOf_none hq] at h; simp at h
  | some b =>
    rw [specApplyOf_eq hq, Option.map_eq_some_iff] at h
    obtain ⟨x, h1, rfl⟩ := h
    exact good_lim (applyOne_good (specStrat_good hq).1 h1)
theorem compose_len {a b c m n out : Bs} (h : specCompose a b c m n = some out) : out.length ≤ 100000 := by
  obtain ⟨x, y, z, f, g, o, k⟩ := compose_some h
  rw [k.eo]; exact good_lim k.go
theorem copy_text_len {s out : Bs} (h : specCopy s = some out) : out.length ≤ 100000 := by
  obtain ⟨t, _, _, h15, rfl⟩ := copy_some h
  exact good_lim (eta_good h15)

theorem getD_len {R : Option Bs} (h : ∀ out, R = some out → out.length ≤ 100000) : (R.getD []).length ≤ 100000 := by
  cases R with
  | none => simp
  | some x => exact h x rfl
/-- What impl's ApplyOf gives, by the reference's words. -/
theorem implOne_any' (s m n : Bs) (w : World) (hg : Glob w) (he : GlobE w) (hs : Lim s.length) (hm : Lim m.length) (hn : Lim n.length) :
    Calls Tryz.prog 16 #[str s, str m, str n] w (TextPost w (specApplyOf s m n)) := by
  rw [← one_eq]; exact implOne_any s m n w hg he hs hm hn
theorem implCopy_any' (s : Bs) (w : World) (hg : Glob w) (hs : Lim s.length) :
    Calls Tryz.prog 15 #[str s] w (TextPost w (specCopy s)) := by
  rw [← copy_eq]; exact implCopy_any s w hg hs
theorem implCompose_any' (a b c m n : Bs) (w : World) (hg : Glob w) (he : GlobE w) (ha : Lim a.length) (hb : Lim b.length) (hc : Lim c.length) (hm : Lim m.length) (hn : Lim n.length) :
    Calls Tryz.prog 11 #[str a, str b, str c, str m, str n] w (TextPost w (specCompose a b c m n)) := by
  rw [← compose_eq]; exact implCompose_any a b c m n w hg he ha hb hc hm hn

set_option maxRecDepth 100000 in
set_option maxHeartbeats 4000000 in
theorem fnCompose_any (a0 : Option Addr) (len cap : Nat) (zs : List Int) (w : World) (h : Row8 w a0 len cap zs) (hg : Glob w) (he : GlobE w) :
    Calls Tryz.prog 6 #[.slice a0 len cap] w fun en w' => en = .returned (.bool true) ∧ Below w.heap.size w w' := by
  by_cases hlen : 1048576 < len
  · have hlen' : (1048576 : Int) < (len : Int) := by omega
    go_enter Tryz.func6, Tryz.ntmps6
    go_wp2_with fail
    go_ret
    exact ⟨rfl, Below.refl _ _⟩
  have hlen' : ¬ (1048576 : Int) < (len : Int) := by omega
  have H := Lib.hid h; clear h
  have HG := Lib.hid (And.intro hg he); clear hg he
  go_enter Tryz.func6, Tryz.ntmps6
  go_wp2_with fail
  refine (drawCompose_any a0 len cap zs w H.out (by omega)).mono ?_
  rintro en w1 ⟨a, b, c, m, n, rfl, la, lb, lc, lm, ln, hb1⟩
  have ka : Lim a.length := show _ ≤ _ by omega
  have kb : Lim b.length := show _ ≤ _ by omega
  have kc : Lim c.length := show _ ≤ _ by omega
  have km : Lim m.length := show _ ≤ _ by omega
  have kn : Lim n.length := show _ ≤ _ by omega
  have HB1 := Lib.hid hb1; clear hb1
  go_wp2_with fail
  (with_reducible refine (implCompose_any' a b c m n w1 (HG.out.1.below HB1.out) (HG.out.2.below HB1.out) ka kb kc km kn).mono ?_)
  rintro en w2 ⟨rfl, hb2⟩
  have HB2 := Lib.hid (HB1.out.trans (hb2.mono HB1.out.size)); clear hb2
  go_wp2_with fail
  (with_reducible refine (specCompose_any a b c m n w2 ka kb kc km kn).mono ?_)
  rintro en w3 ⟨rfl, hb3⟩
  have HB3 := Lib.hid (HB2.out.trans (hb3.mono HB2.out.size)); clear hb3
  cases h0 : specCompose a b c m n with
  | none =>
    rw [Option.getD_none, Option.isSome_none]
    clear h0
    have e0 : (([] : Bs) != []) = false := by simp
    go_wp2_with fail
    go_ret
    exact ⟨by simp, HB3.out⟩
  | some out =>
  rw [Option.getD_some, Option.isSome_some]
  have lo := compose_len h0
  have ko : Lim out.length := show _ ≤ _ by omega
  obtain ⟨o, hval⟩ := compose_valid h0
  have HV := Lib.hid hval
  have HC := Lib.hid h0
  clear h0 hval
  have e0 : (out != out) = false := by simp
  obtain ⟨P1, hP1⟩ : ∃ O : Bs, O = [40, 62, 32] ++ a := ⟨_, rfl⟩
  obtain ⟨P2, hP2⟩ : ∃ O : Bs, O = P1 ++ [32] := ⟨_, rfl⟩
  obtain ⟨P3, hP3⟩ : ∃ O : Bs, O = P2 ++ c := ⟨_, rfl⟩
  obtain ⟨P, hP⟩ : ∃ O : Bs, O = P3 ++ [41] := ⟨_, rfl⟩
  have lP1 : P1.length = 3 + a.length := by rw [hP1]; simp; omega
  have lP2 : P2.length = 4 + a.length := by rw [hP2, List.length_append, lP1]; simp; omega
  have lP3 : P3.length = 4 + a.length + c.length := by rw [hP3, List.length_append, lP2]
  have lP : P.length = 5 + a.length + c.length := by rw [hP, List.length_append, lP3]; simp; omega
  have sP1 := fun w0 => add_str (P := Tryz.prog) [40, 62, 32] a (by simp; omega) w0
  rw [← hP1] at sP1
  have sP2 := fun w0 => add_str (P := Tryz.prog) P1 [32] (by simp; omega) w0
  rw [← hP2] at sP2
  have sP3 := fun w0 => add_str (P := Tryz.prog) P2 c (by omega) w0
  rw [← hP3] at sP3
  have sP4 := fun w0 => add_str (P := Tryz.prog) P3 [41] (by simp; omega) w0
  rw [← hP] at sP4
  have kP : Lim P.length := show _ ≤ _ by omega
  have HP := Lib.hid (show P = arrowText a c by rw [hP, hP3, hP2, hP1]; rfl)
  obtain ⟨Q3, hQ3⟩ : ∃ O : Bs, O = P2 ++ b := ⟨_, rfl⟩
  obtain ⟨Q, hQ⟩ : ∃ O : Bs, O = Q3 ++ [41] := ⟨_, rfl⟩
  have lQ3 : Q3.length = 4 + a.length + b.length := by rw [hQ3, List.length_append, lP2]
  have lQ : Q.length = 5 + a.length + b.length := by rw [hQ, List.length_append, lQ3]; simp; omega
  have sQ3 := fun w0 => add_str (P := Tryz.prog) P2 b (by omega) w0
  rw [← hQ3] at sQ3
  have sQ4 := fun w0 => add_str (P := Tryz.prog) Q3 [41] (by simp; omega) w0
  rw [← hQ] at sQ4
  have kQ : Lim Q.length := show _ ≤ _ by omega
  have HQ := Lib.hid (show Q = arrowText a b by rw [hQ, hQ3, hP2, hP1]; rfl)
  clear hP1 hP2 hP3 hP hQ3 hQ lP1 lP2 lP3 lQ3
  obtain ⟨R1, hR1⟩ : ∃ O : Bs, O = [40, 62, 32] ++ b := ⟨_, rfl⟩
  obtain ⟨R2, hR2⟩ : ∃ O : Bs, O = R1 ++ [32] := ⟨_, rfl⟩
  obtain ⟨R3, hR3⟩ : ∃ O : Bs, O = R2 ++ c := ⟨_, rfl⟩
  obtain ⟨R, hR⟩ : ∃ O : Bs, O = R3 ++ [41] := ⟨_, rfl⟩
  have lR1 : R1.length = 3 + b.length := by rw [hR1]; simp; omega
  have lR2 : R2.length = 4 + b.length := by rw [hR2, List.length_append, lR1]; simp; omega
  have lR3 : R3.length = 4 + b.length + c.length := by rw [hR3, List.length_append, lR2]
  have lR : R.length = 5 + b.length + c.length := by rw [hR, List.length_append, lR3]; simp; omega
  have sR1 := fun w0 => add_str (P := Tryz.prog) [40, 62, 32] b (by simp; omega) w0
  rw [← hR1] at sR1
  have sR2 := fun w0 => add_str (P := Tryz.prog) R1 [32] (by simp; omega) w0
  rw [← hR2] at sR2
  have sR3 := fun w0 => add_str (P := Tryz.prog) R2 c (by omega) w0
  rw [← hR3] at sR3
  have sR4 := fun w0 => add_str (P := Tryz.prog) R3 [41] (by simp; omega) w0
  rw [← hR] at sR4
  have kR : Lim R.length := show _ ≤ _ by omega
  have HR := Lib.hid (show R = arrowText b c by rw [hR, hR3, hR2, hR1]; rfl)
  clear hR1 hR2 hR3 hR lR1 lR2 lR3
  have CV := implValid_any P out kP ko
  have CV := Lib.hid CV
  have F1 := Lib.hid (fun x => copy_text_len (s := a) (out := x))
  obtain ⟨R1, hR1⟩ : ∃ R1, R1 = specCopy a := ⟨_, rfl⟩
  have l1 : (R1.getD []).length ≤ 100000 := getD_len fun x h => copy_text_len (hR1.symm.trans h)
  obtain ⟨same, hsame⟩ : ∃ s, s = R1.getD [] := ⟨_, rfl⟩
  obtain ⟨p, hp⟩ : ∃ p, p = R1.isSome := ⟨_, rfl⟩
  rw [← hsame] at l1
  have ks : Lim same.length := show _ ≤ _ by omega
  obtain ⟨R2, hR2⟩ : ∃ R2, R2 = specCompose a a c same out := ⟨_, rfl⟩
  obtain ⟨x, hx⟩ : ∃ s, s = R2.getD [] := ⟨_, rfl⟩
  obtain ⟨q, hq⟩ : ∃ p, p = R2.isSome := ⟨_, rfl⟩
  obtain ⟨R3, hR3⟩ : ∃ R3, R3 = specApplyOf Q m [116] := ⟨_, rfl⟩
  have l3 : (R3.getD []).length ≤ 100000 := getD_len fun x h => apply_len (hR3.symm.trans h)
  obtain ⟨u, hu⟩ : ∃ s, s = R3.getD [] := ⟨_, rfl⟩
  obtain ⟨r, hr⟩ : ∃ p, p = R3.isSome := ⟨_, rfl⟩
  rw [← hu] at l3
  have ku : Lim u.length := show _ ≤ _ by omega
  obtain ⟨R4, hR4⟩ : ∃ R4, R4 = specApplyOf R n u := ⟨_, rfl⟩
  obtain ⟨v, hv⟩ : ∃ s, s = R4.getD [] := ⟨_, rfl⟩
  obtain ⟨t, ht⟩ : ∃ p, p = R4.isSome := ⟨_, rfl⟩
  obtain ⟨R5, hR5⟩ : ∃ R5, R5 = specApplyOf P out [116] := ⟨_, rfl⟩
  obtain ⟨y, hy⟩ : ∃ s, s = R5.getD [] := ⟨_, rfl⟩
  obtain ⟨z, hz⟩ : ∃ p, p = R5.isSome := ⟨_, rfl⟩
  have k116 : Lim ([116] : Bs).length := show _ ≤ _ by simp
  have X1 := Lib.hid (show p = true → q = true → x = out by
    intro h1 h2
    cases R1 with
    | none => rw [hp] at h1; simp at h1
    | some s1 =>
    cases R2 with
    | none => rw [hq] at h2; simp at h2
    | some s2 =>
    rw [Option.getD_some] at hsame hx
    subst hsame; subst hx
    exact compose_copy HC.out hR1.symm hR2.symm)
  have X2 := Lib.hid (show r = true → t = true → z = true → v = y by
    intro h1 h2 h3
    cases R3 with
    | none => rw [hr] at h1; simp at h1
    | some s1 =>
    cases R4 with
    | none => rw [ht] at h2; simp at h2
    | some s2 =>
    cases R5 with
    | none => rw [hz] at h3; simp at h3
    | some s3 =>
    rw [Option.getD_some] at hu hv hy
    subst hu; subst hv; subst hy
    rw [HQ.out] at hR3; rw [HR.out] at hR4; rw [HP.out] at hR5
    exact compose_three HC.out hR3.symm hR4.symm hR5.symm)
  have CC := fun wz (h : Below w.heap.size w wz) => implCopy_any' a wz (HG.out.1.below h) ka
  have CM := fun wz (h : Below w.heap.size w wz) => implCompose_any' a a c same out wz (HG.out.1.below h) (HG.out.2.below h) ka ka kc ks ko
  have C3 := fun wz (h : Below w.heap.size w wz) => implOne_any' Q m [116] wz (HG.out.1.below h) (HG.out.2.below h) kQ km k116
  have C4 := fun wz (h : Below w.heap.size w wz) => implOne_any' R n u wz (HG.out.1.below h) (HG.out.2.below h) kR kn ku
  have C5 := fun wz (h : Below w.heap.size w wz) => implOne_any' P out [116] wz (HG.out.1.below h) (HG.out.2.below h) kP ko k116
  rw [← hR1] at CC; rw [← hR2] at CM; rw [← hR3] at C3; rw [← hR4] at C4; rw [← hR5] at C5
  unfold TextPost at CC CM C3 C4 C5
  rw [← hsame, ← hp] at CC; rw [← hx, ← hq] at CM; rw [← hu, ← hr] at C3; rw [← hv, ← ht] at C4; rw [← hy, ← hz] at C5
  have CC := Lib.hid CC; have CM := Lib.hid CM; have C3 := Lib.hid C3; have C4 := Lib.hid C4; have C5 := Lib.hid C5
  clear hR1 hR2 hR3 hR4 hR5 hsame hp hx hq hu hr hv ht hy hz R1 R2 R3 R4 R5 F1
  go_wp2_with fail
  (with_reducible refine (CC.out w3 HB3.out).mono ?_)
  rintro en w4 ⟨rfl, hb4⟩
  have HB4 := Lib.hid (HB3.out.trans (hb4.mono HB3.out.size)); clear hb4
  go_wp2_with fail
  (with_reducible refine (CM.out w4 HB4.out).mono ?_)
  rintro en w5 ⟨rfl, hb5⟩
  have HB5 := Lib.hid (HB4.out.trans (hb5.mono HB4.out.size)); clear hb5
  go_wp2_with fail
  (with_reducible refine (C3.out w5 HB5.out).mono ?_)
  rintro en w6 ⟨rfl, hb6⟩
  have HB6 := Lib.hid (HB5.out.trans (hb6.mono HB5.out.size)); clear hb6
  go_wp2_with fail
  (with_reducible refine (C4.out w6 HB6.out).mono ?_)
  rintro en w7 ⟨rfl, hb7⟩
  have HB7 := Lib.hid (HB6.out.trans (hb7.mono HB6.out.size)); clear hb7
  go_wp2_with fail
  (with_reducible refine (C5.out w7 HB7.out).mono ?_)
  rintro en w8 ⟨rfl, hb8⟩
  have HB8 := Lib.hid (HB7.out.trans (hb8.mono HB7.out.size)); clear hb8
  have CV := implValid_any P out kP ko w8 (HG.out.1.below HB8.out)
  rw [HP.out, HV.out, Option.isSome_some, ← HP.out] at CV
  have CV := Lib.hid CV
  clear sP1 sP2 sP3 sP4 sQ3 sQ4 sR1 sR2 sR3 sR4 e0
  go_wp2_with fail
  (with_reducible refine CV.out.mono ?_)
  rintro en w9 ⟨rfl, hb9⟩
  have HB9 := Lib.hid (HB8.out.trans (hb9.mono HB8.out.size)); clear hb9 CV CC CM C3 C4 C5
  have done : Hid (∀ (v y : Bs), (r = true → t = true → z = true → v = y) → True) := fun _ _ _ => trivial
  clear done
  have hfin : r = false ∨ (r = true ∧ t = false) ∨ (r = true ∧ t = true ∧ z = false) ∨ (r = true ∧ t = true ∧ z = true ∧ v = y) := by
    have := X2.out
    cases r <;> cases t <;> cases z <;> simp_all
  have hpq : p = false ∨ (p = true ∧ q = false) ∨ (p = true ∧ q = true ∧ x = out) := by
    have := X1.out
    cases p <;> cases q <;> simp_all
  clear X1 X2
  rcases hpq with rfl | ⟨rfl, rfl⟩ | ⟨rfl, rfl, rfl⟩
  all_goals
    (try have e1 : (x != x) = false := by simp)
    rcases hfin with rfl | ⟨rfl, rfl⟩ | ⟨rfl, rfl, rfl⟩ | ⟨rfl, rfl, rfl, rfl⟩
    all_goals
      go_wp2_with fail
      go_ret
      exact ⟨by simp, HB9.out⟩

end Go.Proofs.YtibnnbdpfkgfhaaGreatDoor

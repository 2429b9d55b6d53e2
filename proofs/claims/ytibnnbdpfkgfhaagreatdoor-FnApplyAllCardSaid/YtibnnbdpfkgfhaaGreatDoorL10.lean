/- The law FnApplyAll. -/
import Derived.Test.YtibnnbdpfkgfhaaGreatDoorP22
import Derived.Test.YtibnnbdpfkgfhaaGreatDoorB15
import Derived.Test.YtibnnbdpfkgfhaaGreatDoorD11
import Derived.Test.YtibnnbdpfkgfhaaGreatDoorW16
import Derived.Deep.DeepCutAuto
namespace Go.Proofs.YtibnnbdpfkgfhaaGreatDoor
open Go.RowKit

theorem lims' {xs : List Bs} (h : ∀ x ∈ xs, x.length ≤ 100000) : ∀ x ∈ xs, Lim x.length := fun x hx => show _ ≤ _ by have := h x hx; omega
theorem all_len {s m out : Bs} {ls : List Bs} (h : implAll s m ls = some out) : out.length ≤ 100000 := by
  obtain ⟨t, b, t', o, _, _, _, _, _, g, e, _⟩ := all_some h
  rw [e]
  have := textB_length _ g.lv
  have := g.size
  omega
/-- A slice of strings from a place on. -/
theorem StrsNew.drop {B : Nat} {w : World} {b o : Nat} {xs : List Bs} (h : StrsNew B w (some ⟨b, o, none⟩) xs) (n : Nat) : StrsAt w (some ⟨b, o + n, none⟩) (xs.drop n) := fun k s hs => by
  rw [List.getElem?_drop] at hs
  obtain ⟨b', o', e, h1, h2⟩ := h _ s hs
  simp only [Option.some.injEq, Addr.mk.injEq, and_true] at e
  obtain ⟨rfl, rfl⟩ := e
  exact ⟨b, o + n, rfl, by rw [show o + n + k = o + (n + k) from by omega]; exact h2⟩

set_option maxRecDepth 100000 in
set_option maxHeartbeats 4000000 in
theorem fnApplyAll_any (a0 : Option Addr) (len cap : Nat) (zs : List Int) (w : World) (h : Row8 w a0 len cap zs) (hg : Glob w) (he : GlobE w) :
    Calls Tryz.prog 7 #[.slice a0 len cap] w fun en w' => en = .returned (.bool true) ∧ Below w.heap.size w w' := by
  by_cases hlen : 1048576 < len
  · have hlen' : (1048576 : Int) < (len : Int) := by omega
    go_enter Tryz.func7, Tryz.ntmps7
    go_wp2_with fail
    go_ret
    exact ⟨rfl, Below.refl _ _⟩
  have hlen' : ¬ (1048576 : Int) < (len : Int) := by omega
  have H := Lib.hid h; clear h
  have HG := Lib.hid (And.intro hg he); clear hg he
  go_enter Tryz.func7, Tryz.ntmps7
  go_wp2_with fail
  refine (drawApplyAll_any a0 len cap zs w H.out (by omega)).mono ?_
  rintro en w1 ⟨s, m, xs, a, c, rfl, hs, hm, hxl, hc, hx, hn, hb1⟩
  have ls : Lim s.length := show _ ≤ _ by omega
  have lm : Lim m.length := show _ ≤ _ by omega
  have lx : Lim xs.length := show _ ≤ _ by omega
  have HX := Lib.hid (And.intro hx hn)
  have HB1 := Lib.hid hb1
  clear hx hn hb1
  have C1 := implAll_any s m xs a c w1 (HG.out.1.below HB1.out) (HG.out.2.below HB1.out) ls lm (lims' HX.out.1) lx HX.out.2.at
  have C2 : ∀ w2, Below w1.heap.size w1 w2 → Calls Tryz.prog 22 #[str s, str m, .slice a xs.length c] w2 (TxtPost (implAll s m xs) w2) := fun w2 h => by
    rw [all_eq]
    exact specApplyAll_any s m xs a c w2 ls lm (lims' HX.out.1) lx (HX.out.2.at.below h)
  obtain ⟨K, hK⟩ : ∃ K, K = xs.length := ⟨_, rfl⟩
  rw [← hK] at hxl hc lx C1 C2 ⊢
  have HK := Lib.hid hK; clear hK
  have C1 := Lib.hid C1; have C2 := Lib.hid C2
  go_wp2_with fail
  (with_reducible refine C1.out.mono ?_)
  rintro en w2 ⟨rfl, hb2⟩
  have HB12 := Lib.hid hb2; have HB2 := Lib.hid (HB1.out.trans (hb2.mono HB1.out.size)); clear hb2 C1
  go_wp2_with fail
  (with_reducible refine (C2.out w2 HB12.out).mono ?_)
  rintro en w3 ⟨rfl, hb3⟩
  have HB13 := Lib.hid (HB12.out.trans (hb3.mono HB12.out.size)); have HB3 := Lib.hid (HB2.out.trans (hb3.mono HB2.out.size)); clear hb3 C2
  cases hR : implAll s m xs with
  | none =>
    rw [Option.getD_none, Option.isSome_none]
    clear hR
    have e0 : (([] : Bs) != []) = false := by simp
    go_wp2_with fail
    go_ret
    exact ⟨by simp, HB3.out⟩
  | some out =>
  rw [Option.getD_some, Option.isSome_some]
  have e0 : (out != out) = false := by simp
  by_cases hK0 : K = 0
  · have hnil : xs = [] := List.eq_nil_of_length_eq_zero (by have := HK.out; omega)
    rw [hnil] at hR
    have hom := all_none hR
    subst hom
    have hK0' : ((K : Int) == 0) = true := by rw [hK0]; rfl
    have HO := Lib.hid (all_none hR)
    clear hR hK0 hnil
    have e1 : (out == out) = true := by simp
    go_wp2_with fail
    go_ret
    exact ⟨by simp, HB3.out⟩
  obtain ⟨J, rfl⟩ : ∃ J, K = J + 1 := ⟨K - 1, by omega⟩
  obtain ⟨l, hl⟩ : ∃ l, xs[J]? = some l := ⟨xs[J]'(by have := HK.out; omega), by simp [← HK.out]⟩
  have hsplit : xs = xs.take J ++ [l] := by
    have h1 : xs.take (J + 1) = xs.take J ++ [l] := by rw [List.take_add_one, hl]; rfl
    rw [← h1, List.take_of_length_le (by have := HK.out; omega)]
  have htl : (xs.take J).length = J := by rw [List.length_take]; have := HK.out; omega
  rw [hsplit] at hR
  obtain ⟨t, x, t1, t2, t3, t4, t5, t6⟩ := all_last hR
  rw [htl] at t4 t6
  have hol := all_len hR
  have hxl2 := all_len t5
  obtain ⟨b, o, ea, _, hcl⟩ := HX.out.2 J l hl
  subst ea
  have hcl3 : w3.cell? ⟨b, o + J, none⟩ = some (str l) := (HB13.out.cell (p := ⟨b, o + J, none⟩) (World.block_lt_of_cell? w1 _ hcl)).trans hcl
  have hal := args15 t3
  have htk := rdKind_text t3
  have h15d := drop_atoms t3 J
  have hrl := textT_length 15 _ h15d
  have hll := HX.out.1 l (List.mem_of_getElem? hl)
  have lr : Lim (textT (.mk (t.args.drop J))).length := show _ ≤ _ by omega
  have lxx : Lim x.length := show _ ≤ _ by omega
  have lll : Lim l.length := show _ ≤ _ by omega
  have CT : ∀ wz, Calls Tryz.prog 23 #[str s] wz fun en w' => ∃ a c, en = .returned (.tuple #[.slice a t.args.length c, .bool true]) ∧ t.args.length ≤ c ∧ Below wz.heap.size wz w' ∧ StrsNew wz.heap.size w' a (t.args.map textT) := fun wz =>
    implTypeArgs_any s t ls (by rw [t2]; exact htk) t3 wz
  obtain ⟨R, hRR⟩ : ∃ R, R = textT (.mk (t.args.drop J)) := ⟨_, rfl⟩
  obtain ⟨n, hn⟩ : ∃ n, n = t.args.length := ⟨_, rfl⟩
  have CM : ∀ wz la lc, StrsAt wz la ((t.args.map textT).drop J) → Calls Tryz.prog 24 #[.slice la (n - J) lc] wz fun en w' => en = .returned (.tuple #[str R, .bool true]) ∧ Below wz.heap.size wz w' := fun wz la lc h => by
    have := implTypeMake_any (t.args.drop J) la lc wz h15d (by rw [List.map_drop]; exact h)
    rw [List.length_drop, ← hn, ← hRR] at this
    exact this
  have CA : ∀ wz, Below w1.heap.size w1 wz → Calls Tryz.prog 21 #[str s, str m, .slice (some ⟨b, o, none⟩) J c] wz (TextPost wz (some x)) := fun wz h => by
    have hbz := HB1.out.trans (h.mono HB1.out.size)
    have := implAll_any s m (xs.take J) (some ⟨b, o, none⟩) c wz (HG.out.1.below hbz) (HG.out.2.below hbz) ls lm (fun y hy => lims' HX.out.1 y (List.mem_of_mem_take hy)) (by rw [htl]; exact show _ ≤ _ by omega) ((HX.out.2.take J).at.below h)
    rw [htl, t5] at this
    exact this
  have CO : ∀ wz, Below w.heap.size w wz → Calls Tryz.prog 16 #[str R, str x, str l] wz (TextPost wz (some out)) := fun wz h => by
    have := implOne_any R x l wz (HG.out.1.below h) (HG.out.2.below h) (by rw [hRR]; exact lr) lxx lll
    rw [one_eq, hRR, t6, ← hRR] at this
    exact this
  rw [← hn] at CT t4
  have hn15 : n ≤ 15 := by rw [hn]; exact hal.2
  have HCT := Lib.hid CT; have HCM := Lib.hid CM; have HCA := Lib.hid CA; have HCO := Lib.hid CO
  have HCL := Lib.hid (And.intro hcl hcl3)
  have HN := Lib.hid hn
  clear CT CM CA CO hcl hcl3 hR hl hsplit htl t1 t2 t3 t5 t6 hol hxl2 hal htk h15d hrl hll lr lxx lll hRR hn hK0
  have hw1 : IntKind.i64.wrap ((J : Int) + 1 - 1) = (J : Int) := by rw [show (J : Int) + 1 - 1 = (J : Int) from by omega]; exact wrap_nat J (by omega)
  have hw2 : IntKind.i64.wrap (J : Int) = (J : Int) := wrap_nat J (by omega)
  go_wp2_with fail
  (with_reducible refine (HCT.out w3).mono ?_)
  rintro en w4 ⟨a4, c4, rfl, hc4, hb4, hn4⟩
  have HN4 := Lib.hid (And.intro hb4 hn4); clear hb4 hn4
  have hne4 : ∃ b4 o4, a4 = some ⟨b4, o4, none⟩ := by
    have hlt : 0 < (t.args.map textT).length := by rw [List.length_map]; have := HN.out; omega
    obtain ⟨b4, o4, e4, _⟩ := HN4.out.2 0 _ (List.getElem?_eq_getElem hlt)
    exact ⟨b4, o4, e4⟩
  obtain ⟨b4, o4, rfl⟩ := hne4
  have hJ4 : J < c4 := by omega
  have hsub : ¬ c4 - J = 0 := by omega
  go_wp2_with fail
  (with_reducible refine (HCM.out w4 (some ⟨b4, o4 + J, none⟩) (c4 - J) (HN4.out.2.drop J)).mono ?_)
  rintro en w5 ⟨rfl, hb5⟩
  have HB14 := Lib.hid (HB13.out.trans (HN4.out.1.mono HB13.out.size))
  have HB15 := Lib.hid (HB14.out.trans (hb5.mono HB14.out.size)); clear hb5
  have hJc : J ≤ c := by omega
  have hc0 : ¬ c = 0 := by omega
  have CA5 := Lib.hid (HCA.out w5 HB15.out)
  go_wp2_with fail
  (with_reducible refine CA5.out.mono ?_)
  rintro en w6 ⟨rfl, hb6⟩
  rw [Option.getD_some, Option.isSome_some]
  have HB16 := Lib.hid (HB15.out.trans (hb6.mono HB15.out.size)); clear hb6
  have q6 : w6.cell? ⟨b, o + J, none⟩ = some (str l) := (HB16.out.cell (p := ⟨b, o + J, none⟩) (World.block_lt_of_cell? w1 _ HCL.out.1)).trans HCL.out.1
  have hJJ : J < J + 1 := by omega
  have CO6 := Lib.hid (HCO.out w6 (HB1.out.trans (HB16.out.mono HB1.out.size)))
  go_wp2_with fail
  (with_reducible refine CO6.out.mono ?_)
  rintro en w7 ⟨rfl, hb7⟩
  rw [Option.getD_some, Option.isSome_some]
  have e1 : (out == out) = true := by simp
  go_wp2_with fail
  go_ret
  exact ⟨by simp, HB1.out.trans ((HB16.out.trans (hb7.mono HB16.out.size)).mono HB1.out.size)⟩

end Go.Proofs.YtibnnbdpfkgfhaaGreatDoor

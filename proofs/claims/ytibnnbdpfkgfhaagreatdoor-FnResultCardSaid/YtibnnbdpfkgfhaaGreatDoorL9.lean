/- The law FnResult. -/
import Derived.Test.YtibnnbdpfkgfhaaGreatDoorP22
import Derived.Test.YtibnnbdpfkgfhaaGreatDoorS24
import Derived.Test.YtibnnbdpfkgfhaaGreatDoorD10
import Derived.Deep.DeepCutAuto
namespace Go.Proofs.YtibnnbdpfkgfhaaGreatDoor
open Go.RowKit

theorem GlobE.t {w : World} (h : GlobE w) : GlobT w := by
  obtain ⟨a, h⟩ := h
  exact ⟨_, _, h⟩
theorem GlobT.below {w w' : World} (h : GlobT w) (hb : Below w.heap.size w w') : GlobT w' := h.but (m := fun _ => False) (But.ofBelow hb) (fun h => h)
theorem lims {xs : List Bs} (h : ∀ x ∈ xs, x.length ≤ 100000) : ∀ x ∈ xs, Lim x.length := fun x hx => show _ ≤ _ by have := h x hx; omega

set_option maxRecDepth 100000 in
set_option maxHeartbeats 4000000 in
theorem fnResult_any (a0 : Option Addr) (len cap : Nat) (zs : List Int) (w : World) (h : Row8 w a0 len cap zs) (hg : Glob w) (he : GlobE w) :
    Calls Tryz.prog 8 #[.slice a0 len cap] w fun en w' => en = .returned (.bool true) ∧ Below w.heap.size w w' := by
  by_cases hlen : 1048576 < len
  · have hlen' : (1048576 : Int) < (len : Int) := by omega
    go_enter Tryz.func8, Tryz.ntmps8
    go_wp2_with fail
    go_ret
    exact ⟨rfl, Below.refl _ _⟩
  have hlen' : ¬ (1048576 : Int) < (len : Int) := by omega
  have H := Lib.hid h; clear h
  have HG := Lib.hid (And.intro hg he); clear hg he
  go_enter Tryz.func8, Tryz.ntmps8
  go_wp2_with fail
  refine (drawRunResult_any a0 len cap zs w H.out (by omega)).mono ?_
  rintro en w1 ⟨s, text, xs, a, c, rfl, hs, ht, hxl, hc, hx, hn, hb1⟩
  have ls : Lim s.length := show _ ≤ _ by omega
  have lt : Lim text.length := show _ ≤ _ by omega
  have lx : Lim xs.length := show _ ≤ _ by omega
  have HX := Lib.hid (And.intro (lims hx) hn.at)
  have HB1 := Lib.hid hb1
  clear hx hn hb1
  have C1 := Lib.hid (implRunResult_any s text xs a c w1 (HG.out.1.below HB1.out) (HG.out.2.t.below HB1.out) HX.out.2 ls lt HX.out.1 lx)
  go_wp2_with fail
  (with_reducible refine C1.out.mono ?_)
  rintro en w2 ⟨rfl, hb2⟩
  have HB2 := Lib.hid (HB1.out.trans (hb2.mono HB1.out.size)); have HX2 := Lib.hid (HX.out.2.below hb2); clear hb2 C1
  have C2 := Lib.hid (specRunResult_any s text xs a c w2 HX2.out ls lt HX.out.1 lx)
  rw [res_same] at C2
  go_wp2_with fail
  (with_reducible refine C2.out.mono ?_)
  rintro en w3 ⟨rfl, hb3⟩
  have HB3 := Lib.hid (HB2.out.trans (hb3.mono HB2.out.size)); have HX3 := Lib.hid (HX2.out.below hb3); clear hb3 C2
  cases hR : implRun 5000 s text xs with
  | none =>
    simp only [resOf]
    clear hR
    have e0 : (([] : Bs) != []) = false := by simp
    go_wp2_with fail
    go_ret
    exact ⟨by simp, HB3.out⟩
  | some x =>
    obtain ⟨ch, log⟩ := x
    simp only [resOf]
    have HR := Lib.hid hR; clear hR
    have e0 : (([ch] : Bs) != [ch]) = false := by simp
    have C3 := Lib.hid (implAll_any s text xs a c w3 (HG.out.1.below HB3.out) (HG.out.2.below HB3.out) ls lt HX.out.1 lx HX3.out)
    cases hA : implAll s text xs with
    | none =>
      rw [hA] at C3
      clear hA
      go_wp2_with fail
      (with_reducible refine C3.out.mono ?_)
      rintro en w4 ⟨rfl, hb4⟩
      rw [Option.getD_none, Option.isSome_none]
      go_wp2_with fail
      go_ret
      exact ⟨by simp, HB3.out.trans (hb4.mono HB3.out.size)⟩
    | some y =>
      rw [hA] at C3
      obtain rfl := result_all HR.out hA
      clear hA
      go_wp2_with fail
      (with_reducible refine C3.out.mono ?_)
      rintro en w4 ⟨rfl, hb4⟩
      rw [Option.getD_some, Option.isSome_some]
      go_wp2_with fail
      go_ret
      exact ⟨by simp, HB3.out.trans (hb4.mono HB3.out.size)⟩

end Go.Proofs.YtibnnbdpfkgfhaaGreatDoor

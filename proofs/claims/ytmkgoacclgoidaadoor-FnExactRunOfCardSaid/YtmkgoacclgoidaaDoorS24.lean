/- RunResult, both sides, and the law FnExactRunResult. -/
import Derived.Test.YtmkgoacclgoidaaDoorS23
import Derived.Test.YtmkgoacclgoidaaDoorS17
namespace Go.Proofs.YtmkgoacclgoidaaDoor
open Go.RowKit

def resOf {α : Type} : Option (UInt8 × α) → Bs × Bool
  | none => ([], false)
  | some x => ([x.1], true)

/-- Both machines leave the same. -/
theorem run_eq (keep : Bool) (most : Nat) (s text : Bs) (xs : List Bs) : (implRun most s text xs = none → specRun keep most s text xs = none) ∧ ∀ c log, implRun most s text xs = some (c, log) → ∃ log', specRun keep most s text xs = some (c, log') ∧ (keep = true → log' = log) := by
  unfold implRun specRun
  rw [rdTS_eq]
  cases hq : specStrat s text with
  | none => exact ⟨fun _ => rfl, fun c log h => by simp at h⟩
  | some b =>
    have hg := (specStrat_good hq).1
    simp only [Option.map_some, Option.bind_some]
    by_cases hl : xs.length = (specType s).1.args.length
    · rw [if_pos hl, if_pos hl.symm]
      cases hr : readAll (specType s).1.args xs with
      | none => exact ⟨fun _ => rfl, fun c log h => by simp at h⟩
      | some bs =>
        simp only [Option.bind_some]
        have h15a : ∀ x ∈ (specType s).1.args, atomsT x ≤ 15 := fun x hx => by have := hg.atoms; have hm := atomsT_mk (specType s).1; have := mem_atomsTs hx; omega
        have hbl := readAll_length _ _ _ hl.symm hr
        obtain ⟨hfa, _⟩ := readAll_good _ _ _ hl.symm h15a hr
        have hwf := readAll_wf _ _ _ hl.symm h15a hr
        have hfh : fitBs (hands (([] : List SC).map SC.kind) (specType s).1.args) bs := by simpa [hands] using hfa
        obtain ⟨k1, k2⟩ := ownS_ok (env := []) (by rw [okSs]; trivial) 0 (specType s).1.args bs 0 hfh hwf
        have hnil : simCs keep [([113], (-1 : Int))] [] [] := by rw [simCs]
        have hsim := simCs_own (keep := keep) (log := [([113], (-1 : Int))]) hnil (m := 0) (path := []) (q := [113]) (p := -1) (fun _ => ⟨rfl, rfl⟩) (specType s).1.args bs 0 (by omega)
        have hh := run_same keep (most - 1) [([113], -1)] b (ownS [] 0 0 (specType s).1.args bs) 0 [] (ownFrom [] 0 [] 0 bs) [] [] hg.wf k1 (by rw [k2]; exact hg.fit) (by simp) hsim rfl (fun _ => ⟨[113], -1, rfl, rfl⟩)
        unfold runAll
        constructor
        · intro h
          rw [Option.map_eq_none_iff] at h
          exact hh.1 h
        · intro c log h
          rw [Option.map_eq_some_iff] at h
          obtain ⟨⟨c', ms⟩, h1, h2⟩ := h
          simp only [Prod.mk.injEq] at h2
          obtain ⟨rfl, rfl⟩ := h2
          exact hh.2 _ _ h1
    · rw [if_neg hl, if_neg (fun h => hl h.symm)]
      exact ⟨fun _ => rfl, fun c log h => by simp at h⟩
theorem res_same (keep : Bool) (most : Nat) (s text : Bs) (xs : List Bs) : resOf (specRun keep most s text xs) = resOf (implRun most s text xs) := by
  obtain ⟨h1, h2⟩ := run_eq keep most s text xs
  cases h : implRun most s text xs with
  | none => rw [h1 h]
  | some x =>
    obtain ⟨log', h3, _⟩ := h2 x.1 x.2 h
    rw [h3]; rfl

set_option maxHeartbeats 2000000 in
theorem specRunResult_any (s text : Bs) (xs : List Bs) (a : Option Addr) (c : Nat) (w : World) (hx : StrsAt w a xs) (hs : Lim s.length) (ht : Lim text.length) (hxs : ∀ x ∈ xs, Lim x.length) (hxl : Lim xs.length) :
    Calls Tryd.prog 8 #[str s, str text, .slice a xs.length c] w fun en w' => en = .returned (.tuple #[str (resOf (specRun false 5000 s text xs)).1, .bool (resOf (specRun false 5000 s text xs)).2]) ∧ Below w.heap.size w w' := by
  have C := Lib.hid (l4Start_any false make_none path_none 5000 s text xs a c w hx hs ht hxs hxl (by omega) (by omega))
  clear hx hxs hxl
  generalize hR : specRun false 5000 s text xs = R at *
  go_enter Tryd.func8, Tryd.ntmps8
  go_wp2_with fail
  refine C.out.mono ?_
  rintro en w1 ⟨ra, o, ok, rfl, hb, hn, hy⟩
  rw [hR] at hn hy
  clear C hR
  cases R with
  | none =>
    obtain rfl := hn rfl
    have HB := Lib.hid hb; clear hn hy hb
    go_wp2_with fail
    go_ret2
    exact ⟨rfl, HB.out⟩
  | some x =>
    obtain ⟨rfl, rfl, _⟩ := hy x.1 x.2 rfl
    have HB := Lib.hid hb; clear hn hy hb
    go_wp2_with fail
    go_ret2
    exact ⟨rfl, HB.out⟩

set_option maxHeartbeats 2000000 in
theorem implRunResult_any (s text : Bs) (xs : List Bs) (a : Option Addr) (c : Nat) (w : World) (hg : Glob w) (hgt : GlobT w) (hx : StrsAt w a xs) (hs : Lim s.length) (ht : Lim text.length) (hxs : ∀ x ∈ xs, Lim x.length) (hxl : Lim xs.length) :
    Calls Tryd.prog 10 #[str s, str text, .slice a xs.length c] w fun en w' => en = .returned (.tuple #[str (resOf (implRun 5000 s text xs)).1, .bool (resOf (implRun 5000 s text xs)).2]) ∧ Below w.heap.size w w' := by
  have C := Lib.hid (runOf_any false 5000 s text xs a c w hg hgt hx hs ht hxs hxl (by omega) (by omega))
  clear hx hxs hxl
  generalize hR : implRun 5000 s text xs = R at *
  go_enter Tryd.func10, Tryd.ntmps10
  go_wp2_with fail
  refine C.out.mono ?_
  rintro en w1 ⟨hb, hn, hy⟩
  rw [hR] at hn hy
  clear C hR
  cases R with
  | none =>
    obtain rfl := hn rfl
    have HB := Lib.hid hb; clear hn hy hb
    go_wp2_with fail
    go_ret2
    refine ⟨rfl, ?_⟩
    have h := HB.out.size
    exact Below.alloc HB.out h _
  | some x =>
    obtain ⟨ma, ka, n, k, ka', n', k', rfl, _⟩ := hy x.1 x.2 rfl
    have HB := Lib.hid hb; clear hn hy hb
    go_wp2_with fail
    go_ret2
    refine ⟨rfl, ?_⟩
    have h := HB.out.size
    exact Below.alloc HB.out h _

set_option maxHeartbeats 4000000 in
theorem fnExactRunResult_any (s text : Bs) (xs : List Bs) (a : Option Addr) (c : Nat) (w : World) (hg : Glob w) (hgt : GlobT w) (hx : StrsAt w a xs) (hxl : xs.length ≤ 9223372036854775807) (hxs : ∀ x ∈ xs, x.length ≤ 9223372036854775807) :
    Calls Tryd.prog 3 #[str s, str text, .slice a xs.length c] w fun en w' => en = .returned (.bool true) ∧ Below w.heap.size w w' := by
  by_cases ha : 1048576 < s.length
  · have ha' : (1048576 : Int) < (s.length : Int) := by omega
    go_enter Tryd.func3, Tryd.ntmps3
    go_wp2_with fail
    go_ret
    exact ⟨rfl, Below.refl _ _⟩
  have ha' : ¬ (1048576 : Int) < (s.length : Int) := by omega
  by_cases hb : 1048576 < text.length
  · have hb' : (1048576 : Int) < (text.length : Int) := by omega
    go_enter Tryd.func3, Tryd.ntmps3
    go_wp2_with fail
    go_ret
    exact ⟨rfl, Below.refl _ _⟩
  have hb' : ¬ (1048576 : Int) < (text.length : Int) := by omega
  have hs : Lim s.length := show _ ≤ _ by omega
  have ht : Lim text.length := show _ ≤ _ by omega
  have CS : Hid (Calls Tryd.prog 7 #[.slice a xs.length c, .int .i64 1048576] w (Sized 1048576 xs w)) := Lib.hid (szStringS_any 1048576 a c xs w hx (by omega) hxl hxs)
  have HX := Lib.hid hx; clear hx hxl hxs ha hb
  go_enter Tryd.func3, Tryd.ntmps3
  go_wp2_with fail
  refine CS.out.mono ?_
  rintro en w0 ⟨rfl, rfl | ⟨r, rfl, hl, hxs⟩⟩
  · go_wp2_with fail
    go_ret
    exact ⟨rfl, Below.refl _ _⟩
  have hl2 : xs.length ≤ 16777216 := by omega
  have hxl : Lim xs.length := show _ ≤ _ by omega
  have hxs' : ∀ x ∈ xs, Lim x.length := fun x hx => show _ ≤ _ by have := hxs x hx; omega
  have HL := Lib.hid (And.intro hl2 (And.intro hxl hxs')); clear hl hxs hl2 hxl hxs'
  have hr0 : ¬ (r : Int) < 0 := by omega
  go_wp2_with fail
  refine (toStringS_any a c xs w0 HX.out HL.out.1).mono ?_
  rintro en w1 ⟨a1, c1, rfl, hx1, hb1⟩
  have H1 := Lib.hid (And.intro hx1 hb1); clear hx1 hb1
  go_wp2_with fail
  refine (specRunResult_any s text xs a1 c1 w1 H1.out.1 hs ht HL.out.2.2 HL.out.2.1).mono ?_
  rintro en w2 ⟨rfl, hb2⟩
  rw [res_same]
  have h02 := H1.out.2.trans (hb2.mono H1.out.2.size)
  have H2 := Lib.hid h02; clear hb2 h02
  have hx2 := HX.out.below H2.out
  have C2 := Lib.hid (toStringS_any a c xs w2 hx2 HL.out.1); clear hx2
  generalize hp : resOf (implRun 5000 s text xs) = p
  obtain ⟨p0, p1⟩ := p
  go_wp2_with fail
  refine C2.out.mono ?_
  rintro en w3 ⟨a3, c3, rfl, hx3, hb3⟩
  have h03 := H2.out.trans (hb3.mono H2.out.size)
  have H3 := Lib.hid (And.intro hx3 h03); clear hx3 hb3 h03
  have C3 := Lib.hid (implRunResult_any s text xs a3 c3 w3 (hg.below H3.out.2) (hgt.but (m := fun _ => False) (But.ofBelow H3.out.2) (fun h => h)) H3.out.1 hs ht HL.out.2.2 HL.out.2.1)
  rw [hp] at C3
  go_wp2_with fail
  refine C3.out.mono ?_
  rintro en w4 ⟨rfl, hb4⟩
  have h04 := H3.out.2.trans (hb4.mono H3.out.2.size)
  have hx4 := H3.out.1.below hb4
  have H4 := Lib.hid (And.intro hx4 h04); clear hx4 hb4 h04
  have e0 : (p0 != p0) = false := by simp
  have e1 : (p1 != p1) = false := by simp
  have C4 := Lib.hid (toStringS_any a c xs w4 (HX.out.below H4.out.2) HL.out.1)
  go_wp2_with fail
  refine C4.out.mono ?_
  rintro en w5 ⟨a5, c5, rfl, hx5, hb5⟩
  have h05 := H4.out.2.trans (hb5.mono H4.out.2.size)
  have H5 := Lib.hid (And.intro hx5 (And.intro (H4.out.1.below hb5) h05)); clear hx5 hb5 h05
  go_wp2_with fail
  refine (eqStringS_any a3 a5 c3 c5 xs w5 H5.out.2.1 H5.out.1 HL.out.1).mono ?_
  rintro en w6 ⟨rfl, hb6⟩
  have h06 := H5.out.2.2.trans (hb6.mono H5.out.2.2.size)
  have H6 := Lib.hid h06; clear hb6 h06
  go_wp2_with fail
  go_ret
  exact ⟨rfl, H6.out⟩

end Go.Proofs.YtmkgoacclgoidaaDoor

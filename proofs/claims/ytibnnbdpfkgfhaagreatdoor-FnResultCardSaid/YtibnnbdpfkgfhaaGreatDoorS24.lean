/- RunResult, both sides, and the law FnExactRunResult. -/
import Derived.Test.YtibnnbdpfkgfhaaGreatDoorS23
import Derived.Test.YtibnnbdpfkgfhaaGreatDoorS17
namespace Go.Proofs.YtibnnbdpfkgfhaaGreatDoor
open Go.RowKit

def resOf {α : Type} : Option (UInt8 × α) → Bs × Bool
  | none => ([], false)
  | some x => ([x.1], true)

/-- Both machines leave the same. -/
theorem run_eq (keep : Bool) (most : Nat) (s text : Bs) (xs : List Bs) : (implRun most s text xs = none → specRun keep most s text xs = none) ∧ ∀ c log, implRun most s text xs = some (c, log) → ∃ log', specRun keep most s text xs = some (c, log') ∧ (keep = true → log' = log) := by
  unfold implRun specRun
  rw [rdTS_eq]
  cases hq : specStrat s text with
  | none => exact ⟨fun _ => rfl, fun c log h => by simp at h⟩
  | some b =>
    have hg := (specStrat_good hq).1
    simp only [Option.map_some, Option.bind_some]
    by_cases hl : xs.length = (specType s).1.args.length
    · rw [if_pos hl, if_pos hl.symm]
      cases hr : readAll (specType s).1.args xs with
      | none => exact ⟨fun _ => rfl, fun c log h => by simp at h⟩
      | some bs =>
        simp only [Option.bind_some]
        have h15a : ∀ x ∈ (specType s).1.args, atomsT x ≤ 15 := fun x hx => by have := hg.atoms; have hm := atomsT_mk (specType s).1; have := mem_atomsTs hx; omega
        have hbl := readAll_length _ _ _ hl.symm hr
        obtain ⟨hfa, _⟩ := readAll_good _ _ _ hl.symm h15a hr
        have hwf := readAll_wf _ _ _ hl.symm h15a hr
        have hfh : fitBs (hands (([] : List SC).map SC.kind) (specType s).1.args) bs := by simpa [hands] using hfa
        obtain ⟨k1, k2⟩ := ownS_ok (env := []) (by rw [okSs]; trivial) 0 (specType s).1.args bs 0 hfh hwf
        have hnil : simCs keep [([113], (-1 : Int))] [] [] := by rw [simCs]
        have hsim := simCs_own (keep := keep) (log := [([113], (-1 : Int))]) hnil (m := 0) (path := []) (q := [113]) (p := -1) (fun _ => ⟨rfl, rfl⟩) (specType s).1.args bs 0 (by omega)
        have hh := run_same keep (most - 1) [([113], -1)] b (ownS [] 0 0 (specType s).1.args bs) 0 [] (ownFrom [] 0 [] 0 bs) [] [] hg.wf k1 (by rw [k2]; exact hg.fit) (by simp) hsim rfl (fun _ => ⟨[113], -1, rfl, rfl⟩)
        unfold runAll
        constructor
        · intro h
          rw [Option.map_eq_none_iff] at h
          exact hh.1 h
        · intro c log h
          rw [Option.map_eq_some_iff] at h
          obtain ⟨⟨c', ms⟩, h1, h2⟩ := h
          simp only [Prod.mk.injEq] at h2
          obtain ⟨rfl, rfl⟩ := h2
          exact hh.2 _ _ h1
    · rw [if_neg hl, if_neg (fun h => hl h.symm)]
      exact ⟨fun _ => rfl, fun c log h => by simp at h⟩
theorem res_same (keep : Bool) (most : Nat) (s text : Bs) (xs : List Bs) : resOf (specRun keep most s text xs) = resOf (implRun most s text xs) := by
  obtain ⟨h1, h2⟩ := run_eq keep most s text xs
  cases h : implRun most s text xs with
  | none => rw [h1 h]
  | some x =>
    obtain ⟨log', h3, _⟩ := h2 x.1 x.2 h
    rw [h3]; rfl

set_option maxHeartbeats 2000000 in
theorem specRunResult_any (s text : Bs) (xs : List Bs) (a : Option Addr) (c : Nat) (w : World) (hx : StrsAt w a xs) (hs : Lim s.length) (ht : Lim text.length) (hxs : ∀ x ∈ xs, Lim x.length) (hxl : Lim xs.length) :
    Calls Tryz.prog 27 #[str s, str text, .slice a xs.length c] w fun en w' => en = .returned (.tuple #[str (resOf (specRun false 5000 s text xs)).1, .bool (resOf (specRun false 5000 s text xs)).2]) ∧ Below w.heap.size w w' := by
  have C := Lib.hid (l4Start_any false make_none path_none 5000 s text xs a c w hx hs ht hxs hxl (by omega) (by omega))
  clear hx hxs hxl
  generalize hR : specRun false 5000 s text xs = R at *
  go_enter Tryz.func27, Tryz.ntmps27
  go_wp2_with fail
  refine C.out.mono ?_
  rintro en w1 ⟨ra, o, ok, rfl, hb, hn, hy⟩
  rw [hR] at hn hy
  clear C hR
  cases R with
  | none =>
    obtain rfl := hn rfl
    have HB := Lib.hid hb; clear hn hy hb
    go_wp2_with fail
    go_ret2
    exact ⟨rfl, HB.out⟩
  | some x =>
    obtain ⟨rfl, rfl, _⟩ := hy x.1 x.2 rfl
    have HB := Lib.hid hb; clear hn hy hb
    go_wp2_with fail
    go_ret2
    exact ⟨rfl, HB.out⟩

set_option maxHeartbeats 2000000 in
theorem implRunResult_any (s text : Bs) (xs : List Bs) (a : Option Addr) (c : Nat) (w : World) (hg : Glob w) (hgt : GlobT w) (hx : StrsAt w a xs) (hs : Lim s.length) (ht : Lim text.length) (hxs : ∀ x ∈ xs, Lim x.length) (hxl : Lim xs.length) :
    Calls Tryz.prog 26 #[str s, str text, .slice a xs.length c] w fun en w' => en = .returned (.tuple #[str (resOf (implRun 5000 s text xs)).1, .bool (resOf (implRun 5000 s text xs)).2]) ∧ Below w.heap.size w w' := by
  have C := Lib.hid (runOf_any false 5000 s text xs a c w hg hgt hx hs ht hxs hxl (by omega) (by omega))
  clear hx hxs hxl
  generalize hR : implRun 5000 s text xs = R at *
  go_enter Tryz.func26, Tryz.ntmps26
  go_wp2_with fail
  refine C.out.mono ?_
  rintro en w1 ⟨hb, hn, hy⟩
  rw [hR] at hn hy
  clear C hR
  cases R with
  | none =>
    obtain rfl := hn rfl
    have HB := Lib.hid hb; clear hn hy hb
    go_wp2_with fail
    go_ret2
    refine ⟨rfl, ?_⟩
    have h := HB.out.size
    exact Below.alloc HB.out h _
  | some x =>
    obtain ⟨ma, ka, n, k, ka', n', k', rfl, _⟩ := hy x.1 x.2 rfl
    have HB := Lib.hid hb; clear hn hy hb
    go_wp2_with fail
    go_ret2
    refine ⟨rfl, ?_⟩
    have h := HB.out.size
    exact Below.alloc HB.out h _

end Go.Proofs.YtibnnbdpfkgfhaaGreatDoor

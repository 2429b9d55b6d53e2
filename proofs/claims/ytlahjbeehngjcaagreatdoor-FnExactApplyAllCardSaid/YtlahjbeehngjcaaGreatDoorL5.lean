/- The law FnExactApplyAll. -/
import Derived.Test.YtlahjbeehngjcaaGreatDoorB15
import Derived.Test.YtlahjbeehngjcaaGreatDoorS17
namespace Go.Proofs.YtlahjbeehngjcaaGreatDoor
open Go.RowKit

theorem implAll_txt (s m : Bs) (ls : List Bs) (sa : Option Addr) (sc : Nat) (w : World) (hg : Glob w) (he : GlobE w) (hs : Lim s.length) (hm : Lim m.length) (hls : ∀ l ∈ ls, Lim l.length) (hlen : Lim ls.length) (hat : TextsAt w sa ls) (X : Bs) (Y : Bool) (hX : X = (implAll s m ls).getD []) (hY : Y = (implAll s m ls).isSome) :
    Calls Tryz.prog 19 #[str s, str m, .slice sa ls.length sc] w fun en w' => en = .returned (.tuple #[str X, .bool Y]) ∧ Below w.heap.size w w' := by
  subst hX; subst hY
  exact implAll_any s m ls sa sc w hg he hs hm hls hlen hat

set_option maxHeartbeats 4000000 in
theorem fnExactApplyAll_any (s text : Bs) (xs : List Bs) (a : Option Addr) (c : Nat) (w : World) (hg : Glob w) (hgt : GlobE w) (hx : StrsAt w a xs) (hxl : xs.length ≤ 9223372036854775807) (hxs : ∀ x ∈ xs, x.length ≤ 9223372036854775807) :
    Calls Tryz.prog 5 #[str s, str text, .slice a xs.length c] w fun en w' => en = .returned (.bool true) ∧ Below w.heap.size w w' := by
  by_cases ha : 1048576 < s.length
  · have ha' : (1048576 : Int) < (s.length : Int) := by omega
    go_enter Tryz.func5, Tryz.ntmps5
    go_wp2_with fail
    go_ret
    exact ⟨rfl, Below.refl _ _⟩
  have ha' : ¬ (1048576 : Int) < (s.length : Int) := by omega
  by_cases hb : 1048576 < text.length
  · have hb' : (1048576 : Int) < (text.length : Int) := by omega
    go_enter Tryz.func5, Tryz.ntmps5
    go_wp2_with fail
    go_ret
    exact ⟨rfl, Below.refl _ _⟩
  have hb' : ¬ (1048576 : Int) < (text.length : Int) := by omega
  have hs : Lim s.length := show _ ≤ _ by omega
  have ht : Lim text.length := show _ ≤ _ by omega
  have CS : Hid (Calls Tryz.prog 16 #[.slice a xs.length c, .int .i64 1048576] w (Sized 1048576 xs w)) := Lib.hid (szStringS_any 1048576 a c xs w hx (by omega) hxl hxs)
  have HX := Lib.hid hx; clear hx hxl hxs ha hb
  go_enter Tryz.func5, Tryz.ntmps5
  go_wp2_with fail
  refine CS.out.mono ?_
  rintro en w0 ⟨rfl, rfl | ⟨r, rfl, hl, hxs⟩⟩
  · go_wp2_with fail
    go_ret
    exact ⟨rfl, Below.refl _ _⟩
  have hl2 : xs.length ≤ 16777216 := by omega
  have hxl : Lim xs.length := show _ ≤ _ by omega
  have hxs' : ∀ x ∈ xs, Lim x.length := fun x hx => show _ ≤ _ by have := hxs x hx; omega
  have HL := Lib.hid (And.intro hl2 (And.intro hxl hxs')); clear hl hxs hl2 hxl hxs'
  have hr0 : ¬ (r : Int) < 0 := by omega
  go_wp2_with fail
  refine (toStringS_any a c xs w0 HX.out HL.out.1).mono ?_
  rintro en w1 ⟨a1, c1, rfl, hx1, hb1⟩
  have H1 := Lib.hid (And.intro hx1 hb1); clear hx1 hb1
  go_wp2_with fail
  refine (specApplyAll_any s text xs a1 c1 w1 hs ht HL.out.2.2 HL.out.2.1 H1.out.1).mono ?_
  rintro en w2 ⟨rfl, hb2⟩
  rw [← all_eq]
  have h02 := H1.out.2.trans (hb2.mono H1.out.2.size)
  have H2 := Lib.hid h02; clear hb2 h02
  have hx2 := HX.out.below H2.out
  have C2 := Lib.hid (toStringS_any a c xs w2 hx2 HL.out.1); clear hx2
  obtain ⟨p0, hp0⟩ : ∃ X, X = (implAll s text xs).getD [] := ⟨_, rfl⟩
  obtain ⟨p1, hp1⟩ : ∃ X, X = (implAll s text xs).isSome := ⟨_, rfl⟩
  rw [← hp0, ← hp1]
  have HPP := Lib.hid (And.intro hp0 hp1); clear hp0 hp1
  go_wp2_with fail
  refine C2.out.mono ?_
  rintro en w3 ⟨a3, c3, rfl, hx3, hb3⟩
  have h03 := H2.out.trans (hb3.mono H2.out.size)
  have H3 := Lib.hid (And.intro hx3 h03); clear hx3 hb3 h03
  have C3 := Lib.hid (implAll_txt s text xs a3 c3 w3 (hg.below H3.out.2) (hgt.below H3.out.2) hs ht HL.out.2.2 HL.out.2.1 H3.out.1 p0 p1 HPP.out.1 HPP.out.2)
  go_wp2_with fail
  refine C3.out.mono ?_
  rintro en w4 ⟨rfl, hb4⟩
  have h04 := H3.out.2.trans (hb4.mono H3.out.2.size)
  have hx4 := H3.out.1.below hb4
  have H4 := Lib.hid (And.intro hx4 h04); clear hx4 hb4 h04
  have e0 : (p0 != p0) = false := by simp
  have e1 : (p1 != p1) = false := by simp
  have C4 := Lib.hid (toStringS_any a c xs w4 (HX.out.below H4.out.2) HL.out.1)
  go_wp2_with fail
  refine C4.out.mono ?_
  rintro en w5 ⟨a5, c5, rfl, hx5, hb5⟩
  have h05 := H4.out.2.trans (hb5.mono H4.out.2.size)
  have H5 := Lib.hid (And.intro hx5 (And.intro (H4.out.1.below hb5) h05)); clear hx5 hb5 h05
  go_wp2_with fail
  refine (eqStringS_any a3 a5 c3 c5 xs w5 H5.out.2.1 H5.out.1 HL.out.1).mono ?_
  rintro en w6 ⟨rfl, hb6⟩
  have h06 := H5.out.2.2.trans (hb6.mono H5.out.2.2.size)
  have H6 := Lib.hid h06; clear hb6 h06
  go_wp2_with fail
  go_ret
  exact ⟨rfl, H6.out⟩

end Go.Proofs.YtlahjbeehngjcaaGreatDoor

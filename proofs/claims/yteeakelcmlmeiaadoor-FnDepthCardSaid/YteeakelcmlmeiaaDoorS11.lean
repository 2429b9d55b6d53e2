/- The walk of the reference's l3Below and StrategyBelow. -/
import Derived.Test.YteeakelcmlmeiaaDoorW13
import Derived.Deep.RegionHeld3
namespace Go.Proofs.YteeakelcmlmeiaaDoor
open Go.RowKit

/-- A node in a box, all of it. -/
def BoxV (g : Nat) (s : Value) (v k y : Value) (w : World) : Prop :=
  w.cell? ⟨g, 0, none⟩ = some s ∧ w.cell? ⟨g, 1, none⟩ = some v ∧ w.cell? ⟨g, 2, none⟩ = some k ∧ w.cell? ⟨g, 3, none⟩ = some y
theorem BoxV.below {g : Nat} {s v k y : Value} {w w' : World} (h : BoxV g s v k y w) (hb : Below w.heap.size w w') : BoxV g s v k y w' := by
  obtain ⟨h1, h2, h3, h4⟩ := h
  have := World.block_lt_of_cell? w _ h1
  exact ⟨by rw [hb.cell (by exact this)]; exact h1, by rw [hb.cell (by exact this)]; exact h2, by rw [hb.cell (by exact this)]; exact h3, by rw [hb.cell (by exact this)]; exact h4⟩

/-- What stays in a round: two fields, and two nodes. -/
abbrev KeepP (g1 g2 fl : Nat) (k1 k2 : Value) (b1 o1 b2 o2 : Nat) (u0 u1 u2 u3 v0 v1 v2 v3 : Value) (w : World) : Prop :=
  w.cell? ⟨g1, fl, none⟩ = some k1 ∧ w.cell? ⟨g2, fl, none⟩ = some k2 ∧
  w.cell? ⟨b1, o1, none⟩ = some u0 ∧ w.cell? ⟨b1, o1 + 1, none⟩ = some u1 ∧ w.cell? ⟨b1, o1 + 2, none⟩ = some u2 ∧ w.cell? ⟨b1, o1 + 3, none⟩ = some u3 ∧
  w.cell? ⟨b2, o2, none⟩ = some v0 ∧ w.cell? ⟨b2, o2 + 1, none⟩ = some v1 ∧ w.cell? ⟨b2, o2 + 2, none⟩ = some v2 ∧ w.cell? ⟨b2, o2 + 3, none⟩ = some v3
theorem KeepP.below {g1 g2 fl : Nat} {k1 k2 : Value} {b1 o1 b2 o2 : Nat} {u0 u1 u2 u3 v0 v1 v2 v3 : Value} {w w' : World} (h : KeepP g1 g2 fl k1 k2 b1 o1 b2 o2 u0 u1 u2 u3 v0 v1 v2 v3 w) (hb : Below w.drew.heap.size w.drew w') :
    KeepP g1 g2 fl k1 k2 b1 o1 b2 o2 u0 u1 u2 u3 v0 v1 v2 v3 w' := by
  have key : ∀ (a : Addr) (v : Value), w.cell? a = some v → w'.cell? a = some v := fun a v ha => by
    rw [hb.cell (show a.block < w.drew.heap.size from World.block_lt_of_cell? w _ ha)]; exact ha
  obtain ⟨h1, h2, h3, h4, h5, h6, h7, h8, h9, h10⟩ := h
  exact ⟨key _ _ h1, key _ _ h2, key _ _ h3, key _ _ h4, key _ _ h5, key _ _ h6, key _ _ h7, key _ _ h8, key _ _ h9, key _ _ h10⟩

theorem fit_kidsL {hand : List Ty} {b c : Bd} (hb : fitB hand b) (hc : fitB hand c) (ha : atomOf b = atomOf c) (hv : lvOf b = lvOf c) :
    ∃ hs, fitBs hs (kidsOf b) ∧ fitBs hs (kidsOf c) := by
  cases b with
  | leaf x => cases c with
    | leaf y => exact ⟨[], by simp [kidsOf, fitBs], by simp [kidsOf, fitBs]⟩
    | ask v ss y n => simp [atomOf] at ha
  | ask v ss y n => cases c with
    | leaf y => simp [atomOf] at ha
    | ask v' ss' y' n' =>
      simp only [lvOf] at hv; subst hv
      rw [fitB] at hb hc
      obtain ⟨t, h1, h2, _⟩ := hb
      obtain ⟨t', h3, h4, _⟩ := hc
      rw [h1] at h3; simp at h3; subst h3
      exact ⟨_, h2, h4⟩
theorem fit_yesL {hand : List Ty} {b c : Bd} (hb : fitB hand b) (hc : fitB hand c) (ha : atomOf b = atomOf c) (hv : lvOf b = lvOf c) :
    ∃ hs, fitBs hs (yesOf b) ∧ fitBs hs (yesOf c) := by
  cases b with
  | leaf x => cases c with
    | leaf y => exact ⟨[], by simp [yesOf, fitBs], by simp [yesOf, fitBs]⟩
    | ask v ss y n => simp [atomOf] at ha
  | ask v ss y n => cases c with
    | leaf y => simp [atomOf] at ha
    | ask v' ss' y' n' =>
      rw [fitB] at hb hc
      obtain ⟨t, _, _, h2, h3⟩ := hb
      obtain ⟨t', _, _, h4, h5⟩ := hc
      exact ⟨[hand, hand], (fitBs_pair _ _ _ _).2 ⟨h2, h3⟩, (fitBs_pair _ _ _ _).2 ⟨h4, h5⟩⟩

def BelowNSaid (b : Bd) : Prop := ∀ (c : Bd) (hand : List Ty) (F : Nat → Prop) (w : World) (s1 v1 k1 y1 s2 v2 k2 y2 : Value), Lim (sizeB c) → fitB hand b → fitB hand c →
  Reps F w (encN b) [s1, v1, k1, y1] → Reps F w (encN c) [s2, v2, k2, y2] →
  Calls Tryd.prog 23 #[.agg #[s1, v1, k1, y1], .agg #[s2, v2, k2, y2]] w fun en w' => en = .returned (.bool (belowB b c)) ∧ Below w.heap.size w w'

set_option maxRecDepth 100000 in
set_option maxHeartbeats 4000000 in
theorem l3Below_step (b : Bd) (hl : Lim (sizeB b)) (ih : ∀ b', sizeB b' < sizeB b → BelowNSaid b') : BelowNSaid b := by
  intro c hand F w s1 v1 k1 y1 s2 v2 k2 y2 hlc fb fc hv hu
  have e1 := encN_lv hv
  have e2 := encN_lv hu
  subst e1; subst e2
  obtain ⟨_, a2, c2, a3, c3, e, hk, hy⟩ := encN_open hv
  simp only [List.cons.injEq, and_true] at e
  obtain ⟨rfl, _, rfl, rfl⟩ := e
  obtain ⟨_, a4, c4, a5, c5, e, hk2, hy2⟩ := encN_open hu
  simp only [List.cons.injEq, and_true] at e
  obtain ⟨rfl, _, rfl, rfl⟩ := e
  have IH := Lib.hid ih; clear ih
  have hl' := hl.le
  have hlc' := hlc.le
  have hszb := sizeB_parts b
  have hszc := sizeB_parts c
  rw [partsOf_eq, sizeBs_append] at hszb hszc
  have l1 := length_le_sizeBs (kidsOf b)
  have l2 := length_le_sizeBs (yesOf b)
  have l3 := length_le_sizeBs (kidsOf c)
  have l4 := length_le_sizeBs (yesOf c)
  have n1 : (kidsOf b).length ≤ 16777216 := by omega
  have n2 : (yesOf b).length ≤ 16777216 := by omega
  have n3 : (kidsOf c).length ≤ 16777216 := by omega
  have n4 : (yesOf c).length ≤ 16777216 := by omega
  have HSB := Lib.hid hszb; have HSC := Lib.hid hszc
  clear l1 l2 l3 l4 hszb hszc
  by_cases h117 : atomOf b = [117]
  · have HB := Lib.hid (belowB_u (c := c) h117)
    have hd : (atomOf b == [117]) = true := by rw [beq_iff_eq]; exact h117
    clear h117 hv hu hk hy hk2 hy2
    go_enter Tryd.func23, Tryd.ntmps23
    go_wp2_with fail
    go_ret
    exact ⟨ret_bool HB.out.symm, ((Below.refl _ _).alloc (Nat.le_refl _) _).alloc (by simp) _⟩
  have hd : (atomOf b == [117]) = false := by rw [beq_eq_false_iff_ne]; exact h117
  by_cases ha : atomOf b = atomOf c
  rotate_left
  · have HB := Lib.hid (belowB_atom h117 ha)
    have hd2 : (atomOf b == atomOf c) = false := by rw [beq_eq_false_iff_ne]; exact ha
    clear h117 ha hv hu hk hy hk2 hy2
    go_enter Tryd.func23, Tryd.ntmps23
    go_wp2_with fail
    go_ret
    exact ⟨ret_bool HB.out.symm, ((Below.refl _ _).alloc (Nat.le_refl _) _).alloc (by simp) _⟩
  have hd2 : (atomOf b == atomOf c) = true := by rw [beq_iff_eq]; exact ha
  by_cases hlv : lvOf b = lvOf c
  rotate_left
  · have HB := Lib.hid (belowB_lv ha hlv)
    have hd3 : (((lvOf b : Nat) : Int) != ((lvOf c : Nat) : Int)) = true := by rw [bne_iff_ne]; omega
    clear h117 ha hlv hv hu hk hy hk2 hy2
    go_enter Tryd.func23, Tryd.ntmps23
    go_wp2_with fail
    go_ret
    exact ⟨ret_bool HB.out.symm, ((Below.refl _ _).alloc (Nat.le_refl _) _).alloc (by simp) _⟩
  have hd3 : (((lvOf b : Nat) : Int) != ((lvOf c : Nat) : Int)) = false := by rw [hlv]; simp
  obtain ⟨kl, yl⟩ := fit_kids fb fc ha hlv
  have hd4 : (((kidsOf b).length : Int) != ((kidsOf c).length : Int)) = false := by rw [kl]; simp
  obtain ⟨hs1, gb1, gc1⟩ := fit_kidsL fb fc ha hlv
  obtain ⟨hs2, gb2, gc2⟩ := fit_yesL fb fc ha hlv
  have GB1 := Lib.hid gb1; have GC1 := Lib.hid gc1; have GB2 := Lib.hid gb2; have GC2 := Lib.hid gc2
  have HB := Lib.hid (belowB_kids fb fc ha hlv)
  have HL1 := Lib.hid kl; have HL2 := Lib.hid yl
  obtain ⟨_, _, ek, atk⟩ := AtNs.of hk
  simp only [Value.slice.injEq, true_and] at ek
  rw [← ek.1] at atk; clear ek
  obtain ⟨_, _, ek, aty⟩ := AtNs.of hy
  simp only [Value.slice.injEq, true_and] at ek
  rw [← ek.1] at aty; clear ek
  obtain ⟨_, _, ek, atk2⟩ := AtNs.of hk2
  simp only [Value.slice.injEq, true_and] at ek
  rw [← ek.1] at atk2; clear ek
  obtain ⟨_, _, ek, aty2⟩ := AtNs.of hy2
  simp only [Value.slice.injEq, true_and] at ek
  rw [← ek.1] at aty2; clear ek
  have ATK := Lib.hid atk; have ATY := Lib.hid aty; have ATK2 := Lib.hid atk2; have ATY2 := Lib.hid aty2
  clear h117 ha hlv hv hu hk hy hk2 hy2 gb1 gc1 gb2 gc2 kl yl atk aty atk2 aty2 fb fc
  go_enter Tryd.func23, Tryd.ntmps23
  go_wp2_with fail
  go_loopw [5] (fun i wr => ∃ k : Nat, k ≤ (kidsOf b).length ∧ i = .int .i64 k ∧ BelowTo (kidsOf b) (kidsOf c) k ∧ Below w.heap.size w wr ∧ BoxV w.heap.size (str (atomOf b)) (.int .i64 (lvOf b : Nat)) (.slice a2 (kidsOf b).length c2) (.slice a3 (yesOf b).length c3) wr ∧ BoxV (w.heap.size + 1) (str (atomOf c)) (.int .i64 (lvOf c : Nat)) (.slice a4 (kidsOf c).length c4) (.slice a5 (yesOf c).length c5) wr) (fun i _ => (kidsOf b).length - (intOf i).toNat)
  case atStart => exact ⟨0, Nat.zero_le _, rfl, BelowTo.zero _ _, ((Below.refl _ _).alloc (Nat.le_refl _) _).alloc (by simp) _, ⟨by simp, by simp, by simp, by simp⟩, ⟨by simp, by simp, by simp, by simp⟩⟩
  case round =>
    obtain ⟨k, hk, rfl, hto, hb, hx1, hx2⟩ := hrel
    have TO := Lib.hid hto; clear hto
    obtain ⟨x10, x11, x12, x13⟩ := id hx1
    obtain ⟨x20, x21, x22, x23⟩ := id hx2
    have HX1 := Lib.hid hx1; have HX2 := Lib.hid hx2; clear hx1 hx2
    by_cases hlt : k < (kidsOf b).length
    · obtain ⟨bb, o, s', v', b2, m2, d2, b3, m3, d3, tb, eb, hbb, htb, u0, u1, u2, u3, hrb⟩ := ATK.out k hlt
      obtain ⟨bc, oc, s'', v'', b4, m4, d4, b5, m5, d5, tc, ec, hbc, htc, z0, z1, z2, z3, hrc⟩ := ATK2.out k (by rw [← HL1.out]; exact hlt)
      subst eb; subst ec
      have KP : KeepP w.heap.size (w.heap.size + 1) 2 (.slice (some ⟨bb, o, none⟩) (kidsOf b).length c2) (.slice (some ⟨bc, oc, none⟩) (kidsOf c).length c4) bb (o + k * 4) bc (oc + k * 4) (str s') (.int .i64 v') (.slice b2 m2 d2) (.slice b3 m3 d3) (str s'') (.int .i64 v'') (.slice b4 m4 d4) (.slice b5 m5 d5) wr :=
        ⟨x12, x22, (hb.cell hbb).trans u0, (hb.cell hbb).trans u1, (hb.cell hbb).trans u2, (hb.cell hbb).trans u3, (hb.cell hbc).trans z0, (hb.cell hbc).trans z1, (hb.cell hbc).trans z2, (hb.cell hbc).trans z3⟩
      obtain ⟨_, _, q0, q1, q2, q3, p0, p1, p2, p3⟩ := id KP
      have hKd : KeepP w.heap.size (w.heap.size + 1) 2 (.slice (some ⟨bb, o, none⟩) (kidsOf b).length c2) (.slice (some ⟨bc, oc, none⟩) (kidsOf c).length c4) bb (o + k * 4) bc (oc + k * 4) (str s') (.int .i64 v') (.slice b2 m2 d2) (.slice b3 m3 d3) (str s'') (.int .i64 v'') (.slice b4 m4 d4) (.slice b5 m5 d5) wr.drew := KP
      have hrb' := (Reps.below (F' := fun _ => True) hb (fun _ _ => trivial) hrb).drew
      have hrc' := (Reps.below (F' := fun _ => True) hb (fun _ _ => trivial) hrc).drew
      obtain ⟨h1, hh1, fb1⟩ := fitBs_at _ _ GB1.out k tb htb
      obtain ⟨h2, hh2, fc1⟩ := fitBs_at _ _ GC1.out k tc htc
      rw [hh1] at hh2; simp only [Option.some.injEq] at hh2; subst hh2
      have hs1 := sizeBs_take htb
      have hs2 := sizeBs_take_le (kidsOf b) (k + 1)
      have hs3 := sizeBs_take htc
      have hs4 := sizeBs_take_le (kidsOf c) (k + 1)
      have hs5 := HSB.out
      have hs6 := HSC.out
      have C := IH.out tb (by omega) tc h1 _ wr.drew _ _ _ _ _ _ _ _ (show sizeB tc ≤ _ by omega) fb1 fc1 hrb' hrc'
      have HTB := Lib.hid htb; have HTC := Lib.hid htc
      have hlt' : (k : Int) < ((kidsOf b).length : Int) := by omega
      have hltc : (k : Int) < ((kidsOf c).length : Int) := by rw [← HL1.out]; exact hlt'
      cases hq : belowB tb tc
      all_goals
        rw [hq] at C
        have C' := Lib.hid C; clear C
        have HQ := Lib.hid hq
        clear hq hs1 hs2 hs3 hs4 hs5 hs6 fb1 fc1 hh1 htb htc u0 u1 u2 u3 z0 z1 z2 z3 hrb hrc hrb' hrc'
        go_wp2_with fail
        go_region_held3 (fun w' => w'.cell? ⟨w.heap.size, 2, none⟩ = some (.slice (some ⟨bb, o, none⟩) (kidsOf b).length c2) ∧ w'.cell? ⟨w.heap.size + 1, 2, none⟩ = some (.slice (some ⟨bc, oc, none⟩) (kidsOf c).length c4) ∧ w'.cell? ⟨bb, o + k * 4, none⟩ = some (str s') ∧ w'.cell? ⟨bb, o + k * 4 + 1, none⟩ = some (.int .i64 v') ∧ w'.cell? ⟨bb, o + k * 4 + 2, none⟩ = some (.slice b2 m2 d2) ∧ w'.cell? ⟨bb, o + k * 4 + 3, none⟩ = some (.slice b3 m3 d3) ∧ w'.cell? ⟨bc, oc + k * 4, none⟩ = some (str s'') ∧ w'.cell? ⟨bc, oc + k * 4 + 1, none⟩ = some (.int .i64 v'') ∧ w'.cell? ⟨bc, oc + k * 4 + 2, none⟩ = some (.slice b4 m4 d4) ∧ w'.cell? ⟨bc, oc + k * 4 + 3, none⟩ = some (.slice b5 m5 d5))
          (first
            | with_reducible exact hKd
            | with_reducible exact hK3)
          (first
            | (go_at_call 23; refine C'.out.mono ?_; rintro en w3 ⟨rfl, hb3⟩; have hK3 := KP.below hb3))
        have hb4 := hb.trans ((((Below.refl _ wr).drew).trans hb3).mono hb.size)
        have hX1 := HX1.out.below (((Below.refl _ wr).drew).trans hb3)
        have hX2 := HX2.out.below (((Below.refl _ wr).drew).trans hb3)
      · have HN := Lib.hid (below_no HL1.out HTB.out HTC.out HQ.out)
        go_wp2_with fail
        go_ret
        exact ⟨ret_bool (by rw [HB.out, HN.out]; simp), hb4⟩
      · have TO' := Lib.hid (TO.out.next HTB.out HTC.out HQ.out)
        have HX1' := Lib.hid hX1; have HX2' := Lib.hid hX2
        obtain ⟨x10, x11, x12, x13⟩ := hX1
        obtain ⟨x20, x21, x22, x23⟩ := hX2
        go_wp2_with fail
        go_roundw
        case rel => exact ⟨k + 1, by omega, by go_num, TO'.out, hb4, HX1'.out, HX2'.out⟩
        case measure => simp [intOf]; omega
    · obtain rfl : k = (kidsOf b).length := by omega
      have hnl : ¬ (((kidsOf b).length : Int) < ((kidsOf b).length : Int)) := by omega
      have DONE := Lib.hid (TO.out.all HL1.out)
      have DK := DONE
      clear DONE
      go_wp2_with fail
      have hb0 := hb
      have HY1 := HX1; have HY2 := HX2
      clear hb x10 x11 x12 x13 x20 x21 x22 x23 HX1 HX2 TO hk hlt
      go_loopw [6] (fun i wr => ∃ k : Nat, k ≤ (yesOf b).length ∧ i = .int .i64 k ∧ BelowTo (yesOf b) (yesOf c) k ∧ Below w.heap.size w wr ∧ BoxV w.heap.size (str (atomOf b)) (.int .i64 (lvOf b : Nat)) (.slice a2 (kidsOf b).length c2) (.slice a3 (yesOf b).length c3) wr ∧ BoxV (w.heap.size + 1) (str (atomOf c)) (.int .i64 (lvOf c : Nat)) (.slice a4 (kidsOf c).length c4) (.slice a5 (yesOf c).length c5) wr) (fun i _ => (yesOf b).length - (intOf i).toNat)
      case atStart => exact ⟨0, Nat.zero_le _, rfl, BelowTo.zero _ _, hb0, HY1.out, HY2.out⟩
      case round =>
        clear hb0
        obtain ⟨k, hk, rfl, hto, hb, hx1, hx2⟩ := hrel
        have TO := Lib.hid hto; clear hto
        obtain ⟨x10, x11, x12, x13⟩ := id hx1
        obtain ⟨x20, x21, x22, x23⟩ := id hx2
        have HX1 := Lib.hid hx1; have HX2 := Lib.hid hx2; clear hx1 hx2
        by_cases hlt : k < (yesOf b).length
        · obtain ⟨bb, o, s', v', b2, m2, d2, b3, m3, d3, tb, eb, hbb, htb, u0, u1, u2, u3, hrb⟩ := ATY.out k hlt
          obtain ⟨bc, oc, s'', v'', b4, m4, d4, b5, m5, d5, tc, ec, hbc, htc, z0, z1, z2, z3, hrc⟩ := ATY2.out k (by rw [← HL2.out]; exact hlt)
          subst eb; subst ec
          have KP : KeepP w.heap.size (w.heap.size + 1) 3 (.slice (some ⟨bb, o, none⟩) (yesOf b).length c3) (.slice (some ⟨bc, oc, none⟩) (yesOf c).length c5) bb (o + k * 4) bc (oc + k * 4) (str s') (.int .i64 v') (.slice b2 m2 d2) (.slice b3 m3 d3) (str s'') (.int .i64 v'') (.slice b4 m4 d4) (.slice b5 m5 d5) wr :=
            ⟨x13, x23, (hb.cell hbb).trans u0, (hb.cell hbb).trans u1, (hb.cell hbb).trans u2, (hb.cell hbb).trans u3, (hb.cell hbc).trans z0, (hb.cell hbc).trans z1, (hb.cell hbc).trans z2, (hb.cell hbc).trans z3⟩
          obtain ⟨_, _, q0, q1, q2, q3, p0, p1, p2, p3⟩ := id KP
          have hKd : KeepP w.heap.size (w.heap.size + 1) 3 (.slice (some ⟨bb, o, none⟩) (yesOf b).length c3) (.slice (some ⟨bc, oc, none⟩) (yesOf c).length c5) bb (o + k * 4) bc (oc + k * 4) (str s') (.int .i64 v') (.slice b2 m2 d2) (.slice b3 m3 d3) (str s'') (.int .i64 v'') (.slice b4 m4 d4) (.slice b5 m5 d5) wr.drew := KP
          have hrb' := (Reps.below (F' := fun _ => True) hb (fun _ _ => trivial) hrb).drew
          have hrc' := (Reps.below (F' := fun _ => True) hb (fun _ _ => trivial) hrc).drew
          obtain ⟨h1, hh1, fb1⟩ := fitBs_at _ _ GB2.out k tb htb
          obtain ⟨h2, hh2, fc1⟩ := fitBs_at _ _ GC2.out k tc htc
          rw [hh1] at hh2; simp only [Option.some.injEq] at hh2; subst hh2
          have hs1 := sizeBs_take htb
          have hs2 := sizeBs_take_le (yesOf b) (k + 1)
          have hs3 := sizeBs_take htc
          have hs4 := sizeBs_take_le (yesOf c) (k + 1)
          have hs5 := HSB.out
          have hs6 := HSC.out
          have C := IH.out tb (by omega) tc h1 _ wr.drew _ _ _ _ _ _ _ _ (show sizeB tc ≤ _ by omega) fb1 fc1 hrb' hrc'
          have HTB := Lib.hid htb; have HTC := Lib.hid htc
          have hlt' : (k : Int) < ((yesOf b).length : Int) := by omega
          have hltc : (k : Int) < ((yesOf c).length : Int) := by rw [← HL2.out]; exact hlt'
          cases hq : belowB tb tc
          all_goals
            rw [hq] at C
            have C' := Lib.hid C; clear C
            have HQ := Lib.hid hq
            clear hq hs1 hs2 hs3 hs4 hs5 hs6 fb1 fc1 hh1 htb htc u0 u1 u2 u3 z0 z1 z2 z3 hrb hrc hrb' hrc'
            go_wp2_with fail
            go_region_held3 (fun w' => w'.cell? ⟨w.heap.size, 3, none⟩ = some (.slice (some ⟨bb, o, none⟩) (yesOf b).length c3) ∧ w'.cell? ⟨w.heap.size + 1, 3, none⟩ = some (.slice (some ⟨bc, oc, none⟩) (yesOf c).length c5) ∧ w'.cell? ⟨bb, o + k * 4, none⟩ = some (str s') ∧ w'.cell? ⟨bb, o + k * 4 + 1, none⟩ = some (.int .i64 v') ∧ w'.cell? ⟨bb, o + k * 4 + 2, none⟩ = some (.slice b2 m2 d2) ∧ w'.cell? ⟨bb, o + k * 4 + 3, none⟩ = some (.slice b3 m3 d3) ∧ w'.cell? ⟨bc, oc + k * 4, none⟩ = some (str s'') ∧ w'.cell? ⟨bc, oc + k * 4 + 1, none⟩ = some (.int .i64 v'') ∧ w'.cell? ⟨bc, oc + k * 4 + 2, none⟩ = some (.slice b4 m4 d4) ∧ w'.cell? ⟨bc, oc + k * 4 + 3, none⟩ = some (.slice b5 m5 d5))
              (first
                | with_reducible exact hKd
                | with_reducible exact hK3)
              (first
                | (go_at_call 23; refine C'.out.mono ?_; rintro en w3 ⟨rfl, hb3⟩; have hK3 := KP.below hb3))
            have hb4 := hb.trans ((((Below.refl _ wr).drew).trans hb3).mono hb.size)
            have hX1 := HX1.out.below (((Below.refl _ wr).drew).trans hb3)
            have hX2 := HX2.out.below (((Below.refl _ wr).drew).trans hb3)
          · have HN := Lib.hid (below_no HL2.out HTB.out HTC.out HQ.out)
            go_wp2_with fail
            go_ret
            exact ⟨ret_bool (by rw [HB.out, HN.out]; simp), hb4⟩
          · have TO' := Lib.hid (TO.out.next HTB.out HTC.out HQ.out)
            have HX1' := Lib.hid hX1; have HX2' := Lib.hid hX2
            obtain ⟨x10, x11, x12, x13⟩ := hX1
            obtain ⟨x20, x21, x22, x23⟩ := hX2
            go_wp2_with fail
            go_roundw
            case rel => exact ⟨k + 1, by omega, by go_num, TO'.out, hb4, HX1'.out, HX2'.out⟩
            case measure => simp [intOf]; omega
        · obtain rfl : k = (yesOf b).length := by omega
          have hnl : ¬ (((yesOf b).length : Int) < ((yesOf b).length : Int)) := by omega
          have DONE := Lib.hid (TO.out.all HL2.out)
          go_wp2_with fail
          go_ret
          exact ⟨ret_bool (by rw [HB.out, DK.out, DONE.out]; rfl), hb⟩


theorem l3Below_any (n : Nat) : ∀ b, sizeB b ≤ n → Lim n → BelowNSaid b := by
  induction n with
  | zero => intro b h _; have := sizeB_pos b; omega
  | succ n ih => exact fun b h hn => l3Below_step b (hn.mono h) (fun b' h' => ih b' (by omega) (hn.mono (by omega)))

end Go.Proofs.YteeakelcmlmeiaaDoor

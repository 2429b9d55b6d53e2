/- The walks of impl's below and of the program's StrategyBelow. -/
import Derived.Test.YteeakelcmlmeiaaDoorP6
import Derived.Deep.QuietTactic
import Derived.BigQuiet
namespace Go.Proofs.YteeakelcmlmeiaaDoor
open Go.RowKit

theorem Rep.drewN {F : Nat → Prop} {w : World} {d : DV} {v : Value} (h : Rep F w d v) (n : Nat) : Rep F (w.drewN n) d v := (Rep.keep (w := w) (w' := w.drewN n) fun _ _ hf ho => ⟨hf, ho⟩).1 _ _ h

theorem body_cells {F : Nat → Prop} {w : World} {b : Bd} {v : Value} (h : Rep F w (encB b) v) :
    ∃ a0, v = .pointer (some ⟨a0, 0, none⟩) ∧ w.cell? ⟨a0, 0, none⟩ = some (str (atomOf b)) ∧ w.cell? ⟨a0, 1, none⟩ = some (.int .i64 (lvOf b : Nat)) := by
  cases b with
  | leaf c =>
    obtain ⟨a, sl, rfl, _, hc, _⟩ := leaf_open h
    exact ⟨a, rfl, by simp [World.cell?, hc, atomOf], by simp [World.cell?, hc, lvOf]⟩
  | ask lv ss y n =>
    obtain ⟨a, sl, yv, nv, rfl, _, hc, _⟩ := ask_open h
    exact ⟨a, rfl, by simp [World.cell?, hc, atomOf], by simp [World.cell?, hc, lvOf]⟩

theorem isList_any (F : Nat → Prop) (w : World) (b : Bd) (v : Value) (h : Rep F w (encB b) v) :
    Calls Tryd.prog 34 #[v] w fun en w' => en = .returned (.bool (isAsk b)) ∧ w' = w := by
  cases b with
  | leaf c => exact isList_leaf F w c v h
  | ask lv ss y n => exact isList_ask F w lv ss y n v h

theorem isList_is (F : Nat → Prop) (w : World) (b : Bd) (v : Value) (h : Rep F w (encB b) v) (x : Bool) (hx : Hid (isAsk b = x)) :
    Calls Tryd.prog 34 #[v] w fun en w' => en = .returned (.bool x) ∧ w' = w := by
  rw [← hx.out]; exact isList_any F w b v h

def belowSaid (b : Bd) : Prop := ∀ (c : Bd) (hand : List Ty) (F : Nat → Prop) (w : World) (v u : Value), Lim (sizeB c) → fitB hand b → fitB hand c → Rep F w (encB b) v → Rep F w (encB c) u →
  Calls Tryd.prog 24 #[v, u] w fun en w' => en = .returned (.bool (belowB b c)) ∧ Below w.heap.size w w'

theorem lv_le {hand : List Ty} {b : Bd} (h : fitB hand b) (hl : Lim hand.length) : lvOf b ≤ 16777216 := by
  cases b with
  | leaf c => simp [lvOf]
  | ask v ss y n =>
    obtain ⟨t, h1, _⟩ := fit_parts h
    have := (List.getElem?_eq_some_iff.1 h1).1
    have := hl.le
    simp only [lvOf]; omega

set_option maxRecDepth 100000 in
set_option maxHeartbeats 2000000 in
theorem below_step (b : Bd) (hl : Lim (sizeB b)) (ih : ∀ t, sizeB t < sizeB b → belowSaid t) : belowSaid b := by
  intro c hand F w v u hlc fb fc hv hu
  have IH := Lib.hid ih; clear ih
  have hl' := hl.le
  have hlc' := hlc.le
  have hszb := sizeB_parts b
  have hszc := sizeB_parts c
  have hlenb := length_le_sizeBs (partsOf b)
  have hlenc := length_le_sizeBs (partsOf c)
  obtain ⟨a0, e, p0, p1⟩ := body_cells hv
  subst e
  obtain ⟨b0, e, q0, q1⟩ := body_cells hu
  subst e
  by_cases h117 : atomOf b = [117]
  · have HB := Lib.hid (belowB_u (c := c) h117)
    have hd : (atomOf b == [117]) = true := by rw [beq_iff_eq]; exact h117
    clear h117 hszb hszc
    go_enter Tryd.func24, Tryd.ntmps24
    go_wp2_with fail
    go_ret
    exact ⟨ret_bool HB.out.symm, Below.refl _ _⟩
  have hd : (atomOf b == [117]) = false := by rw [beq_eq_false_iff_ne]; exact h117
  by_cases ha : atomOf b = atomOf c
  rotate_left
  · have HB := Lib.hid (belowB_atom h117 ha)
    have hd2 : (atomOf b == atomOf c) = false := by rw [beq_eq_false_iff_ne]; exact ha
    have HV := Lib.hid hv
    clear h117 hszb hszc ha
    go_enter Tryd.func24, Tryd.ntmps24
    go_wp2_with fail
    go_quiet (first | (go_at_call 34; exact (isList_any F _ b _ (HV.out.drewN _)).mono fun _ _ ⟨he, hm⟩ => ⟨he, _, hm⟩))
    go_wp2_with fail
    go_ret
    exact ⟨ret_bool HB.out.symm, below_dN (Below.refl _ _) _⟩
  have hd2 : (atomOf b == atomOf c) = true := by rw [beq_iff_eq]; exact ha
  by_cases hlv : lvOf b = lvOf c
  rotate_left
  · have hi : isAsk b = true := by
      cases hi : isAsk b with
      | true => rfl
      | false => exact absurd (lv_leaf ha hi) hlv
    have HB := Lib.hid (belowB_lv ha hlv)
    have hd3 : (((lvOf b : Nat) : Int) == ((lvOf c : Nat) : Int)) = false := by rw [beq_eq_false_iff_ne]; omega
    have HV := Lib.hid hv
    clear h117 hszb hszc ha hlv
    go_enter Tryd.func24, Tryd.ntmps24
    go_wp2_with fail
    go_quiet (first | (go_at_call 34; exact (isList_any F _ b _ (HV.out.drewN _)).mono fun _ _ ⟨he, hm⟩ => ⟨he, _, hm⟩))
    go_wp2_with fail
    go_ret
    exact ⟨ret_bool HB.out.symm, below_dN (Below.refl _ _) _⟩
  have hd3 : (((lvOf b : Nat) : Int) != ((lvOf c : Nat) : Int)) = false := by rw [hlv]; simp
  obtain ⟨hs, gb, gc⟩ := fit_lengths fb fc ha hlv
  have hln : (partsOf b).length = (partsOf c).length := (fitBs_length _ _ gb).symm.trans (fitBs_length _ _ gc)
  have HB := Lib.hid (belowB_parts fb fc ha hlv)
  have GB := Lib.hid gb; have GC := Lib.hid gc
  have HV := Lib.hid hv; have HU := Lib.hid hu
  have hn1 : (partsOf b).length ≤ 16777216 := by omega
  have hn2 : (partsOf c).length ≤ 16777216 := by omega
  have HS := Lib.hid hszb; have HSC := Lib.hid hszc
  have HL := Lib.hid hln
  clear h117 hszb hszc ha hlv gb gc hv hu fb fc hln
  cases hi : isAsk b
  all_goals
    have HI := Lib.hid hi; clear hi
    go_enter Tryd.func24, Tryd.ntmps24
    go_wp2_with fail
    go_quiet (first | (go_at_call 34; exact (isList_is F _ b _ (HV.out.drewN _) _ HI).mono fun _ _ ⟨he, hm⟩ => ⟨he, _, hm⟩))
    clear hd hd2 hd3
    have hb0 : Below w.heap.size w (w.drewN nq) := below_dN (Below.refl _ _) _
    have HV1 := Lib.hid (HV.out.drewN nq); have HU1 := Lib.hid (HU.out.drewN nq); clear HV HU
    go_wp2_with fail
    refine (parts_any F _ c _ HU1.out hlc).mono ?_
    rintro en w1 ⟨pc, rfl, hb1, hpc⟩
    obtain ⟨ca, cc, e, _, _, hatc⟩ := Rep_sl1_open hpc
    subst e
    have hv1 := Rep.below hb1 (fun _ h => h) HV1.out
    go_wp2_with fail
    refine (parts_any F _ b _ hv1 hl).mono ?_
    rintro en w2 ⟨pb, rfl, hb2, hpb⟩
    have hpc2 := Rep.below (F' := fun k => F k ∨ w.heap.size ≤ k) hb2 (fun _ h => h) hpc
    obtain ⟨ba, bc, e, _, _, hatb⟩ := Rep_sl1_open hpb
    subst e
    obtain ⟨ca', cc', e, _, _, hatc2⟩ := Rep_sl1_open hpc2
    simp only [Value.slice.injEq, true_and] at e
    obtain ⟨rfl, rfl⟩ := e
    have hb12 := hb1.trans (hb2.mono hb1.size)
    have hb012 := hb0.trans hb12
    have ATB := Lib.hid hatb; have ATC := Lib.hid hatc2
    clear hatb hatc hatc2 hpc hpc2 hpb hv1
    go_wp2_with fail
    rw [← HL.out]
    go_loopw [42] (fun i wr => ∃ k : Nat, k ≤ (partsOf b).length ∧ i = .int .i64 k ∧ BelowTo (partsOf b) (partsOf c) k ∧ Below w2.heap.size w2 wr) (fun i _ => (partsOf b).length - (intOf i).toNat)
    case atStart => exact ⟨0, Nat.zero_le _, rfl, BelowTo.zero _ _, Below.refl _ _⟩
    case round =>
      rename_i wr
      obtain ⟨k, hk, rfl, hto, hb⟩ := hrel
      have TO := Lib.hid hto; clear hto
      by_cases hlt : k < (partsOf b).length
      · obtain ⟨xb, ob, ub, db, eb, _, hbb, hdb, hub, hrb⟩ := ATB.out k hlt
        obtain ⟨xc, oc, uc, dc, ec, _, hbc, hdc, huc, hrc⟩ := ATC.out k (by rw [← HL.out]; exact hlt)
        subst eb; subst ec
        rw [encBs_at, Option.map_eq_some_iff] at hdb hdc
        obtain ⟨tb, htb, rfl⟩ := hdb
        obtain ⟨tc, htc, rfl⟩ := hdc
        obtain ⟨pb0, eu⟩ := encB_ptr hrb
        subst eu
        obtain ⟨pc0, eu⟩ := encB_ptr hrc
        subst eu
        have hcb : wr.cell? ⟨xb, ob + k, none⟩ = some (.pointer (some ⟨pb0, 0, none⟩)) := by rw [hb.cell hbb]; exact hub
        have hcc : wr.cell? ⟨xc, oc + k, none⟩ = some (.pointer (some ⟨pc0, 0, none⟩)) := by rw [hb.cell hbc]; exact huc
        have hrb' := Rep.below (F' := fun _ => True) hb (fun _ _ => trivial) hrb
        have hrc' := Rep.below (F' := fun _ => True) hb (fun _ _ => trivial) hrc
        obtain ⟨h1, hh1, fb1⟩ := fitBs_at _ _ GB.out k tb htb
        obtain ⟨h2, hh2, fc1⟩ := fitBs_at _ _ GC.out k tc htc
        rw [hh1] at hh2; simp only [Option.some.injEq] at hh2; subst hh2
        have hs1 := sizeBs_take htb
        have hs2 := sizeBs_take_le (partsOf b) (k + 1)
        have hs3 := sizeBs_take htc
        have hs4 := sizeBs_take_le (partsOf c) (k + 1)
        have hs5 := HS.out
        have hs6 := HSC.out
        have C := Lib.hid (IH.out tb (by omega) tc h1 _ wr _ _ (show sizeB tc ≤ _ by omega) fb1 fc1 hrb' hrc')
        have HTB := Lib.hid htb; have HTC := Lib.hid htc
        have hlt' : (k : Int) < ((partsOf b).length : Int) := by omega
        have hltc : (k : Int) < ((partsOf c).length : Int) := by rw [← HL.out]; exact hlt'
        clear hs1 hs2 hs3 hs4 hs5 hs6 fb1 fc1 hh1 htb htc hub huc hrb hrc hrb' hrc'
        go_wp2_with fail
        refine C.out.mono ?_
        rintro en w3 ⟨rfl, hb3⟩
        have hb4 := hb.trans (hb3.mono hb.size)
        cases hq : belowB tb tc with
        | false =>
          have HN := Lib.hid (below_no HL.out HTB.out HTC.out hq); clear hq
          go_wp2_with fail
          go_ret
          exact ⟨ret_bool (by rw [HB.out, HN.out]), hb012.trans (hb4.mono hb012.size)⟩
        | true =>
          have TO' := Lib.hid (TO.out.next HTB.out HTC.out hq); clear hq
          go_wp2_with fail
          go_roundw
          case rel => exact ⟨k + 1, by omega, by go_num, TO'.out, hb4⟩
          case measure => simp [intOf]; omega
      · obtain rfl : k = (partsOf b).length := by omega
        go_wp2_with fail
        go_ret
        exact ⟨ret_bool (by rw [HB.out, TO.out.all HL.out]), hb012.trans (hb.mono hb012.size)⟩

theorem below_any (n : Nat) : ∀ b, sizeB b ≤ n → Lim n → belowSaid b := by
  induction n with
  | zero => intro b h _; have := sizeB_pos b; omega
  | succ n ih => exact fun b h hn => below_step b (hn.mono h) (fun t h' => ih t (by omega) (hn.mono (by omega)))

end Go.Proofs.YteeakelcmlmeiaaDoor

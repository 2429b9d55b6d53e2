/- The walks of a body's depth and size. -/
import Derived.Test.YtibnnbdpfkgfhaaGreatDoorW9
namespace Go.Proofs.YtibnnbdpfkgfhaaGreatDoor
open Go.RowKit

theorem parts_any (F : Nat → Prop) (w : World) (b : Bd) (v : Value) (h : Rep F w (encB b) v) (hn : Lim (sizeB b)) :
    Calls Tryz.prog 74 #[v] w (PartsPost F w b) := by
  cases b with
  | leaf c => exact parts_leaf F w c v h
  | ask u ss y n => exact parts_ask F w u ss y n v h (hn.mono (by
      have := length_le_sizeBs ss; have := sizeB_pos y; have := sizeB_pos n; simp [sizeB]; omega))


def depthSaid (b : Bd) : Prop := ∀ (F : Nat → Prop) (w : World) (v : Value), Rep F w (encB b) v →
  Calls Tryz.prog 78 #[v] w fun en w' => en = .returned (.int .i64 (depthB b : Nat)) ∧ Below w.heap.size w w'

set_option maxHeartbeats 1000000 in
theorem depth_step (b : Bd) (hl : Lim (sizeB b)) (ih : ∀ t, sizeB t < sizeB b → depthSaid t) : depthSaid b := by
  intro F w v hv
  have IH := Lib.hid ih; clear ih
  have hl' := hl.le
  obtain ⟨a0, e⟩ := encB_ptr hv
  subst e
  have hsz := sizeB_parts b
  have hdl := depthB_lt _ b (Nat.le_refl _)
  go_enter Tryz.func78, Tryz.ntmps78
  go_wp2_with fail
  refine (parts_any F w b _ hv hl).mono ?_
  rintro en w1 ⟨pv, rfl, hb1, hp⟩
  obtain ⟨pa, pc, e, _, _, hat⟩ := Rep_sl1_open hp
  subst e
  have AT := Lib.hid hat; clear hat hp
  have hlen := length_le_sizeBs (partsOf b)
  have HS := Lib.hid hsz; clear hsz
  have hlen' : (partsOf b).length ≤ 16777216 := by have := HS.out; omega
  go_wp2_with fail
  go_loopw [3, 9] (fun n i wr => ∃ k : Nat, k ≤ (partsOf b).length ∧ i = .int .i64 k ∧ n = .int .i64 (( depthBs ((partsOf b).take k) : Nat) : Int) ∧ Below w1.heap.size w1 wr) (fun _ i _ => (partsOf b).length - (intOf i).toNat)
  case atStart => exact ⟨0, Nat.zero_le _, rfl, by simp [depthBs], Below.refl _ _⟩
  case round =>
    rename_i wr
    obtain ⟨k, hk, rfl, rfl, hb⟩ := hrel
    by_cases hlt : k < (partsOf b).length
    · obtain ⟨ba, oa, u, d, ea, _, hba, hd, hu, hr⟩ := AT.out k hlt
      subst ea
      rw [encBs_at, Option.map_eq_some_iff] at hd
      obtain ⟨t, ht, rfl⟩ := hd
      obtain ⟨ta, eu⟩ := encB_ptr hr
      subst eu
      have hc : wr.cell? ⟨ba, oa + k, none⟩ = some (.pointer (some ⟨ta, 0, none⟩)) := by rw [hb.cell hba]; exact hu
      have hst := depthBs_take ht
      have hss := sizeBs_take ht
      have hle := sizeBs_take_le (partsOf b) (k + 1)
      have hr' : Rep _ wr (encB t) (.pointer (some ⟨ta, 0, none⟩)) := Rep.below hb (fun _ h => h) hr
      have hsz := HS.out
      have htlt : sizeB t < sizeB b := by omega
      have hdt := depthB_lt _ t (Nat.le_refl _)
      have IH' := Lib.hid (IH.out t htlt)
      have hkd : depthBs ((partsOf b).take k) ≤ 16777216 := by have h := depthBs_lt (ts := (partsOf b).take k) (fun t _ => depthB_lt _ t (Nat.le_refl _)); have := sizeBs_take_le (partsOf b) k; omega
      have htd : depthB t ≤ 16777216 := by omega
      have HT := Lib.hid hst
      clear hst hss hsz ht hu hr
      go_wp2_with fail
      refine (IH'.out _ _ _ hr').mono ?_
      rintro en w2 ⟨rfl, hb2⟩
      have hb3 := hb.trans (hb2.mono hb.size)
      go_wp2_with fail
      all_goals
        go_roundw
        case rel => exact ⟨k + 1, by omega, by go_num, by rw [HT.out]; congr 1; omega, hb3⟩
        case measure => simp [intOf]; omega
    · obtain rfl : k = (partsOf b).length := by omega
      go_wp2_with fail
      go_ret
      refine ⟨ret_i64 ?_, hb1.trans (hb.mono hb1.size)⟩
      rw [List.take_length, depthB_parts b]

theorem depth_any (n : Nat) : ∀ b, sizeB b ≤ n → Lim n → depthSaid b := by
  induction n with
  | zero => intro b h _; have := sizeB_pos b; omega
  | succ n ih => exact fun b h hn => depth_step b (hn.mono h) (fun t h' => ih t (by omega) (hn.mono (by omega)))

end Go.Proofs.YtibnnbdpfkgfhaaGreatDoor

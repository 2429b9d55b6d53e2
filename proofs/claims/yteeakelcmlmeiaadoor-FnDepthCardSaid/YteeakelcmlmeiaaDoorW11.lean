/- The walks of impl's size of bodies and of StrategySize and StrategyValid of the program. -/
import Derived.Test.YteeakelcmlmeiaaDoorS10
namespace Go.Proofs.YteeakelcmlmeiaaDoor
open Go.RowKit

def sizeSaid (b : Bd) : Prop := ∀ (F : Nat → Prop) (w : World) (v : Value), Rep F w (encB b) v →
  Calls Tryd.prog 27 #[v] w fun en w' => en = .returned (.int .i64 (sizeB b : Nat)) ∧ Below w.heap.size w w'

set_option maxHeartbeats 1000000 in
theorem size_step (b : Bd) (hl : Lim (sizeB b)) (ih : ∀ t, sizeB t < sizeB b → sizeSaid t) : sizeSaid b := by
  intro F w v hv
  have IH := Lib.hid ih; clear ih
  have hl' := hl.le
  obtain ⟨a0, e⟩ := encB_ptr hv
  subst e
  have hsz := sizeB_parts b
  go_enter Tryd.func27, Tryd.ntmps27
  go_wp2_with fail
  refine (parts_any F w b _ hv hl).mono ?_
  rintro en w1 ⟨pv, rfl, hb1, hp⟩
  obtain ⟨pa, pc, e, _, _, hat⟩ := Rep_sl1_open hp
  subst e
  have AT := Lib.hid hat; clear hat hp
  have hlen := length_le_sizeBs (partsOf b)
  have HS := Lib.hid hsz; clear hsz
  have hlen' : (partsOf b).length ≤ 16777216 := by have := HS.out; omega
  go_wp2_with fail
  go_loopw [3, 9] (fun n i wr => ∃ k : Nat, k ≤ (partsOf b).length ∧ i = .int .i64 k ∧ n = .int .i64 ((1 + sizeBs ((partsOf b).take k) : Nat) : Int) ∧ Below w1.heap.size w1 wr) (fun _ i _ => (partsOf b).length - (intOf i).toNat)
  case atStart => exact ⟨0, Nat.zero_le _, rfl, by simp [sizeBs], Below.refl _ _⟩
  case round =>
    rename_i wr
    obtain ⟨k, hk, rfl, rfl, hb⟩ := hrel
    by_cases hlt : k < (partsOf b).length
    · obtain ⟨ba, oa, u, d, ea, _, hba, hd, hu, hr⟩ := AT.out k hlt
      subst ea
      rw [encBs_at, Option.map_eq_some_iff] at hd
      obtain ⟨t, ht, rfl⟩ := hd
      obtain ⟨ta, eu⟩ := encB_ptr hr
      subst eu
      have hc : wr.cell? ⟨ba, oa + k, none⟩ = some (.pointer (some ⟨ta, 0, none⟩)) := by rw [hb.cell hba]; exact hu
      have hss := sizeBs_take ht
      have hle := sizeBs_take_le (partsOf b) (k + 1)
      have hr' : Rep _ wr (encB t) (.pointer (some ⟨ta, 0, none⟩)) := Rep.below hb (fun _ h => h) hr
      have hsz := HS.out
      have htlt : sizeB t < sizeB b := by omega
      have IH' := Lib.hid (IH.out t htlt)
      have hkd : 1 + sizeBs ((partsOf b).take k) ≤ 16777216 := by omega
      have htd : sizeB t ≤ 16777216 := by omega
      have hsum : 1 + sizeBs ((partsOf b).take k) + sizeB t ≤ 16777216 := by omega
      have HT := Lib.hid hss
      clear hss hsz ht hu hr
      go_wp2_with fail
      refine (IH'.out _ _ _ hr').mono ?_
      rintro en w2 ⟨rfl, hb2⟩
      have hb3 := hb.trans (hb2.mono hb.size)
      go_wp2_with fail
      all_goals
        go_roundw
        case rel => exact ⟨k + 1, by omega, by go_num, by rw [HT.out]; congr 1; omega, hb3⟩
        case measure => simp [intOf]; omega
    · obtain rfl : k = (partsOf b).length := by omega
      have hkd : 1 + sizeBs (partsOf b) ≤ 16777216 := by have := HS.out; omega
      rw [List.take_length]
      go_wp2_with fail
      go_ret
      exact ⟨ret_i64 (by rw [HS.out]), hb1.trans (hb.mono hb1.size)⟩

theorem size_any (n : Nat) : ∀ b, sizeB b ≤ n → Lim n → sizeSaid b := by
  induction n with
  | zero => intro b h _; have := sizeB_pos b; omega
  | succ n ih => exact fun b h hn => size_step b (hn.mono h) (fun t h' => ih t (by omega) (hn.mono (by omega)))

def sizeOf' (o : Option Bd) : Int := match o with
  | some b => (sizeB b : Int)
  | none => -1

set_option maxHeartbeats 2000000 in
theorem implSize_any (s text : Bs) (hs : Lim s.length) (hl : Lim text.length) (w : World) (hg : Glob w) :
    Calls Tryd.prog 13 #[str s, str text] w fun en w' => en = .returned (.int .i64 (sizeOf' (specStrat s text))) ∧ Below w.heap.size w w' := by
  have he : (rdTS s text).map Prod.snd = specStrat s text := by
    rw [rdTS_eq]; cases specStrat s text <;> rfl
  rw [← he]; clear he
  go_enter Tryd.func13, Tryd.ntmps13
  go_wp2_with fail
  refine (strategy_any s text w hg hs hl).mono ?_
  rintro en w1 ⟨kv, bv, rfl, hb1, hn, hy⟩
  cases hq : rdTS s text with
  | none =>
    obtain rfl := hn hq
    have HQ := Lib.hid hq; clear hq hn hy
    go_wp2_with fail
    go_ret
    exact ⟨ret_i64 (by rw [HQ.out]; rfl), hb1⟩
  | some x =>
    obtain ⟨t, b⟩ := x
    obtain ⟨hk, hr⟩ := hy t b hq
    have hsz : Lim (sizeB b) := (show _ ≤ _ by have := rdTS_size hq; omega)
    have HQ := Lib.hid hq; clear hq hn hy
    obtain ⟨ab, eb⟩ := encB_ptr hr
    subst eb
    go_wp2_with fail
    refine (size_any (sizeB b) b (Nat.le_refl _) hsz _ _ _ hr).mono ?_
    rintro en w2 ⟨rfl, hb2⟩
    go_wp2_with fail
    go_ret
    exact ⟨ret_i64 (by rw [HQ.out]; rfl), hb1.trans (hb2.mono hb1.size)⟩

set_option maxHeartbeats 2000000 in
theorem implValid_any (s text : Bs) (hs : Lim s.length) (hl : Lim text.length) (w : World) (hg : Glob w) :
    Calls Tryd.prog 16 #[str s, str text] w fun en w' => en = .returned (.bool (specStrat s text).isSome) ∧ Below w.heap.size w w' := by
  have he : (rdTS s text).map Prod.snd = specStrat s text := by
    rw [rdTS_eq]; cases specStrat s text <;> rfl
  rw [← he]; clear he
  go_enter Tryd.func16, Tryd.ntmps16
  go_wp2_with fail
  refine (strategy_any s text w hg hs hl).mono ?_
  rintro en w1 ⟨kv, bv, rfl, hb1, hn, hy⟩
  cases hq : rdTS s text with
  | none =>
    obtain rfl := hn hq
    have HQ := Lib.hid hq; clear hq hn hy
    go_wp2_with fail
    go_ret
    exact ⟨ret_bool (by rw [HQ.out]; rfl), hb1⟩
  | some x =>
    obtain ⟨t, b⟩ := x
    obtain ⟨hk, hr⟩ := hy t b hq
    have HQ := Lib.hid hq; clear hq hn hy
    obtain ⟨ab, eb⟩ := encB_ptr hr
    subst eb
    go_wp2_with fail
    go_ret
    exact ⟨ret_bool (by rw [HQ.out]; rfl), hb1⟩

set_option maxRecDepth 100000 in
set_option maxHeartbeats 2000000 in
theorem specSize_any (s text : Bs) (hs : Lim s.length) (hl : Lim text.length) (w : World) :
    Calls Tryd.prog 14 #[str s, str text] w fun en w' => en = .returned (.int .i64 (sizeOf' (specStrat s text))) ∧ Below w.heap.size w w' := by
  go_enter Tryd.func14, Tryd.ntmps14
  go_wp2_with fail
  refine (l3Strategy_any s text hs hl w).mono ?_
  rintro en w1 ⟨a, c, s', v', a2, n2, c2, a3, n3, c3, rfl, hb1, _, hrs⟩
  cases hq : specStrat s text with
  | none =>
    have HQ := Lib.hid hq; clear hq hrs
    simp only [Option.isSome_none]
    go_wp2_with fail
    go_ret
    exact ⟨ret_i64 (by rw [HQ.out]; rfl), (hb1.alloc hb1.size _).alloc (by have := hb1.size; simp; omega) _⟩
  | some b =>
    have hr := hrs b hq
    have hsz := specStrat_size hq
    have HQ := Lib.hid hq; clear hq hrs
    simp only [Option.isSome_some]
    go_wp2_with fail
    refine (l3Size_any 200 b hsz (show _ ≤ _ by omega) (w.heap.size ≤ ·) _ _ _ _ _ _ _ _ _ (by exact (Rep.keep fun b o h ho => ⟨h, heap_past (heap_past ho)⟩).2 _ _ hr)).mono ?_
    rintro en w2 ⟨rfl, hb2⟩
    go_wp2_with fail
    go_ret
    refine ⟨ret_i64 (by rw [HQ.out]; rfl), ?_⟩
    have h1 : Below w.heap.size w ((w1.alloc (.cells #[.slice a (specType s).1.args.length c] 31)).alloc (.cells #[str s', .int .i64 v', .slice a2 n2 c2, .slice a3 n3 c3] 34)) := (hb1.alloc hb1.size _).alloc (by have := hb1.size; simp; omega) _
    exact h1.trans (hb2.mono h1.size)

set_option maxRecDepth 100000 in
set_option maxHeartbeats 2000000 in
theorem specValid_any (s text : Bs) (hs : Lim s.length) (hl : Lim text.length) (w : World) :
    Calls Tryd.prog 17 #[str s, str text] w fun en w' => en = .returned (.bool (specStrat s text).isSome) ∧ Below w.heap.size w w' := by
  go_enter Tryd.func17, Tryd.ntmps17
  go_wp2_with fail
  refine (l3Strategy_any s text hs hl w).mono ?_
  rintro en w1 ⟨a, c, s', v', a2, n2, c2, a3, n3, c3, rfl, hb1, _, _⟩
  go_wp2_with fail
  go_ret
  refine ⟨rfl, ?_⟩
  repeat (first | exact hb1 | refine Below.alloc ?_ (by have := hb1.size; simp; omega) _)

end Go.Proofs.YteeakelcmlmeiaaDoor

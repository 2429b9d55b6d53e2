/- The walks of what counts atoms, and of what reads a whole type. -/
import Derived.Test.YtmkgoacclgoidaaDoorW1
namespace Go.Proofs.YtmkgoacclgoidaaDoor
open Go.RowKit

def AtomsSaid (F : Nat → Prop) (w : World) (t : Ty) : Prop := ∀ v, Rep F w (encK t) v →
  Calls Tryd.prog 85 #[v] w fun en w' => en = .returned (.int .i64 (atomsT t)) ∧ w' = w

set_option maxHeartbeats 400000 in
theorem atoms_step (F : Nat → Prop) (w : World) (t : Ty) (hl : Lim (atomsT t)) (ih : ∀ t', atomsT t' < atomsT t → AtomsSaid F w t') : AtomsSaid F w t := by
  intro v hv
  obtain ⟨b, s, rfl, hb, hc, hs⟩ := encK_open hv
  have c1 : w.cell? ⟨b, 0, none⟩ = some s := by simp [World.cell?, hc]
  obtain ⟨a, cap, rfl, hn, hlen, hat⟩ := Rep_sl1_open hs
  have IH := Lib.hid ih; clear ih hc hv hs
  have e1 := atomsT_mk t
  have E1 := Lib.hid e1; clear e1
  have hl' := hl.le
  have hlb : t.args.length ≤ 16777216 := by
    have h : ∀ ts : List Ty, ts.length ≤ atomsTs ts := by intro ts; induction ts with
      | nil => simp
      | cons t ts ih => simp [atomsTs]; omega
    have := h t.args; have := E1.out; omega
  have HL := Lib.hid hlen; clear hlen
  have AT := Lib.hid hat; clear hat
  go_enter Tryd.func85, Tryd.ntmps85
  go_wp2_with fail
  go_loop [3, 11] (fun n i => ∃ k : Nat, k ≤ t.args.length ∧ i = .int .i64 k ∧ n = .int .i64 ((1 + atomsTs (t.args.take k) : Nat) : Int)) (fun _ i => t.args.length - (intOf i).toNat)
  case atStart => exact ⟨0, Nat.zero_le _, rfl, by simp [atomsTs]⟩
  case round =>
    obtain ⟨k, hk, rfl, rfl⟩ := hrel
    by_cases hlt : k < t.args.length
    · obtain ⟨b', o, u, d, rfl, _, hb', hd, hu, hr⟩ := AT.out k hlt
      rw [encKs_at, Option.map_eq_some_iff] at hd
      obtain ⟨t', ht', rfl⟩ := hd
      have hs := atomsTs_take ht'
      have hle := atomsTs_take_le t.args (k + 1)
      have hat' := E1.out
      have IH' := Lib.hid (IH.out t' (by omega))
      have HS := Lib.hid hs
      have b1 : 1 + atomsTs (t.args.take k) + (1 + atomsT t') ≤ 16777216 := by omega
      have HT := Lib.hid ht'; clear hs ht' hat'
      obtain ⟨bu, eu⟩ : ∃ bu, u = .pointer (some ⟨bu, 0, none⟩) := by obtain ⟨ba, _, h, _⟩ := encK_open hr; exact ⟨ba, h⟩
      subst eu
      go_wp2_with fail
      refine (IH'.out _ hr).mono ?_
      rintro en w' ⟨rfl, ew⟩
      subst ew
      go_wp2_with fail
      go_round
      case rel => exact ⟨k + 1, by omega, by go_num, by rw [HS.out]; go_num⟩
      case measure => simp [intOf]; omega
    · go_wp2_with fail
      go_ret
      have : k = t.args.length := by omega
      subst this
      exact ⟨ret_i64 (by rw [E1.out, List.take_length]; simp), rfl⟩

theorem atoms_any (F : Nat → Prop) (w : World) (n : Nat) : ∀ t, atomsT t ≤ n → Lim n → AtomsSaid F w t := by
  induction n with
  | zero => intro t h _; have := atomsT_pos t; omega
  | succ n ih => exact fun t h hn => atoms_step F w t (hn.mono h) (fun t' h' => ih t' (by omega) (hn.mono (by omega)))

/-- impl's reader of whole types. -/
def rdKind (l : Bs) : Option Ty := match rdK 15 l with
  | some (t, []) => if atomsT t ≤ 15 then some t else none
  | _ => none

def RKPost (w : World) (o : Option Ty) (en : Ending) (w' : World) : Prop :=
  ∃ v, en = .returned v ∧ Below w.heap.size w w' ∧ (o = none → v = .pointer none) ∧ (∀ t, o = some t → Rep (w.heap.size ≤ ·) w' (encK t) v)

set_option maxHeartbeats 400000 in
theorem readKind_any (l : Bs) (w : World) (hl : Lim l.length) :
    Calls Tryd.prog 56 #[str l] w (RKPost w (rdKind l)) := by
  have hl' := hl.le
  go_enter Tryd.func56, Tryd.ntmps56
  go_wp2_with fail
  have hs0 : Scan w.heap.size [] 138 l (w.alloc (.cells #[str l] 138)) := heap_new _ _
  refine (kind_any _ _ _ 15 (by omega) l _ hs0 hl).mono ?_
  rintro en w1 ⟨v, r1, rfl, hb1, hs1, hn1, hy1⟩
  have hb : Below w.heap.size w w1 := ((Below.refl w.heap.size w).alloc (Nat.le_refl _) _).trans (hb1.toBelow (by simp) (fun i hi e => by omega))
  rcases ha : rdK 15 l with _ | ⟨t, r1'⟩
  · obtain rfl := hn1 ha
    have Ha := Lib.hid ha; clear ha hn1 hy1
    go_wp2_with fail
    go_ret
    exact ⟨_, rfl, hb, fun _ => rfl, fun t h => by simp [rdKind, Ha.out] at h⟩
  obtain ⟨rfl, hra⟩ := hy1 _ _ ha
  obtain ⟨ba, rfl⟩ : ∃ ba, v = .pointer (some ⟨ba, 0, none⟩) := by obtain ⟨ba, _, h, _⟩ := encK_open hra; exact ⟨ba, h⟩
  have hat := rdK_atoms _ ha
  have Ha := Lib.hid ha; clear ha hn1 hy1
  have hc1 := hs1.cell
  have hz : w.heap.size < w1.heap.size := scan_lt hs1
  cases r1 with
  | cons x xs =>
    have hne : (!(x :: xs).isEmpty) = true := rfl
    go_wp2_with fail
    go_ret
    exact ⟨_, rfl, hb, fun _ => rfl, fun t h => by simp [rdKind, Ha.out] at h⟩
  | nil =>
    go_wp2_with fail
    refine (atoms_any _ w1 (atomsT t) t (Nat.le_refl _) (hl.mono (by omega)) _ hra).mono ?_
    rintro en w2 ⟨rfl, e2⟩
    subst e2
    by_cases h15 : atomsT t ≤ 15
    · go_wp2_with fail
      go_ret
      have HM : rdKind l = some t := by simp [rdKind, Ha.out, h15]
      exact ⟨_, rfl, hb, fun h => by simp [HM] at h, fun t' h => by rw [HM] at h; simp at h; subst h; exact (Rep.keep fun b o h ho => ⟨by have := h; simp at this; omega, ho⟩).1 _ _ hra⟩
    · go_wp2_with fail
      go_ret
      have HM : rdKind l = none := by simp [rdKind, Ha.out, h15]
      exact ⟨_, rfl, hb, fun _ => rfl, fun t' h => by rw [HM] at h; simp at h⟩
end Go.Proofs.YtmkgoacclgoidaaDoor

/- The walks of the reference's sizes of types, and of whole types. -/
import Derived.Test.YtmkgoacclgoidaaDoorS1
import Derived.Deep.RegionHeld3
import Derived.Deep.QuietTactic
import Derived.BigQuiet
namespace Go.Proofs.YtmkgoacclgoidaaDoor
open Go.RowKit

def SizeSSaid (t : Ty) : Prop := ∀ (F : Nat → Prop) (w : World) (v : Value), Rep F w (encS t) v →
  Calls Tryd.prog 81 #[.agg #[v]] w fun en w' => en = .returned (.int .i64 (atomsT t)) ∧ Below w.heap.size w w'

theorem length_le_atomsTs (ts : List Ty) : ts.length ≤ atomsTs ts := by
  induction ts with
  | nil => simp
  | cons t ts ih => simp [atomsTs]; omega

set_option maxHeartbeats 1000000 in
theorem l1Size_step (t : Ty) (hl : Lim (atomsT t)) (ih : ∀ t', atomsT t' < atomsT t → SizeSSaid t') : SizeSSaid t := by
  intro F w v hv
  obtain ⟨a, cap, e⟩ := encS_slice hv
  subst e
  have hv' := hv
  rw [encS_eq] at hv'
  obtain ⟨_, _, e, _, hlen, hat⟩ := Rep_sl1_open hv'
  simp only [Value.slice.injEq] at e
  obtain ⟨rfl, _, rfl⟩ := e
  have IH := Lib.hid ih; clear ih
  have hl' := hl.le
  have E1 := Lib.hid (atomsT_mk t)
  have hlb : t.args.length ≤ 16777216 := by have := length_le_atomsTs t.args; have := E1.out; omega
  have AT := Lib.hid hat; clear hat hlen hv'
  go_enter Tryd.func81, Tryd.ntmps81
  go_wp2_with fail
  go_loopw [3, 4] (fun n i wr => ∃ k : Nat, k ≤ t.args.length ∧ i = .int .i64 k ∧ n = .int .i64 ((1 + atomsTs (t.args.take k) : Nat) : Int) ∧ Below w.heap.size w wr ∧ wr.cell? ⟨w.heap.size, 0, none⟩ = some (.slice a t.args.length cap)) (fun _ i _ => t.args.length - (intOf i).toNat)
  case atStart => exact ⟨0, Nat.zero_le _, rfl, by simp [atomsTs], (Below.refl _ _).alloc (Nat.le_refl _) _, by simp⟩
  case round =>
    rename_i wr
    obtain ⟨k, hk, rfl, rfl, hb, hc⟩ := hrel
    by_cases hlt : k < t.args.length
    · obtain ⟨b', o, u, d, rfl, _, hb', hd, hu, hr⟩ := AT.out k hlt
      rw [encSs_at, Option.map_eq_some_iff] at hd
      obtain ⟨t', ht', rfl⟩ := hd
      obtain ⟨ua, uc, rfl⟩ := encS_slice hr
      have hu' : wr.cell? ⟨b', o + k, none⟩ = some (.slice ua t'.args.length uc) := by rw [hb.cell hb']; exact hu
      have hr' := Rep.below (F' := F) hb (fun _ h => h) hr
      have hs := atomsTs_take ht'
      have hle := atomsTs_take_le t.args (k + 1)
      have hat' := E1.out
      have IH' := Lib.hid (IH.out t' (by omega))
      have HS := Lib.hid hs
      have b1 : 1 + atomsTs (t.args.take k) + (1 + atomsT t') ≤ 16777216 := by omega
      have hz := World.block_lt_of_cell? wr _ hc
      clear hs ht' hat' hu hr
      go_wp2_with fail
      refine (IH'.out _ _ _ hr').mono ?_
      rintro en w2 ⟨rfl, hb2⟩
      have hb3 := hb.trans (hb2.mono hb.size)
      have hc2 : w2.cell? ⟨w.heap.size, 0, none⟩ = some (.slice (some ⟨b', o, none⟩) t.args.length cap) := by rw [hb2.cell hz]; exact hc
      go_wp2_with fail
      go_roundw
      case rel => exact ⟨k + 1, by omega, by go_num, by rw [HS.out] <;> go_num, hb3, hc2⟩
      case measure => simp [intOf]; omega
    · obtain rfl : k = t.args.length := by omega
      go_wp2_with fail
      go_ret
      exact ⟨ret_i64 (by rw [E1.out, List.take_length]), hb⟩

theorem l1Size_any (n : Nat) : ∀ t, atomsT t ≤ n → Lim n → SizeSSaid t := by
  induction n with
  | zero => intro t h _; have := atomsT_pos t; omega
  | succ n ih => exact fun t h hn => l1Size_step t (hn.mono h) (fun t' h' => ih t' (by omega) (hn.mono (by omega)))

/-- The reference's type of a text, and whether it is one. -/
def specType (l : Bs) : Ty × Bool :=
  if 100 < l.length then (.mk [], false) else
  match rdS 21 l with
  | none => (.mk [], false)
  | some (t, rest) => (t, rest.isEmpty && decide (atomsT t ≤ 15))

def TypePost (l : Bs) (w : World) (en : Ending) (w' : World) : Prop :=
  ∃ v, en = .returned (.tuple #[.agg #[v], .bool (specType l).2]) ∧ Below w.heap.size w w' ∧ Rep (w.heap.size ≤ ·) w' (encS (specType l).1) v

set_option maxRecDepth 100000 in
set_option maxHeartbeats 1000000 in
theorem l1Type_any (l : Bs) (hl : Lim l.length) (w : World) : Calls Tryd.prog 49 #[str l] w (TypePost l w) := by
  have hl' := hl.le
  by_cases h100 : 100 < l.length
  · have h100' : (100 : Int) < (l.length : Int) := by omega
    have HM : specType l = (.mk [], false) := by unfold specType; rw [if_pos h100]
    have HM := Lib.hid HM
    go_enter Tryd.func49, Tryd.ntmps49
    go_wp2_with fail
    refine bodyPost_ret (v := .tuple #[.agg #[.slice none 0 0], .bool false]) (by simp [results, Tryd.results49, go_sem]) rfl ?_
    refine ⟨_, by rw [HM.out], (Below.refl _ _).alloc (Nat.le_refl _) _, ?_⟩
    rw [HM.out]; exact encS_none _ _
  have h100' : ¬ (100 : Int) < (l.length : Int) := by omega
  have HM : specType l = (match rdS 21 l with
    | none => (.mk [], false)
    | some (t, rest) => (t, rest.isEmpty && decide (atomsT t ≤ 15))) := by unfold specType; rw [if_neg h100]
  have HM := Lib.hid HM
  go_enter Tryd.func49, Tryd.ntmps49
  go_wp2_with fail
  refine (l1Read_any l hl 21 0 rfl 0 _ (Nat.zero_le _) (by omega)).mono ?_
  rintro en w1 ⟨v1, k1, t1, rfl, hb1, hv1, hn1, hy1⟩
  rw [show (21 - 0 : Nat) = 21 from rfl, List.drop_zero] at hn1 hy1
  obtain ⟨a1, c1, e1⟩ := encS_slice hv1
  subst e1
  have z1 := hb1.size
  rw [size_alloc] at z1
  have hz1 : w.heap.size < w1.heap.size := by omega
  have hbA : Below w.heap.size w w1 := ((Below.refl w.heap.size w).alloc (Nat.le_refl _) _).trans (hb1.mono (by simp))
  have hcell : w1.cell? ⟨w.heap.size, 0, none⟩ = some (.slice none 0 0) := by rw [hb1.cell (by simp)]; simp
  have hfree : w1.frozen? ⟨w.heap.size, 0, none⟩ = false := by rw [hb1.frozen (by simp)]; simp
  cases hq : rdS 21 l with
  | none =>
    obtain ⟨rfl, rfl⟩ := hn1 hq
    have HQ := Lib.hid hq; clear hq hn1 hy1
    have g1 : ((-1 : Int) == (l.length : Int)) = false := by rw [beq_eq_false_iff_ne]; omega
    go_wp2_with fail
    go_region
    go_wp2_with fail
    refine bodyPost_ret (v := .tuple #[.agg #[.slice a1 0 c1], .bool false]) (by simp [results, Tryd.results49, go_sem, hz1, cell_put hcell, Ty.args]) rfl ?_
    refine ⟨_, by rw [HM.out, HQ.out], (by repeat (first | exact hbA | refine Below.alloc ?_ (by simp; omega) _ | refine Below.setCell ?_ (by simp) _ | refine Below.drew ?_)), ?_⟩
    rw [HM.out, HQ.out]
    rw [encS_eq]
    refine Rep_sl.2 ⟨rfl, a1, c1, rfl, Nat.zero_le _, ?_, .inl rfl⟩
    obtain ⟨_, _, _, e, _, h0, _⟩ := Rep_sl.1 (by rw [encS_eq] at hv1; exact hv1)
    simp only [Value.slice.injEq] at e
    obtain ⟨rfl, _, rfl⟩ := e; exact h0
  | some x =>
    obtain ⟨t, rest⟩ := x
    obtain ⟨rfl, rfl⟩ := hy1 _ _ hq
    have hat := rdS_atoms hq
    have HQ := Lib.hid hq; clear hq hn1 hy1
    obtain ⟨e, he⟩ : ∃ e, e = l.length - rest.length := ⟨_, rfl⟩
    rw [show (l.length : Int) - (rest.length : Int) = (e : Int) from by omega]
    have HE := Lib.hid he; clear he
    cases rest with
    | cons x xs =>
      have g1 : ((e : Int) == (l.length : Int)) = false := by rw [beq_eq_false_iff_ne]; have := HE.out; simp at this hat; omega
      go_wp2_with fail
      go_region
      go_wp2_with fail
      refine bodyPost_ret (v := .tuple #[.agg #[.slice a1 t1.args.length c1], .bool false]) (by simp [results, Tryd.results49, go_sem, hz1, cell_put hcell]) rfl ?_
      refine ⟨_, by rw [HM.out, HQ.out]; rfl, (by repeat (first | exact hbA | refine Below.alloc ?_ (by simp; omega) _ | refine Below.setCell ?_ (by simp) _ | refine Below.drew ?_)), ?_⟩
      rw [HM.out, HQ.out]
      refine (Rep.keep fun b o h ho => ⟨by have := sz_le h; omega, ?_⟩).1 _ _ hv1
      have hb : b ≠ w.heap.size := by have := sz_le h; omega
      exact heap_past (by rw [Below.heap_setCell _ _ _ _ (by simpa using hb)]; exact ho)
    | nil =>
      obtain rfl : e = l.length := by have := HE.out; simpa using this
      have g1 : ((l.length : Int) == (l.length : Int)) = true := by simp
      have hlA : Lim (atomsT t1) := hl.mono (by simp at hat; omega)
      have hrA : Rep (w.heap.size < ·) (w1.alloc (.cells #[.slice a1 t1.args.length c1] 54)) (encS t1) (.slice a1 t1.args.length c1) := (Rep.keep fun b o h ho => ⟨by have := sz_le h; omega, heap_past ho⟩).1 _ _ hv1
      have hcA : (w1.alloc (.cells #[.slice a1 t1.args.length c1] 54)).cell? ⟨w1.heap.size, 0, none⟩ = some (.slice a1 t1.args.length c1) := by simp
      go_wp2_with fail
      go_region_held3 (fun w' => w'.cell? ⟨w1.heap.size, 0, none⟩ = some (.slice a1 t1.args.length c1))
        (first
          | exact (hb2.cell (by simp)).trans hcA
          | (rw [World.cell?_of_block (w := w2) (Below.heap_setCell _ _ _ _ (by simp; omega))]; exact (hb2.cell (by simp)).trans hcA)
          | go_keep)
        (first
          | (go_at_call 81; refine (l1Size_any (atomsT t1) t1 (Nat.le_refl _) hlA (w.heap.size < ·) _ _ (by exact hrA.drew)).mono ?_; rintro en w2 ⟨rfl, hb2⟩; have z2 := hb2.size; have hz2 : w.heap.size < w2.heap.size := (by simp at z2; omega); have hcell2 : w2.cell? ⟨w.heap.size, 0, none⟩ = some (.slice none 0 0) := (hb2.cell (by simp; omega)).trans (cell_alloc hcell); have hfree2 : w2.frozen? ⟨w.heap.size, 0, none⟩ = false := (hb2.frozen (by simp; omega)).trans ((World.frozen?_of_block (w := w1) (Below.heap_alloc _ _ _ hz1)).trans hfree)))
      go_wp2_with fail
      refine bodyPost_ret (v := .tuple #[.agg #[.slice a1 t1.args.length c1], .bool (decide ((atomsT t1 : Int) ≤ 15))]) (by simp [results, Tryd.results49, go_sem, cell_put hcell2]) rfl ?_
      have hbB : Below w.heap.size w w2 := ((hbA.alloc hbA.size _).drew).trans (hb2.mono (by simp; omega))
      refine ⟨.slice a1 t1.args.length c1, ?_, hbB.setCell (Nat.le_refl _) _, ?_⟩
      · have e15 : decide ((atomsT t1 : Int) ≤ 15) = decide (atomsT t1 ≤ 15) := by rw [decide_eq_decide]; omega
        rw [HM.out, HQ.out, e15]; rfl
      · rw [HM.out, HQ.out]
        refine (Rep.keep fun b o h ho => ⟨by have := sz_le h; omega, ?_⟩).1 _ _ hv1
        have hb : b ≠ w.heap.size := by have := sz_le h; omega
        rw [Below.heap_setCell _ _ _ _ (by simpa using hb), hb2.block b (by have := lt_of_heap ho; simp; omega)]
        exact heap_past ho

/-- The reference reads just the types that impl reads. -/
theorem rdK_mono (d : Nat) : ∀ {l : Bs} {t : Ty} {r : Bs} (e : Nat), d ≤ e → rdK d l = some (t, r) → rdK e l = some (t, r) := by
  induction d with
  | zero =>
    intro l t r e he h
    rcases cut_cases [98] l with hc | ⟨r', hc⟩
    · rw [rdK_zero hc] at h; simp at h
    · rw [rdK_b hc] at h ⊢; exact h
  | succ d ih =>
    intro l t r e he h
    obtain ⟨e, rfl⟩ : ∃ e', e = e' + 1 := ⟨e - 1, by omega⟩
    rcases cut_cases [98] l with hc | ⟨r', hc⟩
    · rw [rdK_succ hc] at h ⊢
      simp only [Option.bind_eq_bind, Option.bind_eq_some_iff, Prod.exists] at h ⊢
      obtain ⟨r1, h1, a, r2, h2, r3, h3, b, r4, h4, r5, h5, h6⟩ := h
      exact ⟨r1, h1, a, r2, ih e (by omega) h2, r3, h3, b, r4, ih e (by omega) h4, r5, h5, h6⟩
    · rw [rdK_b hc] at h ⊢; exact h

theorem cut_len {p l r : Bs} (h : cut p l = some r) : l.length = p.length + r.length := by
  unfold cut at h; split at h
  · rename_i hp
    have := List.IsPrefix.length_le (List.isPrefixOf_iff_prefix.1 hp)
    simp at h; subst h; simp; omega
  · simp at h
theorem atomsT_arrow (a b : Ty) : atomsT (arrowT a b) = 1 + atomsT a + atomsT b := by cases b; simp [arrowT, atomsT, atomsTs, Ty.args]; omega

/-- What is read with few atoms is read with few signs within each other. -/
theorem rdK_shallow (e : Nat) : ∀ {l : Bs} {t : Ty} {r : Bs} (d : Nat), atomsT t ≤ 2 * d + 1 → rdK e l = some (t, r) → rdK d l = some (t, r) := by
  induction e with
  | zero =>
    intro l t r d hd h
    exact rdK_mono 0 d (Nat.zero_le _) h
  | succ e ih =>
    intro l t r d hd h
    rcases cut_cases [98] l with hc | ⟨r', hc⟩
    · rw [rdK_succ hc] at h
      simp only [Option.bind_eq_bind, Option.bind_eq_some_iff, Prod.exists] at h
      obtain ⟨r1, h1, a, r2, h2, r3, h3, b, r4, h4, r5, h5, h6⟩ := h
      simp at h6; obtain ⟨rfl, rfl⟩ := h6
      have hat := atomsT_arrow a b
      have pa := atomsT_pos a; have pb := atomsT_pos b
      obtain ⟨d, rfl⟩ : ∃ d', d = d' + 1 := ⟨d - 1, by omega⟩
      rw [rdK_succ hc]
      simp only [Option.bind_eq_bind, Option.bind_eq_some_iff, Prod.exists]
      exact ⟨r1, h1, a, r2, ih d (by omega) h2, r3, h3, b, r4, ih d (by omega) h4, r5, h5, rfl⟩
    · rw [rdK_b hc] at h ⊢; exact h

/-- A type's text is short where its atoms are few. -/
theorem rdK_len (e : Nat) : ∀ {l : Bs} {t : Ty} {r : Bs}, rdK e l = some (t, r) → l.length + 5 ≤ r.length + 6 * atomsT t := by
  induction e with
  | zero =>
    intro l t r h
    rcases cut_cases [98] l with hc | ⟨r', hc⟩
    · rw [rdK_zero hc] at h; simp at h
    · rw [rdK_b hc] at h; simp at h; obtain ⟨rfl, rfl⟩ := h
      have := cut_len hc; simp [atomsT, atomsTs] at *; omega
  | succ e ih =>
    intro l t r h
    rcases cut_cases [98] l with hc | ⟨r', hc⟩
    · rw [rdK_succ hc] at h
      simp only [Option.bind_eq_bind, Option.bind_eq_some_iff, Prod.exists] at h
      obtain ⟨r1, h1, a, r2, h2, r3, h3, b, r4, h4, r5, h5, h6⟩ := h
      simp at h6; obtain ⟨rfl, rfl⟩ := h6
      have hat := atomsT_arrow a b
      have k1 := cut_len h1; have k2 := ih h2; have k3 := cut_len h3; have k4 := ih h4; have k5 := cut_len h5
      simp at k1 k3 k5; omega
    · rw [rdK_b hc] at h; simp at h; obtain ⟨rfl, rfl⟩ := h
      have := cut_len hc; simp [atomsT, atomsTs] at *; omega

theorem specType_eq (l : Bs) : rdKind l = if (specType l).2 then some (specType l).1 else none := by
  unfold rdKind specType
  by_cases h100 : 100 < l.length
  · rw [if_pos h100]
    simp only [Bool.false_eq_true, if_false]
    split
    · rename_i t hq
      have := rdK_len 15 hq
      rw [if_neg (by simp at this; omega)]
    · rfl
  · rw [if_neg h100]
    have e21 : rdS 21 l = rdK 20 l := rfl
    rw [e21]
    cases hq : rdK 20 l with
    | none =>
      simp only [Bool.false_eq_true, if_false]
      split
      · rename_i t hq2
        have := rdK_mono 15 20 (by omega) hq2
        rw [hq] at this; simp at this
      · rfl
    | some x =>
      obtain ⟨t, rest⟩ := x
      simp only
      by_cases ht : atomsT t ≤ 15
      · have hq2 := rdK_shallow 20 15 (by omega) hq
        rw [hq2]
        cases rest with
        | nil => simp [ht]
        | cons x xs => simp
      · cases hq2 : rdK 15 l with
        | none => simp [ht]
        | some y =>
          obtain ⟨t2, r2⟩ := y
          have := rdK_mono 15 20 (by omega) hq2
          rw [hq] at this; simp at this; obtain ⟨rfl, rfl⟩ := this
          cases rest <;> simp [ht]

end Go.Proofs.YtmkgoacclgoidaaDoor

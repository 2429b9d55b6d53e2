/- The walks of what reads a whole strategy of a type. -/
import Derived.Test.YtmkgoacclgoidaaDoorW7
namespace Go.Proofs.YtmkgoacclgoidaaDoor
open Go.RowKit

theorem body_any (d : Nat) (hd : d ≤ 1000) : BodySaid d := by
  induction d with
  | zero => exact body_step 0 hd (fun d' h => by omega)
  | succ d ih => exact body_step (d + 1) hd (fun d' h => by obtain rfl : d = d' := by omega
                                                            exact ih (by omega))

/-- impl's reader of strategies of a type. -/
def rdStrat (t : Ty) (l : Bs) : Option Bd := match rdB 100 t.args 200 l with
  | some (b, [], _) => some b
  | _ => none

/-- What a reader of a whole text leaves. -/
def RPost {α : Type} (enc : α → DV) (w : World) (o : Option α) (en : Ending) (w' : World) : Prop :=
  ∃ v, en = .returned v ∧ Below w.heap.size w w' ∧ (o = none → v = .pointer none) ∧ (∀ b, o = some b → Rep (w.heap.size ≤ ·) w' (enc b) v)

theorem handOk_of {t : Ty} (h : atomsT t ≤ 15) : HandOk 100 t.args := by
  have h1 := atomsT_mk t
  have hlen : ∀ ts : List Ty, ts.length ≤ atomsTs ts := by
    intro ts; induction ts with
    | nil => simp
    | cons x xs ih => simp [atomsTs]; omega
  have hle : ∀ ts : List Ty, ∀ a ∈ ts, 1 + atomsT a ≤ atomsTs ts := by
    intro ts
    induction ts with
    | nil => simp
    | cons x xs ih =>
      intro a ha
      rcases List.mem_cons.1 ha with rfl | ha
      · simp [atomsTs]
      · have := ih a ha; simp [atomsTs]; omega
  refine ⟨fun a ha => ?_, ?_⟩
  · have := hle _ a ha; omega
  · have := hlen t.args; omega

set_option maxHeartbeats 1000000 in
theorem readStrategy_any (F : Nat → Prop) (t : Ty) (l : Bs) (kv : Value) (w : World) (hg : Glob w) (hk : Rep F w (encK t) kv) (ht : atomsT t ≤ 15) (hl : Lim l.length) :
    Calls Tryd.prog 47 #[kv, str l] w (RPost encB w (rdStrat t l)) := by
  obtain ⟨bk, sk, rfl, hFk, hc, hs⟩ := encK_open hk
  obtain ⟨a, c, e, _⟩ := Rep_sl1_open hs
  subst e
  have c1 : w.cell? ⟨bk, 0, none⟩ = some (.slice a t.args.length c) := by simp [World.cell?, hc]
  have lk := lt_of_heap hc
  have HC := Lib.hid hc; clear hc
  go_enter Tryd.func47, Tryd.ntmps47
  go_wp2_with fail
  have hs0 : Scan w.heap.size [.int .i64 (200 : Nat)] 150 l (w.alloc (.cells #[str l, .int .i64 200] 150)) := heap_new _ _
  have hk' : Rep (fun b => b < w.heap.size) (w.alloc (.cells #[str l, .int .i64 200] 150)) (.sl 64 1 t.args.length (encKs t.args)) (.slice a t.args.length c) :=
    (Rep.keep fun b o _ ho => ⟨lt_of_heap ho, heap_past ho⟩).1 _ _ hs
  refine (body_any 100 (by omega) w.heap.size 200 t.args l _ _ _ (hg.below ((Below.refl _ _).alloc (Nat.le_refl _) _)) (hg.new (Nat.le_refl _)) hs0 (by omega) hl (handOk_of ht) hk' (fun b hb => by have := hb; omega)).mono ?_
  rintro en w1 ⟨v, r', left', rfl, hb1, hs1, hn1, hy1⟩
  have hb : Below w.heap.size w w1 := ((Below.refl w.heap.size w).alloc (Nat.le_refl _) _).trans (hb1.toBelow (by simp) (fun i hi e => by omega))
  have hc1 := hs1.cell
  have hz : w.heap.size < w1.heap.size := scan_lt hs1
  cases hq : rdB 100 t.args 200 l with
  | none =>
    obtain rfl := hn1 hq
    have HQ := Lib.hid hq; clear hq hn1 hy1
    go_wp2_with fail
    go_ret
    exact ⟨_, rfl, hb, fun _ => rfl, fun b h => by simp [rdStrat, HQ.out] at h⟩
  | some x =>
    obtain ⟨b, rest, left⟩ := x
    obtain ⟨rfl, _, hv⟩ := hy1 _ _ _ hq
    have HQ := Lib.hid hq; clear hq hn1 hy1
    obtain ⟨av, ev⟩ := encB_ptr hv
    subst ev
    cases r' with
    | cons x xs =>
      have hne : (!(x :: xs).isEmpty) = true := rfl
      go_wp2_with fail
      go_ret
      exact ⟨_, rfl, hb, fun _ => rfl, fun b h => by simp [rdStrat, HQ.out] at h⟩
    | nil =>
      go_wp2_with fail
      go_ret
      have HM : rdStrat t l = some b := by simp [rdStrat, HQ.out]
      refine ⟨_, rfl, hb, fun h => by simp [HM] at h, fun b' h => ?_⟩
      rw [HM] at h; simp at h; subst h
      exact (Rep.keep fun b o h ho => ⟨by have := h; simp at this; omega, ho⟩).1 _ _ hv

/-- A type and a strategy of it, by their texts. -/
def rdTS (s l : Bs) : Option (Ty × Bd) := do
  let t ← rdKind s
  let b ← rdStrat t l
  some (t, b)

def TSPost (w : World) (s l : Bs) (en : Ending) (w' : World) : Prop :=
  ∃ kv bv, en = .returned (.tuple #[kv, bv]) ∧ Below w.heap.size w w' ∧ (rdTS s l = none → bv = .pointer none) ∧
    (∀ t b, rdTS s l = some (t, b) → Rep (w.heap.size ≤ ·) w' (encK t) kv ∧ Rep (w.heap.size ≤ ·) w' (encB b) bv)

theorem rdKind_le {s : Bs} {t : Ty} (h : rdKind s = some t) : atomsT t ≤ 15 := by
  unfold rdKind at h
  split at h
  · split at h
    · rename_i h15; simp at h; subst h; exact h15
    · simp at h
  · simp at h

set_option maxHeartbeats 1000000 in
theorem strategy_any (s l : Bs) (w : World) (hg : Glob w) (hs : Lim s.length) (hl : Lim l.length) :
    Calls Tryd.prog 35 #[str s, str l] w (TSPost w s l) := by
  go_enter Tryd.func35, Tryd.ntmps35
  go_wp2_with fail
  refine (readKind_any s w hs).mono ?_
  rintro en w1 ⟨kv, rfl, hb1, hn1, hy1⟩
  cases hq : rdKind s with
  | none =>
    obtain rfl := hn1 hq
    have HQ := Lib.hid hq; clear hq hn1 hy1
    go_wp2_with fail
    go_ret2
    exact ⟨_, _, rfl, hb1, fun _ => rfl, fun t b h => by simp [rdTS, HQ.out] at h⟩
  | some t =>
    have hv := hy1 _ hq
    have ht := rdKind_le hq
    have HQ := Lib.hid hq; clear hq hn1 hy1
    obtain ⟨ak, _, ek, _⟩ := encK_open hv
    subst ek
    go_wp2_with fail
    refine (readStrategy_any _ t l _ w1 (hg.below hb1) hv ht hl).mono ?_
    rintro en w2 ⟨bv, rfl, hb2, hn2, hy2⟩
    go_wp2_with fail
    go_ret2
    refine ⟨_, _, rfl, hb1.trans (hb2.mono hb1.size), fun h => hn2 ?_, fun t' b h => ?_⟩
    · cases hr : rdStrat t l with
      | none => rfl
      | some b => simp [rdTS, HQ.out, hr] at h
    · cases hr : rdStrat t l with
      | none => simp [rdTS, HQ.out, hr] at h
      | some b' =>
        simp [rdTS, HQ.out, hr] at h
        obtain ⟨rfl, rfl⟩ := h
        exact ⟨Rep.below hb2 (fun _ h => h) hv, (Rep.keep fun i o hi ho => ⟨by have := hb1.size; have := hi; omega, ho⟩).1 _ _ (hy2 _ hr)⟩

end Go.Proofs.YtmkgoacclgoidaaDoor

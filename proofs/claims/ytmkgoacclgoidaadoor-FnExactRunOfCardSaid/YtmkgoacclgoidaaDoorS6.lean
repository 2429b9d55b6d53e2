/- The walk of the reference's reader of bodies where it reads a list. -/
import Derived.Test.YtmkgoacclgoidaaDoorS5
namespace Go.Proofs.YtmkgoacclgoidaaDoor
open Go.RowKit

/-- A node's block. -/
def NewN (ob : Nat) (v : Int) (kslv yslv : Value) (w : World) : Prop := w.heap[ob]? = some (.cells #[str [], .int .i64 v, kslv, yslv] 57 (0, 0))
theorem NewN.cells {ob : Nat} {v : Int} {ks ys : Value} {w : World} (h : NewN ob v ks ys w) : w.cell? ⟨ob, 0, none⟩ = some (str []) ∧ w.cell? ⟨ob, 1, none⟩ = some (.int .i64 v) ∧ w.cell? ⟨ob, 2, none⟩ = some ks ∧ w.cell? ⟨ob, 3, none⟩ = some ys ∧ ob < w.heap.size ∧ (∀ o, w.frozen? ⟨ob, o, none⟩ = false) := by
  have hl := lt_of_heap h
  unfold NewN at h
  exact ⟨by simp [World.cell?, h], by simp [World.cell?, h], by simp [World.cell?, h], by simp [World.cell?, h], hl, fun o => by simp [World.frozen?, h]⟩
theorem NewN.put2 {ob : Nat} {v : Int} {ks ys u : Value} {w : World} (h : NewN ob v ks ys w) : NewN ob v u ys (w.setCell ⟨ob, 2, none⟩ u) := by
  unfold NewN; rw [setCell_at h]; rfl
theorem NewN.put3 {ob : Nat} {v : Int} {ks ys u : Value} {w : World} (h : NewN ob v ks ys w) : NewN ob v ks u (w.setCell ⟨ob, 3, none⟩ u) := by
  unfold NewN; rw [setCell_at h]; rfl
theorem NewN.but {ob : Nat} {v : Int} {ks ys : Value} {m : Nat → Prop} {w w' : World} (h : NewN ob v ks ys w) (hb : But m w w') (hm : ¬ m ob) : NewN ob v ks ys w' := by
  unfold NewN; rw [hb.block ob (lt_of_heap h) hm]; exact h
theorem NewN.below {ob : Nat} {v : Int} {ks ys : Value} {w w' : World} {B : Nat} (h : NewN ob v ks ys w) (hb : Below B w w') (hm : ob < B) : NewN ob v ks ys w' := by
  unfold NewN; rw [hb.block ob hm]; exact h

/-- A whole node, stored. -/
theorem NewN.store {ob : Nat} {v : Int} {ks ys : Value} {w : World} (h : NewN ob v ks ys w) (u0 u1 u2 u3 : Value) :
    ∃ W, W = ((((w.setCell ⟨ob, 0, none⟩ u0).setCell ⟨ob, 1, none⟩ u1).setCell ⟨ob, 2, none⟩ u2).setCell ⟨ob, 3, none⟩ u3) ∧
      W.cell? ⟨ob, 0, none⟩ = some u0 ∧ W.cell? ⟨ob, 1, none⟩ = some u1 ∧ W.cell? ⟨ob, 2, none⟩ = some u2 ∧ W.cell? ⟨ob, 3, none⟩ = some u3 ∧
      (∀ B w0, Below B w0 w → B ≤ ob → Below B w0 W) ∧ (∀ i x, i ≠ ob → w.heap[i]? = some x → W.heap[i]? = some x) := by
  have hc : ((((w.setCell ⟨ob, 0, none⟩ u0).setCell ⟨ob, 1, none⟩ u1).setCell ⟨ob, 2, none⟩ u2).setCell ⟨ob, 3, none⟩ u3).heap[ob]? = some (.cells #[u0, u1, u2, u3] 57 (0, 0)) := by
    unfold NewN at h
    rw [setCell_at (setCell_at (setCell_at (setCell_at h)))]; rfl
  refine ⟨_, rfl, by simp only [World.cell?, hc]; rfl, by simp only [World.cell?, hc]; rfl, by simp only [World.cell?, hc]; rfl, by simp only [World.cell?, hc]; rfl, fun B w0 hb hB => ?_, fun i x hi hx => ?_⟩
  · exact ((((hb.setCell (p := ⟨ob, 0, none⟩) hB _).setCell (p := ⟨ob, 1, none⟩) hB _).setCell (p := ⟨ob, 2, none⟩) hB _).setCell (p := ⟨ob, 3, none⟩) hB _)
  · rw [Below.heap_setCell _ _ _ _ (by simpa using hi), Below.heap_setCell _ _ _ _ (by simpa using hi), Below.heap_setCell _ _ _ _ (by simpa using hi), Below.heap_setCell _ _ _ _ (by simpa using hi)]; exact hx

/-- What holds at each round of the loop over the parts. -/
structure NodeAt (l : Bs) (w : World) (rd : RdS) (hs : List (List Ty)) (n i0 ob Z v : Nat) (k en : Nat) (wr : World) (ps : List Bd) (kv yv : List Value) (ks : Value) (nk : Nat) (ys : Value) (ny : Nat) : Prop where
  hnk : nk = min k n
  hny : ny = k - n
  ksl : ∃ a c, ks = .slice a nk c
  ysl : ∃ a c, ys = .slice a ny c
  spec : specParts rd (hs.take k) (l.drop i0) = some (ps, l.drop en)
  len : ps.length = k
  en : en ≤ l.length
  below : Below w.heap.size w wr
  res : NewN w.heap.size 0 (.slice none 0 0) (.slice none 0 0) wr
  out : NewN ob v ks ys wr
  ownK : Own wr 57 4 ks nk kv
  ownY : Own wr 57 4 ys ny yv
  blkK : ∀ g, ks.ownBlock = some g → Z ≤ g ∧ ys.ownBlock ≠ some g
  blkY : ∀ g, ys.ownBlock = some g → Z ≤ g
  repK : Reps (fun b => Z ≤ b ∧ ks.ownBlock ≠ some b ∧ ys.ownBlock ≠ some b) wr (encNs (ps.take n)) kv
  repY : Reps (fun b => Z ≤ b ∧ ks.ownBlock ≠ some b ∧ ys.ownBlock ≠ some b) wr (encNs (ps.drop n)) yv
  z : Z ≤ wr.heap.size

theorem NodeAt.kid {l : Bs} {w : World} {rd : RdS} {hs : List (List Ty)} {n i0 ob Z v k en : Nat} {wr : World} {ps : List Bd} {kv yv : List Value} {ks ys : Value} {nk ny : Nat}
    (h : NodeAt l w rd hs n i0 ob Z v k en wr ps kv yv ks nk ys ny) (hk : k < n) (hob : ob < Z) (hwo : w.heap.size < ob) {W w7 : World} {b : Bd} {cs : List Value} {a' : Option Addr} {c' en2 : Nat}
    (hb6 : Below wr.heap.size wr W) (hcs : Reps (wr.heap.size ≤ ·) W (encN b) cs) (hown : Own w7 57 4 (.slice a' (nk + 1) c') (nk + 1) (kv ++ cs)) (hb7 : But (fun i => ks.ownBlock = some i) W w7)
    (hg7 : ∀ g, (Value.slice a' (nk + 1) c').ownBlock = some g → ks.ownBlock = some g ∨ g = W.heap.size)
    (hspec : specParts rd (hs.take (k + 1)) (l.drop i0) = some (ps ++ [b], l.drop en2)) (hen2 : en2 ≤ l.length) :
    NodeAt l w rd hs n i0 ob Z v (k + 1) en2 (w7.setCell ⟨ob, 2, none⟩ (.slice a' (nk + 1) c')) (ps ++ [b]) (kv ++ cs) yv (.slice a' (nk + 1) c') (nk + 1) ys ny := by
  have z6 := hb6.size
  have z7 := hb7.size
  have zr := h.z
  have hlen := h.len
  have keep : ∀ i x, wr.heap[i]? = some x → ks.ownBlock ≠ some i → i ≠ ob → (w7.setCell ⟨ob, 2, none⟩ (.slice a' (nk + 1) c')).heap[i]? = some x := by
    intro i x hx h1 h2
    have := lt_of_heap hx
    rw [Below.heap_setCell _ _ _ _ (by simpa using h2), hb7.block i (by omega) h1, hb6.block i this]; exact hx
  have keep6 : ∀ i x, W.heap[i]? = some x → ks.ownBlock ≠ some i → i ≠ ob → (w7.setCell ⟨ob, 2, none⟩ (.slice a' (nk + 1) c')).heap[i]? = some x := by
    intro i x hx h1 h2
    have := lt_of_heap hx
    rw [Below.heap_setCell _ _ _ _ (by simpa using h2), hb7.block i (by omega) h1]; exact hx
  have ltK : ∀ g, ks.ownBlock = some g → g < wr.heap.size := fun g hg => h.ownK.lt hg
  have ltY : ∀ g, ys.ownBlock = some g → g < wr.heap.size := fun g hg => h.ownY.lt hg
  have nK : ∀ i, i < Z → ks.ownBlock ≠ some i := fun i hi e => by have := (h.blkK i e).1; omega
  have newg : ∀ g, (Value.slice a' (nk + 1) c').ownBlock = some g → Z ≤ g := fun g hg => by
    rcases hg7 g hg with e | e
    · exact (h.blkK g e).1
    · omega
  refine ⟨by rw [h.hnk]; omega, by rw [h.hny]; omega, ⟨_, _, rfl⟩, h.ysl, hspec, by simp [hlen], hen2, ?_, ?_, ?_, ?_, ?_, ?_, h.blkY, ?_, ?_, by simp [World.setCell]; omega⟩
  · refine Below.setCell ?_ (show w.heap.size ≤ ob by omega) _
    exact (h.below.trans (hb6.mono h.below.size)).trans (hb7.toBelow (by have := h.below.size; omega) fun i hi e => nK i (by omega) e)
  · exact keep _ _ h.res (nK _ (by omega)) (by omega)
  · have h1 : NewN ob v ks ys w7 := by
      unfold NewN; rw [hb7.block ob (by omega) (nK _ hob), hb6.block ob (by omega)]; exact h.out
    exact h1.put2
  · exact hown.keep fun g o hg ho => by rw [Below.heap_setCell _ _ _ _ (by have := newg g hg; simp; omega)]; exact ho
  · exact h.ownY.keep fun g o hg ho => keep g o ho (fun e => (h.blkK g e).2 hg) (by have := h.blkY g hg; omega)
  · intro g hg
    refine ⟨newg g hg, fun e => ?_⟩
    rcases hg7 g hg with e' | e'
    · exact (h.blkK g e').2 e
    · have := ltY g e; omega
  · rw [List.take_of_length_le (by simp; omega), encNs_append]
    have h1 := h.repK
    rw [List.take_of_length_le (by omega)] at h1
    refine Reps.append ((Rep.keep fun i x hi hx => ⟨⟨hi.1, fun e => (hg7 i e).elim (fun e' => hi.2.1 e') (fun e' => by have := lt_of_heap hx; omega), hi.2.2⟩, keep i x hx hi.2.1 (by have := hi.1; omega)⟩).2 _ _ h1) ?_
    · have e1 : encNs [b] = encN b := by simp [encNs]
      rw [e1]
      refine (Rep.keep fun i x hi hx => ?_).2 _ _ hcs
      have h2 := lt_of_heap hx
      have h3 : wr.heap.size ≤ i := hi
      refine ⟨⟨by omega, fun e => ?_, fun e => by have := ltY i e; omega⟩, keep6 i x hx (fun e => by have := ltK i e; omega) (by omega)⟩
      rcases hg7 i e with e' | e'
      · have := ltK i e'; omega
      · omega
  · have h1 := h.repY
    rw [List.drop_eq_nil_of_le (by omega)] at h1
    rw [List.drop_eq_nil_of_le (by simp; omega)]
    have : yv = [] := by simpa [encNs, Reps_nil] using h1
    subst this; exact Reps_nil.2 rfl

theorem NodeAt.yes {l : Bs} {w : World} {rd : RdS} {hs : List (List Ty)} {n i0 ob Z v k en : Nat} {wr : World} {ps : List Bd} {kv yv : List Value} {ks ys : Value} {nk ny : Nat}
    (h : NodeAt l w rd hs n i0 ob Z v k en wr ps kv yv ks nk ys ny) (hk : n ≤ k) (hob : ob < Z) (hwo : w.heap.size < ob) {W w7 : World} {b : Bd} {cs : List Value} {a' : Option Addr} {c' en2 : Nat}
    (hb6 : Below wr.heap.size wr W) (hcs : Reps (wr.heap.size ≤ ·) W (encN b) cs) (hown : Own w7 57 4 (.slice a' (ny + 1) c') (ny + 1) (yv ++ cs)) (hb7 : But (fun i => ys.ownBlock = some i) W w7)
    (hg7 : ∀ g, (Value.slice a' (ny + 1) c').ownBlock = some g → ys.ownBlock = some g ∨ g = W.heap.size)
    (hspec : specParts rd (hs.take (k + 1)) (l.drop i0) = some (ps ++ [b], l.drop en2)) (hen2 : en2 ≤ l.length) :
    NodeAt l w rd hs n i0 ob Z v (k + 1) en2 (w7.setCell ⟨ob, 3, none⟩ (.slice a' (ny + 1) c')) (ps ++ [b]) kv (yv ++ cs) ks nk (.slice a' (ny + 1) c') (ny + 1) := by
  have z6 := hb6.size
  have z7 := hb7.size
  have zr := h.z
  have hlen := h.len
  have keep : ∀ i x, wr.heap[i]? = some x → ys.ownBlock ≠ some i → i ≠ ob → (w7.setCell ⟨ob, 3, none⟩ (.slice a' (ny + 1) c')).heap[i]? = some x := by
    intro i x hx h1 h2
    have := lt_of_heap hx
    rw [Below.heap_setCell _ _ _ _ (by simpa using h2), hb7.block i (by omega) h1, hb6.block i this]; exact hx
  have keep6 : ∀ i x, W.heap[i]? = some x → ys.ownBlock ≠ some i → i ≠ ob → (w7.setCell ⟨ob, 3, none⟩ (.slice a' (ny + 1) c')).heap[i]? = some x := by
    intro i x hx h1 h2
    have := lt_of_heap hx
    rw [Below.heap_setCell _ _ _ _ (by simpa using h2), hb7.block i (by omega) h1]; exact hx
  have ltK : ∀ g, ks.ownBlock = some g → g < wr.heap.size := fun g hg => h.ownK.lt hg
  have ltY : ∀ g, ys.ownBlock = some g → g < wr.heap.size := fun g hg => h.ownY.lt hg
  have nY : ∀ i, i < Z → ys.ownBlock ≠ some i := fun i hi e => by have := h.blkY i e; omega
  have newg : ∀ g, (Value.slice a' (ny + 1) c').ownBlock = some g → Z ≤ g := fun g hg => by
    rcases hg7 g hg with e | e
    · exact h.blkY g e
    · omega
  refine ⟨by rw [h.hnk]; omega, by rw [h.hny]; omega, h.ksl, ⟨_, _, rfl⟩, hspec, by simp [hlen], hen2, ?_, ?_, ?_, ?_, ?_, ?_, newg, ?_, ?_, by simp [World.setCell]; omega⟩
  · refine Below.setCell ?_ (show w.heap.size ≤ ob by omega) _
    exact (h.below.trans (hb6.mono h.below.size)).trans (hb7.toBelow (by have := h.below.size; omega) fun i hi e => nY i (by omega) e)
  · exact keep _ _ h.res (nY _ (by omega)) (by omega)
  · have h1 : NewN ob v ks ys w7 := by
      unfold NewN; rw [hb7.block ob (by omega) (nY _ hob), hb6.block ob (by omega)]; exact h.out
    exact h1.put3
  · exact h.ownK.keep fun g o hg ho => keep g o ho (h.blkK g hg).2 (by have := (h.blkK g hg).1; omega)
  · exact hown.keep fun g o hg ho => by rw [Below.heap_setCell _ _ _ _ (by have := newg g hg; simp; omega)]; exact ho
  · intro g hg
    refine ⟨(h.blkK g hg).1, fun e => ?_⟩
    rcases hg7 g e with e' | e'
    · exact (h.blkK g hg).2 e'
    · have := ltK g hg; omega
  · rw [List.take_append_of_le_length (by omega)]
    refine (Rep.keep fun i x hi hx => ⟨⟨hi.1, hi.2.1, fun e => ?_⟩, keep i x hx hi.2.2 (by have := hi.1; omega)⟩).2 _ _ h.repK
    rcases hg7 i e with e' | e'
    · exact hi.2.2 e'
    · have := lt_of_heap hx; omega
  · rw [List.drop_append_of_le_length (by omega), encNs_append]
    refine Reps.append ((Rep.keep fun i x hi hx => ⟨⟨hi.1, hi.2.1, fun e => (hg7 i e).elim (fun e' => hi.2.2 e') (fun e' => by have := lt_of_heap hx; omega)⟩, keep i x hx hi.2.2 (by have := hi.1; omega)⟩).2 _ _ h.repY) ?_
    · have e1 : encNs [b] = encN b := by simp [encNs]
      rw [e1]
      refine (Rep.keep fun i x hi hx => ?_).2 _ _ hcs
      have h2 := lt_of_heap hx
      have h3 : wr.heap.size ≤ i := hi
      refine ⟨⟨by omega, fun e => by have := ltK i e; omega, fun e => ?_⟩, keep6 i x hx (fun e => by have := ltY i e; omega) (by omega)⟩
      rcases hg7 i e with e' | e'
      · have := ltY i e'; omega
      · omega

theorem SrcSl.lit4 {w : World} {e : TypeId} (cs : Array Value) (hn : cs.size = 4) (hc : ∀ u ∈ cs.toList, u.oneCell' = true) (g : Nat) (hg : g = w.heap.size) : SrcSl 4 (.slice (some ⟨g, 0, none⟩) 1 1) 1 cs.toList (w.alloc (.cells cs e)) := by
  subst hg
  refine ⟨by simp [hn], hc, .inl ⟨_, _, rfl, fun j u hu => ?_⟩⟩
  unfold Addr.add
  split
  · subst j; simp; simpa using hu
  · simp; simpa using hu

def NodeRel (l : Bs) (w : World) (rd : RdS) (hs : List (List Ty)) (n i0 ob Z v : Nat) (k en : Nat) (wr : World) : Prop :=
  ∃ ps kv yv ks nk ys ny, NodeAt l w rd hs n i0 ob Z v k en wr ps kv yv ks nk ys ny

set_option maxRecDepth 100000 in
set_option maxHeartbeats 4000000 in
theorem l3Read_ask (l : Bs) (hl : Lim l.length) (e d : Nat) (hed : e + 1 + d = 101) (ih : NodeSaid l e (d + 1)) (F : Nat → Prop) (hand : List Ty) (hv : Value) (i : Nat) (w : World) (hi : i < l.length) (hh : HandOk (e + 1) hand)
    (hr : Rep F w (.sl 54 1 hand.length (encSs hand)) hv) (h40 : l[i] = 40) :
    Calls Tryd.prog 50 #[str l, .int .i64 i, hv, .int .i64 d] w (NPost l.length w (rdN (e + 1) hand (l.drop i))) := by
  have hl' := hl.le
  have IH := Lib.hid ih; clear ih
  have hlen : hand.length ≤ 10000 := by have := hh.2; omega
  have hd0 : ¬ (100 : Int) < (d : Int) := by omega
  have HM := Lib.hid (rdN_40 e hand hi h40)
  have f1 := byte_no hi (c := 116) (n := 116) (by decide) (by rw [h40]; decide)
  have f2 := byte_no hi (c := 102) (n := 102) (by decide) (by rw [h40]; decide)
  have f3 := byte_no hi (c := 117) (n := 117) (by decide) (by rw [h40]; decide)
  have f4 := byte_yes2 hi (n := 40) (by decide) h40
  clear h40
  obtain ⟨a0, k0, ehv, _, _, hat⟩ := Rep_sl1_open hr
  subst ehv
  have HAT := Lib.hid hat; clear hat
  go_enter Tryd.func50, Tryd.ntmps50
  go_wp2_with fail
  rw [show (i : Int) + 1 = ((i + 1 : Nat) : Int) from by omega]
  refine (l3Number_any l hl (i + 1) hi _).mono ?_
  rintro en w1 ⟨v, k1, rfl, ew, hn1, hy1⟩
  obtain rfl := ew
  cases hq : specNum (l.drop (i + 1)) with
  | none =>
    obtain rfl := hn1 hq
    have hm : rdN (e + 1) hand (l.drop i) = none := by rw [HM.out, hq]
    have HM := Lib.hid hm; clear hm hq hn1 hy1
    go_wp2_with fail
    refine bodyPost_ret (v := .tuple #[.agg #[str [], .int .i64 0, .slice none 0 0, .slice none 0 0], .int .i64 (-1)]) (by simp [results, Tryd.results50, go_sem]) rfl ?_
    exact NPost.no HM.out (by repeat (first | exact Below.refl _ _ | refine Below.alloc ?_ (Nat.le_refl _) _ | refine Below.setCell ?_ (by simp) _))
  | some x =>
  obtain ⟨v', c⟩ := x
  obtain ⟨rfl, rfl⟩ := hy1 _ _ hq
  have hcl : i + 1 + c ≤ l.length ∧ v ≤ 9999 := by
    unfold specNum at hq
    split at hq
    · simp at hq
    · simp at hq
      obtain ⟨e1, e2⟩ := hq
      have h1 := digsOf_le (l.drop (i + 1))
      have h2 := valOf_lt (digsOf (l.drop (i + 1))) (digsOf_all _)
      have h3 : 10 ^ (digsOf (l.drop (i + 1))).length ≤ 10 ^ 4 := Nat.pow_le_pow_right (by omega) h1.1
      simp at h1; omega
  obtain ⟨hcl, hv9⟩ := hcl
  have HQ := Lib.hid hq; clear hq hn1 hy1
  by_cases hvl : v < hand.length
  rotate_left
  · have hm : rdN (e + 1) hand (l.drop i) = none := by
      rw [HM.out, HQ.out]; simp only
      rw [List.getElem?_eq_none (by omega)]
    have HM := Lib.hid hm; clear hm
    go_wp2_with fail
    refine bodyPost_ret (v := .tuple #[.agg #[str [], .int .i64 0, .slice none 0 0, .slice none 0 0], .int .i64 (-1)]) (by simp [results, Tryd.results50, go_sem]) rfl ?_
    exact NPost.no HM.out (by repeat (first | exact Below.refl _ _ | refine Below.alloc ?_ (Nat.le_refl _) _ | refine Below.setCell ?_ (by simp) _))
  obtain ⟨bl, ol, u, dv, ea, hFl, hbl, hdv, hcl2, hru⟩ := HAT.out v hvl
  rw [encSs_at, Option.map_eq_some_iff] at hdv
  obtain ⟨t, ht, rfl⟩ := hdv
  obtain ⟨sa, ks, rfl⟩ := encS_slice hru
  have hru' := hru
  rw [encS_eq] at hru'
  obtain ⟨_, _, est, _, _, hats⟩ := Rep_sl1_open hru'
  simp only [Value.slice.injEq] at est
  obtain ⟨rfl, _, rfl⟩ := est
  subst ea
  have HT := Lib.hid ht; have HATS := Lib.hid hats
  have hm : rdN (e + 1) hand (l.drop i) = (do
          let (ps, l1) ← specParts (rdN e) (allHands hand t) ((l.drop (i + 1)).drop c)
          let l2 ← cut [41] l1
          let b ← askOf v t.args.length ps
          some (b, l2)) := by rw [HM.out, HQ.out]; simp only [ht]
  rw [List.drop_drop] at hm
  have HM := Lib.hid hm
  have hta : t.args.length ≤ 15 := by
    have h1 := hh.1 t (List.mem_of_getElem? ht)
    have h2 := atomsT_mk t
    have := length_le_atomsTs t.args; omega
  clear hm ht hats hru'
  have gv : decide (hand.length ≤ v) = false := by rw [decide_eq_false_iff_not]; omega
  have gi : decide ((i : Int) + 1 + (c : Int) < 0) = false := by rw [decide_eq_false_iff_not]; omega
  go_wp2_with fail
  have hrel0 : NodeRel l w (rdN e) (allHands hand t) t.args.length (i + 1 + c) (w.heap.size + 1) (w.heap.size + 2) v 0 (i + 1 + c)
      ((w.alloc (.cells #[str [], .int .i64 0, .slice none 0 0, .slice none 0 0] 57)).alloc (.cells #[str [], .int .i64 v, .slice none 0 0, .slice none 0 0] 57)) := by
    refine ⟨[], [], [], .slice none 0 0, 0, .slice none 0 0, 0, by simp, by simp, ⟨_, _, rfl⟩, ⟨_, _, rfl⟩, by simp [specParts], rfl, hcl, ((Below.refl _ _).alloc (Nat.le_refl _) _).alloc (by simp) _, ?_, ?_, World.ownsRow_nil _ _ _ _, World.ownsRow_nil _ _ _ _, fun g h => by simp [Value.ownBlock] at h, fun g h => by simp [Value.ownBlock] at h, by rw [List.take_nil]; exact Reps_nil.2 rfl, by rw [List.drop_nil]; exact Reps_nil.2 rfl, by simp⟩
    · exact heap_past (heap_new _ _)
    · have := heap_new (w.alloc (.cells #[str [], .int .i64 0, .slice none 0 0, .slice none 0 0] 57)) (.cells #[str [], .int .i64 v, .slice none 0 0, .slice none 0 0] 57)
      rw [size_alloc] at this; exact this
  generalize hI0 : i + 1 + c = i0 at *
  rw [show (i : Int) + 1 + (c : Int) = (i0 : Int) from by omega]
  have HI0 := Lib.hid hI0; clear hI0
  go_loopw [11, 14] (fun a b wr => ∃ k en : Nat, k ≤ t.args.length + 2 ∧ a = .int .i64 en ∧ b = .int .i64 k ∧ NodeRel l w (rdN e) (allHands hand t) t.args.length i0 (w.heap.size + 1) (w.heap.size + 2) v k en wr)
    (fun _ b _ => t.args.length + 2 - (intOf b).toNat)
  case atStart => exact ⟨0, i0, Nat.zero_le _, rfl, rfl, hrel0⟩
  case round =>
    clear hrel0
    rename_i wr
    obtain ⟨k, en, hk, rfl, rfl, hrel⟩ := hrel
    obtain ⟨ps, kv, yv, ks, nk, ys, ny, hrel⟩ := hrel
    have hnr := hrel.res; have hno := hrel.out; have hb := hrel.below; have hen := hrel.en; have zr := hrel.z
    have HP := Lib.hid hrel.spec
    have nkl : nk ≤ 17 := by have := hrel.hnk; omega
    have nyl : ny ≤ 2 := by have := hrel.hny; omega
    obtain ⟨ka, kc, eks⟩ := hrel.ksl
    obtain ⟨ya, yc, eys⟩ := hrel.ysl
    subst eks; subst eys
    have HR := Lib.hid hrel; clear hrel
    obtain ⟨r0, r1, r2, r3, rl, rf⟩ := hnr.cells
    obtain ⟨q0, q1, q2, q3, ql, qf⟩ := hno.cells
    have rf0 := rf 0; have rf1 := rf 1; have rf2 := rf 2; have rf3 := rf 3; clear rf
    have qf2 := qf 2; have qf3 := qf 3; clear qf
    by_cases hlt : k < t.args.length + 2
    · have hlt' : (k : Int) < (t.args.length : Int) + 2 := by omega
      by_cases h32 : ∃ h : en < l.length, l[en] = 32
      rotate_left
      · have hm : rdN (e + 1) hand (l.drop i) = none := by
          have hs := specParts_next (rd := rdN e) (show (allHands hand t)[k]? = some _ from List.getElem?_eq_getElem (by rw [allHands_length]; exact hlt)) HP.out
          have hc : cut [32] (l.drop en) = none := by
            by_cases h : en < l.length
            · rw [cut_one h, if_neg (fun h' => h32 ⟨h, h'⟩)]
            · exact cut_end (by omega)
          rw [HM.out, specParts_take_none (k + 1) (by rw [hs]; simp [specPart, hc])]; rfl
        have HM := Lib.hid hm; clear hm
        have hcase : (l.length ≤ en) ∨ ∃ h : en < l.length, ((((⟨l.toArray⟩ : ByteArray)[en]'(lt_str h)).toNat : Int) != 32) = true := by
          by_cases h : en < l.length
          · exact .inr ⟨h, byte_no2 h (n := 32) (by decide) (fun h' => h32 ⟨h, h'⟩)⟩
          · exact .inl (by omega)
        clear h32
        rcases hcase with h | ⟨h, f5⟩
        · have g1 : (l.length : Int) ≤ (en : Int) := by omega
          go_wp2_with fail
          obtain ⟨W, hW, s0, s1, s2, s3, hbW, _⟩ := hnr.store (.string ⟨#[]⟩) (.int .i64 0) (.slice none 0 0) (.slice none 0 0)
          rw [← hW]
          refine bodyPost_ret (v := .tuple #[.agg #[str [], .int .i64 0, .slice none 0 0, .slice none 0 0], .int .i64 (-1)]) (by simp [results, Tryd.results50, go_sem, s0, s1, s2, s3]) rfl ?_
          exact NPost.no HM.out (hbW _ _ hb (Nat.le_refl _))
        · go_wp2_with fail
          obtain ⟨W, hW, s0, s1, s2, s3, hbW, _⟩ := hnr.store (.string ⟨#[]⟩) (.int .i64 0) (.slice none 0 0) (.slice none 0 0)
          rw [← hW]
          refine bodyPost_ret (v := .tuple #[.agg #[str [], .int .i64 0, .slice none 0 0, .slice none 0 0], .int .i64 (-1)]) (by simp [results, Tryd.results50, go_sem, s0, s1, s2, s3]) rfl ?_
          exact NPost.no HM.out (hbW _ _ hb (Nat.le_refl _))
      obtain ⟨hel, h32⟩ := h32
      have f5 := byte_yes2 hel (n := 32) (by decide) h32
      have g1 : decide ((en : Int) < 0) = false := by rw [decide_eq_false_iff_not]; omega
      have g2 : decide (l.length ≤ en) = false := by rw [decide_eq_false_iff_not]; omega
      have HC : Hid (cut [32] (l.drop en) = some (l.drop (en + 1))) := by show cut [32] (l.drop en) = _; rw [cut_one hel, if_pos h32]
      clear h32
      by_cases hkn : k < t.args.length
      · have hkn' : (k : Int) < (t.args.length : Int) := by omega
        obtain ⟨ba, oa, uk, dk, esa, hFa, hba, hdk, hck, hrk⟩ := HATS.out k hkn
        subst esa
        rw [encSs_at, Option.map_eq_some_iff] at hdk
        obtain ⟨tk, htk, rfl⟩ := hdk
        obtain ⟨ua, uc, rfl⟩ := encS_slice hrk
        have e1 : wr.cell? ⟨ba, oa + k, none⟩ = some (.slice ua tk.args.length uc) := by rw [hb.cell hba]; exact hck
        have hrk' := Rep.below (F' := F) hb (fun _ h => h) hrk
        have hr' := Rep.below (F' := F) hb (fun _ h => h) hr
        have hhk : HandOk e (hand ++ tk.args) := hh.next HT.out (List.mem_of_getElem? htk)
        have hlk : Lim (hand.length + tk.args.length) := by have := hhk.2; simp at this; show _ ≤ _; omega
        have HS := Lib.hid (specParts_next (rd := rdN e) (allHands_kid (hand := hand) htk) HP.out)
        clear htk hck hrk
        go_wp2_with fail
        refine (l3Hand_any F hand tk _ _ wr hr' hrk' hlk).mono ?_
        rintro en5 w5 ⟨a5, c5, rfl, hb5, hr5⟩
        have z5 := hb5.size
        have HR5 := Lib.hid hr5; clear hr5 hr' hrk' hlk
        have Q := Lib.hid (And.intro hnr (And.intro hno (And.intro hb hb5)))
        have rl5 : w.heap.size < w5.heap.size := by omega
        have ql5 : w.heap.size + 1 < w5.heap.size := by omega
        go_wp2_with fail
        rw [show (en : Int) + 1 = ((en + 1 : Nat) : Int) from by omega, show (d : Int) + 1 = ((d + 1 : Nat) : Int) from by omega, ← List.length_append]
        refine (IH.out (fun k => F k ∨ wr.heap.size ≤ k) (hand ++ tk.args) _ (en + 1) w5 hel hhk (by rw [List.length_append] at HR5 ⊢; exact HR5.out)).mono ?_
        rintro en6 w6 ⟨s6, v6, a2, n2, k2, a3, n3, k3, k6, rfl, hb6, hn6, hy6⟩
        rw [List.length_append]
        obtain ⟨hnr, hno, hb, hb5⟩ := Q.out
        have z6 := hb6.size
        have hb6' := hb5.trans (hb6.mono z5)
        have hnr6 := hnr.below hb6' rl
        have hno6 := hno.below hb6' ql
        have hbw6 := hb.trans (hb6'.mono hb.size)
        obtain ⟨r0, r1, r2, r3, rl6, rf⟩ := hnr6.cells
        obtain ⟨q0, q1, q2, q3, ql6, qf⟩ := hno6.cells
        have rf0 := rf 0; have rf1 := rf 1; have rf2 := rf 2; have rf3 := rf 3; clear rf
        have qf2 := qf 2; have qf3 := qf 3; clear qf
        have Q2 := Lib.hid (And.intro hb6' (And.intro hnr6 hno6)); clear hb5 hb hnr hno hb6' hnr6 hno6 hb6 Q
        cases hq : rdN e (hand ++ tk.args) (l.drop (en + 1)) with
        | none =>
          obtain rfl := hn6 hq
          have hm : rdN (e + 1) hand (l.drop i) = none := by
            rw [HM.out, specParts_take_none (k + 1) (by rw [HS.out]; simp [specPart, HC.out, hq])]; rfl
          have HM := Lib.hid hm; clear hm hq hn6 hy6
          go_wp2_with fail
          obtain ⟨W, hW, s0, s1, s2, s3, hbW, _⟩ := Q2.out.2.1.store (.string ⟨#[]⟩) (.int .i64 0) (.slice none 0 0) (.slice none 0 0)
          rw [← hW]
          refine bodyPost_ret (v := .tuple #[.agg #[str [], .int .i64 0, .slice none 0 0, .slice none 0 0], .int .i64 (-1)]) (by simp [results, Tryd.results50, go_sem, cell_alloc s0, cell_alloc s1, cell_alloc s2, cell_alloc s3]) rfl ?_
          exact NPost.no HM.out ((hbW _ _ hbw6 (Nat.le_refl _)).alloc (hbW _ _ hbw6 (Nat.le_refl _)).size _)
        | some x =>
          obtain ⟨b, rest⟩ := x
          obtain ⟨rfl, hc6⟩ := hy6 _ _ hq
          have hsf := suffix_drop (rdN_suffix e hq)
          have hrl : rest.length ≤ l.length := by have := (rdN_suffix e hq).length_le; simp at this; omega
          obtain ⟨en2, he2⟩ : ∃ en2, en2 = l.length - rest.length := ⟨_, rfl⟩
          rw [← he2] at hsf
          have hk2 : (l.length : Int) - (rest.length : Int) = (en2 : Int) := by omega
          rw [hk2]
          have HE2 := Lib.hid he2; clear he2 hk2
          have hs : specParts (rdN e) ((allHands hand t).take (k + 1)) (l.drop i0) = some (ps ++ [b], l.drop en2) := by
            rw [HS.out]; simp [specPart, HC.out, hq, hsf]
          have HS2 := Lib.hid hs; have HC6 := Lib.hid hc6; clear hs hc6 hq hn6 hy6 hsf
          go_wp2_with (at_builtin; refine wpList_append_gen rfl _ _ 55 rfl 57 (.agg #[str [], .int .i64 0, .slice none 0 0, .slice none 0 0]) 4 72 Tryd.underlying55 Tryd.infoN rfl (by decide) (.slice ka nk kc) nk kv rfl ?c1 _ 1 [str s6, .int .i64 v6, .slice a2 n2 k2, .slice a3 n3 k3] rfl ?c2 ?c3 ?c4 ?_)
          case c1 =>
            refine (HR.out.ownK.keep fun g o hg ho => ?_).alloc _ |>.alloc _
            rw [Q2.out.1.block g (lt_of_heap ho)]; exact ho
          case c2 => exact SrcSl.lit4 #[str s6, .int .i64 v6, .slice a2 n2 k2, .slice a3 n3 k3] rfl (by simp [str, Value.oneCell']) _ (by simp)
          case c3 => unfold maxLen; omega
          case c4 => omega
          intro a' c' w7 ho7 hb7 hg7
          have hW : Below wr.heap.size wr ((w6.alloc (.cells #[str s6, .int .i64 v6, .slice a2 n2 k2, .slice a3 n3 k3] 57)).alloc (.cells #[str s6, .int .i64 v6, .slice a2 n2 k2, .slice a3 n3 k3] 57)) := (Q2.out.1.alloc Q2.out.1.size _).alloc (by have := Q2.out.1.size; simp; omega) _
          have hC : Reps (wr.heap.size ≤ ·) ((w6.alloc (.cells #[str s6, .int .i64 v6, .slice a2 n2 k2, .slice a3 n3 k3] 57)).alloc (.cells #[str s6, .int .i64 v6, .slice a2 n2 k2, .slice a3 n3 k3] 57)) (encN b) [str s6, .int .i64 v6, .slice a2 n2 k2, .slice a3 n3 k3] :=
            (Rep.keep fun i o hi ho => ⟨Nat.le_trans z5 hi, heap_past (heap_past ho)⟩).2 _ _ HC6.out
          have hA := HR.out.kid hkn (by omega) (show w.heap.size < w.heap.size + 1 by omega) hW hC ho7 hb7 (fun g hg => by simpa only [size_alloc] using hg7 g hg) HS2.out (by have := HE2.out; omega)
          have z7 := hb7.size
          rw [size_alloc, size_alloc] at z7
          have hcell7 : w7.cell? ⟨w.heap.size + 1, 2, none⟩ = some (.slice ka nk kc) := by
            rw [hb7.cell (by simp only [size_alloc]; omega) (fun e => by have h : w.heap.size + 2 ≤ w.heap.size + 1 := (HR.out.blkK _ e).1; omega)]
            exact cell_alloc (cell_alloc q2)
          have hfree7 : w7.frozen? ⟨w.heap.size + 1, 2, none⟩ = false := by
            rw [World.frozen?_of_block (w := w6) (by rw [hb7.block _ (by simp only [size_alloc]; omega) (fun e => by have h : w.heap.size + 2 ≤ w.heap.size + 1 := (HR.out.blkK _ e).1; omega)]; rw [Below.heap_alloc _ _ _ (by simp only [size_alloc]; omega), Below.heap_alloc _ _ _ (by omega)])]
            exact qf2
          have HA := Lib.hid hA; clear hA hW hC ho7 hb7 hg7
          go_wp2_with fail
          go_roundw
          case rel => exact ⟨k + 1, en2, by omega, rfl, by go_num, _, _, _, _, _, _, _, HA.out⟩
          case measure => simp [intOf]; omega
      · have hkn' : t.args.length ≤ k := by omega
        have hkn2 : ¬ (k : Int) < (t.args.length : Int) := by omega
        have hr' := Rep.below (F' := F) hb (fun _ h => h) hr
        have HS := Lib.hid (specParts_next (rd := rdN e) (allHands_yes (hand := hand) (t := t) hkn' hlt) HP.out)
        go_wp2_with fail
        refine (IH.out F hand _ (en + 1) wr hel (by have := hh.same; rwa [List.append_nil] at this) hr').mono ?_
        rintro en6 w6 ⟨s6, v6, a2, n2, k2, a3, n3, k3, k6, rfl, hb6, hn6, hy6⟩
        have z6 := hb6.size
        have hb6' := hb6
        have hnr6 := hnr.below hb6' rl
        have hno6 := hno.below hb6' ql
        have hbw6 := hb.trans (hb6'.mono hb.size)
        obtain ⟨r0, r1, r2, r3, rl6, rf⟩ := hnr6.cells
        obtain ⟨q0, q1, q2, q3, ql6, qf⟩ := hno6.cells
        have rf0 := rf 0; have rf1 := rf 1; have rf2 := rf 2; have rf3 := rf 3; clear rf
        have qf2 := qf 2; have qf3 := qf 3; clear qf
        have Q2 := Lib.hid (And.intro hb6' (And.intro hnr6 hno6)); clear hb hnr hno hb6' hnr6 hno6 hb6
        cases hq : rdN e hand (l.drop (en + 1)) with
        | none =>
          obtain rfl := hn6 hq
          have hm : rdN (e + 1) hand (l.drop i) = none := by
            rw [HM.out, specParts_take_none (k + 1) (by rw [HS.out]; simp [specPart, HC.out, hq])]; rfl
          have HM := Lib.hid hm; clear hm hq hn6 hy6
          go_wp2_with fail
          obtain ⟨W, hW, s0, s1, s2, s3, hbW, _⟩ := Q2.out.2.1.store (.string ⟨#[]⟩) (.int .i64 0) (.slice none 0 0) (.slice none 0 0)
          rw [← hW]
          refine bodyPost_ret (v := .tuple #[.agg #[str [], .int .i64 0, .slice none 0 0, .slice none 0 0], .int .i64 (-1)]) (by simp [results, Tryd.results50, go_sem, cell_alloc s0, cell_alloc s1, cell_alloc s2, cell_alloc s3]) rfl ?_
          exact NPost.no HM.out ((hbW _ _ hbw6 (Nat.le_refl _)).alloc (hbW _ _ hbw6 (Nat.le_refl _)).size _)
        | some x =>
          obtain ⟨b, rest⟩ := x
          obtain ⟨rfl, hc6⟩ := hy6 _ _ hq
          have hsf := suffix_drop (rdN_suffix e hq)
          have hrl : rest.length ≤ l.length := by have := (rdN_suffix e hq).length_le; simp at this; omega
          obtain ⟨en2, he2⟩ : ∃ en2, en2 = l.length - rest.length := ⟨_, rfl⟩
          rw [← he2] at hsf
          have hk2 : (l.length : Int) - (rest.length : Int) = (en2 : Int) := by omega
          rw [hk2]
          have HE2 := Lib.hid he2; clear he2 hk2
          have hs : specParts (rdN e) ((allHands hand t).take (k + 1)) (l.drop i0) = some (ps ++ [b], l.drop en2) := by
            rw [HS.out]; simp [specPart, HC.out, hq, hsf]
          have HS2 := Lib.hid hs; have HC6 := Lib.hid hc6; clear hs hc6 hq hn6 hy6 hsf
          go_wp2_with (at_builtin; refine wpList_append_gen rfl _ _ 55 rfl 57 (.agg #[str [], .int .i64 0, .slice none 0 0, .slice none 0 0]) 4 72 Tryd.underlying55 Tryd.infoN rfl (by decide) (.slice ya ny yc) ny yv rfl ?c1 _ 1 [str s6, .int .i64 v6, .slice a2 n2 k2, .slice a3 n3 k3] rfl ?c2 ?c3 ?c4 ?_)
          case c1 =>
            refine (HR.out.ownY.keep fun g o hg ho => ?_).alloc _ |>.alloc _
            rw [Q2.out.1.block g (lt_of_heap ho)]; exact ho
          case c2 => exact SrcSl.lit4 #[str s6, .int .i64 v6, .slice a2 n2 k2, .slice a3 n3 k3] rfl (by simp [str, Value.oneCell']) _ (by simp)
          case c3 => unfold maxLen; omega
          case c4 => omega
          intro a' c' w7 ho7 hb7 hg7
          have hW : Below wr.heap.size wr ((w6.alloc (.cells #[str s6, .int .i64 v6, .slice a2 n2 k2, .slice a3 n3 k3] 57)).alloc (.cells #[str s6, .int .i64 v6, .slice a2 n2 k2, .slice a3 n3 k3] 57)) := (Q2.out.1.alloc Q2.out.1.size _).alloc (by have := Q2.out.1.size; simp; omega) _
          have hC : Reps (wr.heap.size ≤ ·) ((w6.alloc (.cells #[str s6, .int .i64 v6, .slice a2 n2 k2, .slice a3 n3 k3] 57)).alloc (.cells #[str s6, .int .i64 v6, .slice a2 n2 k2, .slice a3 n3 k3] 57)) (encN b) [str s6, .int .i64 v6, .slice a2 n2 k2, .slice a3 n3 k3] :=
            (Rep.keep fun i o hi ho => ⟨hi, heap_past (heap_past ho)⟩).2 _ _ HC6.out
          have hA := HR.out.yes hkn' (by omega) (show w.heap.size < w.heap.size + 1 by omega) hW hC ho7 hb7 (fun g hg => by simpa only [size_alloc] using hg7 g hg) HS2.out (by have := HE2.out; omega)
          have z7 := hb7.size
          rw [size_alloc, size_alloc] at z7
          have hcell7 : w7.cell? ⟨w.heap.size + 1, 3, none⟩ = some (.slice ya ny yc) := by
            rw [hb7.cell (by simp only [size_alloc]; omega) (fun e => by have h : w.heap.size + 2 ≤ w.heap.size + 1 := HR.out.blkY _ e; omega)]
            exact cell_alloc (cell_alloc q3)
          have hfree7 : w7.frozen? ⟨w.heap.size + 1, 3, none⟩ = false := by
            rw [World.frozen?_of_block (w := w6) (by rw [hb7.block _ (by simp only [size_alloc]; omega) (fun e => by have h : w.heap.size + 2 ≤ w.heap.size + 1 := HR.out.blkY _ e; omega)]; rw [Below.heap_alloc _ _ _ (by simp only [size_alloc]; omega), Below.heap_alloc _ _ _ (by omega)])]
            exact qf3
          have HA := Lib.hid hA; clear hA hW hC ho7 hb7 hg7
          go_wp2_with fail
          go_roundw
          case rel => exact ⟨k + 1, en2, by omega, rfl, by go_num, _, _, _, _, _, _, _, HA.out⟩
          case measure => simp [intOf]; omega
    · have hkn : k = t.args.length + 2 := by omega
      have hlt' : ¬ (k : Int) < (t.args.length : Int) + 2 := by omega
      have hp : specParts (rdN e) (allHands hand t) (l.drop i0) = some (ps, l.drop en) := by
        have := HP.out; rwa [hkn, List.take_of_length_le (by rw [allHands_length]; exact Nat.le_refl _)] at this
      have hm : rdN (e + 1) hand (l.drop i) = (do
          let l2 ← cut [41] (l.drop en)
          let b ← askOf v t.args.length ps
          some (b, l2)) := by rw [HM.out, hp]; rfl
      have HM := Lib.hid hm
      have HKN := Lib.hid hkn
      clear hm hp hkn
      by_cases h41 : ∃ h : en < l.length, l[en] = 41
      rotate_left
      · have hm : rdN (e + 1) hand (l.drop i) = none := by
          have hc : cut [41] (l.drop en) = none := by
            by_cases h : en < l.length
            · rw [cut_one h, if_neg (fun h' => h41 ⟨h, h'⟩)]
            · exact cut_end (by omega)
          rw [HM.out, hc]; rfl
        have HM := Lib.hid hm; clear hm
        have hcase : (l.length ≤ en) ∨ ∃ h : en < l.length, ((((⟨l.toArray⟩ : ByteArray)[en]'(lt_str h)).toNat : Int) != 41) = true := by
          by_cases h : en < l.length
          · exact .inr ⟨h, byte_no2 h (n := 41) (by decide) (fun h' => h41 ⟨h, h'⟩)⟩
          · exact .inl (by omega)
        clear h41
        rcases hcase with h | ⟨h, f5⟩
        · have g1 : (l.length : Int) ≤ (en : Int) := by omega
          go_wp2_with fail
          obtain ⟨W, hW, s0, s1, s2, s3, hbW, _⟩ := hnr.store (.string ⟨#[]⟩) (.int .i64 0) (.slice none 0 0) (.slice none 0 0)
          rw [← hW]
          refine bodyPost_ret (v := .tuple #[.agg #[str [], .int .i64 0, .slice none 0 0, .slice none 0 0], .int .i64 (-1)]) (by simp [results, Tryd.results50, go_sem, s0, s1, s2, s3]) rfl ?_
          exact NPost.no HM.out (hbW _ _ hb (Nat.le_refl _))
        · go_wp2_with fail
          obtain ⟨W, hW, s0, s1, s2, s3, hbW, _⟩ := hnr.store (.string ⟨#[]⟩) (.int .i64 0) (.slice none 0 0) (.slice none 0 0)
          rw [← hW]
          refine bodyPost_ret (v := .tuple #[.agg #[str [], .int .i64 0, .slice none 0 0, .slice none 0 0], .int .i64 (-1)]) (by simp [results, Tryd.results50, go_sem, s0, s1, s2, s3]) rfl ?_
          exact NPost.no HM.out (hbW _ _ hb (Nat.le_refl _))
      obtain ⟨hel, h41⟩ := h41
      have f5 := byte_yes2 hel (n := 41) (by decide) h41
      have g1 : decide ((en : Int) < 0) = false := by rw [decide_eq_false_iff_not]; omega
      have g2 : decide (l.length ≤ en) = false := by rw [decide_eq_false_iff_not]; omega
      have HC : Hid (cut [41] (l.drop en) = some (l.drop (en + 1))) := by show cut [41] (l.drop en) = _; rw [cut_one hel, if_pos h41]
      clear h41
      go_wp2_with fail
      obtain ⟨W, hW, s0, s1, s2, s3, hbW, hkW⟩ := hnr.store (str []) (.int .i64 v) (.slice ka nk kc) (.slice ya ny yc)
      have hHR := HR.out
      have hps := hHR.len
      have hnk := hHR.hnk
      have hny := hHR.hny
      have hkn := HKN.out
      obtain ⟨y1, y2, hyn⟩ : ∃ y1 y2, ps.drop t.args.length = [y1, y2] := by
        match hd : ps.drop t.args.length with
        | [a, b] => exact ⟨a, b, rfl⟩
        | [] => have := congrArg List.length hd; simp at this; omega
        | [a] => have := congrArg List.length hd; simp at this; omega
        | a :: b :: c :: d => have := congrArg List.length hd; simp at this; omega
      have hm : rdN (e + 1) hand (l.drop i) = some (.ask v (ps.take t.args.length) y1 y2, l.drop (en + 1)) := by
        rw [HM.out, HC.out]; simp [askOf, hyn]
      have hnk' : nk = (ps.take t.args.length).length := by simp; omega
      have hny' : ny = 2 := by omega
      rw [← hW]
      refine bodyPost_ret (v := .tuple #[.agg #[str [], .int .i64 v, .slice ka nk kc, .slice ya ny yc], .int .i64 ((en : Int) + 1)]) (by simp [results, Tryd.results50, go_sem, s0, s1, s2, s3]) rfl ?_
      refine NPost.yes (s := []) hm (by simp; omega) (hbW _ _ hb (Nat.le_refl _)) ?_
      rw [encN_ask]
      refine Reps_cons.2 ⟨_, _, rfl, Rep_val.2 rfl, Reps_cons.2 ⟨_, _, rfl, Rep_val.2 rfl, Reps_cons.2 ⟨_, _, rfl, ?_, Reps_cons.2 ⟨_, _, rfl, ?_, Reps_nil.2 rfl⟩⟩⟩⟩
      · rw [← hnk']
        refine (hHR.ownK.keep fun g o hg ho => hkW g o (by have := (hHR.blkK g hg).1; omega) ho).rep (fun g hg => by have := (hHR.blkK g hg).1; omega) ?_
        exact (Rep.keep fun x o hx ho => ⟨by have := hx.1; omega, hkW x o (by have := hx.1; omega) ho⟩).2 _ _ hHR.repK
      · have hr2 := hHR.repY
        rw [hyn] at hr2
        rw [← hny']
        refine (hHR.ownY.keep fun g o hg ho => hkW g o (by have := hHR.blkY g hg; omega) ho).rep (fun g hg => by have := hHR.blkY g hg; omega) ?_
        exact (Rep.keep fun x o hx ho => ⟨by have := hx.1; omega, hkW x o (by have := hx.1; omega) ho⟩).2 _ _ hr2

theorem l3Read_any (l : Bs) (hl : Lim l.length) (e : Nat) : ∀ d, e + d = 101 → NodeSaid l e d := by
  induction e with
  | zero => exact fun d hed F hand hv i w hi _ hr => l3Read_plain l hl 0 d hed F hand hv i w hi hr (fun _ => .inl rfl)
  | succ e ih =>
    intro d hed F hand hv i w hi hh hr
    by_cases h : ∃ h : i < l.length, l[i] = 40
    · obtain ⟨h, h40⟩ := h
      exact l3Read_ask l hl e d hed (ih (d + 1) (by omega)) F hand hv i w h hh hr h40
    · exact l3Read_plain l hl (e + 1) d hed F hand hv i w hi hr (fun h' => .inr fun h40 => h ⟨h', h40⟩)
end Go.Proofs.YtmkgoacclgoidaaDoor

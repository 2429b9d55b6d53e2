/- A node that is drawn: its block, its lists, round by round. -/
import Derived.Test.YteeakelcmlmeiaaDoorD4
namespace Go.Proofs.YteeakelcmlmeiaaDoor
open Go.RowKit

theorem NewN.storeB {ob : Nat} {v : Int} {ks ys : Value} {w : World} (h : NewN ob v ks ys w) (u0 u1 u2 u3 : Value) :
    ∃ W, W = ((((w.setCell ⟨ob, 0, none⟩ u0).setCell ⟨ob, 1, none⟩ u1).setCell ⟨ob, 2, none⟩ u2).setCell ⟨ob, 3, none⟩ u3) ∧
      W.cell? ⟨ob, 0, none⟩ = some u0 ∧ W.cell? ⟨ob, 1, none⟩ = some u1 ∧ W.cell? ⟨ob, 2, none⟩ = some u2 ∧ W.cell? ⟨ob, 3, none⟩ = some u3 ∧
      (∀ (m : Nat → Prop) w0, But m w0 w → w0.heap.size ≤ ob → But m w0 W) ∧ (∀ i x, i ≠ ob → w.heap[i]? = some x → W.heap[i]? = some x) ∧ (∀ rd P, rd < ob → RdAt w rd P → RdAt W rd P) := by
  obtain ⟨W, hW, s0, s1, s2, s3, _, hk⟩ := h.store u0 u1 u2 u3
  have hB : ∀ (m : Nat → Prop) w0, But m w0 w → (m ob ∨ w0.heap.size ≤ ob) → But m w0 W := by
    intro m w0 hb ho
    rw [hW]
    exact ((((hb.setCell (p := ⟨ob, 0, none⟩) ho _).setCell (p := ⟨ob, 1, none⟩) ho _).setCell (p := ⟨ob, 2, none⟩) ho _).setCell (p := ⟨ob, 3, none⟩) ho _)
  refine ⟨W, hW, s0, s1, s2, s3, fun m w0 hb ho => hB m w0 hb (.inr ho), hk, fun rd P hlt hr => ?_⟩
  exact hr.but (hB (· = ob) w (But.refl _ _) (.inl rfl)) (fun i hi e => by omega)

/-- What holds at each round of both loops. -/
structure NodeD (w : World) (rd ob Z : Nat) (v : Int) (wr : World) (pk py : List Bd) (kv yv : List Value) (ks : Value) (nk : Nat) (ys : Value) (ny : Nat) : Prop where
  hnk : nk = pk.length
  hny : ny = py.length
  ksl : ∃ a c, ks = .slice a nk c
  ysl : ∃ a c, ys = .slice a ny c
  but : But (· = rd) w wr
  res : NewN w.heap.size 0 (.slice none 0 0) (.slice none 0 0) wr
  out : NewN ob v ks ys wr
  ownK : Own wr 34 4 ks nk kv
  ownY : Own wr 34 4 ys ny yv
  blkK : ∀ g, ks.ownBlock = some g → Z ≤ g ∧ ys.ownBlock ≠ some g
  blkY : ∀ g, ys.ownBlock = some g → Z ≤ g
  repK : Reps (fun b => Z ≤ b ∧ ks.ownBlock ≠ some b ∧ ys.ownBlock ≠ some b) wr (encNs pk) kv
  repY : Reps (fun b => Z ≤ b ∧ ks.ownBlock ≠ some b ∧ ys.ownBlock ≠ some b) wr (encNs py) yv
  z : Z ≤ wr.heap.size

theorem NodeD.kid {w : World} {rd ob Z : Nat} {v : Int} {wr : World} {pk py : List Bd} {kv yv : List Value} {ks ys : Value} {nk ny : Nat}
    (h : NodeD w rd ob Z v wr pk py kv yv ks nk ys ny) (hrd : rd < w.heap.size) (hob : ob < Z) (hwo : w.heap.size < ob) {W w7 : World} {b : Bd} {cs : List Value} {a' : Option Addr} {c' : Nat}
    (hb6 : But (· = rd) wr W) (hcs : Reps (wr.heap.size ≤ ·) W (encN b) cs) (hown : Own w7 34 4 (.slice a' (nk + 1) c') (nk + 1) (kv ++ cs)) (hb7 : But (fun i => ks.ownBlock = some i) W w7)
    (hg7 : ∀ g, (Value.slice a' (nk + 1) c').ownBlock = some g → ks.ownBlock = some g ∨ g = W.heap.size) :
    NodeD w rd ob Z v (w7.setCell ⟨ob, 2, none⟩ (.slice a' (nk + 1) c')) (pk ++ [b]) py (kv ++ cs) yv (.slice a' (nk + 1) c') (nk + 1) ys ny := by
  have z6 := hb6.size
  have z7 := hb7.size
  have zr := h.z
  have zb := h.but.size
  have keep : ∀ i x, wr.heap[i]? = some x → ks.ownBlock ≠ some i → i ≠ ob → i ≠ rd → (w7.setCell ⟨ob, 2, none⟩ (.slice a' (nk + 1) c')).heap[i]? = some x := by
    intro i x hx h1 h2 h3
    have := lt_of_heap hx
    rw [Below.heap_setCell _ _ _ _ (by simpa using h2), hb7.block i (by omega) h1, hb6.block i this h3]; exact hx
  have keep6 : ∀ i x, W.heap[i]? = some x → ks.ownBlock ≠ some i → i ≠ ob → (w7.setCell ⟨ob, 2, none⟩ (.slice a' (nk + 1) c')).heap[i]? = some x := by
    intro i x hx h1 h2
    have := lt_of_heap hx
    rw [Below.heap_setCell _ _ _ _ (by simpa using h2), hb7.block i (by omega) h1]; exact hx
  have ltK : ∀ g, ks.ownBlock = some g → g < wr.heap.size := fun g hg => h.ownK.lt hg
  have ltY : ∀ g, ys.ownBlock = some g → g < wr.heap.size := fun g hg => h.ownY.lt hg
  have nK : ∀ i, i < Z → ks.ownBlock ≠ some i := fun i hi e => by have := (h.blkK i e).1; omega
  have newg : ∀ g, (Value.slice a' (nk + 1) c').ownBlock = some g → Z ≤ g := fun g hg => by
    rcases hg7 g hg with e | e
    · exact (h.blkK g e).1
    · omega
  refine ⟨by simp [h.hnk], h.hny, ⟨_, _, rfl⟩, h.ysl, ?_, ?_, ?_, ?_, ?_, ?_, h.blkY, ?_, ?_, by simp [World.setCell]; omega⟩
  · refine But.setCell ?_ (.inr (show w.heap.size ≤ ob by omega)) _
    exact (h.but.trans hb6).trans' hb7 (fun i hi e => absurd e (nK i (by omega)))
  · exact keep _ _ h.res (nK _ (by omega)) (by omega) (by omega)
  · have h1 : NewN ob v ks ys w7 := by
      unfold NewN; rw [hb7.block ob (by omega) (nK _ hob), hb6.block ob (by omega) (show ¬ ob = rd by omega)]; exact h.out
    exact h1.put2
  · exact hown.keep fun g o hg ho => by rw [Below.heap_setCell _ _ _ _ (by have := newg g hg; simp; omega)]; exact ho
  · exact h.ownY.keep fun g o hg ho => keep g o ho (fun e => (h.blkK g e).2 hg) (by have := h.blkY g hg; omega) (by have := h.blkY g hg; omega)
  · intro g hg
    refine ⟨newg g hg, fun e => ?_⟩
    rcases hg7 g hg with e' | e'
    · exact (h.blkK g e').2 e
    · have := ltY g e; omega
  · rw [encNs_append]
    have h1 := h.repK
    refine Reps.append ((Rep.keep fun i x hi hx => ⟨⟨hi.1, fun e => (hg7 i e).elim (fun e' => hi.2.1 e') (fun e' => by have := lt_of_heap hx; omega), hi.2.2⟩, keep i x hx hi.2.1 (by have := hi.1; omega) (by have := hi.1; omega)⟩).2 _ _ h1) ?_
    · have e1 : encNs [b] = encN b := by simp [encNs]
      rw [e1]
      refine (Rep.keep fun i x hi hx => ?_).2 _ _ hcs
      have h2 := lt_of_heap hx
      have h3 : wr.heap.size ≤ i := hi
      refine ⟨⟨by omega, fun e => ?_, fun e => by have := ltY i e; omega⟩, keep6 i x hx (fun e => by have := ltK i e; omega) (by omega)⟩
      rcases hg7 i e with e' | e'
      · have := ltK i e'; omega
      · omega
  · exact (Rep.keep fun i x hi hx => ⟨⟨hi.1, fun e => (hg7 i e).elim (fun e' => hi.2.1 e') (fun e' => by have := lt_of_heap hx; omega), hi.2.2⟩, keep i x hx hi.2.1 (by have := hi.1; omega) (by have := hi.1; omega)⟩).2 _ _ h.repY

theorem NodeD.yes {w : World} {rd ob Z : Nat} {v : Int} {wr : World} {pk py : List Bd} {kv yv : List Value} {ks ys : Value} {nk ny : Nat}
    (h : NodeD w rd ob Z v wr pk py kv yv ks nk ys ny) (hrd : rd < w.heap.size) (hob : ob < Z) (hwo : w.heap.size < ob) {W w7 : World} {b : Bd} {cs : List Value} {a' : Option Addr} {c' : Nat}
    (hb6 : But (· = rd) wr W) (hcs : Reps (wr.heap.size ≤ ·) W (encN b) cs) (hown : Own w7 34 4 (.slice a' (ny + 1) c') (ny + 1) (yv ++ cs)) (hb7 : But (fun i => ys.ownBlock = some i) W w7)
    (hg7 : ∀ g, (Value.slice a' (ny + 1) c').ownBlock = some g → ys.ownBlock = some g ∨ g = W.heap.size) :
    NodeD w rd ob Z v (w7.setCell ⟨ob, 3, none⟩ (.slice a' (ny + 1) c')) pk (py ++ [b]) kv (yv ++ cs) ks nk (.slice a' (ny + 1) c') (ny + 1) := by
  have z6 := hb6.size
  have z7 := hb7.size
  have zr := h.z
  have zb := h.but.size
  have keep : ∀ i x, wr.heap[i]? = some x → ys.ownBlock ≠ some i → i ≠ ob → i ≠ rd → (w7.setCell ⟨ob, 3, none⟩ (.slice a' (ny + 1) c')).heap[i]? = some x := by
    intro i x hx h1 h2 h3
    have := lt_of_heap hx
    rw [Below.heap_setCell _ _ _ _ (by simpa using h2), hb7.block i (by omega) h1, hb6.block i this h3]; exact hx
  have keep6 : ∀ i x, W.heap[i]? = some x → ys.ownBlock ≠ some i → i ≠ ob → (w7.setCell ⟨ob, 3, none⟩ (.slice a' (ny + 1) c')).heap[i]? = some x := by
    intro i x hx h1 h2
    have := lt_of_heap hx
    rw [Below.heap_setCell _ _ _ _ (by simpa using h2), hb7.block i (by omega) h1]; exact hx
  have ltK : ∀ g, ks.ownBlock = some g → g < wr.heap.size := fun g hg => h.ownK.lt hg
  have ltY : ∀ g, ys.ownBlock = some g → g < wr.heap.size := fun g hg => h.ownY.lt hg
  have nY : ∀ i, i < Z → ys.ownBlock ≠ some i := fun i hi e => by have := h.blkY i e; omega
  have newg : ∀ g, (Value.slice a' (ny + 1) c').ownBlock = some g → Z ≤ g := fun g hg => by
    rcases hg7 g hg with e | e
    · exact h.blkY g e
    · omega
  refine ⟨h.hnk, by simp [h.hny], h.ksl, ⟨_, _, rfl⟩, ?_, ?_, ?_, ?_, ?_, ?_, newg, ?_, ?_, by simp [World.setCell]; omega⟩
  · refine But.setCell ?_ (.inr (show w.heap.size ≤ ob by omega)) _
    exact (h.but.trans hb6).trans' hb7 (fun i hi e => absurd e (nY i (by omega)))
  · exact keep _ _ h.res (nY _ (by omega)) (by omega) (by omega)
  · have h1 : NewN ob v ks ys w7 := by
      unfold NewN; rw [hb7.block ob (by omega) (nY _ hob), hb6.block ob (by omega) (show ¬ ob = rd by omega)]; exact h.out
    exact h1.put3
  · exact h.ownK.keep fun g o hg ho => keep g o ho (h.blkK g hg).2 (by have := (h.blkK g hg).1; omega) (by have := (h.blkK g hg).1; omega)
  · exact hown.keep fun g o hg ho => by rw [Below.heap_setCell _ _ _ _ (by have := newg g hg; simp; omega)]; exact ho
  · intro g hg
    refine ⟨(h.blkK g hg).1, fun e => ?_⟩
    rcases hg7 g e with e' | e'
    · exact (h.blkK g hg).2 e'
    · have := ltK g hg; omega
  · exact (Rep.keep fun i x hi hx => ⟨⟨hi.1, hi.2.1, fun e => (hg7 i e).elim (fun e' => hi.2.2 e') (fun e' => by have := lt_of_heap hx; omega)⟩, keep i x hx hi.2.2 (by have := hi.1; omega) (by have := hi.1; omega)⟩).2 _ _ h.repK
  · rw [encNs_append]
    refine Reps.append ((Rep.keep fun i x hi hx => ⟨⟨hi.1, hi.2.1, fun e => (hg7 i e).elim (fun e' => hi.2.2 e') (fun e' => by have := lt_of_heap hx; omega)⟩, keep i x hx hi.2.2 (by have := hi.1; omega) (by have := hi.1; omega)⟩).2 _ _ h.repY) ?_
    · have e1 : encNs [b] = encN b := by simp [encNs]
      rw [e1]
      refine (Rep.keep fun i x hi hx => ?_).2 _ _ hcs
      have h2 := lt_of_heap hx
      have h3 : wr.heap.size ≤ i := hi
      refine ⟨⟨by omega, fun e => by have := ltK i e; omega, fun e => ?_⟩, keep6 i x hx (fun e => by have := ltY i e; omega) (by omega)⟩
      rcases hg7 i e with e' | e'
      · have := ltY i e'; omega
      · omega

end Go.Proofs.YteeakelcmlmeiaaDoor

import Derived.Test.YtibnnbdpfkgfhaaGreatDoorB7
import Derived.Test.YtibnnbdpfkgfhaaGreatDoorT3

/- What holds at each round of the loops of l4Keep. -/
namespace Go.Proofs.YtibnnbdpfkgfhaaGreatDoor
open Go.RowKit

/-- What is asked of a call of l4Keep. -/
structure KeepPre (F : Nat → Prop) (ww d k l n vv o : Nat) (H : List Ty) (t : Ty) (ss : List Bd) (y no : Bd) (env : List Mn) (st : List WFr) (v0 : Int) (a1 a2 : Option Addr) (c1 c2 : Nat) (ev sv : Value) (w : World) : Prop where
  wri : Wri w ww ((k : Nat) + 1) (20000 - (l : Nat))
  hF : ∀ i, F i → i ≠ ww
  ld : l ≤ d
  d20 : d ≤ 20000
  k200 : k ≤ 200
  hv : env[vv]? = some (.op o t)
  fit : EvFit H (.ask vv ss y no) env (st.map WFr.gf)
  hn : H.length = n
  el : env.length + 16 * (d + 1) ≤ 1000000
  nl : n + 16 * (d + 1) ≤ 1000000
  stl : st.length + d ≤ 40000
  ok : okMs (1000000 - 16 * (d + 1)) env
  okg : okGs (1000000 - 16 * (d + 1)) (st.map WFr.gf)
  wf : wfB (.ask vv ss y no) ∧ wfMs env ∧ ∀ f ∈ st.map WFr.gf, wfG f
  rb : Reps F w (encN (.ask vv ss y no)) [str [], .int .i64 (vv : Nat), .slice a1 ss.length c1, .slice a2 2 c2]
  re : Rep F w (.sl 60 9 env.length (encWs env)) ev
  rs : Rep F w (.sl 112 6 st.length (encFs st)) sv

/-- Which field of the node is appended to, and what the node holds. -/
def fpos : Bool → Nat
  | false => 2
  | true => 3
def fk : Bool → Value → Value → Value
  | false, _, sv => sv
  | true, ks, _ => ks
def fy : Bool → Value → Value
  | false, _ => .slice none 0 0
  | true, sv => sv

/-- What holds at each round of l4Keep's loops; Q is the block of the node that is written, the level's copy lies right before it. -/
structure NInv (F : Nat → Prop) (ww : Nat) (D : Int) (k l n o vv nk : Nat) (env : List Mn) (f : Nat → Nat → Bd → List Mn → Nat → List Gf → Option (Bd × Nat × Nat)) (k0 l0 : Nat) (ts : List Ty) (bs : List Bd) (A Z : Prop) (fld : Bool) (ks : Value) (outs : List Bd)
    (a1 a2 ta : Option Addr) (c1 c2 nt tc : Nat) (i0 : Int) (w : World) (Q j : Nat) (sv : Value) (us : List Value) (wr : World) : Prop where
  but : But (· = ww) w wr
  zw : Q + 1 ≤ wr.heap.size
  box : wr.heap[w.heap.size]? = some (.cells #[str [], .int .i64 (vv : Nat), .slice a1 nk c1, .slice a2 2 c2] 51 (0, 0))
  res : NewN (w.heap.size + 1) 0 (.slice none 0 0) (.slice none 0 0) wr
  bnd : wr.heap[w.heap.size + 2]? = some (.cells #[.int .i64 (o : Nat), str [], .int .i64 0, .slice none 0 0, .slice none 0 0, .slice ta nt tc, .slice none 0 0, .int .i64 0, .int .i64 i0] 60 (0, 0))
  blk : NewN Q (o : Nat) (fk fld ks sv) (fy fld sv) wr
  own : Own wr 51 4 sv j us
  fr : ∀ g, sv.ownBlock = some g → Q + 1 ≤ g
  mode : (∃ zs kj lj, A ∧ evSubsN f env n k0 l0 (ts.take j) (bs.take j) = some (zs, kj, lj) ∧ zs.length = j ∧ Wri wr ww (kj : Nat) (20000 - (lj : Nat)) ∧ kj ≤ k ∧ lj ≤ l ∧ Reps (fun i => Fx F w 4 i ∧ sv.ownBlock ≠ some i) wr (encNs zs) us ∧
      Rep (fun i => Fx F w 4 i ∧ sv.ownBlock ≠ some i) wr (.sl 51 4 outs.length (encNs outs)) ks) ∨
    (Z ∧ ∃ s, Wri wr ww (-1) s ∧ 0 ≤ s ∧ s ≤ D + (j : Int))

theorem NInv.next {F : Nat → Prop} {ww : Nat} {D : Int} {k l n o vv nk : Nat} {env : List Mn} {f : Nat → Nat → Bd → List Mn → Nat → List Gf → Option (Bd × Nat × Nat)} {k0 l0 : Nat} {ts : List Ty} {bs : List Bd} {A Z : Prop} {fld : Bool} {ks : Value} {outs : List Bd}
    {a1 a2 ta : Option Addr} {c1 c2 nt tc : Nat} {i0 : Int} {w : World} {Q j : Nat} {sv : Value} {us : List Value} {wr : World}
    (h : NInv F ww D k l n o vv nk env f k0 l0 ts bs A Z fld ks outs a1 a2 ta c1 c2 nt tc i0 w Q j sv us wr) (hQ : Q = w.heap.size + 3) (hww : ww < w.heap.size) (hF : ∀ i, F i → i ≠ ww)
    {w6 w7 : World} {O : Obj} {oo : Option (Bd × Nat × Nat)} {cs : List Value} {a' : Option Addr} {c' : Nat}
    (hb6 : But (· = ww) wr.drew w6)
    (hn6 : oo = none → ∃ st, Wri w6 ww (-1) st ∧ 0 ≤ st ∧ st ≤ D + ((j + 1 : Nat) : Int))
    (hy6 : ∀ x, oo = some x → Wri w6 ww (x.2.1 : Nat) (20000 - (x.2.2 : Nat)) ∧ Reps (fun i => (F i ∧ i < w.heap.size) ∨ wr.drew.heap.size ≤ i) w6 (encN x.1) cs)
    (hR1 : oo = none → Z)
    (hR2 : ∀ x, oo = some x → ∃ zs, A ∧ evSubsN f env n k0 l0 (ts.take (j + 1)) (bs.take (j + 1)) = some (zs ++ [x.1], x.2.1, x.2.2) ∧ zs.length = j ∧ x.2.1 ≤ k ∧ x.2.2 ≤ l ∧ Reps (fun i => Fx F w 4 i ∧ sv.ownBlock ≠ some i) wr (encNs zs) us ∧
      Rep (fun i => Fx F w 4 i ∧ sv.ownBlock ≠ some i) wr (.sl 51 4 outs.length (encNs outs)) ks)
    (ho7 : Own w7 51 4 (.slice a' (j + 1) c') (j + 1) (us ++ cs)) (hb7 : But (fun b => sv.ownBlock = some b) (w6.alloc O) w7)
    (hg7 : ∀ g, (Value.slice a' (j + 1) c').ownBlock = some g → sv.ownBlock = some g ∨ g = (w6.alloc O).heap.size) :
    NInv F ww D k l n o vv nk env f k0 l0 ts bs A Z fld ks outs a1 a2 ta c1 c2 nt tc i0 w Q (j + 1) (.slice a' (j + 1) c') (us ++ cs) (w7.setCell ⟨Q, fpos fld, none⟩ (.slice a' (j + 1) c')) := by
  have z6 : wr.heap.size ≤ w6.heap.size := hb6.size
  have z7 := hb7.size
  rw [size_alloc] at z7
  have zr := h.zw
  have svlt : ∀ g, sv.ownBlock = some g → g < wr.heap.size := fun g hg => h.own.lt hg
  obtain ⟨w8, hw8⟩ : ∃ w8, w7.setCell ⟨Q, fpos fld, none⟩ (.slice a' (j + 1) c') = w8 := ⟨_, rfl⟩
  have keep6 : ∀ i x, w6.heap[i]? = some x → sv.ownBlock ≠ some i → i ≠ Q → w8.heap[i]? = some x := by
    intro i x hx h2 h3
    have hl := lt_of_heap hx
    rw [← hw8, Below.heap_setCell _ _ _ _ (by simpa using h3), hb7.block i (by rw [size_alloc]; omega) h2, Below.heap_alloc _ _ _ hl]; exact hx
  have keep : ∀ i x, wr.heap[i]? = some x → i ≠ ww → sv.ownBlock ≠ some i → i ≠ Q → w8.heap[i]? = some x := by
    intro i x hx h1 h2 h3
    exact keep6 i x (by rw [hb6.block i (lt_of_heap hx) h1]; exact hx) h2 h3
  have nsv : ∀ i, i < Q + 1 → sv.ownBlock ≠ some i := fun i hi e => by have := h.fr i e; omega
  have fr' : ∀ g, (Value.slice a' (j + 1) c').ownBlock = some g → Q + 1 ≤ g := fun g hg => by
    rcases hg7 g hg with e | e
    · exact h.fr g e
    · rw [size_alloc] at e; omega
  have fxw : ∀ i, Fx F w 4 i → i ≠ ww ∧ i ≠ Q := fun i hi => by
    rcases hi with hi | hi
    · exact ⟨hF i hi.1, by have := hi.2; omega⟩
    · exact ⟨by omega, by omega⟩
  have hbW : But (· = ww) w w8 := by
    have h1 : But (· = ww) w w6 := h.but.trans ⟨hb6.os, hb6.tape, hb6.output, hb6.size, hb6.block⟩
    have h2 : But (· = ww) w w7 := (h1.alloc O).trans' hb7 (fun i hi e => absurd (h.fr i e) (by omega))
    rw [← hw8]
    exact h2.setCell (p := ⟨Q, fpos fld, none⟩) (.inr (show w.heap.size ≤ Q by omega)) _
  have hsz : w8.heap.size = w7.heap.size := by rw [← hw8]; simp [World.setCell]
  have hbk : NewN Q (o : Nat) (fk fld ks (.slice a' (j + 1) c')) (fy fld (.slice a' (j + 1) c')) w8 := by
    have h1 : NewN Q (o : Nat) (fk fld ks sv) (fy fld sv) w7 := by
      unfold NewN
      rw [hb7.block Q (by rw [size_alloc]; omega) (nsv Q (by omega)), Below.heap_alloc _ _ _ (by omega), hb6.block Q (by show Q < wr.heap.size; omega) (by show Q ≠ ww; omega)]; exact h.blk
    rw [← hw8]
    cases fld
    · exact h1.put2
    · exact h1.put3
  have hown : Own w8 51 4 (.slice a' (j + 1) c') (j + 1) (us ++ cs) :=
    ho7.keep fun g o hg ho => by rw [← hw8, Below.heap_setCell _ _ _ _ (by have := fr' g hg; simp; omega)]; exact ho
  have hmode : (∃ zs kj lj, A ∧ evSubsN f env n k0 l0 (ts.take (j + 1)) (bs.take (j + 1)) = some (zs, kj, lj) ∧ zs.length = j + 1 ∧ Wri w8 ww (kj : Nat) (20000 - (lj : Nat)) ∧ kj ≤ k ∧ lj ≤ l ∧ Reps (fun i => Fx F w 4 i ∧ (Value.slice a' (j + 1) c').ownBlock ≠ some i) w8 (encNs zs) (us ++ cs) ∧
      Rep (fun i => Fx F w 4 i ∧ (Value.slice a' (j + 1) c').ownBlock ≠ some i) w8 (.sl 51 4 outs.length (encNs outs)) ks) ∨ (Z ∧ ∃ s, Wri w8 ww (-1) s ∧ 0 ≤ s ∧ s ≤ D + ((j + 1 : Nat) : Int)) := by
    cases hoo : oo with
    | none =>
      obtain ⟨st, q1, q2, q3⟩ := hn6 hoo
      exact .inr ⟨hR1 hoo, st, keep6 ww _ q1 (nsv ww (by omega)) (by omega), q2, q3⟩
    | some x =>
      obtain ⟨q1, q2⟩ := hy6 x hoo
      obtain ⟨zs, hA, r1, r2, r3, r4, r5, r6⟩ := hR2 x hoo
      have kG : ∀ (i : Nat) (y : Obj), (Fx F w 4 i ∧ sv.ownBlock ≠ some i) → wr.heap[i]? = some y → (Fx F w 4 i ∧ (Value.slice a' (j + 1) c').ownBlock ≠ some i) ∧ w8.heap[i]? = some y := fun i y hi hy =>
        ⟨⟨hi.1, fun e => by
          rcases hg7 i e with e' | e'
          · exact hi.2 e'
          · rw [size_alloc] at e'; have := lt_of_heap hy; omega⟩, keep i y hy (fxw i hi.1).1 hi.2 (fxw i hi.1).2⟩
      refine .inl ⟨zs ++ [x.1], x.2.1, x.2.2, hA, r1, by simp [r2], keep6 ww _ q1 (nsv ww (by omega)) (by omega), r3, r4, ?_, (Rep.keep kG).1 _ _ r6⟩
      rw [encNs_append]
      refine Reps.append ((Rep.keep kG).2 _ _ r5) ?_
      have e1 : encNs [x.1] = encN x.1 := by simp [encNs]
      rw [e1]
      refine (Rep.keep fun i y hi hy => ?_).2 _ _ q2
      have hl := lt_of_heap hy
      rcases hi with hi | hi
      · have h2 := hi.2
        exact ⟨⟨.inl hi, fun e => by have := fr' i e; omega⟩, keep6 i y hy (nsv i (by omega)) (by omega)⟩
      · have h2 : wr.heap.size ≤ i := hi
        refine ⟨⟨.inr (by omega), fun e => ?_⟩, keep6 i y hy (fun e => by have := svlt i e; omega) (by omega)⟩
        rcases hg7 i e with e' | e'
        · have := svlt i e'; omega
        · rw [size_alloc] at e'; omega
  rw [hw8]
  exact { but := hbW, zw := by omega, box := keep _ _ h.box (by omega) (nsv _ (by omega)) (by omega), res := keep _ _ h.res (by omega) (nsv _ (by omega)) (by omega), bnd := keep _ _ h.bnd (by omega) (nsv _ (by omega)) (by omega), blk := hbk, own := hown, fr := fr', mode := hmode }

theorem node_ne {w : World} {ww : Nat} {k s : Int} {kb off : Nat} {s' : Bs} (hw : Wri w ww k s) (g : w.cell? ⟨kb, off, none⟩ = some (str s')) : kb ≠ ww := by
  intro e
  subst e
  unfold Wri at hw
  simp only [World.cell?, hw] at g
  rcases Nat.lt_or_ge off 2 with h | h
  · have h2 : off = 0 ∨ off = 1 := by omega
    rcases h2 with h2 | h2 <;> rw [h2] at g <;> simp [str] at g
  · rw [Array.getElem?_eq_none (by simpa using h)] at g; simp at g

theorem keptN_of {d k l n o k1 l1 kj lj : Nat} {t : Ty} {ss : List Bd} {y no : Bd} {env : List Mn} {st : List Gf} {outs zs : List Bd} (h0 : evSubsN (evN d) env n k l t.args ss = some (outs, k1, l1))
    (h1 : evSubsN (fun k l b _ _ _ => evN d k l b env n st) env n k1 l1 [t, t] [y, no] = some (zs, kj, lj)) : ∃ z1 z2, zs = [z1, z2] ∧ keptN d k l n o t ss y no env st = some (.ask o outs z1 z2, kj, lj) := by
  unfold keptN
  rw [h0]
  simp only [evSubsN, Option.bind_eq_bind, Option.bind_some] at h1 ⊢
  cases h2 : evN d k1 l1 y env n st with
  | none => rw [h2] at h1; simp at h1
  | some x =>
    rw [h2] at h1
    simp only [Option.bind_some] at h1 ⊢
    cases h3 : evN d x.2.1 x.2.2 no env n st with
    | none => rw [h3] at h1; simp at h1
    | some u =>
      rw [h3] at h1
      simp only [Option.bind_some, Option.some.injEq, Prod.mk.injEq] at h1 ⊢
      obtain ⟨rfl, rfl, rfl⟩ := h1
      exact ⟨x.1, u.1, rfl, rfl, rfl, rfl⟩

theorem keptN_none {d k l n o k1 l1 : Nat} {t : Ty} {ss : List Bd} {y no : Bd} {env : List Mn} {st : List Gf} {outs : List Bd} (h0 : evSubsN (evN d) env n k l t.args ss = some (outs, k1, l1))
    (h1 : evSubsN (fun k l b _ _ _ => evN d k l b env n st) env n k1 l1 [t, t] [y, no] = none) : keptN d k l n o t ss y no env st = none := by
  unfold keptN
  rw [h0]
  simp only [evSubsN, Option.bind_eq_bind, Option.bind_some] at h1 ⊢
  cases h2 : evN d k1 l1 y env n st with
  | none => rfl
  | some x =>
    rw [h2] at h1
    simp only [Option.bind_some] at h1 ⊢
    cases h3 : evN d x.2.1 x.2.2 no env n st with
    | none => rfl
    | some u => rw [h3] at h1; simp at h1

end Go.Proofs.YtibnnbdpfkgfhaaGreatDoor

/- The walk of l4Keep. -/
namespace Go.Proofs.YtibnnbdpfkgfhaaGreatDoor
open Go.RowKit

set_option maxRecDepth 100000 in
set_option maxHeartbeats 8000000 in
theorem keepN_any (d : Nat) (ih : WriteSaid d) (F : Nat → Prop) (ww k l n vv o : Nat) (H : List Ty) (t : Ty) (ss : List Bd) (y no : Bd) (env : List Mn) (st : List WFr) (v0 : Int) (a1 a2 : Option Addr) (c1 c2 : Nat) (ev sv : Value) (w : World) (h : KeepPre F ww d k l n vv o H t ss y no env st v0 a1 a2 c1 c2 ev sv w) :
    Calls Tryz.prog 65 #[.pointer (some ⟨ww, 0, none⟩), .agg #[str [], .int .i64 (vv : Nat), .slice a1 ss.length c1, .slice a2 2 c2], ev, sv, .int .i64 (n : Nat)] w
      (WritePost F ww (20001 + 20 * (d + 1)) (keptN d k l n o t ss y no env (st.map WFr.gf)) w) := by
  have HP := Lib.hid h
  have IH := Lib.hid ih
  obtain ⟨eb, eo, ecap, ta, tc, i0, e, heF, hew, m0, m1, m2, m3, m4, m5, m6, m7, m8, htr⟩ := bound_op h.re h.hv
  subst e
  have hww := h.wri.cell.2.2.2
  have hebw := h.hF _ heF
  obtain ⟨W, hW⟩ : ∃ W, (w.alloc (.cells #[str [], .int .i64 (vv : Nat), .slice a1 ss.length c1, .slice a2 2 c2] 51)).alloc (.cells #[str [], .int .i64 0, .slice none 0 0, .slice none 0 0] 51) = W := ⟨_, rfl⟩
  have hbW : Below w.heap.size w W := by rw [← hW]; exact ((Below.refl _ _).alloc (Nat.le_refl _) _).alloc (by rw [size_alloc]; omega) _
  have hzW : w.heap.size + 2 = W.heap.size := by rw [← hW]; simp only [size_alloc]
  have hWr := h.wri.below hbW
  obtain ⟨k0, k1, kf, klt⟩ := hWr.cell
  have kf0 := kf 0
  have k0' : W.cell? ⟨ww, 0, none⟩ = some (.int .i64 ((k : Int) + 1)) := k0
  obtain ⟨W2, hW2⟩ : ∃ W2, W.setCell ⟨ww, 0, none⟩ (.int .i64 (k : Nat)) = W2 := ⟨_, rfl⟩
  have hWr2 : Wri W2 ww (k : Nat) (20000 - (l : Nat)) := by unfold Wri at *; rw [← hW2, setCell_at hWr]; rfl
  have hb2 : But (· = ww) w W2 := by rw [← hW2]; exact (But.ofBelow (m := (· = ww)) hbW).setCell (p := ⟨ww, 0, none⟩) (.inl rfl) _
  have b0 : W.heap[w.heap.size]? = some (.cells #[str [], .int .i64 (vv : Nat), .slice a1 ss.length c1, .slice a2 2 c2] 51 (0, 0)) := by rw [← hW]; exact heap_past (heap_new _ _)
  have b02 : W2.heap[w.heap.size]? = some (.cells #[str [], .int .i64 (vv : Nat), .slice a1 ss.length c1, .slice a2 2 c2] 51 (0, 0)) := by
    rw [← hW2, Below.heap_setCell _ _ _ _ (by show w.heap.size ≠ ww; omega)]; exact b0
  obtain ⟨x0, x1, x2, x3⟩ := cells4 b02
  have kX : ∀ {j : Nat} {x : Value}, w.cell? ⟨eb, j, none⟩ = some x → W2.cell? ⟨eb, j, none⟩ = some x := fun hc => (hb2.cell (World.block_lt_of_cell? w _ hc) hebw).trans hc
  have j0 := kX m0; have j1 := kX m1; have j2 := kX m2; have j3 := kX m3; have j4 := kX m4; have j5 := kX m5; have j6 := kX m6; have j7 := kX m7; have j8 := kX m8
  have hvl := (List.getElem?_eq_some_iff.1 h.hv).1
  have hv0 : (0 : Int) ≤ (vv : Int) := by omega
  have hv1 : (vv : Int) < (env.length : Int) := by omega
  have hk200 := h.k200
  have hz2 : W2.heap.size = w.heap.size + 2 := by rw [← hW2, hzW]; simp [World.setCell]
  have hres2 : NewN (w.heap.size + 1) 0 (.slice none 0 0) (.slice none 0 0) W2 := by
    have := heap_new (w.alloc (.cells #[str [], .int .i64 (vv : Nat), .slice a1 ss.length c1, .slice a2 2 c2] 51)) (.cells #[str [], .int .i64 0, .slice none 0 0, .slice none 0 0] 51)
    rw [size_alloc, hW] at this
    unfold NewN
    rw [← hW2, Below.heap_setCell _ _ _ _ (by show w.heap.size + 1 ≠ ww; omega)]; exact this
  have HZ := Lib.hid (And.intro hz2 hres2); clear hz2 hres2
  have HW := Lib.hid (And.intro hW (And.intro hW2 (And.intro hb2 (And.intro hWr2 (And.intro b02 htr)))))
  clear hW hW2 hbW hWr hWr2 hb2 b0 b02 htr kX m0 m1 m2 m3 m4 m5 m6 m7 m8 k0 kf h ih hzW
  go_enter Tryz.func65, Tryz.ntmps65
  go_upto_region 1 with (fail)
  rw [HW.out.1]
  go_upto_region 2 with (fail)
  rw [HW.out.2.1]
  go_wp2_with fail
  go_loopw [13] (fun i wr => ∃ (j : Nat) (sv : Value) (us : List Value), j ≤ ss.length ∧ i = .int .i64 j ∧ NInv F ww (20001 + 20 * (d : Int)) k l n o vv ss.length env (evN d) k l t.args ss True (evSubsN (evN d) env n k l t.args ss = none) false (.slice none 0 0) [] a1 a2 ta c1 c2 t.args.length tc i0 w (W2.heap.size + 1) j sv us wr) (fun i _ => ss.length - (intOf i).toNat)
  case atStart =>
    obtain ⟨hz2, hres2⟩ := HZ.out
    obtain ⟨hW, hW2, hb2, hWr2, b02, htr⟩ := HW.out
    refine ⟨0, .slice none 0 0, [], Nat.zero_le _, rfl, ?_⟩
    refine { but := (hb2.alloc _).alloc _, zw := by simp only [size_alloc]; omega, box := heap_past (heap_past b02), res := heap_past (heap_past hres2), bnd := ?_, blk := ?_, own := World.ownsRow_nil _ _ _ _, fr := fun g hg => by simp [Value.ownBlock] at hg, mode := .inl ⟨[], k, l, trivial, by simp [evSubsN], rfl, heap_past (heap_past hWr2), Nat.le_refl _, Nat.le_refl _, by simp [encNs, Reps_nil], Rep_sl.2 ⟨by simp [encNs], none, 0, rfl, Nat.le_refl _, fun _ => rfl, .inl rfl⟩⟩ }
    · rw [← hz2]; exact heap_past (heap_new _ _)
    · have := heap_new (W2.alloc (.cells #[.int .i64 (o : Nat), str [], .int .i64 0, .slice none 0 0, .slice none 0 0, .slice ta t.args.length tc, .slice none 0 0, .int .i64 0, .int .i64 i0] 60)) (.cells #[str [], .int .i64 (o : Nat), .slice none 0 0, .slice none 0 0] 51)
      rw [size_alloc] at this
      exact this
  case round =>
    rename_i wr
    obtain ⟨j, sv, us, hj, rfl, hinv⟩ := hrel
    obtain ⟨sa, sc, e⟩ := hinv.own.slice
    subst e
    obtain ⟨y0, y1, y2, y3⟩ := cells4 hinv.box
    obtain ⟨q0, q1, q2, q3, qlt, qf⟩ := hinv.blk.cells
    have z5 : wr.cell? ⟨W2.heap.size, 5, none⟩ = some (.slice ta t.args.length tc) := by
      rw [HZ.out.1]; simp [World.cell?, hinv.bnd]
    have HI := Lib.hid hinv; clear hinv
    by_cases hlt : j < ss.length
    · have hlt' : (j : Int) < (ss.length : Int) := by omega
      have hkids : Rep F w (.sl 51 4 ss.length (encNs ss)) (.slice a1 ss.length c1) := by
        have hrb := HP.out.rb
        simp only [encN, Reps_cons, Reps_nil] at hrb
        obtain ⟨_, _, e0, _, _, _, rfl, _, _, _, rfl, h2, _⟩ := hrb
        simp only [List.cons.injEq] at e0
        obtain ⟨_, _, e2, _⟩ := e0
        rw [e2]; exact h2
      obtain ⟨ka', kc', e, hkat⟩ := AtNs.of hkids
      simp only [Value.slice.injEq] at e
      obtain ⟨rfl, _, rfl⟩ := e
      obtain ⟨kb, ko, s', v', a2', n2', c2', a3', n3', c3', sd, e, hkb, hsd, g0, g1, g2, g3, hrs⟩ := hkat j hlt
      subst e
      have hkp := HP.out.fit.keep HP.out.hv
      have hne : kb ≠ ww := node_ne HP.out.wri g0
      have htr' := HW.out.2.2.2.2.2
      rw [encS_eq] at htr'
      obtain ⟨ta', tc', e, _, _, hta⟩ := Rep_sl1_open htr'
      simp only [Value.slice.injEq] at e
      obtain ⟨rfl, _, rfl⟩ := e
      have hjt : j < t.args.length := by omega
      obtain ⟨tb, to, tu, td, e, htF, htw, htd, g4, htru⟩ := hta j hjt
      subst e
      rw [encSs_at, Option.map_eq_some_iff] at htd
      obtain ⟨tj, htj, rfl⟩ := htd
      obtain ⟨ua, uc, rfl⟩ := encS_slice htru
      have p0 := (HI.out.but.cell (p := ⟨kb, ko + j * 4, none⟩) hkb hne).trans g0
      have p1 := (HI.out.but.cell (p := ⟨kb, ko + j * 4 + 1, none⟩) hkb hne).trans g1
      have p2 := (HI.out.but.cell (p := ⟨kb, ko + j * 4 + 2, none⟩) hkb hne).trans g2
      have p3 := (HI.out.but.cell (p := ⟨kb, ko + j * 4 + 3, none⟩) hkb hne).trans g3
      have p4 := (HI.out.but.cell (p := ⟨tb, to + j, none⟩) htw (HP.out.hF _ htF)).trans g4
      have hokt := okMs_at _ HP.out.ok vv _ HP.out.hv
      rw [okM] at hokt
      have htj15 := (args_atoms hokt.1).1 tj (List.mem_of_getElem? htj)
      have hbd : But (· = ww) w wr.drew := HI.out.but.drew
      have hlow : ∀ b, (F b ∧ b < w.heap.size) → ¬ (b = ww) ∧ (F b ∧ b < w.heap.size) := fun b hb => ⟨HP.out.hF b hb.1, hb⟩
      have hrsd : Reps (fun i => F i ∧ i < w.heap.size) wr.drew (encN sd) [str s', .int .i64 v', .slice a2' n2' c2', .slice a3' n3' c3'] := (Reps.low hrs).but hbd hlow
      have htrd := (Rep.low htru).but hbd hlow
      have hred := (Rep.low HP.out.re).but hbd hlow
      have hel := HP.out.el; have hnl := HP.out.nl; have hld := HP.out.ld; have hdd := HP.out.d20; have hkk := HP.out.k200
      have htake := evSubsN_take (f := evN d) (env := env) (n := n) (k := k) (l := l) htj hsd
      obtain ⟨oo, hCC, hR1, hR2⟩ : ∃ oo, Calls Tryz.prog 89 #[.pointer (some ⟨ww, 0, none⟩), .agg #[str s', .int .i64 v', .slice a2' n2' c2', .slice a3' n3' c3'], .agg #[.slice ua tj.args.length uc], .slice (some ⟨eb, eo, none⟩) env.length ecap, .int .i64 (n : Nat)] wr.drew (WritePost (fun i => F i ∧ i < w.heap.size) ww (20001 + 20 * (d : Int) + ((j + 1 : Nat) : Int)) oo wr.drew) ∧
          (oo = none → evSubsN (evN d) env n k l t.args ss = none) ∧
          (∀ y, oo = some y → ∃ outs, True ∧ evSubsN (evN d) env n k l (t.args.take (j + 1)) (ss.take (j + 1)) = some (outs ++ [y.1], y.2.1, y.2.2) ∧ outs.length = j ∧ y.2.1 ≤ k ∧ y.2.2 ≤ l ∧ Reps (fun i => Fx F w 4 i ∧ (Value.slice sa j sc).ownBlock ≠ some i) wr (encNs outs) us ∧
            Rep (fun i => Fx F w 4 i ∧ (Value.slice sa j sc).ownBlock ≠ some i) wr (.sl 51 4 ([] : List Bd).length (encNs [])) (.slice none 0 0)) := by
        rcases HI.out.mode with ⟨outs, kj, lj, _, hev, hol, hwr, hkj, hlj, hrep, hrk⟩ | ⟨hev, s, hwr, hs0, hs1⟩
        · refine ⟨evN d kj lj sd (env ++ opens n tj.args) (n + tj.args.length) [], (open_live d IH.out _ ww kj lj n H tj sd env s' v' a2' a3' n2' c2' n3' c3' _ _ wr.drew hwr (fun i hi => HP.out.hF i hi.1) (by omega) hdd (by omega) (hkp.2.2.1 j tj sd htj hsd) HP.out.hn hel hnl htj15 HP.out.ok htrd hrsd hred ⟨wfBs_at _ HP.out.wf.1.1 j sd hsd, HP.out.wf.2.1⟩).mono ?_, fun h => ?_, fun y h => ?_⟩
          · rintro en w' ⟨q1, q2, q3, q4, q5, q6, q7, q8, q9, q10, q11, q12⟩
            exact ⟨q1, q2, q3, q4, q5, q6, q7, q8, q9, q10, fun h => by obtain ⟨st, u1, u2, u3⟩ := q11 h; exact ⟨st, u1, u2, by omega⟩, q12⟩
          · refine evSubsN_none (j + 1) _ _ _ _ ?_
            rw [htake, hev]; simp only [Option.bind_some]; rw [h]; rfl
          · have hle := evN_left _ _ _ _ _ _ _ _ _ _ h
            exact ⟨outs, trivial, by rw [htake, hev]; simp only [Option.bind_some]; rw [h]; rfl, hol, Nat.le_trans hle.1 hkj, Nat.le_trans hle.2 hlj, hrep, hrk⟩
        · have hj15 := (args_atoms hokt.1).2
          refine ⟨none, (open_dead _ ww n s tj env s' v' a2' a3' n2' c2' n3' c3' _ _ wr.drew hwr hs0 (by omega) (by omega) (by omega) htj15 htrd hred).mono ?_, fun _ => hev, fun y h => by simp at h⟩
          rintro en w' ⟨q1, q2, q3, q4, q5, q6, q7, q8, q9, q10, q11, q12⟩
          exact ⟨q1, q2, q3, q4, q5, q6, q7, q8, q9, q10, fun h => by obtain ⟨st, u1, u2, u3⟩ := q11 h; exact ⟨st, u1, u2, by omega⟩, q12⟩
      have CC := Lib.hid hCC
      have HREL := Lib.hid (And.intro hR1 hR2)
      have hmx : j + 1 ≤ maxLen := by unfold maxLen; have := (args_atoms hokt.1).2; omega
      have hby : (j + 1) * 72 ≤ 140737488355328 := by have := (args_atoms hokt.1).2; omega
      have h04 : 0 < 4 := by omega
      have hqw : ¬ (W2.heap.size + 1 = ww) := by rw [HZ.out.1]; omega
      have NB := Lib.hid (show ¬ (Value.slice sa j sc).ownBlock = some (W2.heap.size + 1) from fun e => by have := HI.out.fr _ e; omega)
      have OWN := Lib.hid (fun (w6 : World) (h6 : But (· = ww) wr.drew w6) => (HI.out.own.keep (w' := w6) fun g o hg hh => by
        have := HI.out.fr g hg
        rw [h6.block g (lt_of_heap hh) (fun e => by have e : g = ww := e; rw [HZ.out.1] at this; omega)]; exact hh))
      have hz2 := HZ.out.1
      have htbw := HP.out.hF _ htF
      have SX : Hid (∀ w', But (fun i => i = ww ∨ (Value.slice sa j sc).ownBlock = some i) wr w' → w'.cell? ⟨W2.heap.size + 1, 2, none⟩ = some (.slice sa j sc) ∧ w'.cell? ⟨w.heap.size, 2, none⟩ = some (.slice (some ⟨kb, ko, none⟩) ss.length c1) ∧
          w'.cell? ⟨kb, ko + j * 4, none⟩ = some (str s') ∧ w'.cell? ⟨kb, ko + j * 4 + 1, none⟩ = some (.int .i64 v') ∧ w'.cell? ⟨kb, ko + j * 4 + 2, none⟩ = some (.slice a2' n2' c2') ∧ w'.cell? ⟨kb, ko + j * 4 + 3, none⟩ = some (.slice a3' n3' c3') ∧
          w'.cell? ⟨W2.heap.size, 5, none⟩ = some (.slice (some ⟨tb, to, none⟩) t.args.length tc) ∧ w'.cell? ⟨tb, to + j, none⟩ = some (.slice ua tj.args.length uc)) := by
        show ∀ w', _ → _
        intro w' hb'
        have key : ∀ {p : Addr} {u : Value}, p.block < W2.heap.size + 2 → p.block ≠ ww → wr.cell? p = some u → w'.cell? p = some u := fun hp hne hu =>
          (hb'.cell (World.block_lt_of_cell? wr _ hu) (fun e => e.elim hne (fun e => by have := HI.out.fr _ e; omega))).trans hu
        exact ⟨key (by show W2.heap.size + 1 < _; omega) hqw q2, key (by show w.heap.size < _; omega) (by show w.heap.size ≠ ww; omega) y2, key (by show kb < _; omega) hne p0, key (by show kb < _; omega) hne p1, key (by show kb < _; omega) hne p2, key (by show kb < _; omega) hne p3,
          key (by show W2.heap.size < _; omega) (by show W2.heap.size ≠ ww; omega) z5, key (by show tb < _; omega) htbw p4⟩
      have qf2 := qf 2
      clear hkp hne htr' hokt hlow hrsd htrd hred htake hR1 hR2 hCC hkids hkat hta g0 g1 g2 g3 g4 hrs htru hsd htj qf hbd hz2 htbw y0 y1 y3 q0 q1 q3 p0 p1 p2 p3 p4 z5
      go_wp2_with fail
      refine wp_region_noPanic ?_
      refine wp_region_S (fun w' => But (fun i => i = ww ∨ (Value.slice sa j sc).ownBlock = some i) wr w') (fun i => i == 20) (by kernel_rfl) ?_
      have hSd : But (fun i => i = ww ∨ (Value.slice sa j sc).ownBlock = some i) wr wr.drew := (But.refl _ wr).drew
      refine wpAnyS_take 0 (v := ?_) (by kernel_rfl) (by kernel_rfl) (by kernel_rfl) (by kernel_rfl) (fun _ _ _ _ h => h) hSd ?_ ?_
      rotate_left
      · (intro oi ho; simp at ho; subst ho; refine Or.inl ⟨by rfl, fun w' hw' => ?_⟩; go_simp; try with_reducible rfl)
      (intro d hd; simp at hd; subst hd; simp only [Act.put, List.setIfInBounds_toArray, List.set_cons_zero, List.set_cons_succ])
      refine wpAnyS_take 1 (v := ?_) (by kernel_rfl) (by kernel_rfl) (by kernel_rfl) (by kernel_rfl) (fun _ _ _ _ h => h) hSd ?_ ?_
      rotate_left
      · (intro oi ho; simp at ho; subst ho; refine Or.inl ⟨by rfl, fun w' hw' => ?_⟩; obtain ⟨e0, e1, e2, e3, e4, e5, e6, e7⟩ := SX.out w' hw'; go_simp; try with_reducible rfl)
      (intro d hd; simp at hd; subst hd; simp only [Act.put, List.setIfInBounds_toArray, List.set_cons_zero, List.set_cons_succ])
      refine wpAnyS_take 2 (v := ?_) (by kernel_rfl) (by kernel_rfl) (by kernel_rfl) (by kernel_rfl) (fun _ _ _ _ h => h) hSd ?_ ?_
      rotate_left
      · (intro oi ho; simp at ho; subst ho; refine Or.inl ⟨by rfl, fun w' hw' => ?_⟩; go_simp; try with_reducible rfl)
      (intro d hd; simp at hd; subst hd; simp only [Act.put, List.setIfInBounds_toArray, List.set_cons_zero, List.set_cons_succ])
      refine wpAnyS_take 3 (v := ?_) (by kernel_rfl) (by kernel_rfl) (by kernel_rfl) (by kernel_rfl) (fun _ _ _ _ h => h) hSd ?_ ?_
      rotate_left
      · (intro oi ho; simp at ho; subst ho; refine Or.inl ⟨by rfl, fun w' hw' => ?_⟩; go_simp; try with_reducible rfl)
      (intro d hd; simp at hd; subst hd; simp only [Act.put, List.setIfInBounds_toArray, List.set_cons_zero, List.set_cons_succ])
      refine wpAnyS_take 4 (v := ?_) (by kernel_rfl) (by kernel_rfl) (by kernel_rfl) (by kernel_rfl) (fun _ _ _ _ h => h) hSd ?_ ?_
      rotate_left
      · (intro oi ho; simp at ho; subst ho; refine Or.inl ⟨by rfl, fun w' hw' => ?_⟩; obtain ⟨e0, e1, e2, e3, e4, e5, e6, e7⟩ := SX.out w' hw'; go_simp; try with_reducible rfl)
      (intro d hd; simp at hd; subst hd; simp only [Act.put, List.setIfInBounds_toArray, List.set_cons_zero, List.set_cons_succ])
      refine wpAnyS_take 5 (v := ?_) (by kernel_rfl) (by kernel_rfl) (by kernel_rfl) (by kernel_rfl) (fun _ _ _ _ h => h) hSd ?_ ?_
      rotate_left
      · (intro oi ho; simp at ho; subst ho; refine Or.inl ⟨by rfl, fun w' hw' => ?_⟩; go_simp; try with_reducible rfl)
      (intro d hd; simp at hd; subst hd; simp only [Act.put, List.setIfInBounds_toArray, List.set_cons_zero, List.set_cons_succ])
      refine wpAnyS_take 6 (v := ?_) (by kernel_rfl) (by kernel_rfl) (by kernel_rfl) (by kernel_rfl) (fun _ _ _ _ h => h) hSd ?_ ?_
      rotate_left
      · (intro oi ho; simp at ho; subst ho; refine Or.inl ⟨by rfl, fun w' hw' => ?_⟩; go_simp; try with_reducible rfl)
      (intro d hd; simp at hd; subst hd; simp only [Act.put, List.setIfInBounds_toArray, List.set_cons_zero, List.set_cons_succ])
      refine wpAnyS_take 7 (v := ?_) (by kernel_rfl) (by kernel_rfl) (by kernel_rfl) (by kernel_rfl) (fun _ _ _ _ h => h) hSd ?_ ?_
      rotate_left
      · (intro oi ho; simp at ho; subst ho; refine Or.inl ⟨by rfl, fun w' hw' => ?_⟩; obtain ⟨e0, e1, e2, e3, e4, e5, e6, e7⟩ := SX.out w' hw'; go_simp; try with_reducible rfl)
      (intro d hd; simp at hd; subst hd; simp only [Act.put, List.setIfInBounds_toArray, List.set_cons_zero, List.set_cons_succ])
      refine wpAnyS_take 8 (v := ?_) (by kernel_rfl) (by kernel_rfl) (by kernel_rfl) (by kernel_rfl) (fun _ _ _ _ h => h) hSd ?_ ?_
      rotate_left
      · (intro oi ho; simp at ho; subst ho; refine Or.inl ⟨by rfl, fun w' hw' => ?_⟩; go_simp; try with_reducible rfl)
      (intro d hd; simp at hd; subst hd; simp only [Act.put, List.setIfInBounds_toArray, List.set_cons_zero, List.set_cons_succ])
      refine wpAnyS_take 9 (v := ?_) (by kernel_rfl) (by kernel_rfl) (by kernel_rfl) (by kernel_rfl) (fun _ _ _ _ h => h) hSd ?_ ?_
      rotate_left
      · (intro oi ho; simp at ho; subst ho; refine Or.inl ⟨by rfl, fun w' hw' => ?_⟩; go_simp; try with_reducible rfl)
      (intro d hd; simp at hd; subst hd; simp only [Act.put, List.setIfInBounds_toArray, List.set_cons_zero, List.set_cons_succ])
      refine wpAnyS_take 10 (v := ?_) (by kernel_rfl) (by kernel_rfl) (by kernel_rfl) (by kernel_rfl) (fun _ _ _ _ h => h) hSd ?_ ?_
      rotate_left
      · (intro oi ho; simp at ho; subst ho; refine Or.inl ⟨by rfl, fun w' hw' => ?_⟩; obtain ⟨e0, e1, e2, e3, e4, e5, e6, e7⟩ := SX.out w' hw'; go_simp; try with_reducible rfl)
      (intro d hd; simp at hd; subst hd; simp only [Act.put, List.setIfInBounds_toArray, List.set_cons_zero, List.set_cons_succ])
      refine wpAnyS_take 11 (v := ?_) (by kernel_rfl) (by kernel_rfl) (by kernel_rfl) (by kernel_rfl) (fun _ _ _ _ h => h) hSd ?_ ?_
      rotate_left
      · (intro oi ho; simp at ho; subst ho; refine Or.inl ⟨by rfl, fun w' hw' => ?_⟩; go_simp; try with_reducible rfl)
      (intro d hd; simp at hd; subst hd; simp only [Act.put, List.setIfInBounds_toArray, List.set_cons_zero, List.set_cons_succ])
      refine wpAnyS_take 12 (v := ?_) (by kernel_rfl) (by kernel_rfl) (by kernel_rfl) (by kernel_rfl) (fun _ _ _ _ h => h) hSd ?_ ?_
      rotate_left
      · (intro oi ho; simp at ho; subst ho; refine Or.inl ⟨by rfl, fun w' hw' => ?_⟩; go_simp; try with_reducible rfl)
      (intro d hd; simp at hd; subst hd; simp only [Act.put, List.setIfInBounds_toArray, List.set_cons_zero, List.set_cons_succ])
      refine wpAnyS_take 13 (v := ?_) (by kernel_rfl) (by kernel_rfl) (by kernel_rfl) (by kernel_rfl) (fun _ _ _ _ h => h) hSd ?_ ?_
      rotate_left
      · (intro oi ho; simp at ho; subst ho; refine Or.inl ⟨by rfl, fun w' hw' => ?_⟩; obtain ⟨e0, e1, e2, e3, e4, e5, e6, e7⟩ := SX.out w' hw'; go_simp; try with_reducible rfl)
      (intro d hd; simp at hd; subst hd; simp only [Act.put, List.setIfInBounds_toArray, List.set_cons_zero, List.set_cons_succ])
      refine wpAnyS_take 14 (v := ?_) (by kernel_rfl) (by kernel_rfl) (by kernel_rfl) (by kernel_rfl) (fun _ _ _ _ h => h) hSd ?_ ?_
      rotate_left
      · (intro oi ho; simp at ho; subst ho; refine Or.inl ⟨by rfl, fun w' hw' => ?_⟩; go_simp; try with_reducible rfl)
      (intro d hd; simp at hd; subst hd; simp only [Act.put, List.setIfInBounds_toArray, List.set_cons_zero, List.set_cons_succ])
      refine wpAnyS_take 15 (v := ?_) (by kernel_rfl) (by kernel_rfl) (by kernel_rfl) (by kernel_rfl) (fun _ _ _ _ h => h) hSd ?_ ?_
      rotate_left
      · (intro oi ho; simp at ho; subst ho; refine Or.inl ⟨by rfl, fun w' hw' => ?_⟩; go_simp; try with_reducible rfl)
      (intro d hd; simp at hd; subst hd; simp only [Act.put, List.setIfInBounds_toArray, List.set_cons_zero, List.set_cons_succ])
      refine wpAnyS_one 16 (by kernel_rfl) ?_
      intro o16 ho K' hK
      (simp at ho; subst ho)
      go_simp
      go_at_call 89
      (with_reducible refine CC.out.mono ?_)
      rintro en6 w6 ⟨s6, v6, b1, m1, d1, b2, m2, d2, rfl, hb6, hn6, hy6⟩
      have HB6 : Hid (But (fun i => i = ww ∨ (Value.slice sa j sc).ownBlock = some i) wr w6) := hSd.trans (hb6.weak fun i _ h => .inl h)
      have q26 := but_cell hb6 hqw q2
      have ql6 := Nat.lt_of_lt_of_le qlt hb6.size
      have qf26 := but_free hb6 hqw qlt qf2
      have OWN6 := (OWN.out _ hb6).alloc (.cells #[str s6, .int .i64 v6, .slice b1 m1 d1, .slice b2 m2 d2] 51)
      have H6 := Lib.hid (And.intro hb6 (And.intro hn6 hy6)); clear hb6 hn6 hy6
      refine hK.out _ _ ?_ ?_
      · exact fun _ => HB6.out
      clear hK K'
      (try simp only [Act.put, List.setIfInBounds_toArray, List.set_cons_zero, List.set_cons_succ])
      refine wpAnyS_one 17 (by kernel_rfl) ?_
      intro o17 ho K' hK
      (simp at ho; subst ho)
      go_simp
      refine hK.out _ _ ?_ ?_
      · exact fun _ => HB6.out.alloc _
      clear hK K'
      (try simp only [Act.put, List.setIfInBounds_toArray, List.set_cons_zero, List.set_cons_succ])
      refine wpAnyS_one 18 (by kernel_rfl) ?_
      intro o18 ho K' hK
      (simp at ho; subst ho)
      refine step_append_gen (by rfl) _ _ _ (by rfl) 51 (.agg #[str [], .int .i64 0, .slice none 0 0, .slice none 0 0]) 4 72 Tryz.underlying49 Tryz.infoN rfl h04 (.slice sa j sc) j us (by rfl) OWN6 _ 1 [str s6, .int .i64 v6, .slice b1 m1 d1, .slice b2 m2 d2] (by rfl) (SrcSl.lit4 #[str s6, .int .i64 v6, .slice b1 m1 d1, .slice b2 m2 d2] rfl (by simp [str, Value.oneCell']) _ rfl) hmx hby ?_
      intro a' c' w7 ho7 hb7 hg7
      refine hK.out _ _ ?_ ?_
      · exact fun _ => (HB6.out.alloc _).trans (hb7.weak fun i _ h => .inr h)
      clear hK K'
      (try simp only [Act.put, List.setIfInBounds_toArray, List.set_cons_zero, List.set_cons_succ])
      have hc7 := out_cell hb7 NB.out q26
      have hf7 := out_free hb7 NB.out ql6 qf26
      refine wpAnyS_one 19 (by kernel_rfl) ?_
      intro o19 ho K' hK
      (simp at ho; subst ho)
      go_simp
      refine hK.out _ _ ?_ ?_
      · exact fun _ => (HB6.out.alloc _).trans (hb7.weak fun i _ h => .inr h)
      clear hK K'
      (try simp only [Act.put, List.setIfInBounds_toArray, List.set_cons_zero, List.set_cons_succ])
      refine wpAnyS_one 20 (by kernel_rfl) ?_
      intro o20 ho K' hK
      (simp at ho; subst ho)
      go_simp
      refine hK.out _ _ ?_ ?_
      · intro h; simp at h
      clear hK K'
      (try simp only [Act.put, List.setIfInBounds_toArray, List.set_cons_zero, List.set_cons_succ])
      refine wpAnyS_done (by kernel_rfl) (NoPanic.normal ?_) _
      have hX := HI.out.next (by rw [HZ.out.1]) hww HP.out.hF H6.out.1 H6.out.2.1 H6.out.2.2 HREL.out.1 HREL.out.2 ho7 hb7 hg7
      have HN := Lib.hid hX
      clear hX ho7 hb7 hg7 hSd q26 qf26 OWN6
      go_wp2_with fail
      go_roundw
      case rel => exact ⟨j + 1, _, _, by omega, by go_num, HN.out⟩
      case measure => simp [intOf]; omega
    · obtain rfl : j = ss.length := by omega
      obtain ⟨outs, k1, l1, hst⟩ : ∃ outs k1 l1, NInv F ww (20001 + 20 * (d : Int) + (ss.length : Int)) k l n o vv ss.length env (fun k l b _ _ _ => evN d k l b env n (st.map WFr.gf)) k1 l1 [t, t] [y, no] (evSubsN (evN d) env n k l t.args ss = some (outs, k1, l1)) (keptN d k l n o t ss y no env (st.map WFr.gf) = none) true (.slice sa ss.length sc) outs a1 a2 ta c1 c2 t.args.length tc i0 w (W2.heap.size + 1) 0 (.slice none 0 0) [] wr := by
        have hss := (HP.out.fit.keep HP.out.hv).1
        have hI := HI.out
        rcases hI.mode with ⟨outs, kj, lj, _, hev, hol, hwr, hkj, hlj, hrep, _⟩ | ⟨hev, s, hwr, hs0, hs1⟩
        · rw [List.take_length, List.take_of_length_le (by omega)] at hev
          refine ⟨outs, kj, lj, { but := hI.but, zw := hI.zw, box := hI.box, res := hI.res, bnd := hI.bnd, blk := hI.blk, own := World.ownsRow_nil _ _ _ _, fr := fun g hg => by simp [Value.ownBlock] at hg, mode := .inl ⟨[], kj, lj, hev, by simp [evSubsN], rfl, hwr, hkj, hlj, by simp [encNs, Reps_nil], ?_⟩ }⟩
          rw [hol]
          refine hI.own.rep (fun g hg => ⟨.inr (by have h1 := hI.fr g hg; have h2 := HZ.out.1; omega), by simp [Value.ownBlock]⟩) ?_
          exact (Rep.keep fun b o hf ho => ⟨⟨hf.1, by simp [Value.ownBlock]⟩, ho⟩).2 _ _ hrep
        · exact ⟨[], 0, 0, { but := hI.but, zw := hI.zw, box := hI.box, res := hI.res, bnd := hI.bnd, blk := hI.blk, own := World.ownsRow_nil _ _ _ _, fr := fun g hg => by simp [Value.ownBlock] at hg, mode := .inr ⟨by unfold keptN; rw [hev]; rfl, s, hwr, hs0, by omega⟩ }⟩
      obtain ⟨ka, kc, hk⟩ : ∃ a c, Value.slice sa ss.length sc = .slice a ss.length c := ⟨_, _, rfl⟩
      rw [hk] at hst
      have HST := Lib.hid hst; clear hst hk
      have hss15 : ss.length ≤ 15 := by
        have hokt := okMs_at _ HP.out.ok vv _ HP.out.hv
        rw [okM] at hokt
        have h1 := (args_atoms hokt.1).2
        have h2 := (HP.out.fit.keep HP.out.hv).1
        omega
      clear HI y0 y1 y3 q0 q1 q2 q3 qf z5 hlt hj
      go_wp2_with fail
      clear y2
      go_loopw [14] (fun i wr => ∃ (j : Nat) (sv : Value) (us : List Value), j ≤ 2 ∧ i = .int .i64 j ∧ NInv F ww (20001 + 20 * (d : Int) + (ss.length : Int)) k l n o vv ss.length env (fun k l b _ _ _ => evN d k l b env n (st.map WFr.gf)) k1 l1 [t, t] [y, no] (evSubsN (evN d) env n k l t.args ss = some (outs, k1, l1)) (keptN d k l n o t ss y no env (st.map WFr.gf) = none) true (.slice ka ss.length kc) outs a1 a2 ta c1 c2 t.args.length tc i0 w (W2.heap.size + 1) j sv us wr) (fun i _ => 2 - (intOf i).toNat)
      case atStart => exact ⟨0, _, _, by omega, rfl, HST.out⟩
      case round =>
        rename_i wr
        obtain ⟨j, sv1, us, hj, rfl, hinv⟩ := hrel
        obtain ⟨sa, sc, e⟩ := hinv.own.slice
        subst e
        obtain ⟨y0, y1, y2, y3⟩ := cells4 hinv.box
        obtain ⟨q0, q1, q2, q3, qlt, qf⟩ := hinv.blk.cells
        have HI := Lib.hid hinv; clear hinv
        by_cases hlt : j < 2
        · have hlt' : (j : Int) < 2 := by omega
          have hyes : Rep F w (.sl 51 4 [y, no].length (encNs [y, no])) (.slice a2 2 c2) := by
            have hrb := HP.out.rb
            rw [encN_ask] at hrb
            simp only [Reps_cons, Reps_nil] at hrb
            obtain ⟨_, _, e0, _, _, _, rfl, _, _, _, rfl, _, _, _, rfl, h3, _⟩ := hrb
            simp only [List.cons.injEq] at e0
            obtain ⟨_, _, _, e2, _⟩ := e0
            rw [e2]; exact h3
          obtain ⟨ya, yc, e, hyat⟩ := AtNs.of hyes
          simp only [Value.slice.injEq] at e
          obtain ⟨rfl, _, rfl⟩ := e
          obtain ⟨kb, ko, s', v', a2', n2', c2', a3', n3', c3', sd, e, hkb, hsd, g0, g1, g2, g3, hrs⟩ := hyat j hlt
          subst e
          have hkp := HP.out.fit.keep HP.out.hv
          have hne : kb ≠ ww := node_ne HP.out.wri g0
          have p0 := (HI.out.but.cell (p := ⟨kb, ko + j * 4, none⟩) hkb hne).trans g0
          have p1 := (HI.out.but.cell (p := ⟨kb, ko + j * 4 + 1, none⟩) hkb hne).trans g1
          have p2 := (HI.out.but.cell (p := ⟨kb, ko + j * 4 + 2, none⟩) hkb hne).trans g2
          have p3 := (HI.out.but.cell (p := ⟨kb, ko + j * 4 + 3, none⟩) hkb hne).trans g3
          have hbd : But (· = ww) w wr.drew := HI.out.but.drew
          have hlow : ∀ b, (F b ∧ b < w.heap.size) → ¬ (b = ww) ∧ (F b ∧ b < w.heap.size) := fun b hb => ⟨HP.out.hF b hb.1, hb⟩
          have hrsd : Reps (fun i => F i ∧ i < w.heap.size) wr.drew (encN sd) [str s', .int .i64 v', .slice a2' n2' c2', .slice a3' n3' c3'] := (Reps.low hrs).but hbd hlow
          have hred := (Rep.low HP.out.re).but hbd hlow
          have hrsv := (Rep.low HP.out.rs).but hbd hlow
          have hel := HP.out.el; have hnl := HP.out.nl; have hld := HP.out.ld; have hdd := HP.out.d20; have hkk := HP.out.k200; have hstl := HP.out.stl
          have hfj : EvFit H sd env (st.map WFr.gf) := by
            rcases (by omega : j = 0 ∨ j = 1) with rfl | rfl
            · simp at hsd; subst hsd; exact hkp.2.2.2.1
            · simp at hsd; subst hsd; exact hkp.2.2.2.2
          have hwj : wfB sd := by
            rcases (by omega : j = 0 ∨ j = 1) with rfl | rfl
            · simp at hsd; subst hsd; exact HP.out.wf.1.2.1
            · simp at hsd; subst hsd; exact HP.out.wf.1.2.2
          have htj : [t, t][j]? = some t := by
            rcases (by omega : j = 0 ∨ j = 1) with rfl | rfl <;> rfl
          have htake := evSubsN_take (f := fun k l b _ _ _ => evN d k l b env n (st.map WFr.gf)) (env := env) (n := n) (k := k1) (l := l1) htj hsd
          obtain ⟨oo, hCC, hR1, hR2⟩ : ∃ oo, Calls Tryz.prog 34 #[.pointer (some ⟨ww, 0, none⟩), .agg #[str s', .int .i64 v', .slice a2' n2' c2', .slice a3' n3' c3'], .slice (some ⟨eb, eo, none⟩) env.length ecap, sv, .int .i64 (n : Nat)] wr.drew (WritePost (fun i => F i ∧ i < w.heap.size) ww (20001 + 20 * (d : Int) + (ss.length : Int) + ((j + 1 : Nat) : Int)) oo wr.drew) ∧
              (oo = none → keptN d k l n o t ss y no env (st.map WFr.gf) = none) ∧
              (∀ x, oo = some x → ∃ zs, evSubsN (evN d) env n k l t.args ss = some (outs, k1, l1) ∧ evSubsN (fun k l b _ _ _ => evN d k l b env n (st.map WFr.gf)) env n k1 l1 ([t, t].take (j + 1)) ([y, no].take (j + 1)) = some (zs ++ [x.1], x.2.1, x.2.2) ∧ zs.length = j ∧ x.2.1 ≤ k ∧ x.2.2 ≤ l ∧ Reps (fun i => Fx F w 4 i ∧ (Value.slice sa j sc).ownBlock ≠ some i) wr (encNs zs) us ∧
                Rep (fun i => Fx F w 4 i ∧ (Value.slice sa j sc).ownBlock ≠ some i) wr (.sl 51 4 outs.length (encNs outs)) (.slice ka ss.length kc)) := by
            rcases HI.out.mode with ⟨zs, kj, lj, hA, hev, hol, hwr, hkj, hlj, hrep, hrk⟩ | ⟨hev, s, hwr, hs0, hs1⟩
            · refine ⟨evN d kj lj sd env n (st.map WFr.gf), (IH.out _ ww kj lj n H sd env st s' v' a2' a3' n2' c2' n3' c3' _ _ wr.drew { wri := hwr, hF := fun i hi => HP.out.hF i hi.1, ld := by omega, d20 := hdd, k200 := by omega, fit := hfj, hn := HP.out.hn, el := by omega, nl := by omega, stl := by omega, ok := okMs_mono (by omega) _ HP.out.ok, okg := okGs_mono (by omega) _ HP.out.okg, wf := ⟨hwj, HP.out.wf.2⟩, rb := hrsd, re := hred, rs := hrsv }).mono ?_, fun h => ?_, fun x h => ?_⟩
              · rintro en w' ⟨q1, q2, q3, q4, q5, q6, q7, q8, q9, q10, q11, q12⟩
                exact ⟨q1, q2, q3, q4, q5, q6, q7, q8, q9, q10, fun h => by obtain ⟨st, u1, u2, u3⟩ := q11 h; exact ⟨st, u1, u2, by omega⟩, q12⟩
              · have hno : evSubsN (fun k l b _ _ _ => evN d k l b env n (st.map WFr.gf)) env n k1 l1 [t, t] [y, no] = none := by
                  refine evSubsN_none (j + 1) _ _ _ _ ?_
                  rw [htake, hev]; simp only [Option.bind_some]; rw [h]; rfl
                exact keptN_none hA hno
              · have hle := evN_left _ _ _ _ _ _ _ _ _ _ h
                exact ⟨zs, hA, by rw [htake, hev]; simp only [Option.bind_some]; rw [h]; rfl, hol, Nat.le_trans hle.1 hkj, Nat.le_trans hle.2 hlj, hrep, hrk⟩
            · refine ⟨none, (write_dead ww s _ s' v' a2' a3' n2' c2' n3' c3' rfl _ _ n wr.drew hwr hs0 (by omega)).mono ?_, fun _ => hev, fun y h => by simp at h⟩
              rintro en w' ⟨rfl, q1, q2⟩
              exact ⟨_, _, _, _, _, _, _, _, rfl, q1, fun _ => ⟨_, q2, by omega, by omega⟩, fun x h => by simp at h⟩
          have CC := Lib.hid hCC
          have HREL := Lib.hid (And.intro hR1 hR2)
          have hmx : j + 1 ≤ maxLen := by unfold maxLen; omega
          have hby : (j + 1) * 72 ≤ 140737488355328 := by omega
          have h04 : 0 < 4 := by omega
          have hqw : ¬ (W2.heap.size + 1 = ww) := by rw [HZ.out.1]; omega
          have NB := Lib.hid (show ¬ (Value.slice sa j sc).ownBlock = some (W2.heap.size + 1) from fun e => by have := HI.out.fr _ e; omega)
          have OWN := Lib.hid (fun (w6 : World) (h6 : But (· = ww) wr.drew w6) => (HI.out.own.keep (w' := w6) fun g o hg hh => by
            have := HI.out.fr g hg
            rw [h6.block g (lt_of_heap hh) (fun e => by have e : g = ww := e; rw [HZ.out.1] at this; omega)]; exact hh))
          have hz2 := HZ.out.1
          have SX : Hid (∀ w', But (fun i => i = ww ∨ (Value.slice sa j sc).ownBlock = some i) wr w' → w'.cell? ⟨W2.heap.size + 1, 3, none⟩ = some (.slice sa j sc) ∧ w'.cell? ⟨w.heap.size, 3, none⟩ = some (.slice (some ⟨kb, ko, none⟩) 2 c2) ∧
              w'.cell? ⟨kb, ko + j * 4, none⟩ = some (str s') ∧ w'.cell? ⟨kb, ko + j * 4 + 1, none⟩ = some (.int .i64 v') ∧ w'.cell? ⟨kb, ko + j * 4 + 2, none⟩ = some (.slice a2' n2' c2') ∧ w'.cell? ⟨kb, ko + j * 4 + 3, none⟩ = some (.slice a3' n3' c3') ∧ True ∧ True) := by
            show ∀ w', _ → _
            intro w' hb'
            have key : ∀ {p : Addr} {u : Value}, p.block < W2.heap.size + 2 → p.block ≠ ww → wr.cell? p = some u → w'.cell? p = some u := fun hp hne hu =>
              (hb'.cell (World.block_lt_of_cell? wr _ hu) (fun e => e.elim hne (fun e => by have := HI.out.fr _ e; omega))).trans hu
            exact ⟨key (by show W2.heap.size + 1 < _; omega) hqw q3, key (by show w.heap.size < _; omega) (by show w.heap.size ≠ ww; omega) y3, key (by show kb < _; omega) hne p0, key (by show kb < _; omega) hne p1, key (by show kb < _; omega) hne p2, key (by show kb < _; omega) hne p3, trivial, trivial⟩
          have q2 : wr.cell? ⟨W2.heap.size + 1, 3, none⟩ = some (.slice sa j sc) := q3
          have qf2 := qf 3
          clear hkp hne hlow hrsd hrsv hred htake hR1 hR2 hCC hyes hyat g0 g1 g2 g3 hrs hsd htj hfj hwj qf hbd hz2 y0 y1 y2 y3 q0 q1 q3 p0 p1 p2 p3
          go_wp2_with fail
          refine wp_region_noPanic ?_
          refine wp_region_S (fun w' => But (fun i => i = ww ∨ (Value.slice sa j sc).ownBlock = some i) wr w') (fun i => i == 15) (by kernel_rfl) ?_
          have hSd : But (fun i => i = ww ∨ (Value.slice sa j sc).ownBlock = some i) wr wr.drew := (But.refl _ wr).drew
          refine wpAnyS_take 0 (v := ?_) (by kernel_rfl) (by kernel_rfl) (by kernel_rfl) (by kernel_rfl) (fun _ _ _ _ h => h) hSd ?_ ?_
          rotate_left
          · (intro oi ho; simp at ho; subst ho; refine Or.inl ⟨by rfl, fun w' hw' => ?_⟩; go_simp; try with_reducible rfl)
          (intro d hd; simp at hd; subst hd; simp only [Act.put, List.setIfInBounds_toArray, List.set_cons_zero, List.set_cons_succ])
          refine wpAnyS_take 1 (v := ?_) (by kernel_rfl) (by kernel_rfl) (by kernel_rfl) (by kernel_rfl) (fun _ _ _ _ h => h) hSd ?_ ?_
          rotate_left
          · (intro oi ho; simp at ho; subst ho; refine Or.inl ⟨by rfl, fun w' hw' => ?_⟩; obtain ⟨e0, e1, e2, e3, e4, e5, e6, e7⟩ := SX.out w' hw'; go_simp; try with_reducible rfl)
          (intro d hd; simp at hd; subst hd; simp only [Act.put, List.setIfInBounds_toArray, List.set_cons_zero, List.set_cons_succ])
          refine wpAnyS_take 2 (v := ?_) (by kernel_rfl) (by kernel_rfl) (by kernel_rfl) (by kernel_rfl) (fun _ _ _ _ h => h) hSd ?_ ?_
          rotate_left
          · (intro oi ho; simp at ho; subst ho; refine Or.inl ⟨by rfl, fun w' hw' => ?_⟩; go_simp; try with_reducible rfl)
          (intro d hd; simp at hd; subst hd; simp only [Act.put, List.setIfInBounds_toArray, List.set_cons_zero, List.set_cons_succ])
          refine wpAnyS_take 3 (v := ?_) (by kernel_rfl) (by kernel_rfl) (by kernel_rfl) (by kernel_rfl) (fun _ _ _ _ h => h) hSd ?_ ?_
          rotate_left
          · (intro oi ho; simp at ho; subst ho; refine Or.inl ⟨by rfl, fun w' hw' => ?_⟩; go_simp; try with_reducible rfl)
          (intro d hd; simp at hd; subst hd; simp only [Act.put, List.setIfInBounds_toArray, List.set_cons_zero, List.set_cons_succ])
          refine wpAnyS_take 4 (v := ?_) (by kernel_rfl) (by kernel_rfl) (by kernel_rfl) (by kernel_rfl) (fun _ _ _ _ h => h) hSd ?_ ?_
          rotate_left
          · (intro oi ho; simp at ho; subst ho; refine Or.inl ⟨by rfl, fun w' hw' => ?_⟩; obtain ⟨e0, e1, e2, e3, e4, e5, e6, e7⟩ := SX.out w' hw'; go_simp; try with_reducible rfl)
          (intro d hd; simp at hd; subst hd; simp only [Act.put, List.setIfInBounds_toArray, List.set_cons_zero, List.set_cons_succ])
          refine wpAnyS_take 5 (v := ?_) (by kernel_rfl) (by kernel_rfl) (by kernel_rfl) (by kernel_rfl) (fun _ _ _ _ h => h) hSd ?_ ?_
          rotate_left
          · (intro oi ho; simp at ho; subst ho; refine Or.inl ⟨by rfl, fun w' hw' => ?_⟩; go_simp; try with_reducible rfl)
          (intro d hd; simp at hd; subst hd; simp only [Act.put, List.setIfInBounds_toArray, List.set_cons_zero, List.set_cons_succ])
          refine wpAnyS_take 6 (v := ?_) (by kernel_rfl) (by kernel_rfl) (by kernel_rfl) (by kernel_rfl) (fun _ _ _ _ h => h) hSd ?_ ?_
          rotate_left
          · (intro oi ho; simp at ho; subst ho; refine Or.inl ⟨by rfl, fun w' hw' => ?_⟩; go_simp; try with_reducible rfl)
          (intro d hd; simp at hd; subst hd; simp only [Act.put, List.setIfInBounds_toArray, List.set_cons_zero, List.set_cons_succ])
          refine wpAnyS_take 7 (v := ?_) (by kernel_rfl) (by kernel_rfl) (by kernel_rfl) (by kernel_rfl) (fun _ _ _ _ h => h) hSd ?_ ?_
          rotate_left
          · (intro oi ho; simp at ho; subst ho; refine Or.inl ⟨by rfl, fun w' hw' => ?_⟩; obtain ⟨e0, e1, e2, e3, e4, e5, e6, e7⟩ := SX.out w' hw'; go_simp; try with_reducible rfl)
          (intro d hd; simp at hd; subst hd; simp only [Act.put, List.setIfInBounds_toArray, List.set_cons_zero, List.set_cons_succ])
          refine wpAnyS_take 8 (v := ?_) (by kernel_rfl) (by kernel_rfl) (by kernel_rfl) (by kernel_rfl) (fun _ _ _ _ h => h) hSd ?_ ?_
          rotate_left
          · (intro oi ho; simp at ho; subst ho; refine Or.inl ⟨by rfl, fun w' hw' => ?_⟩; go_simp; try with_reducible rfl)
          (intro d hd; simp at hd; subst hd; simp only [Act.put, List.setIfInBounds_toArray, List.set_cons_zero, List.set_cons_succ])
          refine wpAnyS_take 9 (v := ?_) (by kernel_rfl) (by kernel_rfl) (by kernel_rfl) (by kernel_rfl) (fun _ _ _ _ h => h) hSd ?_ ?_
          rotate_left
          · (intro oi ho; simp at ho; subst ho; refine Or.inl ⟨by rfl, fun w' hw' => ?_⟩; go_simp; try with_reducible rfl)
          (intro d hd; simp at hd; subst hd; simp only [Act.put, List.setIfInBounds_toArray, List.set_cons_zero, List.set_cons_succ])
          refine wpAnyS_take 10 (v := ?_) (by kernel_rfl) (by kernel_rfl) (by kernel_rfl) (by kernel_rfl) (fun _ _ _ _ h => h) hSd ?_ ?_
          rotate_left
          · (intro oi ho; simp at ho; subst ho; refine Or.inl ⟨by rfl, fun w' hw' => ?_⟩; go_simp; try with_reducible rfl)
          (intro d hd; simp at hd; subst hd; simp only [Act.put, List.setIfInBounds_toArray, List.set_cons_zero, List.set_cons_succ])
          refine wpAnyS_one 11 (by kernel_rfl) ?_
          intro o11 ho K' hK
          (simp at ho; subst ho)
          go_simp
          go_at_call 34
          (with_reducible refine CC.out.mono ?_)
          rintro en6 w6 ⟨s6, v6, b1, m1, d1, b2, m2, d2, rfl, hb6, hn6, hy6⟩
          have HB6 : Hid (But (fun i => i = ww ∨ (Value.slice sa j sc).ownBlock = some i) wr w6) := hSd.trans (hb6.weak fun i _ h => .inl h)
          have q26 := but_cell hb6 hqw q2
          have ql6 := Nat.lt_of_lt_of_le qlt hb6.size
          have qf26 := but_free hb6 hqw qlt qf2
          have OWN6 := (OWN.out _ hb6).alloc (.cells #[str s6, .int .i64 v6, .slice b1 m1 d1, .slice b2 m2 d2] 51)
          have H6 := Lib.hid (And.intro hb6 (And.intro hn6 hy6)); clear hb6 hn6 hy6
          refine hK.out _ _ ?_ ?_
          · exact fun _ => HB6.out
          clear hK K'
          (try simp only [Act.put, List.setIfInBounds_toArray, List.set_cons_zero, List.set_cons_succ])
          refine wpAnyS_one 12 (by kernel_rfl) ?_
          intro o12 ho K' hK
          (simp at ho; subst ho)
          go_simp
          refine hK.out _ _ ?_ ?_
          · exact fun _ => HB6.out.alloc _
          clear hK K'
          (try simp only [Act.put, List.setIfInBounds_toArray, List.set_cons_zero, List.set_cons_succ])
          refine wpAnyS_one 13 (by kernel_rfl) ?_
          intro o13 ho K' hK
          (simp at ho; subst ho)
          refine step_append_gen (by rfl) _ _ _ (by rfl) 51 (.agg #[str [], .int .i64 0, .slice none 0 0, .slice none 0 0]) 4 72 Tryz.underlying49 Tryz.infoN rfl h04 (.slice sa j sc) j us (by rfl) OWN6 _ 1 [str s6, .int .i64 v6, .slice b1 m1 d1, .slice b2 m2 d2] (by rfl) (SrcSl.lit4 #[str s6, .int .i64 v6, .slice b1 m1 d1, .slice b2 m2 d2] rfl (by simp [str, Value.oneCell']) _ rfl) hmx hby ?_
          intro a' c' w7 ho7 hb7 hg7
          refine hK.out _ _ ?_ ?_
          · exact fun _ => (HB6.out.alloc _).trans (hb7.weak fun i _ h => .inr h)
          clear hK K'
          (try simp only [Act.put, List.setIfInBounds_toArray, List.set_cons_zero, List.set_cons_succ])
          have hc7 := out_cell hb7 NB.out q26
          have hf7 := out_free hb7 NB.out ql6 qf26
          refine wpAnyS_one 14 (by kernel_rfl) ?_
          intro o14 ho K' hK
          (simp at ho; subst ho)
          go_simp
          refine hK.out _ _ ?_ ?_
          · exact fun _ => (HB6.out.alloc _).trans (hb7.weak fun i _ h => .inr h)
          clear hK K'
          (try simp only [Act.put, List.setIfInBounds_toArray, List.set_cons_zero, List.set_cons_succ])
          refine wpAnyS_one 15 (by kernel_rfl) ?_
          intro o15 ho K' hK
          (simp at ho; subst ho)
          go_simp
          refine hK.out _ _ ?_ ?_
          · intro h; simp at h
          clear hK K'
          (try simp only [Act.put, List.setIfInBounds_toArray, List.set_cons_zero, List.set_cons_succ])
          refine wpAnyS_done (by kernel_rfl) (NoPanic.normal ?_) _
          have hX := HI.out.next (by rw [HZ.out.1]) hww HP.out.hF H6.out.1 H6.out.2.1 H6.out.2.2 HREL.out.1 HREL.out.2 ho7 hb7 hg7
          have HN := Lib.hid hX
          clear hX ho7 hb7 hg7 hSd q26 qf26 OWN6
          go_wp2_with fail
          go_roundw
          case rel => exact ⟨j + 1, _, _, by omega, by go_num, HN.out⟩
          case measure => simp [intOf]; omega
        · obtain rfl : j = 2 := by omega
          obtain ⟨r0, r1, r2, r3, rlt, rf⟩ := HI.out.res.cells
          have rf0 := rf 0; have rf1 := rf 1; have rf2 := rf 2; have rf3 := rf 3
          have q2' : wr.cell? ⟨W2.heap.size + 1, 2, none⟩ = some (.slice ka ss.length kc) := q2
          have q3' : wr.cell? ⟨W2.heap.size + 1, 3, none⟩ = some (.slice sa 2 sc) := q3
          clear q2 q3 y0 y1 y2 y3 qf rf
          go_wp2_with fail
          have hnn : keptN d k l n o t ss y no env (st.map WFr.gf) = none → ∃ s, Wri wr ww (-1) s ∧ 0 ≤ s ∧ s ≤ 20001 + 20 * ((d : Int) + 1) := by
            intro h0
            rcases HI.out.mode with ⟨zs, kj, lj, hA, hev, hol, hwr, hkj, hlj, hrep, hrk⟩ | ⟨hev, s, hwr, hs0, hs1⟩
            · obtain ⟨z1, z2, _, h2⟩ := keptN_of (o := o) hA hev
              rw [h2] at h0; simp at h0
            · exact ⟨s, hwr, hs0, by omega⟩
          have hyy : ∀ x, keptN d k l n o t ss y no env (st.map WFr.gf) = some x → Wri wr ww (x.2.1 : Nat) (20000 - (x.2.2 : Nat)) ∧ Reps (fun i => (F i ∧ i < w.heap.size) ∨ w.heap.size + 2 ≤ i) wr (encN x.1) [str [], .int .i64 (o : Nat), .slice ka ss.length kc, .slice sa 2 sc] := by
            intro x hx
            rcases HI.out.mode with ⟨zs, kj, lj, hA, hev, hol, hwr, hkj, hlj, hrep, hrk⟩ | ⟨hev, s, hwr, hs0, hs1⟩
            · obtain ⟨z1, z2, hz, h2⟩ := keptN_of (o := o) hA hev
              rw [h2] at hx
              simp only [Option.some.injEq] at hx
              subst hx
              subst hz
              refine ⟨hwr, ?_⟩
              have hgg : ∀ (i : Nat) (y : Obj), (Fx F w 4 i ∧ (Value.slice sa 2 sc).ownBlock ≠ some i) → wr.heap[i]? = some y → ((F i ∧ i < w.heap.size) ∨ w.heap.size + 2 ≤ i) ∧ wr.heap[i]? = some y := fun i y hi hy => ⟨by
                rcases hi.1 with h | h
                · exact .inl h
                · exact .inr (by omega), hy⟩
              have hrk2 := (Rep.keep hgg).1 _ _ hrk
              have hlo : outs.length = ss.length := by
                rw [Rep_sl] at hrk2
                obtain ⟨_, a, cap, e, _⟩ := hrk2
                simp only [Value.slice.injEq] at e
                exact e.2.1.symm
              rw [encN_ask]
              refine Reps_cons.2 ⟨_, _, rfl, Rep_val.2 rfl, Reps_cons.2 ⟨_, _, rfl, Rep_val.2 rfl, Reps_cons.2 ⟨_, _, rfl, hrk2, Reps_cons.2 ⟨_, _, rfl, ?_, Reps_nil.2 rfl⟩⟩⟩⟩
              exact HI.out.own.rep (fun g hg => .inr (by have h1 := HI.out.fr g hg; have h2 := HZ.out.1; omega)) ((Rep.keep hgg).2 _ _ hrep)
            · rw [hev] at hx; simp at hx
          obtain ⟨W4, hW4, s0', s1', s2', s3', hpost⟩ := write_ret (F := F) (D := 20001 + 20 * ((d : Int) + 1)) (o := keptN d k l n o t ss y no env (st.map WFr.gf)) (s := []) (v := (o : Nat)) (a1 := ka) (n1 := ss.length) (c1 := kc) (a2 := sa) (n2 := 2) (c2 := sc) HI.out.but hww HI.out.res hnn hyy
          rw [← hW4]
          exact bodyPost_ret (v := .agg #[str [], .int .i64 (o : Nat), .slice ka ss.length kc, .slice sa 2 sc]) (by simp [results, Tryz.results65, go_sem, s0', s1', s2', s3']) rfl hpost

end Go.Proofs.YtibnnbdpfkgfhaaGreatDoor

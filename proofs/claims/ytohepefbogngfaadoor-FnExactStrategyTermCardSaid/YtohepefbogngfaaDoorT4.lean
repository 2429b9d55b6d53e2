/- Appending onto a slice that is full and is not owned: a new row. No program is named. -/
import Derived.Test.YtohepefbogngfaaDoorApp
namespace Go.Proofs.YtohepefbogngfaaDoor
open Go.RowKit

/-- A slice whose cells are read, none to spare. -/
def FullSl (size : Nat) (v : Value) (n : Nat) (xs : List Value) (w : World) : Prop :=
  xs.length = n * size ∧ ((∃ b, v = .slice (some b) n n ∧ ∀ (j : Nat) u, xs[j]? = some u → w.cell? (b.add j) = some u) ∨ (v = .slice none 0 0 ∧ n = 0))

theorem run_append_full {P : Program} {w : World} (t ty e : TypeId) (i : TypeInfo) (z : Value) (size bytes : Nat) (ht : P.underlying t = some (.slice e)) (hi : P.info? e = some i) (hz : i.zero = some z)
    (hsize : i.size = size) (hby : i.bytes = bytes) (hzs : z.cells.size = size)
    (v : Value) (n : Nat) (xs : List Value) (hown : FullSl size v n xs w)
    (x : Value) (m : Nat) (news : List Value) (hs : SrcSl size x m news w) (hm : 0 < m) (h63 : n + m ≤ maxLen) (hbytes : (n + m) * bytes ≤ 140737488355328) :
    ∃ c' w', (Builtin.append_ #[t, t] ty #[v, x]).run P w = .ok (.slice (some ⟨w.heap.size, 0, none⟩) (n + m) c') w' ∧ Own w' e size (.slice (some ⟨w.heap.size, 0, none⟩) (n + m) c') (n + m) (xs ++ news) ∧ Below w.heap.size w w' := by
  obtain ⟨hl, h1, ⟨a, c, rfl, hnews⟩ | ⟨rfl, rfl⟩⟩ := hs
  · subst hsize
    subst hby
    have hsmall : n + m ≤ 9223372036854775807 := by simp only [maxLen] at h63; omega
    have hlen : (xs ++ news).length = (n + m) * i.size := by rw [List.length_append, hown.1, hl, Nat.add_mul]
    have grown : ∀ (old : Nat), 
        Own (w.drew.alloc (.cells (xs.toArray ++ news.toArray ++ Builtin.zeroCells z.cells (grownCap w (n + m) old e - (n + m))) e)) e i.size
          (.slice (some ⟨w.heap.size, 0, none⟩) (n + m) (grownCap w (n + m) old e)) (n + m) (xs ++ news) ∧
        Below w.heap.size w (w.drew.alloc (.cells (xs.toArray ++ news.toArray ++ Builtin.zeroCells z.cells (grownCap w (n + m) old e - (n + m))) e)) := by
      intro old
      have hge := grownCap_ge w (n + m) old e
      have hcm : grownCap w (n + m) old e ≤ maxLen := grownCap_le_maxLen w (n + m) old e h63
      refine ⟨⟨hlen, .inr ⟨w.heap.size, _, _, rfl, Nat.zero_le _, Go.heap_alloc_new w.drew _, hge, hcm, ?_, ?_⟩⟩, ((Below.refl _ w).drew).alloc (Nat.le_refl _) _⟩
      · simp only [Array.size_append, List.size_toArray, size_zeroCells, hzs, hown.1, hl, ← Nat.add_mul]
        congr 1
        omega
      · simp only [Array.toList_append, List.append_assoc]
        rw [← List.append_assoc, ← hlen]
        exact List.take_left
    rcases hown.2 with ⟨b, rfl, holds⟩ | ⟨rfl, rfl⟩
    · have hr := run_append_grow (P := P) w t ty e i z ht hi hz b n n xs hown.1 holds a m c news hl hnews (by omega) (by omega) (growslice_fits (by omega) hbytes)
      exact ⟨_, _, hr, grown n⟩
    · have hx : xs = [] := List.eq_nil_of_length_eq_zero (by simpa using hown.1)
      subst hx
      have hr := run_append_nil (P := P) w t ty e i z ht hi hz a m c news hl hnews (by omega) (by omega) (by have hb := hbytes; simp only [Nat.zero_add] at hb; omega)
      have hgr := grown 0
      simp only [Nat.zero_add, List.nil_append, Array.empty_append] at hgr ⊢
      exact ⟨_, _, hr, hgr⟩
  · omega

theorem wpList_append_full {P : Program} {w : World} {ops : Array Oper} {rest : List Oper} {o : Oper} {a : Act} {Q : Exit → Act → World → Prop} (hgd : o.guard = none) (s x : Operand) (t : TypeId)
    (ho : o.op = .call { callee := .builtin .append, args := #[s, x], argTypes := #[t, t] })
    (e : TypeId) (z : Value) (size bytes : Nat) (ht : P.underlying t = some (.slice e)) (hi : (P.info? e).map (fun i => (i.zero, i.size, i.bytes)) = some (some z, size, bytes))
    (hzs : z.cells.size = size)
    (v : Value) (n : Nat) (xs : List Value) (hs : a.eval s = v) (hown : FullSl size v n xs w)
    (y : Value) (m : Nat) (news : List Value) (hx : a.eval x = y) (hsrc : SrcSl size y m news w) (hm : 0 < m)
    (h63 : n + m ≤ maxLen) (hbytes : (n + m) * bytes ≤ 140737488355328)
    (h : ∀ c' w', Own w' e size (.slice (some ⟨w.heap.size, 0, none⟩) (n + m) c') (n + m) (xs ++ news) → Below w.heap.size w w' →
      wpList P ops Q rest (a.put o.dst (.slice (some ⟨w.heap.size, 0, none⟩) (n + m) c')) w') : wpList P ops Q (o :: rest) a w := by
  refine wpList_plain hgd fun K hK => ?_
  obtain ⟨i, hi, hz, hsize, hby⟩ := info_parts hi
  obtain ⟨c', w', hr, h2, h3⟩ := run_append_full (P := P) (w := w) t o.type e i z size bytes ht hi hz hsize hby hzs v n xs hown y m news hsrc hm h63 hbytes
  unfold Oper.wp execOp
  simp only [ho, resolve, invoke, builtin, Sem.run_bind, Sem.run_pure, Result.andThen_ok, List.map_toArray, List.map_cons, List.map_nil, hs, hx, hr]
  exact hK _ _ (h c' w' h2 h3)

/-- Nothing appended: the slice itself. -/
theorem run_append_none {P : Program} {w : World} (t ty e : TypeId) (i : TypeInfo) (size : Nat) (ht : P.underlying t = some (.slice e)) (hi : P.info? e = some i) (a : Option Addr) (n c : Nat) (hn : n ≤ c) (hc : c ≤ maxLen)
    (x : Value) (hs : SrcSl size x 0 [] w) :
    (Builtin.append_ #[t, t] ty #[.slice a n c, x]).run P w = .ok (.slice a n c) w := by
  obtain ⟨hl, h1, ⟨b, c', rfl, _⟩ | ⟨rfl, _⟩⟩ := hs
  · cases a <;> simp [Builtin.append_, run_underlying ht, sizeOf, typeInfo, hi, Builtin.lenOf, Builtin.firstCells, hn, storeCells, loadCells, loadCellsFrom]
  · cases a <;> simp [Builtin.append_, run_underlying ht, sizeOf, typeInfo, hi, Builtin.lenOf, Builtin.firstCells, hn, storeCells, loadCells, loadCellsFrom]

/-- The same at a step of a region that draws its order. -/
theorem step_append_full {P : Program} {w : World} {ops : Array Oper} {o : Oper} {a : Act} {K : Act → World → Prop} {Q : Exit → Act → World → Prop} {E : Prop} (hgd : o.guard = none) (s x : Operand) (t : TypeId)
    (ho : o.op = .call { callee := .builtin .append, args := #[s, x], argTypes := #[t, t] })
    (e : TypeId) (z : Value) (size bytes : Nat) (ht : P.underlying t = some (.slice e)) (hi : (P.info? e).map (fun i => (i.zero, i.size, i.bytes)) = some (some z, size, bytes))
    (hzs : z.cells.size = size)
    (v : Value) (n : Nat) (xs : List Value) (hs : a.eval s = v) (hown : FullSl size v n xs w)
    (y : Value) (m : Nat) (news : List Value) (hx : a.eval x = y) (hsrc : SrcSl size y m news w) (hm : 0 < m)
    (h63 : n + m ≤ maxLen) (hbytes : (n + m) * bytes ≤ 140737488355328)
    (h : ∀ c' w', Own w' e size (.slice (some ⟨w.heap.size, 0, none⟩) (n + m) c') (n + m) (xs ++ news) → Below w.heap.size w w' →
      K (a.put o.dst (.slice (some ⟨w.heap.size, 0, none⟩) (n + m) c')) w') : if Region.wanted o (yielded ops a.tmps) = true then Oper.wp P o a w K Q else E := by
  rw [if_pos (by simp [Region.wanted, hgd])]
  obtain ⟨i, hi, hz, hsize, hby⟩ := info_parts hi
  obtain ⟨c', w', hr, h2, h3⟩ := run_append_full (P := P) (w := w) t o.type e i z size bytes ht hi hz hsize hby hzs v n xs hown y m news hsrc hm h63 hbytes
  unfold Oper.wp execOp
  simp only [ho, resolve, invoke, builtin, Sem.run_bind, Sem.run_pure, Result.andThen_ok, List.map_toArray, List.map_cons, List.map_nil, hs, hx, hr]
  exact h c' w' h2 h3
theorem step_append_none {P : Program} {w : World} {ops : Array Oper} {o : Oper} {a : Act} {K : Act → World → Prop} {Q : Exit → Act → World → Prop} {E : Prop} (hgd : o.guard = none) (s x : Operand) (t : TypeId)
    (ho : o.op = .call { callee := .builtin .append, args := #[s, x], argTypes := #[t, t] })
    (e : TypeId) (z : Value) (size bytes : Nat) (ht : P.underlying t = some (.slice e)) (hi : (P.info? e).map (fun i => (i.zero, i.size, i.bytes)) = some (some z, size, bytes))
    (b : Option Addr) (n c : Nat) (hn : n ≤ c) (hc : c ≤ maxLen) (hs : a.eval s = .slice b n c)
    (y : Value) (hx : a.eval x = y) (hsrc : SrcSl size y 0 [] w)
    (h : K (a.put o.dst (.slice b n c)) w) : if Region.wanted o (yielded ops a.tmps) = true then Oper.wp P o a w K Q else E := by
  rw [if_pos (by simp [Region.wanted, hgd])]
  obtain ⟨i, hi, hz, hsize, hby⟩ := info_parts hi
  have hr := run_append_none (P := P) (w := w) t o.type e i size ht hi b n c hn hc y hsrc
  unfold Oper.wp execOp
  simp only [ho, resolve, invoke, builtin, Sem.run_bind, Sem.run_pure, Result.andThen_ok, List.map_toArray, List.map_cons, List.map_nil, hs, hx, hr]
  exact h
/-- A slice that is read, cut to its length. -/
theorem FullSl.ofRep {F : Nat → Prop} {w : World} {e : TypeId} {sz n : Nat} {cs : List DV} {a : Option Addr} {c : Nat} (h : Rep F w (.sl e sz n cs) (.slice a n c)) (hone : ∀ us, Reps F w cs us → ∀ u ∈ us, u.oneCell' = true) :
    ∃ xs, Reps F w cs xs ∧ FullSl sz (.slice a n n) n xs w := by
  obtain ⟨xs, h1, h2, _, h4⟩ := SrcSl.ofRep h hone
  refine ⟨xs, h1, h2, ?_⟩
  rcases h4 with ⟨b, c', e1, h5⟩ | ⟨e1, rfl⟩
  · injection e1 with e2 e3 e4
    subst e2
    exact .inl ⟨b, rfl, h5⟩
  · injection e1 with e2 e3 e4
    subst e2
    exact .inr ⟨rfl, rfl⟩

theorem FullSl.drew {w : World} {size n : Nat} {v : Value} {xs : List Value} (h : FullSl size v n xs w) : FullSl size v n xs w.drew := h
theorem Rep.cutSl {F : Nat → Prop} {w : World} {e : TypeId} {sz n : Nat} {cs : List DV} {a : Option Addr} {c : Nat} (h : Rep F w (.sl e sz n cs) (.slice a n c)) : Rep F w (.sl e sz n cs) (.slice a n n) := by
  rw [Rep_sl] at h ⊢
  obtain ⟨hl, a', cap, e1, hn, hz, h⟩ := h
  injection e1 with e2 e3 e4
  subst e2; subst e4
  exact ⟨hl, a, n, rfl, Nat.le_refl _, fun ha => by have := hz ha; omega, h⟩

end Go.Proofs.YtohepefbogngfaaDoor

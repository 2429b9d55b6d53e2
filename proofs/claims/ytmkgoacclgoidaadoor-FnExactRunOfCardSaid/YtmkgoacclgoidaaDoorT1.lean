/- Regions that draw their order, by one law that holds at each step; rows that a call owns, told apart by tags. No program is named. -/
import Derived.Test.YtmkgoacclgoidaaDoorApp
import Derived.RegionTactic
namespace Go.Proofs.YtmkgoacclgoidaaDoor
open Go.RowKit

section
variable {P : Program} {ops : Array Oper} {Q : Exit → Act → World → Prop} {md : Region.Mode}

def set1 (b : Nat → Bool) (i : Nat) : Nat → Bool := fun k => if k = i then true else b k
def lsOf (L : Array Bool) : Nat → Bool := fun k => L.getD k false
theorem lsOf_set (L : Array Bool) (i : Nat) (h : i < L.size) : lsOf (L.setIfInBounds i true) = set1 (lsOf L) i := by
  funext k
  unfold lsOf set1
  by_cases hk : k = i
  · subst hk; rw [if_pos rfl]; simp [h]
  · rw [if_neg hk]; simp only [Array.getD_eq_getD_getElem?]; rw [Array.getElem?_setIfInBounds_ne (fun e => hk e.symm)]

def openOf (L : Array Bool) : Nat := (L.toList.filter fun x => !x).length
theorem openOf_set (L : Array Bool) (i : Nat) (h : i < L.size) (hf : L.getD i true = false) : openOf (L.setIfInBounds i true) + 1 = openOf L := by
  unfold openOf
  rw [Array.toList_setIfInBounds]
  have key : ∀ (l : List Bool) (i : Nat), i < l.length → l.getD i true = false → ((l.set i true).filter fun x => !x).length + 1 = (l.filter fun x => !x).length := by
    intro l
    induction l with
    | nil => intro i h; simp at h
    | cons x l ih =>
      intro i h hf
      cases i with
      | zero => simp at hf; subst hf; simp
      | succ i =>
        have := ih i (by simpa using h) (by simpa using hf)
        simp only [List.set_cons_succ, List.filter_cons]
        cases x <;> simp <;> omega
  refine key _ i (by simpa using h) ?_
  simpa [Array.getD_eq_getD_getElem?, List.getD_eq_getElem?_getD] using hf

/-- A law that holds at the start, at each step and settles the end settles the region, whatever its order. -/
theorem wpAny_inv {I : (Nat → Bool) → Act → World → Prop} (hacy : ∀ (i : Nat) (o : Oper), ops[i]? = some o → ∀ e ∈ o.after, e.on < i)
    (step : ∀ (b : Nat → Bool) (a : Act) (w : World) (i : Nat) (o : Oper), ops[i]? = some o → b i = false → (∀ e ∈ o.after, Region.binds md e = true → b e.on = true) → I b a w →
      ∀ K' : Act → World → Prop, (∀ a w, I (set1 b i) a w → K' a w) → if Region.wanted o (yielded ops a.tmps) = true then Oper.wp P o a w K' Q else K' (a.put o.dst undef) w)
    (done : ∀ (b : Nat → Bool) (a : Act) (w : World), (∀ i, i < ops.size → b i = true) → I b a w → Q .normal a w) :
    ∀ (fuel : Nat) (L : Array Bool) (a : Act) (w : World), L.size = ops.size → openOf L ≤ fuel → I (lsOf L) a w → wpAny P md ops Q fuel L a w := by
  have hready : ∀ (L : Array Bool), L.size = ops.size → Region.ready md ops L = [] → ∀ i, i < ops.size → lsOf L i = true := by
    intro L hL hr i
    induction i using Nat.strongRecOn with
    | _ i ih =>
      intro hi
      cases hb : lsOf L i with
      | true => rfl
      | false =>
        exfalso
        have : i ∈ Region.ready md ops L := by
          unfold Region.ready
          rw [List.mem_filter]
          refine ⟨List.mem_range.2 hi, ?_⟩
          have ho : ops[i]? = some ops[i] := by simp [hi]
          rw [ho]
          have h1 : L.getD i true = false := by
            unfold lsOf at hb
            have h2 : L[i]? = some L[i] := by simp [hL, hi]
            simp only [Array.getD_eq_getD_getElem?, h2, Option.getD_some] at hb ⊢
            exact hb
          simp only [h1, Bool.not_false, Bool.true_and, Option.map_some, Option.getD_some]
          rw [Array.all_eq_true']
          intro e he
          rw [Bool.or_eq_true]
          right
          exact ih e.on (hacy i _ ho e he) (by have := hacy i _ ho e he; omega)
        rw [hr] at this; simp at this
  intro fuel
  induction fuel with
  | zero =>
    intro L a w hL hf hI
    have hall : ∀ i, i < ops.size → lsOf L i = true := by
      intro i hi
      cases hb : lsOf L i with
      | true => rfl
      | false =>
        exfalso
        have : openOf L = 0 := by omega
        unfold openOf at this
        rw [List.length_eq_zero_iff, List.filter_eq_nil_iff] at this
        unfold lsOf at hb
        have h2 : L[i]? = some L[i] := by simp [hL, hi]
        simp only [Array.getD_eq_getD_getElem?, h2, Option.getD_some] at hb
        have := this L[i] (by simp)
        rw [hb] at this; simp at this
    rw [wpAny]
    refine ⟨?_, done _ _ _ hall hI⟩
    cases hr : Region.ready md ops L with
    | nil => rfl
    | cons i rs =>
      exfalso
      have hm : i ∈ Region.ready md ops L := by rw [hr]; simp
      unfold Region.ready at hm
      rw [List.mem_filter, List.mem_range] at hm
      obtain ⟨hi, h2⟩ := hm
      have := hall i hi
      unfold lsOf at this
      have h3 : L[i]? = some L[i] := by simp [hL, hi]
      simp only [Array.getD_eq_getD_getElem?, h3, Option.getD_some] at this h2
      rw [this] at h2; simp at h2
  | succ fuel ih =>
    intro L a w hL hf hI
    rw [wpAny]
    refine ⟨fun hr => done _ _ _ (hready L hL hr) hI, fun i hi => ?_⟩
    unfold Region.ready at hi
    rw [List.mem_filter, List.mem_range] at hi
    obtain ⟨hi, h2⟩ := hi
    have ho : ops[i]? = some ops[i] := by simp [hi]
    rw [ho] at h2
    simp only [Option.map_some, Option.getD_some, Bool.and_eq_true, Bool.not_eq_true'] at h2
    obtain ⟨h3, h4⟩ := h2
    rw [Array.all_eq_true'] at h4
    have h5 : lsOf L i = false := by
      unfold lsOf
      have : L[i]? = some L[i] := by simp [hL, hi]
      simp only [Array.getD_eq_getD_getElem?, this, Option.getD_some] at *
      exact h3
    refine wpOp_step ho fun K' hK => ?_
    refine step (lsOf L) a w i ops[i] ho h5 (fun e he hb => ?_) hI K' fun a' w' h' => hK a' w' (ih _ _ _ (by simpa using hL) (by have := openOf_set L i (by omega) h3; omega) (by rw [lsOf_set L i (by omega)]; exact h'))
    have := h4 e he
    rw [hb] at this
    simpa [lsOf] using this

/-- Each operation waits for earlier ones alone. -/
def acyB (ops : Array Oper) : Bool := (List.range ops.size).all fun i => match ops[i]? with
  | some o => o.after.toList.all fun e => decide (e.on < i)
  | none => true
theorem acy_of (h : acyB ops = true) (i : Nat) (o : Oper) (ho : ops[i]? = some o) (e) (he : e ∈ o.after) : e.on < i := by
  have hi : i < ops.size := (Array.getElem?_eq_some_iff.1 ho).1
  unfold acyB at h
  rw [List.all_eq_true] at h
  have := h i (List.mem_range.2 hi)
  rw [ho] at this
  simp only [List.all_eq_true] at this
  have := this e (by simpa using he)
  simpa using this

/-- A step of a region that draws its order, of an operation that leaves a value. -/
theorem step_value {o : Oper} {a : Act} {w w' : World} {v : Value} {K' : Act → World → Prop} {E : Prop} (hg : o.guard = none) (hr : (execOp a.eval o).run P w = .ok (.value v) w') (h : K' (a.put o.dst v) w') :
    if Region.wanted o (yielded ops a.tmps) = true then Oper.wp P o a w K' Q else E := by
  rw [if_pos (by simp [Region.wanted, hg])]
  unfold Oper.wp
  rw [hr]
  exact h
end

theorem SrcSl.slice1 {size : Nat} {x : Value} {m : Nat} {news : List Value} {w : World} (h : SrcSl size x m news w) : ∃ a c, x = .slice a m c := by
  obtain ⟨_, _, ⟨a, c, rfl, _⟩ | ⟨rfl, rfl⟩⟩ := h
  · exact ⟨_, _, rfl⟩
  · exact ⟨_, _, rfl⟩

theorem setc_at {w : World} {b o : Nat} {c : Array Value} {e : TypeId} {u : Value} (h : w.heap[b]? = some (.cells c e (0, 0))) : (w.setCell ⟨b, o, none⟩ u).heap[b]? = some (.cells (c.setIfInBounds o u) e (0, 0)) := by
  have hlt := lt_of_heap h
  have h' : w.heap[b] = .cells c e (0, 0) := by simpa [Array.getElem?_eq_getElem hlt] using h
  show (w.heap.modify b _)[b]? = _
  rw [Array.getElem?_eq_getElem (by simpa using hlt), Array.getElem_modify_self, h']
  simp
theorem cells2 {w : World} {P : Nat} {u v : Value} {T : TypeId} (h : w.heap[P]? = some (.cells #[u, v] T (0, 0))) : w.cell? ⟨P, 0, none⟩ = some u ∧ w.cell? ⟨P, 1, none⟩ = some v ∧ w.frozen? ⟨P, 0, none⟩ = false ∧ w.frozen? ⟨P, 1, none⟩ = false :=
  ⟨by simp [World.cell?, h], by simp [World.cell?, h], by simp [World.frozen?, h], by simp [World.frozen?, h]⟩

/-- A row that the call owns; its block bears the tag. -/
def Res (B : Nat) (tag : Nat → Nat) (t : Nat) (w : World) (e : TypeId) (v : Value) (n : Nat) (xs : List Value) : Prop :=
  Own w e 1 v n xs ∧ ∀ g, v.ownBlock = some g → tag g = t ∧ B ≤ g
def retag (tag : Nat → Nat) (g t : Nat) : Nat → Nat := fun i => if i = g then t else tag i
theorem Res.alloc {B : Nat} {tag : Nat → Nat} {t : Nat} {w : World} {e : TypeId} {v : Value} {n : Nat} {xs : List Value} (h : Res B tag t w e v n xs) (o : Obj) (t' : Nat) : Res B (retag tag w.heap.size t') t (w.alloc o) e v n xs :=
  ⟨h.1.alloc o, fun g hg => ⟨by have := h.1.lt hg; unfold retag; rw [if_neg (by omega)]; exact (h.2 g hg).1, (h.2 g hg).2⟩⟩
theorem Res.but {B : Nat} {tag : Nat → Nat} {t : Nat} {w w' : World} {e : TypeId} {v : Value} {n : Nat} {xs : List Value} (h : Res B tag t w e v n xs) {m : Nat → Prop} (hb : But m w w') (hm : ∀ g, m g → tag g ≠ t) (t' : Nat) : Res B (retag tag w.heap.size t') t w' e v n xs :=
  ⟨h.1.keep fun g o hg ho => by rw [hb.block g (lt_of_heap ho) (fun hmg => hm g hmg (h.2 g hg).1)]; exact ho, fun g hg => ⟨by have := h.1.lt hg; unfold retag; rw [if_neg (by omega)]; exact (h.2 g hg).1, (h.2 g hg).2⟩⟩
theorem Res.lit {B : Nat} (tag : Nat → Nat) (t : Nat) {w : World} (hB : B ≤ w.heap.size) (e : TypeId) (cs : Array Value) (n : Nat) (hm : n ≤ maxLen) (hs : cs.size = n) : Res B (retag tag w.heap.size t) t (w.alloc (.cells cs e)) e (.slice (some ⟨w.heap.size, 0, none⟩) n n) n cs.toList :=
  ⟨Own.lit cs n hm (by omega), fun g hg => by
    simp [Value.ownBlock] at hg; subst hg
    exact ⟨by unfold retag; rw [if_pos rfl], hB⟩⟩
/-- The four steps of a row: a new one, what is at hand appended, a new one of one cell, it appended. -/
structure RowInv (B : Nat) (tag : Nat → Nat) (t1 t2 : Nat) (e : TypeId) (n : Nat) (xs : List Value) (u : Value) (A C A' C' : Bool) (vA vC vA' vC' : Value) (w : World) : Prop where
  a : A = true → C = false → (∃ g, vA = .slice (some ⟨g, 0, none⟩) 0 0) ∧ Res B tag t1 w e vA 0 []
  c : C = true → C' = false → Res B tag t1 w e vC n xs
  a' : A' = true → C' = false → (∃ g, vA' = .slice (some ⟨g, 0, none⟩) 1 1) ∧ Res B tag t2 w e vA' 1 [u]
  c' : C' = true → Res B tag t1 w e vC' (n + 1) (xs ++ [u])
  cl : C' = true → C = true

section
variable {B : Nat} {tag : Nat → Nat} {t1 t2 : Nat} {e : TypeId} {n : Nat} {xs : List Value} {u : Value} {A C A' C' : Bool} {vA vC vA' vC' : Value} {w : World}
theorem RowInv.start (B : Nat) (tag : Nat → Nat) (t1 t2 : Nat) (e : TypeId) (n : Nat) (xs : List Value) (u vA vC vA' vC' : Value) (w : World) : RowInv B tag t1 t2 e n xs u false false false false vA vC vA' vC' w :=
  ⟨fun h => Bool.noConfusion h, fun h => Bool.noConfusion h, fun h => Bool.noConfusion h, fun h => Bool.noConfusion h, fun h => Bool.noConfusion h⟩
theorem RowInv.alloc (h : RowInv B tag t1 t2 e n xs u A C A' C' vA vC vA' vC' w) (o : Obj) (t' : Nat) : RowInv B (retag tag w.heap.size t') t1 t2 e n xs u A C A' C' vA vC vA' vC' (w.alloc o) :=
  ⟨fun h1 h2 => ⟨(h.a h1 h2).1, (h.a h1 h2).2.alloc o t'⟩, fun h1 h2 => (h.c h1 h2).alloc o t', fun h1 h2 => ⟨(h.a' h1 h2).1, (h.a' h1 h2).2.alloc o t'⟩, fun h1 => (h.c' h1).alloc o t', h.cl⟩
theorem RowInv.but (h : RowInv B tag t1 t2 e n xs u A C A' C' vA vC vA' vC' w) {w' : World} {m : Nat → Prop} (hb : But m w w') (hm : ∀ g, m g → tag g ≠ t1 ∧ tag g ≠ t2) (t' : Nat) : RowInv B (retag tag w.heap.size t') t1 t2 e n xs u A C A' C' vA vC vA' vC' w' :=
  ⟨fun h1 h2 => ⟨(h.a h1 h2).1, (h.a h1 h2).2.but hb (fun g k => (hm g k).1) t'⟩, fun h1 h2 => (h.c h1 h2).but hb (fun g k => (hm g k).1) t', fun h1 h2 => ⟨(h.a' h1 h2).1, (h.a' h1 h2).2.but hb (fun g k => (hm g k).2) t'⟩, fun h1 => (h.c' h1).but hb (fun g k => (hm g k).1) t', h.cl⟩
theorem Res.low {t : Nat} {v : Value} {k : Nat} {ys : List Value} (h : Res B tag t w e v k ys) {w' : World} {m : Nat → Prop} (hb : But m w w') (hm : ∀ g, m g → g < B) : Res B tag t w' e v k ys :=
  ⟨h.1.keep fun g o hg ho => by rw [hb.block g (lt_of_heap ho) (fun hmg => by have := hm g hmg; have := (h.2 g hg).2; omega)]; exact ho, h.2⟩
theorem RowInv.low (h : RowInv B tag t1 t2 e n xs u A C A' C' vA vC vA' vC' w) {w' : World} {m : Nat → Prop} (hb : But m w w') (hm : ∀ g, m g → g < B) : RowInv B tag t1 t2 e n xs u A C A' C' vA vC vA' vC' w' :=
  ⟨fun h1 h2 => ⟨(h.a h1 h2).1, (h.a h1 h2).2.low hb hm⟩, fun h1 h2 => (h.c h1 h2).low hb hm, fun h1 h2 => ⟨(h.a' h1 h2).1, (h.a' h1 h2).2.low hb hm⟩, fun h1 => (h.c' h1).low hb hm, h.cl⟩
theorem RowInv.stepA (h : RowInv B tag t1 t2 e n xs u A C A' C' vA vC vA' vC' w) (hB : B ≤ w.heap.size) : RowInv B (retag tag w.heap.size t1) t1 t2 e n xs u true C A' C' (.slice (some ⟨w.heap.size, 0, none⟩) 0 0) vC vA' vC' (w.alloc (.cells #[] e)) :=
  ⟨fun _ _ => ⟨⟨_, rfl⟩, Res.lit tag t1 hB e #[] 0 (Nat.zero_le _) rfl⟩, fun h1 h2 => (h.c h1 h2).alloc _ _, fun h1 h2 => ⟨(h.a' h1 h2).1, (h.a' h1 h2).2.alloc _ _⟩, fun h1 => (h.c' h1).alloc _ _, h.cl⟩
theorem RowInv.stepA' (h : RowInv B tag t1 t2 e n xs u A C A' C' vA vC vA' vC' w) (hB : B ≤ w.heap.size) : RowInv B (retag tag w.heap.size t2) t1 t2 e n xs u A C true C' vA vC (.slice (some ⟨w.heap.size, 0, none⟩) 1 1) vC' (w.alloc (.cells #[u] e)) :=
  ⟨fun h1 h2 => ⟨(h.a h1 h2).1, (h.a h1 h2).2.alloc _ _⟩, fun h1 h2 => (h.c h1 h2).alloc _ _, fun _ _ => ⟨⟨_, rfl⟩, Res.lit tag t2 hB e #[u] 1 (by unfold maxLen; omega) rfl⟩, fun h1 => (h.c' h1).alloc _ _, h.cl⟩
/-- What an append leaves. -/
theorem Res.app {t : Nat} {v v' : Value} {k m : Nat} {ys zs : List Value} {w' : World} (h : Res B tag t w e v k ys) (hB : B ≤ w.heap.size) (ho : Own w' e 1 v' m zs) (hg : ∀ g, v'.ownBlock = some g → v.ownBlock = some g ∨ g = w.heap.size) : Res B (retag tag w.heap.size t) t w' e v' m zs :=
  ⟨ho, fun g k => by
    unfold retag
    rcases hg g k with k | k
    · have := h.1.lt k
      rw [if_neg (by omega)]; exact h.2 g k
    · rw [if_pos k]; exact ⟨rfl, by omega⟩⟩
theorem RowInv.stepC (h : RowInv B tag t1 t2 e n xs u A C A' C' vA vC vA' vC' w) (hA : A = true) (hC : C = false) (ht : t1 ≠ t2) (hB : B ≤ w.heap.size) {v' : Value} {w' : World}
    (ho : Own w' e 1 v' n xs) (hb : But (fun b => vA.ownBlock = some b) w w') (hg : ∀ g, v'.ownBlock = some g → vA.ownBlock = some g ∨ g = w.heap.size) :
    RowInv B (retag tag w.heap.size t1) t1 t2 e n xs u A true A' C' vA v' vA' vC' w' := by
  have hC' : C' = false := by
    cases C' with
    | false => rfl
    | true => have := h.cl rfl; rw [hC] at this; exact this.symm
  subst hA; subst hC; subst hC'
  exact ⟨fun _ h2 => Bool.noConfusion h2, fun _ _ => (h.a rfl rfl).2.app hB ho hg,
   fun h1 h2 => ⟨(h.a' h1 h2).1, (h.a' h1 h2).2.but hb (fun g k => by rw [((h.a rfl rfl).2.2 g k).1]; exact ht) t1⟩, fun h1 => Bool.noConfusion h1, fun h1 => Bool.noConfusion h1⟩
theorem RowInv.stepC' (h : RowInv B tag t1 t2 e n xs u A C A' C' vA vC vA' vC' w) (hC : C = true) (hC' : C' = false) (hB : B ≤ w.heap.size) {v' : Value} {w' : World}
    (ho : Own w' e 1 v' (n + 1) (xs ++ [u])) (hg : ∀ g, v'.ownBlock = some g → vC.ownBlock = some g ∨ g = w.heap.size) :
    RowInv B (retag tag w.heap.size t1) t1 t2 e n xs u A C A' true vA vC vA' v' w' := by
  subst hC; subst hC'
  exact ⟨fun _ h2 => Bool.noConfusion h2, fun _ h2 => Bool.noConfusion h2, fun _ h2 => Bool.noConfusion h2, fun _ => (h.c rfl rfl).app hB ho hg, fun _ => rfl⟩
end
theorem Own.src1 {w : World} {e : TypeId} {g : Nat} {u : Value} (h : Own w e 1 (.slice (some ⟨g, 0, none⟩) 1 1) 1 [u]) (hu : u.oneCell' = true) : SrcSl 1 (.slice (some ⟨g, 0, none⟩) 1 1) 1 [u] w := by
  obtain ⟨_, ⟨h0, _⟩ | ⟨g', cap, cur, hv, _, hg, hnc, _, hcs, htk⟩⟩ := h
  · cases h0
  · simp only [Value.slice.injEq, Option.some.injEq, Addr.mk.injEq] at hv
    obtain ⟨⟨rfl, _, _⟩, _, rfl⟩ := hv
    refine ⟨rfl, by simpa using hu, .inl ⟨_, _, rfl, fun j v hj => ?_⟩⟩
    cases j with
    | zero =>
      simp at hj; subst hj
      have h1 : cur.toList[0]? = some u := by
        have : (cur.toList.take 1)[0]? = some u := by rw [htk]; rfl
        rwa [List.getElem?_take, if_pos (by omega)] at this
      rw [show ((⟨g, 0, none⟩ : Addr).add 0) = ⟨g, 0, none⟩ from rfl]
      unfold World.cell?
      rw [hg]
      simpa using h1
    | succ j => simp at hj

end Go.Proofs.YtmkgoacclgoidaaDoor

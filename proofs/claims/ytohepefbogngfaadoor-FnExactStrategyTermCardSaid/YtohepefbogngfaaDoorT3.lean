/- Regions that draw their order: loads are taken first though the region's last operation stores into a cell that is loaded. No program is named. -/
import Derived.Test.YtohepefbogngfaaDoorApp
import Derived.RegionTactic
import Derived.Deep.RegionHeld3
namespace Go.Proofs.YtohepefbogngfaaDoor
open Go.RowKit

section
variable {P : Program} {ops : Array Oper} {Q : Exit → Act → World → Prop} {md : Region.Mode} {S : World → Prop} {T : Nat → Bool}

/-- Whatever order is picked from here on, and S holds behind every operation but those of T. -/
def wpAnyS (P : Program) (md : Region.Mode) (ops : Array Oper) (Q : Exit → Act → World → Prop) (S : World → Prop) (T : Nat → Bool) : Nat → Array Bool → Act → World → Prop
  | 0, listed, a, w => Region.ready md ops listed = [] ∧ Q .normal a w
  | fuel + 1, listed, a, w =>
    (Region.ready md ops listed = [] → Q .normal a w) ∧
    ∀ i ∈ Region.ready md ops listed, wpOp P ops Q i (fun a' w' => (T i = false → S w') ∧ wpAnyS P md ops Q S T fuel (listed.setIfInBounds i true) a' w') a w

theorem wpAny_of_S : ∀ (fuel : Nat) (listed : Array Bool) (a : Act) (w : World), wpAnyS P md ops Q S T fuel listed a w → wpAny P md ops Q fuel listed a w
  | 0, _, _, _, h => h
  | fuel + 1, _, _, _, h => ⟨h.1, fun i hi => wpOp_mono (fun a' w' h' => wpAny_of_S fuel _ a' w' h'.2) (h.2 i hi)⟩

theorem ready_keep {md : Region.Mode} {ops : Array Oper} {L : Array Bool} {i j : Nat} (h : j ∈ Region.ready md ops L) (hne : j ≠ i) : j ∈ Region.ready md ops (L.setIfInBounds i true) := by
  unfold Region.ready at *
  rw [List.mem_filter] at *
  refine ⟨h.1, ?_⟩
  have h2 := h.2
  rw [Bool.and_eq_true] at *
  refine ⟨?_, ?_⟩
  · have e : (L.setIfInBounds i true).getD j true = L.getD j true := by
      simp only [Array.getD_eq_getD_getElem?]
      rw [Array.getElem?_setIfInBounds_ne (fun e => hne e.symm)]
    rw [e]; exact h2.1
  · have h3 := h2.2
    cases ho : ops[j]? with
    | none => rw [ho] at h3; simp at h3
    | some o =>
      rw [ho] at h3
      simp only [Option.map_some, Option.getD_some] at h3 ⊢
      rw [Array.all_eq_true'] at *
      intro e he
      have h4 := h3 e he
      rw [Bool.or_eq_true] at *
      rcases h4 with h4 | h4
      · exact .inl h4
      · refine .inr ?_
        by_cases hk : e.on = i
        · rw [hk]
          simp only [Array.getD_eq_getD_getElem?] at h4 ⊢
          rw [hk] at h4
          rcases Nat.lt_or_ge i L.size with h' | h'
          · simp [h']
          · rw [Array.getElem?_eq_none h'] at h4; simp at h4
        · simp only [Array.getD_eq_getD_getElem?] at h4 ⊢
          rw [Array.getElem?_setIfInBounds_ne (fun e => hk e.symm)]; exact h4
theorem ready_spec {md : Region.Mode} {ops : Array Oper} {L : Array Bool} {j : Nat} (h : j ∈ Region.ready md ops L) :
    L.getD j true = false ∧ ∃ o, ops[j]? = some o ∧ ∀ e ∈ o.after, Region.binds md e = true → L.getD e.on false = true := by
  unfold Region.ready at h
  rw [List.mem_filter] at h
  have h2 := h.2
  rw [Bool.and_eq_true] at h2
  refine ⟨by simpa using h2.1, ?_⟩
  cases ho : ops[j]? with
  | none => have := h2.2; rw [ho] at this; simp at this
  | some o =>
    refine ⟨o, rfl, fun e he hb => ?_⟩
    have h3 := h2.2
    rw [ho] at h3
    simp only [Option.map_some, Option.getD_some] at h3
    rw [Array.all_eq_true'] at h3
    have h4 := h3 e he
    rw [Bool.or_eq_true] at h4
    rcases h4 with h4 | h4
    · rw [hb] at h4; simp at h4
    · exact h4

theorem wpAnyS_first {i : Nat} {oi : Oper} {v : Value} (hi : ops[i]? = some oi) (hsel : ∀ (j : Nat) (o : Oper) cs b, ops[j]? = some o → o.op ≠ .select cs b)
    (hQ : ∀ c a w, Q (.panic c) (a.put oi.dst v) w → Q (.panic c) a w)
    (hT : ∀ j oj, ops[j]? = some oj → T j = true → ∃ e ∈ oj.after, Region.binds md e = true ∧ e.on = i) (hTi : T i = false) :
    ∀ (fuel : Nat) (listed : Array Bool) (a : Act) (w : World),
      (∀ j oj, ops[j]? = some oj → j ≠ i → listed.getD j true = false → (∀ e ∈ oj.after, Region.binds md e = true → e.on ≠ i) → oi.apart ops oj = true) →
      i ∈ Region.ready md ops listed → YieldsIf P ops S oi v a → S w →
      wpAnyS P md ops Q S T fuel (listed.setIfInBounds i true) (a.put oi.dst v) w → wpAnyS P md ops Q S T (fuel + 1) listed a w := by
  intro fuel
  induction fuel with
  | zero =>
    intro listed a w _ hr hy hS H
    refine ⟨fun h => (by rw [h] at hr; cases hr), fun j hj => ?_⟩
    by_cases hji : j = i
    · subst hji; exact hy.wpOp hi hS ⟨fun _ => hS, H⟩
    · have := ready_keep hj hji
      rw [H.1] at this
      cases this
  | succ fuel ih =>
    intro listed a w hfree hr hy hS H
    refine ⟨fun h => (by rw [h] at hr; cases hr), fun j hj => ?_⟩
    by_cases hji : j = i
    · subst hji; exact hy.wpOp hi hS ⟨fun _ => hS, H⟩
    · have h1 := H.2 j (ready_keep hj hji)
      obtain ⟨hjun, oj, hoj, hall⟩ := ready_spec hj
      have hnot : ∀ e ∈ oj.after, Region.binds md e = true → e.on ≠ i := fun e he hb heq => by
        have h1 := hall e he hb
        have h0 := (ready_spec hr).1
        rw [heq] at h1
        simp only [Array.getD_eq_getD_getElem?] at h0 h1
        rcases Nat.lt_or_ge i listed.size with h' | h'
        · simp [h'] at h0 h1; rw [h0] at h1; cases h1
        · simp [Array.getElem?_eq_none h'] at h1
      have hTj : T j = false := by
        cases hT' : T j with
        | false => rfl
        | true =>
          obtain ⟨e, he, hb, heq⟩ := hT j oj hoj hT'
          exact absurd heq (hnot e he hb)
      have h2 := wpOp_putIf hoj (hfree j oj hoj hji hjun hnot) (fun cs b => hsel i oi cs b hi) (fun cs b => hsel j oj cs b hoj) hQ hy h1
      have hfree' : ∀ k ok, ops[k]? = some ok → k ≠ i → (listed.setIfInBounds j true).getD k true = false →
          (∀ e ∈ ok.after, Region.binds md e = true → e.on ≠ i) → oi.apart ops ok = true := fun k ok hk hki hun hno => by
        refine hfree k ok hk hki ?_ hno
        by_cases hjk : j = k
        · subst hjk; exact hjun
        · simp only [Array.getD_eq_getD_getElem?] at hun ⊢
          rw [Array.getElem?_setIfInBounds_ne hjk] at hun; exact hun
      refine wpOp_mono (fun a' w' h3 => ⟨h3.2.1, ih (listed.setIfInBounds j true) a' w' hfree' (ready_keep hr (Ne.symm hji)) h3.1 (h3.2.1 hTj) ?_⟩) h2
      rw [Array.setIfInBounds_comm _ _ hji]
      exact h3.2.2

/-- Whether each operation of T waits for number i. -/
def waitT (md : Region.Mode) (ops : Array Oper) (T : Nat → Bool) (i : Nat) : Bool :=
  !T i && (List.range ops.size).all fun j => !T j || ((ops[j]?).map fun o => o.after.any fun e => Region.binds md e && e.on == i).getD true
theorem waitT_spec {i : Nat} (h : waitT md ops T i = true) : T i = false ∧ ∀ j oj, ops[j]? = some oj → T j = true → ∃ e ∈ oj.after, Region.binds md e = true ∧ e.on = i := by
  unfold waitT at h
  rw [Bool.and_eq_true] at h
  refine ⟨by simpa using h.1, fun j oj hj hT => ?_⟩
  have h2 := h.2
  rw [List.all_eq_true] at h2
  have h3 := h2 j (List.mem_range.2 (Array.getElem?_eq_some_iff.1 hj).1)
  rw [hT, hj] at h3
  simp only [Bool.not_true, Bool.false_or, Option.map_some, Option.getD_some] at h3
  rw [Array.any_eq_true'] at h3
  obtain ⟨e, he, h4⟩ := h3
  rw [Bool.and_eq_true, beq_iff_eq] at h4
  exact ⟨e, he, h4⟩

/-- Number i is taken first. -/
theorem wpAnyS_take (i : Nat) {v : Value} {fuel : Nat} {listed : Array Bool} {a : Act} {w : World}
    (hs : Region.noSelect ops = true) (hf : Region.free md ops listed i = true) (hr : (Region.ready md ops listed).contains i = true) (ht : waitT md ops T i = true)
    (hQ : ∀ d c a w, Q (.panic c) (a.put d v) w → Q (.panic c) a w) (hS : S w)
    (hy : ∀ oi, ops[i]? = some oi → YieldsIf P ops S oi v a)
    (h : ∀ d, (ops[i]?).bind (·.dst) = d → wpAnyS P md ops Q S T fuel (listed.setIfInBounds i true) (a.put d v) w) : wpAnyS P md ops Q S T (fuel + 1) listed a w := by
  have hm : i ∈ Region.ready md ops listed := by simpa using hr
  obtain ⟨_, oi, hi, _⟩ := ready_spec hm
  obtain ⟨h1, h2⟩ := waitT_spec ht
  exact wpAnyS_first hi (Region.noSelect_spec hs) (fun c a w => hQ _ c a w) h2 h1 fuel listed a w (Region.free_spec hi hf) hm (hy oi hi) hS (h _ (by rw [hi]; rfl))

/-- Number i comes next: no other can. -/
theorem wpAnyS_one (i : Nat) {fuel : Nat} {listed : Array Bool} {a : Act} {w : World} (hr : Region.ready md ops listed = [i])
    (h : ∀ o, ops[i]? = some o → ∀ K' : Act → World → Prop, Shut (∀ a w, (T i = false → S w) → wpAnyS P md ops Q S T fuel (listed.setIfInBounds i true) a w → K' a w) →
      if Region.wanted o (yielded ops a.tmps) = true then Oper.wp P o a w K' Q else K' (a.put o.dst undef) w) : wpAnyS P md ops Q S T (fuel + 1) listed a w := by
  refine ⟨fun h0 => by rw [hr] at h0; simp at h0, fun j hj => ?_⟩
  rw [hr] at hj
  simp only [List.mem_singleton] at hj
  subst hj
  obtain ⟨_, o, ho, _⟩ := ready_spec (md := md) (ops := ops) (L := listed) (j := j) (by rw [hr]; simp)
  exact wpOp_step ho (fun K' hK => h o ho K' (fun a w hS hW => hK a w ⟨hS, hW⟩))

/-- Numbers i and j may come next. -/
theorem wpAnyS_two (i j : Nat) {fuel : Nat} {listed : Array Bool} {a : Act} {w : World} (hr : Region.ready md ops listed = [i, j])
    (h : ∀ o, ops[i]? = some o → ∀ K' : Act → World → Prop, Shut (∀ a w, (T i = false → S w) → wpAnyS P md ops Q S T fuel (listed.setIfInBounds i true) a w → K' a w) →
      if Region.wanted o (yielded ops a.tmps) = true then Oper.wp P o a w K' Q else K' (a.put o.dst undef) w)
    (h2 : ∀ o, ops[j]? = some o → ∀ K' : Act → World → Prop, Shut (∀ a w, (T j = false → S w) → wpAnyS P md ops Q S T fuel (listed.setIfInBounds j true) a w → K' a w) →
      if Region.wanted o (yielded ops a.tmps) = true then Oper.wp P o a w K' Q else K' (a.put o.dst undef) w) : wpAnyS P md ops Q S T (fuel + 1) listed a w := by
  refine ⟨fun h0 => by rw [hr] at h0; simp at h0, fun k hk => ?_⟩
  obtain ⟨_, o, ho, _⟩ := ready_spec hk
  rw [hr] at hk
  simp only [List.mem_cons, List.not_mem_nil, or_false] at hk
  rcases hk with rfl | rfl
  · exact wpOp_step ho (fun K' hK => h o ho K' (fun a w hS hW => hK a w ⟨hS, hW⟩))
  · exact wpOp_step ho (fun K' hK => h2 o ho K' (fun a w hS hW => hK a w ⟨hS, hW⟩))

theorem wpAnyS_three (i j k : Nat) {fuel : Nat} {listed : Array Bool} {a : Act} {w : World} (hr : Region.ready md ops listed = [i, j, k])
    (hi : ∀ o, ops[i]? = some o → ∀ K' : Act → World → Prop, Shut (∀ a w, (T i = false → S w) → wpAnyS P md ops Q S T fuel (listed.setIfInBounds i true) a w → K' a w) →
      if Region.wanted o (yielded ops a.tmps) = true then Oper.wp P o a w K' Q else K' (a.put o.dst undef) w)
    (hj : ∀ o, ops[j]? = some o → ∀ K' : Act → World → Prop, Shut (∀ a w, (T j = false → S w) → wpAnyS P md ops Q S T fuel (listed.setIfInBounds j true) a w → K' a w) →
      if Region.wanted o (yielded ops a.tmps) = true then Oper.wp P o a w K' Q else K' (a.put o.dst undef) w)
    (hk : ∀ o, ops[k]? = some o → ∀ K' : Act → World → Prop, Shut (∀ a w, (T k = false → S w) → wpAnyS P md ops Q S T fuel (listed.setIfInBounds k true) a w → K' a w) →
      if Region.wanted o (yielded ops a.tmps) = true then Oper.wp P o a w K' Q else K' (a.put o.dst undef) w) : wpAnyS P md ops Q S T (fuel + 1) listed a w := by
  refine ⟨fun h0 => by rw [hr] at h0; simp at h0, fun x hk => ?_⟩
  obtain ⟨_, o, ho, _⟩ := ready_spec hk
  rw [hr] at hk
  simp only [List.mem_cons, List.not_mem_nil, or_false] at hk
  rcases hk with rfl | rfl | rfl
  · exact wpOp_step ho (fun K' hK => hi o ho K' (fun a w hS hW => hK a w ⟨hS, hW⟩))
  · exact wpOp_step ho (fun K' hK => hj o ho K' (fun a w hS hW => hK a w ⟨hS, hW⟩))
  · exact wpOp_step ho (fun K' hK => hk o ho K' (fun a w hS hW => hK a w ⟨hS, hW⟩))

theorem wpAnyS_four (i j k l : Nat) {fuel : Nat} {listed : Array Bool} {a : Act} {w : World} (hr : Region.ready md ops listed = [i, j, k, l])
    (hi : ∀ o, ops[i]? = some o → ∀ K' : Act → World → Prop, Shut (∀ a w, (T i = false → S w) → wpAnyS P md ops Q S T fuel (listed.setIfInBounds i true) a w → K' a w) →
      if Region.wanted o (yielded ops a.tmps) = true then Oper.wp P o a w K' Q else K' (a.put o.dst undef) w)
    (hj : ∀ o, ops[j]? = some o → ∀ K' : Act → World → Prop, Shut (∀ a w, (T j = false → S w) → wpAnyS P md ops Q S T fuel (listed.setIfInBounds j true) a w → K' a w) →
      if Region.wanted o (yielded ops a.tmps) = true then Oper.wp P o a w K' Q else K' (a.put o.dst undef) w)
    (hk : ∀ o, ops[k]? = some o → ∀ K' : Act → World → Prop, Shut (∀ a w, (T k = false → S w) → wpAnyS P md ops Q S T fuel (listed.setIfInBounds k true) a w → K' a w) →
      if Region.wanted o (yielded ops a.tmps) = true then Oper.wp P o a w K' Q else K' (a.put o.dst undef) w)
    (hl : ∀ o, ops[l]? = some o → ∀ K' : Act → World → Prop, Shut (∀ a w, (T l = false → S w) → wpAnyS P md ops Q S T fuel (listed.setIfInBounds l true) a w → K' a w) →
      if Region.wanted o (yielded ops a.tmps) = true then Oper.wp P o a w K' Q else K' (a.put o.dst undef) w) : wpAnyS P md ops Q S T (fuel + 1) listed a w := by
  refine ⟨fun h0 => by rw [hr] at h0; simp at h0, fun x hk => ?_⟩
  obtain ⟨_, o, ho, _⟩ := ready_spec hk
  rw [hr] at hk
  simp only [List.mem_cons, List.not_mem_nil, or_false] at hk
  rcases hk with rfl | rfl | rfl | rfl
  · exact wpOp_step ho (fun K' hK => hi o ho K' (fun a w hS hW => hK a w ⟨hS, hW⟩))
  · exact wpOp_step ho (fun K' hK => hj o ho K' (fun a w hS hW => hK a w ⟨hS, hW⟩))
  · exact wpOp_step ho (fun K' hK => hk o ho K' (fun a w hS hW => hK a w ⟨hS, hW⟩))
  · exact wpOp_step ho (fun K' hK => hl o ho K' (fun a w hS hW => hK a w ⟨hS, hW⟩))

theorem wpAnyS_done {listed : Array Bool} {a : Act} {w : World} (hr : Region.ready md ops listed = []) (h : Q .normal a w) :
    ∀ fuel, wpAnyS P md ops Q S T fuel listed a w
  | 0 => ⟨hr, h⟩
  | _ + 1 => ⟨fun _ => h, by rw [hr]; simp⟩

/-- The beginning. -/
theorem wp_region_S {id : Nat} {a : Act} {w : World} (S : World → Prop) (T : Nat → Bool) (hm : P.follows .mixedOrders = true)
    (h : wpAnyS P .any ops Q S T ops.size (Array.replicate ops.size false) a w.drew) : (Code.region id ops true).wp P Q a w :=
  wp_region_any hm (wpAny_of_S _ _ _ _ h)

end
theorem out_cell {m : Nat → Prop} {w6 w7 : World} {o : Obj} {ob f : Nat} {u : Value} (hb : But m (w6.alloc o) w7) (hm : ¬ m ob) (h : w6.cell? ⟨ob, f, none⟩ = some u) : w7.cell? ⟨ob, f, none⟩ = some u := by
  have hlt := World.block_lt_of_cell? w6 ⟨ob, f, none⟩ h
  rw [hb.cell (p := ⟨ob, f, none⟩) (by rw [size_alloc]; exact Nat.lt_succ_of_lt hlt) hm]
  exact cell_alloc h
theorem out_free {m : Nat → Prop} {w6 w7 : World} {o : Obj} {ob f : Nat} (hb : But m (w6.alloc o) w7) (hm : ¬ m ob) (hlt : ob < w6.heap.size) (h : w6.frozen? ⟨ob, f, none⟩ = false) : w7.frozen? ⟨ob, f, none⟩ = false := by
  rw [World.frozen?_of_block (w := w6) (by rw [hb.block _ (by rw [size_alloc]; omega) hm, Below.heap_alloc _ _ _ hlt])]
  exact h
theorem own_thru {wr w5 w6 : World} {e : TypeId} {sz n : Nat} {v : Value} {xs : List Value} {rd : Nat} (h : Own wr e sz v n xs) (hg : ∀ g, v.ownBlock = some g → g ≠ rd) (hb5 : But (· = rd) wr w5) (hb6 : But (· = rd) w5 w6) : Own w6 e sz v n xs :=
  h.keep fun g o hgo ho => by
    have hlt := lt_of_heap ho
    rw [hb6.block g (Nat.lt_of_lt_of_le hlt hb5.size) (hg g hgo), hb5.block g hlt (hg g hgo)]; exact ho
theorem but_cell {rd : Nat} {w w' : World} (hb : But (· = rd) w w') {b o : Nat} {u : Value} (hne : b ≠ rd) (h : w.cell? ⟨b, o, none⟩ = some u) : w'.cell? ⟨b, o, none⟩ = some u :=
  (hb.cell (p := ⟨b, o, none⟩) (World.block_lt_of_cell? w ⟨b, o, none⟩ h) hne).trans h
theorem but_free {rd : Nat} {w w' : World} (hb : But (· = rd) w w') {b o : Nat} (hne : b ≠ rd) (hlt : b < w.heap.size) (h : w.frozen? ⟨b, o, none⟩ = false) : w'.frozen? ⟨b, o, none⟩ = false := by
  rw [World.frozen?_of_block (w := w) (hb.block b hlt hne)]; exact h

/-- A row that is not changed can be appended still. -/
theorem SrcSl.thru {w w' : World} {size g n c m : Nat} {news : List Value} {q : Nat → Prop} (h : SrcSl size (.slice (some ⟨g, 0, none⟩) n c) m news w) (hb : But q w w') (hq : ¬ q g) : SrcSl size (.slice (some ⟨g, 0, none⟩) n c) m news w' := by
  obtain ⟨h1, h2, ⟨a, c', e, h3⟩ | ⟨e, _⟩⟩ := h
  · simp only [Value.slice.injEq, Option.some.injEq] at e
    obtain ⟨rfl, rfl, rfl⟩ := e
    refine ⟨h1, h2, .inl ⟨_, _, rfl, fun j u hu => ?_⟩⟩
    have h4 := h3 j u hu
    have hblk : (Addr.add ⟨g, 0, none⟩ j).block = g := by unfold Addr.add; split <;> rfl
    exact (hb.cell (World.block_lt_of_cell? w _ h4) (by rw [hblk]; exact hq)).trans h4
  · simp at e

theorem size_alloc2 (w : World) (o o' : Obj) : ((w.alloc o).alloc o').heap.size = w.heap.size + 1 + 1 := by rw [size_alloc, size_alloc]

end Go.Proofs.YtohepefbogngfaaDoor

/- The walks of a body's parts, its depth and its size. -/
import Derived.Test.YtibnnbdpfkgfhaaGreatDoorW9a
import Derived.Lib.SliceRun
import Derived.Deep.RegionHeld3
namespace Go.Proofs.YtibnnbdpfkgfhaaGreatDoor
open Go.RowKit

set_option maxHeartbeats 400000 in
theorem cloneB_any (n : Nat) (s : Value) (xs : List Value) (w : World) (h : SrcSl 1 s n xs w) (hn : Lim n) :
    Calls Tryz.prog 101 #[s] w fun en w' =>
      ∃ a c, en = .returned (.slice a n c) ∧ Own w' 69 1 (.slice a n c) n xs ∧ Below w.heap.size w w' ∧ (∀ g, (Value.slice a n c).ownBlock = some g → w.heap.size ≤ g) := by
  have hl := hn.le
  obtain ⟨a, c, e⟩ := h.slice
  subst e
  cases a with
  | none =>
    have h0 : n = 0 ∧ c = 0 := by
      obtain ⟨_, _, ⟨a', c', e, _⟩ | ⟨e, h0⟩⟩ := h
      · simp at e
      · simp at e; exact e
    obtain ⟨rfl, rfl⟩ := h0
    have hx : xs = [] := List.eq_nil_of_length_eq_zero (by simpa using h.1)
    subst hx
    have q := fun w => Lib.run_eql_slice_nil (P := Tryz.prog) w 131 69 none 0 0 0 0 Tryz.underlying131
    go_enter Tryz.func101, Tryz.ntmps101
    go_wp2_with fail
    go_ret
    exact ⟨none, 0, rfl, World.ownsRow_nil _ _ _ _, Below.refl _ _, fun g h => by simp [Value.ownBlock] at h⟩
  | some a =>
    have q := fun w => Lib.run_eql_slice_nil (P := Tryz.prog) w 131 69 (some a) n c 0 0 Tryz.underlying131
    go_enter Tryz.func101, Tryz.ntmps101
    go_wp2_with (at_builtin; refine wpList_append_gen rfl _ _ 131 rfl 69 (.pointer none) 1 8 Tryz.underlying131 Tryz.infoB rfl (by decide) _ 0 [] rfl ?c1 _ n xs rfl ?c2 ?c3 ?c4 ?_)
    case c1 => exact Own.lit #[] 0 (by decide) rfl
    case c2 => exact h.keep fun _ _ h => cell_alloc h
    case c3 => unfold maxLen; omega
    case c4 => omega
    intro a' c' w' ho hb hg
    go_wp2_with fail
    go_ret
    refine ⟨a', c', rfl, ho, ((Below.refl w.heap.size w).alloc (Nat.le_refl _) _).trans (hb.toBelow (by simp) (fun i hi e => by simp [Value.ownBlock] at e; omega)), fun g h => ?_⟩
    rcases hg g h with h | h
    · simp [Value.ownBlock] at h; omega
    · omega

def PartsPost (F : Nat → Prop) (w : World) (b : Bd) (en : Ending) (w' : World) : Prop :=
  ∃ v, en = .returned v ∧ Below w.heap.size w w' ∧ Rep (fun k => F k ∨ w.heap.size ≤ k) w' (.sl 69 1 (partsOf b).length (encBs (partsOf b))) v

theorem parts_leaf (F : Nat → Prop) (w : World) (c : UInt8) (v : Value) (h : Rep F w (encB (.leaf c)) v) :
    Calls Tryz.prog 74 #[v] w (PartsPost F w (.leaf c)) := by
  obtain ⟨a, e⟩ := encB_ptr h
  subst e
  go_enter Tryz.func74, Tryz.ntmps74
  go_wp2_with fail
  refine (isList_leaf F w c _ h).mono ?_
  rintro en w' ⟨rfl, e⟩
  subst e
  go_wp2_with fail
  go_ret
  exact ⟨_, rfl, Below.refl _ _, Rep_sl.2 ⟨rfl, none, 0, rfl, Nat.le_refl _, fun _ => rfl, .inl rfl⟩⟩

theorem but_below {w wc w6 : World} {o : Obj} {v : Value} (hbb : Below w.heap.size w wc) (hb6 : But (fun b => v.ownBlock = some b) (wc.alloc o) w6)
    (hfc : ∀ g, v.ownBlock = some g → w.heap.size ≤ g) : Below w.heap.size w w6 := by
  refine (hbb.alloc hbb.size _).trans (hb6.toBelow ?_ ?_)
  · have := hbb.size
    show w.heap.size ≤ (wc.heap.push o).size
    rw [Array.size_push]; omega
  · intro i hi e
    have h : w.heap.size ≤ i := hfc i e
    omega
theorem but_below2 {w wc w6 : World} {v : Value} (hbb : Below w.heap.size w wc) (hb6 : But (fun b => v.ownBlock = some b) wc w6)
    (hfc : ∀ g, v.ownBlock = some g → w.heap.size ≤ g) : Below w.heap.size w w6 := by
  refine hbb.trans (hb6.toBelow hbb.size ?_)
  intro i hi e
  have h : w.heap.size ≤ i := hfc i e
  omega
theorem own_1 {w wc : World} {o : Obj} {v v' : Value} (hbb : Below w.heap.size w wc) (hfc : ∀ g, v.ownBlock = some g → w.heap.size ≤ g)
    (hg : ∀ g, v'.ownBlock = some g → v.ownBlock = some g ∨ g = (wc.alloc o).heap.size) : ∀ g, v'.ownBlock = some g → w.heap.size ≤ g := by
  intro g h
  rcases hg g h with h | h
  · exact hfc g h
  · have := hbb.size
    rw [h, size_alloc]; omega
theorem own_2 {w wc : World} {v v' : Value} (hbb : Below w.heap.size w wc) (hfc : ∀ g, v.ownBlock = some g → w.heap.size ≤ g)
    (hg : ∀ g, v'.ownBlock = some g → v.ownBlock = some g ∨ g = wc.heap.size) : ∀ g, v'.ownBlock = some g → w.heap.size ≤ g := by
  intro g h
  rcases hg g h with h | h
  · exact hfc g h
  · have := hbb.size
    rw [h]; omega
theorem below_ad {w wc : World} {o : Obj} (h : Below (w.alloc o).drew.heap.size (w.alloc o).drew wc) : Below w.heap.size w wc := by
  have h2 : Below w.heap.size (w.alloc o).drew wc := ⟨h.os, h.tape, h.output, h.size, fun i hi => h.block i (by show i < (w.alloc o).heap.size; rw [size_alloc]; omega)⟩
  exact (((Below.refl w.heap.size w).alloc (Nat.le_refl _) o).drew).trans h2
theorem own_ad {w : World} {o : Obj} {v : Value} (h : ∀ g, v.ownBlock = some g → (w.alloc o).drew.heap.size ≤ g) : ∀ g, v.ownBlock = some g → w.heap.size ≤ g := by
  intro g hg
  have := h g hg
  have h2 : (w.alloc o).drew.heap.size = w.heap.size + 1 := size_alloc w o
  omega

set_option maxRecDepth 100000 in
set_option maxHeartbeats 1000000 in
theorem parts_ask (F : Nat → Prop) (w : World) (v : Nat) (ss : List Bd) (y n : Bd) (p : Value) (h : Rep F w (encB (.ask v ss y n)) p) (hn : Lim (ss.length + 2)) :
    Calls Tryz.prog 74 #[p] w (PartsPost F w (.ask v ss y n)) := by
  obtain ⟨b, sl, yv, nv, e, hFb, hc, hsl, hy, hnn⟩ := ask_open h
  subst e
  obtain ⟨xs, hxs, hsrc⟩ := SrcSl.ofRep hsl (oneCell_encBs _)
  obtain ⟨sa, sc, esl⟩ := hsrc.slice
  subst esl
  obtain ⟨ya, ey⟩ := encB_ptr hy
  obtain ⟨na, ena⟩ := encB_ptr hnn
  subst ey; subst ena
  have c2 : w.cell? ⟨b, 2, none⟩ = some (.slice sa ss.length sc) := by simp [World.cell?, hc]
  have c3 : w.cell? ⟨b, 3, none⟩ = some (.pointer (some ⟨ya, 0, none⟩)) := by simp [World.cell?, hc]
  have c4 : w.cell? ⟨b, 4, none⟩ = some (.pointer (some ⟨na, 0, none⟩)) := by simp [World.cell?, hc]
  have lb := lt_of_heap hc
  have hl := hn.le
  clear hc
  go_enter Tryz.func74, Tryz.ntmps74
  go_wp2_with fail
  refine (isList_ask F w v ss y n _ h).mono ?_
  rintro en w' ⟨rfl, e⟩
  obtain rfl : w = w' := e.symm
  go_wp2_with fail
  have hn0 : Lim ss.length := hn.mono (by omega)
  have hm : ss.length + 2 ≤ maxLen := by unfold maxLen; omega
  have hby : (ss.length + 2) * 8 ≤ 140737488355328 := by omega
  have h01 : 0 < 1 := by omega
  have hone : ∀ u ∈ (#[.pointer (some ⟨ya, 0, none⟩), .pointer (some ⟨na, 0, none⟩)] : Array Value).toList, u.oneCell' = true := by simp [Value.oneCell']
  have HO := Lib.hid hone; clear hone
  go_region_held3 (fun w' => w'.cell? ⟨b, 2, none⟩ = some (.slice sa ss.length sc) ∧ w'.cell? ⟨b, 3, none⟩ = some (.pointer (some ⟨ya, 0, none⟩)) ∧ w'.cell? ⟨b, 4, none⟩ = some (.pointer (some ⟨na, 0, none⟩)))
    (first
      | exact ⟨(hbg.cell lb).trans c2, (hbg.cell lb).trans c3, (hbg.cell lb).trans c4⟩
      | exact ⟨(hbb.cell lb).trans c2, (hbb.cell lb).trans c3, (hbb.cell lb).trans c4⟩
      | go_keep)
    (first
      | (go_at_call 101; refine (cloneB_any ss.length _ xs _ hsrc.drew hn0).mono ?_; rintro en wc ⟨ac, kc, rfl, hoc, hbc, hfc'⟩; have hbb : Below w.heap.size w wc := (Below.refl w.heap.size w).drew.trans hbc; have hfc : ∀ g, (Value.slice ac ss.length kc).ownBlock = some g → w.heap.size ≤ g := hfc')
      | (go_at_call 101; refine (cloneB_any ss.length _ xs _ (hsrc.alloc _).drew hn0).mono ?_; rintro en wc ⟨ac, kc, rfl, hoc, hbc, hfc'⟩; have hlit := (SrcSl.lits #[.pointer (some ⟨ya, 0, none⟩), .pointer (some ⟨na, 0, none⟩)] 2 rfl HO.out _ rfl).drew.below hbc; have hbb : Below w.heap.size w wc := below_ad hbc; have hfc := own_ad hfc')
      | (refine step_append_gen (by rfl) _ _ _ (by rfl) 69 (.pointer none) 1 8 Tryz.underlying131 Tryz.infoB rfl h01 (.slice ac ss.length kc) ss.length xs (by rfl) hoc _ 2 [.pointer (some ⟨ya, 0, none⟩), .pointer (some ⟨na, 0, none⟩)] (by rfl) hlit hm hby ?_; intro a' c' w6 hown' hb6 hg'; have hbg : Below w.heap.size w w6 := but_below2 hbb hb6 hfc; have hFg := own_2 hbb hfc hg')
      | (refine step_append_gen (by rfl) _ _ _ (by rfl) 69 (.pointer none) 1 8 Tryz.underlying131 Tryz.infoB rfl h01 (.slice ac ss.length kc) ss.length xs (by rfl) (hoc.alloc _) _ 2 [.pointer (some ⟨ya, 0, none⟩), .pointer (some ⟨na, 0, none⟩)] (by rfl) (SrcSl.lits #[.pointer (some ⟨ya, 0, none⟩), .pointer (some ⟨na, 0, none⟩)] 2 rfl HO.out _ rfl) hm hby ?_; intro a' c' w6 hown' hb6 hg'; have hbg : Below w.heap.size w w6 := but_below hbb hb6 hfc; have hFg := own_1 hbb hfc hg'))
  all_goals
    go_wp2_with fail
    go_ret
    refine ⟨_, rfl, hbg, ?_⟩
    have : (partsOf (.ask v ss y n)).length = ss.length + 2 := by simp [partsOf]
    rw [this]
    refine hown'.rep (fun g h => .inr (hFg g h)) ?_
    show Reps _ _ (encBs (ss ++ [y, n])) _
    rw [encBs_append]
    refine Reps.append (Reps.below hbg (fun _ h => .inl h) hxs) ?_
    exact Reps_cons.2 ⟨_, _, rfl, Rep.below hbg (fun _ h => .inl h) hy, Reps.one (Rep.below hbg (fun _ h => .inl h) hnn)⟩

end Go.Proofs.YtibnnbdpfkgfhaaGreatDoor

/- The walk of the reference's l5Read. -/
import Derived.Test.YtohepefbogngfaaDoorS29
namespace Go.Proofs.YtohepefbogngfaaDoor
open Go.RowKit

/-- The parts of a list, each behind a sign. -/
def rdAll (e : Nat) (m : Bs) : Option (List Tr × Bs) := rdTrs (rdTr e) (m.length + 1) m
theorem rdAll_eq (e : Nat) (m : Bs) : rdAll e m = (rdTr e m).bind fun x => match x.2 with
    | [] => none
    | c :: r => if c = 41 then some ([x.1], r) else if c = 32 then (rdAll e r).map fun y => (x.1 :: y.1, y.2) else none := by
  unfold rdAll
  rw [rdTrs]
  cases h : rdTr e m with
  | none => rfl
  | some x =>
    obtain ⟨t, r1⟩ := x
    simp only [Option.bind_some]
    cases r1 with
    | nil => rfl
    | cons c r =>
      have hl := rdTr_shrinks e _ _ _ h
      simp only [List.length_cons] at hl
      simp only
      rw [rdTrs_more (rdTr_shrinks e) m.length (r.length + 1) r (by omega) (by omega)]
theorem rdTr_all (e : Nat) (r : Bs) : rdTr (e + 1) (40 :: r) = (rdAll e r).map fun y => (.ls y.1, y.2) := rdTr_open e r
theorem rdTr_suffix {e : Nat} {m r : Bs} {t : Tr} (h : rdTr e m = some (t, r)) : r <:+ m := by
  obtain ⟨e1, _⟩ := rdTr_canon e m t r h
  exact ⟨_, e1.symm⟩

/-- What the reference's reader of trees leaves. -/
def TrPost (L : Nat) (w : World) (o : Option (Tr × Bs)) (en : Ending) (w' : World) : Prop :=
  ∃ (s : Bs) (a : Option Addr) (n c : Nat) (k : Int), en = .returned (.tuple #[.agg #[str s, .slice a n c], .int .i64 k]) ∧ Below w.heap.size w w' ∧ (o = none → k = -1) ∧
    (∀ t rest, o = some (t, rest) → k = (L : Int) - rest.length ∧ Reps (w.heap.size ≤ ·) w' (encTr t) [str s, .slice a n c])
theorem TrPost.no {L : Nat} {w w' : World} {o : Option (Tr × Bs)} {s : Bs} {a : Option Addr} {n c : Nat} (ho : o = .none) (hb : Below w.heap.size w w') : TrPost L w o (.returned (.tuple #[.agg #[str s, .slice a n c], .int .i64 (-1)])) w' :=
  ⟨s, a, n, c, _, rfl, hb, fun _ => rfl, fun _ _ h => by rw [ho] at h; simp at h⟩
theorem TrPost.yes {L : Nat} {w w' : World} {o : Option (Tr × Bs)} {t : Tr} {rest s : Bs} {a : Option Addr} {n c : Nat} {k : Int} (ho : o = .some (t, rest)) (hk : k = (L : Int) - rest.length) (hb : Below w.heap.size w w')
    (hv : Reps (w.heap.size ≤ ·) w' (encTr t) [str s, .slice a n c]) : TrPost L w o (.returned (.tuple #[.agg #[str s, .slice a n c], .int .i64 k])) w' :=
  ⟨s, a, n, c, k, rfl, hb, fun h => by rw [ho] at h; simp at h, fun _ _ h => by rw [ho] at h; simp at h; obtain ⟨rfl, rfl⟩ := h; exact ⟨hk, hv⟩⟩
def TrSaid (l : Bs) (e : Nat) : Prop := ∀ (d i : Nat) (w : World), e + d = 101 → i ≤ l.length →
    Calls Tryd.prog 36 #[str l, .int .i64 i, .int .i64 d] w (TrPost l.length w (rdTr e (l.drop i)))

/-- A tree's box. -/
def NewTr (ob : Nat) (s : Bs) (slv : Value) (w : World) : Prop := w.heap[ob]? = some (.cells #[str s, slv] 41 (0, 0))
theorem NewTr.cells {ob : Nat} {s : Bs} {sl : Value} {w : World} (h : NewTr ob s sl w) : w.cell? ⟨ob, 0, none⟩ = some (str s) ∧ w.cell? ⟨ob, 1, none⟩ = some sl ∧ ob < w.heap.size ∧ (∀ o, w.frozen? ⟨ob, o, none⟩ = false) := by
  have hl := lt_of_heap h
  unfold NewTr at h
  exact ⟨by simp [World.cell?, h], by simp [World.cell?, h], hl, fun o => by simp [World.frozen?, h]⟩
theorem NewTr.put1 {ob : Nat} {s : Bs} {sl u : Value} {w : World} (h : NewTr ob s sl w) : NewTr ob s u (w.setCell ⟨ob, 1, none⟩ u) := by
  unfold NewTr; rw [setCell_at h]; rfl
theorem NewTr.below {ob : Nat} {s : Bs} {sl : Value} {w w' : World} {B : Nat} (h : NewTr ob s sl w) (hb : Below B w w') (hm : ob < B) : NewTr ob s sl w' := by
  unfold NewTr; rw [hb.block ob hm]; exact h
theorem NewTr.store {ob : Nat} {s : Bs} {sl : Value} {w : World} (h : NewTr ob s sl w) (u0 u1 : Value) :
    ∃ W, W = ((w.setCell ⟨ob, 0, none⟩ u0).setCell ⟨ob, 1, none⟩ u1) ∧ W.cell? ⟨ob, 0, none⟩ = some u0 ∧ W.cell? ⟨ob, 1, none⟩ = some u1 ∧
      (∀ B w0, Below B w0 w → B ≤ ob → Below B w0 W) ∧ (∀ i x, i ≠ ob → w.heap[i]? = some x → W.heap[i]? = some x) := by
  have hc : ((w.setCell ⟨ob, 0, none⟩ u0).setCell ⟨ob, 1, none⟩ u1).heap[ob]? = some (.cells #[u0, u1] 41 (0, 0)) := by
    unfold NewTr at h
    rw [setCell_at (setCell_at h)]; rfl
  refine ⟨_, rfl, by simp only [World.cell?, hc]; rfl, by simp only [World.cell?, hc]; rfl, fun B w0 hb hB => ?_, fun i x hi hx => ?_⟩
  · exact ((hb.setCell (p := ⟨ob, 0, none⟩) hB _).setCell (p := ⟨ob, 1, none⟩) hB _)
  · rw [Below.heap_setCell _ _ _ _ (by simpa using hi), Below.heap_setCell _ _ _ _ (by simpa using hi)]; exact hx
theorem SrcSl.lit2 {w : World} {e : TypeId} (cs : Array Value) (hn : cs.size = 2) (hc : ∀ u ∈ cs.toList, u.oneCell' = true) (g : Nat) (hg : g = w.heap.size) : SrcSl 2 (.slice (some ⟨g, 0, none⟩) 1 1) 1 cs.toList (w.alloc (.cells cs e)) := by
  subst hg
  refine ⟨by simp [hn], hc, .inl ⟨_, _, rfl, fun j u hu => ?_⟩⟩
  unfold Addr.add
  split
  · subst j; simp; simpa using hu
  · simp; simpa using hu

/-- A word, sign by sign. -/
theorem word_in {m : Bs} {j : Nat} (h : j < (wordOf m).length) : ∃ hm : j < m.length, sep m[j] = false := by
  have hle := word_le m
  have hm : j < m.length := by omega
  refine ⟨hm, ?_⟩
  have h1 : m[j] = (wordOf m)[j] := by
    have e := word_append m
    have : m[j]? = (wordOf m)[j]? := by conv => lhs; rw [← e]
                                        rw [List.getElem?_append_left h]
    rw [List.getElem?_eq_getElem hm, List.getElem?_eq_getElem h] at this
    exact Option.some.inj this
  rw [h1]
  have := tw_all (fun c => !sep c) m _ (List.getElem_mem h)
  simpa using this
theorem word_out {m : Bs} (h : (wordOf m).length < m.length) : sep m[(wordOf m).length] = true := by
  have h2 : (!sep m[(wordOf m).length]) = false := tw_end (fun c => !sep c) m h
  simpa using h2

/-- What holds while the parts are read. -/
structure TreeSt (w : World) (ob Z : Nat) (wr : World) (ps : List Tr) (vs : List Value) (sl : Value) : Prop where
  below : Below w.heap.size w wr
  res : NewTr w.heap.size [] (.slice none 0 0) wr
  out : NewTr ob [] sl wr
  own : Own wr 41 2 sl ps.length vs
  blk : ∀ g, sl.ownBlock = some g → Z ≤ g
  rep : Reps (fun b => Z ≤ b ∧ sl.ownBlock ≠ some b) wr (encTrs ps) vs
  z : Z ≤ wr.heap.size
theorem TreeSt.next {w : World} {ob Z : Nat} {wr : World} {ps : List Tr} {vs : List Value} {sl : Value} (h : TreeSt w ob Z wr ps vs sl) (hob : ob < Z) (hwo : w.heap.size < ob) {W w7 : World} {t : Tr} {cs : List Value} {a' : Option Addr} {c' : Nat}
    (hb6 : Below wr.heap.size wr W) (hcs : Reps (wr.heap.size ≤ ·) W (encTr t) cs) (hown : Own w7 41 2 (.slice a' (ps.length + 1) c') (ps.length + 1) (vs ++ cs)) (hb7 : But (fun i => sl.ownBlock = some i) W w7)
    (hg7 : ∀ g, (Value.slice a' (ps.length + 1) c').ownBlock = some g → sl.ownBlock = some g ∨ g = W.heap.size) :
    TreeSt w ob Z (w7.setCell ⟨ob, 1, none⟩ (.slice a' (ps.length + 1) c')) (ps ++ [t]) (vs ++ cs) (.slice a' (ps.length + 1) c') := by
  have z6 := hb6.size
  have z7 := hb7.size
  have zr := h.z
  have keep : ∀ i x, wr.heap[i]? = some x → sl.ownBlock ≠ some i → i ≠ ob → (w7.setCell ⟨ob, 1, none⟩ (.slice a' (ps.length + 1) c')).heap[i]? = some x := by
    intro i x hx h1 h2
    have := lt_of_heap hx
    rw [Below.heap_setCell _ _ _ _ (by simpa using h2), hb7.block i (by omega) h1, hb6.block i this]; exact hx
  have keep6 : ∀ i x, W.heap[i]? = some x → sl.ownBlock ≠ some i → i ≠ ob → (w7.setCell ⟨ob, 1, none⟩ (.slice a' (ps.length + 1) c')).heap[i]? = some x := by
    intro i x hx h1 h2
    have := lt_of_heap hx
    rw [Below.heap_setCell _ _ _ _ (by simpa using h2), hb7.block i (by omega) h1]; exact hx
  have ltK : ∀ g, sl.ownBlock = some g → g < wr.heap.size := fun g hg => h.own.lt hg
  have nK : ∀ i, i < Z → sl.ownBlock ≠ some i := fun i hi e => by have := h.blk i e; omega
  have newg : ∀ g, (Value.slice a' (ps.length + 1) c').ownBlock = some g → Z ≤ g := fun g hg => by
    rcases hg7 g hg with e | e
    · exact h.blk g e
    · omega
  refine ⟨?_, ?_, ?_, ?_, newg, ?_, by simp [World.setCell]; omega⟩
  · refine Below.setCell ?_ (show w.heap.size ≤ ob by omega) _
    exact (h.below.trans (hb6.mono h.below.size)).trans (hb7.toBelow (by have := h.below.size; omega) fun i hi e => nK i (by omega) e)
  · exact keep _ _ h.res (nK _ (by omega)) (by omega)
  · have h1 : NewTr ob [] sl w7 := by
      unfold NewTr; rw [hb7.block ob (by omega) (nK _ hob), hb6.block ob (by omega)]; exact h.out
    exact h1.put1
  · rw [show (ps ++ [t]).length = ps.length + 1 from by simp]
    exact hown.keep fun g o hg ho => by rw [Below.heap_setCell _ _ _ _ (by have := newg g hg; simp; omega)]; exact ho
  · rw [encTrs_append]
    refine Reps.append ?_ ?_
    · refine (Rep.keep fun x o hx ho => ⟨⟨hx.1, fun e => ?_⟩, ?_⟩).2 _ _ h.rep
      · exact keep x o ho hx.2 (by have := hx.1; omega)
      · rcases hg7 x e with e' | e'
        · exact hx.2 e'
        · have := lt_of_heap ho; omega
    · have e1 : encTrs [t] = encTr t := by simp [encTrs]
      rw [e1]
      refine (Rep.keep fun x o hx ho => ⟨⟨by have := hx; omega, fun e => ?_⟩, ?_⟩).2 _ _ hcs
      · exact keep6 x o ho (fun e => by have := ltK x e; have := hx; omega) (by have := hx; omega)
      · rcases hg7 x e with e' | e'
        · have := ltK x e'; have := hx; omega
        · have := lt_of_heap ho; omega

set_option maxRecDepth 100000 in
set_option maxHeartbeats 2000000 in
/-- Where it reads no list. -/
theorem l5Read_plain (l : Bs) (hl : Lim l.length) (e d : Nat) (hed : e + d = 101) (i : Nat) (w : World) (hi : i ≤ l.length) (hno : ∀ h : i < l.length, e = 0 ∨ ¬ l[i] = 40) :
    Calls Tryd.prog 36 #[str l, .int .i64 i, .int .i64 d] w (TrPost l.length w (rdTr e (l.drop i))) := by
  have hl' := hl.le
  rcases e with _ | e
  · have hd1 : (100 : Int) < (d : Int) := by omega
    clear hno
    go_enter Tryd.func36, Tryd.ntmps36
    go_wp2_with fail
    refine bodyPost_ret (v := .tuple #[.agg #[str [], .slice none 0 0], .int .i64 (-1)]) (by simp [results, Tryd.results36, go_sem]) rfl ?_
    exact TrPost.no (by rfl) (((Below.refl _ _).alloc (Nat.le_refl _) _).alloc (by simp) _)
  have hd0 : ¬ (100 : Int) < (d : Int) := by omega
  by_cases hlt : i < l.length
  rotate_left
  · clear hno
    go_enter Tryd.func36, Tryd.ntmps36
    go_wp2_with fail
    refine bodyPost_ret (v := .tuple #[.agg #[str [], .slice none 0 0], .int .i64 (-1)]) (by simp [results, Tryd.results36, go_sem]) rfl ?_
    exact TrPost.no (by rw [List.drop_eq_nil_of_le (by omega)]; rfl) (((Below.refl _ _).alloc (Nat.le_refl _) _).alloc (by simp) _)
  have h40 : ¬ l[i] = 40 := (hno hlt).resolve_left (by omega)
  clear hno
  have hdc := List.drop_eq_getElem_cons hlt
  have hm : rdTr (e + 1) (l.drop i) = if wordOf (l.drop i) = [] then none else some (.am (wordOf (l.drop i)), wordRest (l.drop i)) := by rw [hdc]; exact rdTr_atom e _ _ h40
  have hwl := word_le (l.drop i)
  rw [List.length_drop] at hwl
  have hx : (l.take (i + (wordOf (l.drop i)).length)).drop i = wordOf (l.drop i) := by
    rw [List.drop_take, Nat.add_sub_cancel_left]; exact word_take _
  have hin : ∀ j, j < (wordOf (l.drop i)).length → ∃ h : i + j < l.length, sep l[i + j] = false := fun j hj => by
    obtain ⟨h1, h2⟩ := word_in hj
    rw [List.length_drop] at h1
    rw [List.getElem_drop] at h2
    exact ⟨by omega, h2⟩
  have hout : l.length ≤ i + (wordOf (l.drop i)).length ∨ ∃ h : i + (wordOf (l.drop i)).length < l.length, sep l[i + (wordOf (l.drop i)).length] = true := by
    by_cases h : i + (wordOf (l.drop i)).length < l.length
    · right
      refine ⟨h, ?_⟩
      have := word_out (m := l.drop i) (by rw [List.length_drop]; omega)
      rw [List.getElem_drop] at this
      exact this
    · left; omega
  have hrest : (wordRest (l.drop i)).length + (i + (wordOf (l.drop i)).length) = l.length := by omega
  obtain ⟨wd, hwd⟩ : ∃ x, x = wordOf (l.drop i) := ⟨_, rfl⟩
  rw [← hwd] at hm hx hin hout hrest hwl
  have HM := Lib.hid (And.intro hm (And.intro hin (And.intro hout (And.intro hx hrest))))
  have f4 := byte_no2 hlt (n := 40) (by decide) h40
  have hil : i + wd.length ≤ l.length := by omega
  clear h40 hdc hm hx hin hout hwd hwl hrest
  go_enter Tryd.func36, Tryd.ntmps36
  go_wp2_with fail
  clear f4
  go_loop [1] (fun a => ∃ j : Nat, j ≤ wd.length ∧ a = .int .i64 ((i + j : Nat) : Int)) (fun a => i + wd.length - (intOf a).toNat)
  case atStart => exact ⟨0, Nat.zero_le _, by simp⟩
  case round =>
    obtain ⟨j, hj, rfl⟩ := hrel
    by_cases hjl : j < wd.length
    · obtain ⟨hij, hs⟩ := HM.out.2.1 j hjl
      have hs3 : ¬ l[i + j] = 32 ∧ ¬ l[i + j] = 40 ∧ ¬ l[i + j] = 41 := by
        simp only [sep, Bool.or_eq_false_iff, beq_eq_false_iff_ne] at hs
        exact ⟨hs.1.1, hs.1.2, hs.2⟩
      have f1 := byte_no2 hij (n := 32) (by decide) hs3.1
      have f2 := byte_no2 hij (n := 40) (by decide) hs3.2.1
      have f3 := byte_no2 hij (n := 41) (by decide) hs3.2.2
      clear hs hs3
      go_wp2_with fail
      go_round
      case rel => exact ⟨j + 1, by omega, by go_num⟩
      case measure => simp [intOf]; omega
    · obtain rfl : j = wd.length := by omega
      have hcase : l.length ≤ i + wd.length ∨ (∃ h : i + wd.length < l.length, ((((⟨l.toArray⟩ : ByteArray)[i + wd.length]'(lt_str h)).toNat : Int) != 32) = false) ∨
          (∃ h : i + wd.length < l.length, ((((⟨l.toArray⟩ : ByteArray)[i + wd.length]'(lt_str h)).toNat : Int) != 32) = true ∧ ((((⟨l.toArray⟩ : ByteArray)[i + wd.length]'(lt_str h)).toNat : Int) != 40) = false) ∨
          (∃ h : i + wd.length < l.length, ((((⟨l.toArray⟩ : ByteArray)[i + wd.length]'(lt_str h)).toNat : Int) != 32) = true ∧ ((((⟨l.toArray⟩ : ByteArray)[i + wd.length]'(lt_str h)).toNat : Int) != 40) = true ∧ ((((⟨l.toArray⟩ : ByteArray)[i + wd.length]'(lt_str h)).toNat : Int) != 41) = false) := by
        rcases HM.out.2.2.1 with h | ⟨h, hs⟩
        · exact .inl h
        · right
          simp only [sep, Bool.or_eq_true, beq_iff_eq] at hs
          rcases hs with (hs | hs) | hs
          · exact .inl ⟨h, byte_yes2 h (n := 32) (by decide) hs⟩
          · exact .inr (.inl ⟨h, byte_no2 h (c := 32) (n := 32) (by decide) (by rw [hs]; decide), byte_yes2 h (n := 40) (by decide) hs⟩)
          · exact .inr (.inr ⟨h, byte_no2 h (c := 32) (n := 32) (by decide) (by rw [hs]; decide), byte_no2 h (c := 40) (n := 40) (by decide) (by rw [hs]; decide), byte_yes2 h (n := 41) (by decide) hs⟩)
      have hx : ((⟨l.toArray⟩ : ByteArray).extract i (i + wd.length)) = ⟨wd.toArray⟩ := by rw [ext_str, HM.out.2.2.2.1]
      by_cases h0 : wd = []
      · subst h0
        have HN := Lib.hid (show rdTr (e + 1) (l.drop i) = none by rw [HM.out.1, if_pos rfl])
        simp only [List.length_nil, Nat.add_zero] at hcase hx hil ⊢
        clear hjl hj
        rcases hcase with h | ⟨h, f1⟩ | ⟨h, f1, f2⟩ | ⟨h, f1, f2, f3⟩
        · omega
        all_goals
          go_wp2_with fail
          refine bodyPost_ret (v := .tuple #[.agg #[.string ByteArray.empty, .slice none 0 0], .int .i64 (-1)]) (by simp [results, Tryd.results36, go_sem]) rfl ?_
          exact TrPost.no (s := []) HN.out (((Below.refl _ _).alloc (Nat.le_refl _) _).alloc (by simp) _)
      · have hne : (wd == []) = false := by rw [beq_eq_false_iff_ne]; exact h0
        have hne2 : wd.isEmpty = false := by rw [List.isEmpty_eq_false_iff]; exact h0
        have HN := Lib.hid (show rdTr (e + 1) (l.drop i) = some (.am wd, wordRest (l.drop i)) by rw [HM.out.1, if_neg h0])
        have fin : ∀ W : World, Below w.heap.size w W → TrPost l.length w (rdTr (e + 1) (l.drop i)) (.returned (.tuple #[.agg #[str wd, .slice none 0 0], .int .i64 ((i : Int) + (wd.length : Int))])) W := fun W hb =>
          TrPost.yes HN.out (by have := HM.out.2.2.2.2; omega) hb (by
            rw [encTr]
            exact Reps_cons.2 ⟨_, _, rfl, Rep_val.2 rfl, Reps_cons.2 ⟨_, _, rfl, Rep_sl.2 ⟨rfl, none, 0, rfl, Nat.le_refl _, fun _ => rfl, .inl rfl⟩, Reps_nil.2 rfl⟩⟩)
        have FIN := Lib.hid fin
        clear fin h0 hjl hj
        rcases hcase with h | ⟨h, f1⟩ | ⟨h, f1, f2⟩ | ⟨h, f1, f2, f3⟩
        all_goals
          go_wp2_with fail
          refine bodyPost_ret (v := .tuple #[.agg #[str wd, .slice none 0 0], .int .i64 ((i : Int) + (wd.length : Int))]) (by simp [results, Tryd.results36, go_sem]) rfl ?_
          exact FIN.out _ (((Below.refl _ _).alloc (Nat.le_refl _) _).alloc (by simp) _)

theorem NewTr.alloc {ob : Nat} {s : Bs} {sl : Value} {w : World} (h : NewTr ob s sl w) (o : Obj) : NewTr ob s sl (w.alloc o) := heap_past h

set_option maxRecDepth 100000 in
set_option maxHeartbeats 4000000 in
theorem l5Read_open (l : Bs) (hl : Lim l.length) (e d : Nat) (hed : e + 1 + d = 101) (ih : TrSaid l e) (i0 : Nat) (w : World) (hi : i0 < l.length) (h40 : l[i0] = 40) :
    Calls Tryd.prog 36 #[str l, .int .i64 i0, .int .i64 d] w (TrPost l.length w (rdTr (e + 1) (l.drop i0))) := by
  have hl' := hl.le
  have IH := Lib.hid ih; clear ih
  have hd0 : ¬ (100 : Int) < (d : Int) := by omega
  have hm : rdTr (e + 1) (l.drop i0) = (rdAll e (l.drop (i0 + 1))).map fun y => (.ls y.1, y.2) := by
    rw [List.drop_eq_getElem_cons hi, h40, rdTr_all]
  have HM := Lib.hid hm; clear hm
  have f4 := byte_yes2 hi (n := 40) (by decide) h40
  clear h40
  go_enter Tryd.func36, Tryd.ntmps36
  go_wp2_with fail
  clear f4
  have hst0 : TreeSt w (w.heap.size + 1) (w.heap.size + 2) ((w.alloc (.cells #[str [], .slice none 0 0] 41)).alloc (.cells #[str [], .slice none 0 0] 41)) [] [] (.slice none 0 0) := by
    refine ⟨((Below.refl _ _).alloc (Nat.le_refl _) _).alloc (by simp) _, ?_, ?_, World.ownsRow_nil _ _ _ _, fun g h => by simp [Value.ownBlock] at h, Reps_nil.2 rfl, by simp⟩
    · exact heap_past (heap_new _ _)
    · have := heap_new (w.alloc (.cells #[str [], .slice none 0 0] 41)) (.cells #[str [], .slice none 0 0] 41)
      rw [size_alloc] at this; exact this
  go_loopw [1] (fun a wr => ∃ (i : Nat) (ps : List Tr) (vs : List Value) (sa : Option Addr) (sc : Nat), a = .int .i64 i ∧ i < l.length ∧ ps.length ≤ i ∧ (rdAll e (l.drop (i0 + 1)) = (rdAll e (l.drop (i + 1))).map fun y => (ps ++ y.1, y.2)) ∧ TreeSt w (w.heap.size + 1) (w.heap.size + 2) wr ps vs (.slice sa ps.length sc)) (fun a _ => l.length - (intOf a).toNat)
  case atStart => exact ⟨i0, [], [], none, 0, rfl, hi, Nat.zero_le _, by simp, hst0⟩
  case round =>
    clear hst0
    rename_i wr
    obtain ⟨i, ps, vs, sa, sc, rfl, hil, hpl, hsp, hst⟩ := hrel
    have HSP := Lib.hid hsp; clear hsp
    have HST := Lib.hid hst; clear hst
    have C := Lib.hid (IH.out (d + 1) (i + 1) wr (by omega) hil)
    go_wp2_with fail
    rw [show (i : Int) + 1 = ((i + 1 : Nat) : Int) from by omega, show (d : Int) + 1 = ((d + 1 : Nat) : Int) from by omega]
    (with_reducible refine C.out.mono ?_)
    rintro en6 w6 ⟨s6, a6, n6, c6, k6, rfl, hb6, hn6, hy6⟩
    have z6 := hb6.size
    have zr := HST.out.z
    have hres6 := HST.out.res.below hb6 (by omega)
    have hout6 := HST.out.out.below hb6 (by omega)
    have hbw6 := HST.out.below.trans (hb6.mono HST.out.below.size)
    obtain ⟨r0, r1, rl6, rf⟩ := hres6.cells
    obtain ⟨q0, q1, ql6, qf⟩ := hout6.cells
    have rf0 := rf 0; have rf1 := rf 1; clear rf
    have qf0 := qf 0; have qf1 := qf 1; clear qf
    have Q := Lib.hid (And.intro hb6 (And.intro hres6 (And.intro hout6 hbw6))); clear hb6 hres6 hout6 hbw6 C
    have hal := rdAll_eq e (l.drop (i + 1))
    cases hq : rdTr e (l.drop (i + 1)) with
    | none =>
      obtain rfl := hn6 hq
      have HN := Lib.hid (show rdTr (e + 1) (l.drop i0) = none by rw [HM.out, HSP.out, hal, hq]; rfl)
      clear hal hq hn6 hy6
      go_wp2_with fail
      obtain ⟨W, hW, s0, s1, hbW, _⟩ := Q.out.2.1.store (.string ⟨#[]⟩) (.slice sa ps.length sc)
      rw [← hW]
      refine bodyPost_ret (v := .tuple #[.agg #[str [], .slice sa ps.length sc], .int .i64 (-1)]) (by simp [results, Tryd.results36, go_sem, cell_alloc s0, cell_alloc s1]) rfl ?_
      exact TrPost.no HN.out ((hbW _ _ Q.out.2.2.2 (Nat.le_refl _)).alloc (hbW _ _ Q.out.2.2.2 (Nat.le_refl _)).size _)
    | some x =>
      obtain ⟨t, rest⟩ := x
      obtain ⟨rfl, hc6⟩ := hy6 _ _ hq
      have hsf := suffix_drop (rdTr_suffix hq)
      have hsh := rdTr_shrinks e _ _ _ hq
      rw [List.length_drop] at hsh
      have hrl : rest.length ≤ l.length := by omega
      obtain ⟨en2, he2⟩ : ∃ en2, en2 = l.length - rest.length := ⟨_, rfl⟩
      rw [← he2] at hsf
      have hk2 : (l.length : Int) - (rest.length : Int) = (en2 : Int) := by omega
      rw [hk2]
      have hen2 : i + 1 < en2 ∧ en2 ≤ l.length := by omega
      subst hsf
      rw [hq, Option.bind_some] at hal
      simp only at hal
      have HAL := Lib.hid hal; have HC6 := Lib.hid hc6
      clear hal hc6 hq hn6 hy6 hk2 he2 hrl hsh
      by_cases hend : en2 = l.length
      · have HN := Lib.hid (show rdTr (e + 1) (l.drop i0) = none by rw [HM.out, HSP.out, HAL.out, List.drop_eq_nil_of_le (by omega)]; rfl)
        have g1 : (l.length : Int) ≤ (en2 : Int) := by omega
        have g0 : ¬ (en2 : Int) < 0 := by omega
        go_wp2_with fail
        obtain ⟨W, hW, s0, s1, hbW, _⟩ := Q.out.2.1.store (.string ⟨#[]⟩) (.slice sa ps.length sc)
        rw [← hW]
        refine bodyPost_ret (v := .tuple #[.agg #[str [], .slice sa ps.length sc], .int .i64 (-1)]) (by simp [results, Tryd.results36, go_sem, cell_alloc s0, cell_alloc s1]) rfl ?_
        exact TrPost.no HN.out ((hbW _ _ Q.out.2.2.2 (Nat.le_refl _)).alloc (hbW _ _ Q.out.2.2.2 (Nat.le_refl _)).size _)
      have hlt2 : en2 < l.length := by omega
      have g1 : ¬ (l.length : Int) ≤ (en2 : Int) := by omega
      have g0 : ¬ (en2 : Int) < 0 := by omega
      have hlps : ps.length ≤ 16777216 := by omega
      clear hend
      go_wp2_with (at_builtin; refine wpList_append_gen rfl _ _ 39 rfl 41 (.agg #[str [], .slice none 0 0]) 2 40 Tryd.underlying39 Tryd.infoTr rfl (by decide) (.slice sa ps.length sc) ps.length vs rfl ?c1 _ 1 [str s6, .slice a6 n6 c6] rfl ?c2 ?c3 ?c4 ?_)
      case c1 =>
        refine (HST.out.own.keep fun g o hg ho => ?_).alloc _ |>.alloc _
        rw [Q.out.1.block g (lt_of_heap ho)]; exact ho
      case c2 => exact SrcSl.lit2 #[str s6, .slice a6 n6 c6] rfl (by simp [str, Value.oneCell']) _ (by simp)
      case c3 => unfold maxLen; omega
      case c4 => omega
      intro a' c' w7 ho7 hb7 hg7
      have hW : Below wr.heap.size wr ((w6.alloc (.cells #[str s6, .slice a6 n6 c6] 41)).alloc (.cells #[str s6, .slice a6 n6 c6] 41)) := (Q.out.1.alloc Q.out.1.size _).alloc (by have := Q.out.1.size; simp; omega) _
      have hC : Reps (wr.heap.size ≤ ·) ((w6.alloc (.cells #[str s6, .slice a6 n6 c6] 41)).alloc (.cells #[str s6, .slice a6 n6 c6] 41)) (encTr t) [str s6, .slice a6 n6 c6] :=
        (Rep.keep fun i o hi ho => ⟨hi, heap_past (heap_past ho)⟩).2 _ _ HC6.out
      have hA := HST.out.next (by omega) (show w.heap.size < w.heap.size + 1 by omega) hW hC ho7 hb7 (fun g hg => by simpa only [size_alloc] using hg7 g hg)
      have z7 := hb7.size
      rw [size_alloc, size_alloc] at z7
      have hcell7 : w7.cell? ⟨w.heap.size + 1, 1, none⟩ = some (.slice sa ps.length sc) := by
        rw [hb7.cell (by simp only [size_alloc]; omega) (fun e => by have h : w.heap.size + 2 ≤ w.heap.size + 1 := HST.out.blk _ e; omega)]
        exact cell_alloc (cell_alloc q1)
      have hout7 : NewTr (w.heap.size + 1) [] (.slice sa ps.length sc) w7 := by
        unfold NewTr
        rw [hb7.block _ (by simp only [size_alloc]; omega) (fun e => by have h : w.heap.size + 2 ≤ w.heap.size + 1 := HST.out.blk _ e; omega)]
        exact heap_past (heap_past Q.out.2.2.1)
      obtain ⟨p0, p1, pl7, pf⟩ := hout7.cells
      have pf1 := pf 1
      clear pf q0 q1 qf0 qf1 r0 r1 rf0 rf1 ql6 rl6
      have HA := Lib.hid (And.intro hA hout7); clear hA hW hC ho7 hb7 hg7 hout7 hcell7
      have hdc := List.drop_eq_getElem_cons hlt2
      rw [hdc] at HAL
      obtain ⟨r0, r1, rl8, rf⟩ := HA.out.1.res.cells
      have rf0 := rf 0; have rf1 := rf 1; clear rf hdc
      by_cases h41 : l[en2] = 41
      · have f1 := byte_yes hlt2 (n := 41) (by decide) h41
        have HY := Lib.hid (show rdTr (e + 1) (l.drop i0) = some (.ls (ps ++ [t]), l.drop (en2 + 1)) by
          rw [HM.out, HSP.out, HAL.out]; simp only [if_pos h41, Option.map_some])
        clear h41
        go_wp2_with fail
        obtain ⟨W, hW, s0, s1, hbW, hkW⟩ := HA.out.1.res.store (.string ⟨#[]⟩) (.slice a' (ps.length + 1) c')
        rw [← hW]
        refine bodyPost_ret (v := .tuple #[.agg #[str [], .slice a' (ps.length + 1) c'], .int .i64 ((en2 : Int) + 1)]) (by simp [results, Tryd.results36, go_sem, s0, s1]) rfl ?_
        have hst := HA.out.1
        refine TrPost.yes (s := []) HY.out (by rw [List.length_drop]; omega) (hbW _ _ hst.below (Nat.le_refl _)) ?_
        rw [encTr]
        refine Reps_cons.2 ⟨_, _, rfl, Rep_val.2 rfl, Reps_cons.2 ⟨_, _, rfl, ?_, Reps_nil.2 rfl⟩⟩
        rw [show ps.length + 1 = (ps ++ [t]).length from by simp] at hst hkW ⊢
        refine (hst.own.keep fun g o hg ho => hkW g o (by have := hst.blk g hg; omega) ho).rep (fun g hg => by have := hst.blk g hg; omega) ?_
        exact (Rep.keep fun x o hx ho => ⟨by have := hx.1; omega, hkW x o (by have := hx.1; omega) ho⟩).2 _ _ hst.rep
      have f1 := byte_no hlt2 (n := 41) (by decide) h41
      by_cases h32 : l[en2] = 32
      · have f2 := byte_yes2 hlt2 (n := 32) (by decide) h32
        have HY := Lib.hid (show rdAll e (l.drop (i0 + 1)) = (rdAll e (l.drop (en2 + 1))).map fun y => ((ps ++ [t]) ++ y.1, y.2) by
          rw [HSP.out, HAL.out]; simp only [if_neg h41, if_pos h32, Option.map_map]; congr 1; funext y; simp)
        clear h41 h32
        go_wp2_with fail
        go_roundw
        case rel => exact ⟨en2, ps ++ [t], vs ++ [str s6, .slice a6 n6 c6], a', c', rfl, hlt2, by simp; omega, HY.out, by simpa using HA.out.1⟩
        case measure => simp [intOf]; omega
      · have f2 := byte_no2 hlt2 (n := 32) (by decide) h32
        have HN := Lib.hid (show rdTr (e + 1) (l.drop i0) = none by rw [HM.out, HSP.out, HAL.out]; simp only [if_neg h41, if_neg h32]; rfl)
        clear h41 h32
        go_wp2_with fail
        obtain ⟨W, hW, s0, s1, hbW, hkW⟩ := HA.out.1.res.store (.string ⟨#[]⟩) (.slice a' (ps.length + 1) c')
        rw [← hW]
        refine bodyPost_ret (v := .tuple #[.agg #[str [], .slice a' (ps.length + 1) c'], .int .i64 (-1)]) (by simp [results, Tryd.results36, go_sem, s0, s1]) rfl ?_
        exact TrPost.no HN.out (hbW _ _ HA.out.1.below (Nat.le_refl _))
theorem l5Read_any (l : Bs) (hl : Lim l.length) : ∀ e, e ≤ 101 → TrSaid l e
  | 0, h => fun d i w hed hi => l5Read_plain l hl 0 d hed i w hi (fun _ => .inl rfl)
  | e + 1, h => fun d i w hed hi => by
    by_cases h40 : ∃ hlt : i < l.length, l[i] = 40
    · obtain ⟨hlt, h40⟩ := h40
      exact l5Read_open l hl e d hed (l5Read_any l hl e (by omega)) i w hlt h40
    · exact l5Read_plain l hl (e + 1) d hed i w hi (fun hlt => .inr fun h => h40 ⟨hlt, h⟩)

end Go.Proofs.YtohepefbogngfaaDoor

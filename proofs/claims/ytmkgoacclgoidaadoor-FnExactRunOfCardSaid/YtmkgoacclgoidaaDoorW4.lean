/- The walks of impl's word, and the library's numbers, in the words of this work. -/
import Derived.Test.YtmkgoacclgoidaaDoorW3
import Derived.Test.YtmkgoacclgoidaaDoorP2
import Derived.Test.YtmkgoacclgoidaaDoorI1
namespace Go.Proofs.YtmkgoacclgoidaaDoor
open Go.RowKit

def idxSep (l : Bs) : Int := if (wordRest l) = [] then -1 else (wordOf l).length

theorem word_append (l : Bs) : wordOf l ++ wordRest l = l := List.takeWhile_append_dropWhile
theorem word_take (l : Bs) : l.take (wordOf l).length = wordOf l := by
  have h := word_append l
  have := List.take_left (l₁ := wordOf l) (l₂ := wordRest l); rw [h] at this; exact this
theorem word_drop (l : Bs) : l.drop (wordOf l).length = wordRest l := by
  have h := word_append l
  have := List.drop_left (l₁ := wordOf l) (l₂ := wordRest l); rw [h] at this; exact this
theorem word_le (l : Bs) : (wordOf l).length + (wordRest l).length = l.length := by
  have := congrArg List.length (word_append l); simpa using this

theorem indexAny_sep (l : Bs) : Lib.indexAny l [32, 40, 41] = idxSep l := by
  induction l with
  | nil => rfl
  | cons b l ih =>
    rw [Lib.indexAny]
    have hs : ([32, 40, 41] : Bs).contains b = sep b := by
      rw [Bool.eq_iff_iff]; simp [sep, or_assoc]
    rw [hs]
    cases hb : sep b
    · have e1 : wordOf (b :: l) = b :: wordOf l := by simp [wordOf, hb]
      have e2 : wordRest (b :: l) = wordRest l := by simp [wordRest, hb]
      rw [ih]
      unfold idxSep
      rw [e1, e2]
      by_cases h : wordRest l = []
      · simp [h]
      · simp only [h, if_false, Bool.false_eq_true]
        rw [if_neg (by rw [beq_iff_eq]; omega)]
        simp
    · have e1 : wordOf (b :: l) = [] := by simp [wordOf, hb]
      have e2 : wordRest (b :: l) = b :: l := by simp [wordRest, hb]
      unfold idxSep
      rw [e1, e2]; simp

theorem indexAny_any (l : Bs) (w : World) (hl : Lim l.length) :
    Calls Tryd.prog 105 #[str l, .string ⟨#[32, 40, 41]⟩] w fun en w' => en = .returned (.int .i64 (idxSep l)) ∧ Below w.heap.size w w' := by
  have hl' := hl.le
  have hsz : (⟨l.toArray⟩ : ByteArray).size = l.length := size_str l
  rw [← indexAny_sep]
  by_cases h8 : l.length ≤ 8
  · have := indexAny_short ⟨l.toArray⟩ (by omega) w
    simpa [str] using this
  · refine (Tryd.strings_IndexAny_long (zero_of_info (n := 256) (by kernel_rfl)).1 ⟨l.toArray⟩ ⟨#[32, 40, 41]⟩ w (by show 2 ≤ 3; omega) (by omega) (by omega) (by show 3 < 4294967281; omega) (by
      intro j b hj
      have : b ∈ ([32, 40, 41] : Bs) := List.mem_of_getElem? hj
      simp at this
      rcases this with rfl | rfl | rfl <;> decide)).mono ?_
    rintro e w' ⟨rfl, rfl⟩
    refine ⟨by simp, ((Below.refl _ _).alloc (Nat.le_refl _) _).alloc (by simp) _⟩

set_option maxHeartbeats 400000 in
theorem word_any (sc : Nat) (c : List Value) (e : TypeId) (r : Bs) (w : World) (h : Scan sc c e r w) (hr : Lim r.length) :
    Calls Tryd.prog 95 #[.pointer (some ⟨sc, 0, none⟩)] w fun en w' =>
      en = .returned (str (wordOf r)) ∧ But (· = sc) w w' ∧ Scan sc c e (wordRest r) w' := by
  have h1 := h.cell
  have h2 := h.free 0
  have hsc := scan_lt h
  have hl := hr.le
  have hw := word_le r
  go_enter Tryd.func95, Tryd.ntmps95
  go_wp2_with fail
  refine (indexAny_any r w hr).mono ?_
  rintro en w1 ⟨rfl, hb⟩
  have c1 : w1.cell? ⟨sc, 0, none⟩ = some (str r) := by rw [hb.cell hsc]; exact h1
  have c2 : w1.frozen? ⟨sc, 0, none⟩ = false := by rw [hb.frozen hsc]; exact h2
  have hS : Scan sc c e r w1 := by unfold Scan; rw [hb.block sc hsc]; exact h
  clear h1 h2
  by_cases h0 : wordRest r = []
  · have hi : idxSep r = -1 := by simp [idxSep, h0]
    rw [hi]
    have e1 : wordOf r = r := by have := word_append r; rw [h0] at this; simpa using this
    have HE := Lib.hid e1; have H0 := Lib.hid h0; clear e1 h0 hi
    go_wp2_with fail
    go_ret
    have e2 : (⟨r.toArray⟩ : ByteArray).extract 0 r.length = ⟨(wordOf r).toArray⟩ := by rw [ext_str, HE.out]; simp
    refine ⟨?_, (But.ofBelow hb).setS 0 _, ?_⟩
    · show Ending.returned (.string _) = _; rw [e2]
    · have := hS.put (r' := wordRest r); rw [H0.out] at this ⊢; exact this
  · have hi : idxSep r = (wordOf r).length := by simp [idxSep, h0]
    rw [hi]
    have hlt : (wordOf r).length ≤ r.length := by omega
    have H0 := Lib.hid h0; clear h0 hi
    go_wp2_with fail
    go_ret
    have e2 : (⟨r.toArray⟩ : ByteArray).extract 0 (wordOf r).length = ⟨(wordOf r).toArray⟩ := by rw [ext_str, List.drop_zero, word_take]
    have e3 : (⟨r.toArray⟩ : ByteArray).extract (wordOf r).length r.length = ⟨(wordRest r).toArray⟩ := by rw [ext_str, List.take_length, word_drop]
    refine ⟨?_, (But.ofBelow hb).setS 0 _, ?_⟩
    · show Ending.returned (.string _) = _; rw [e2]
    · rw [e3]; exact hS.put

/-- The library's variables hold what their initialisers laid. -/
structure Glob (w : World) : Prop where
  e0 : ∃ te pe, w.var? Tryd.prog "strconv.ErrSyntax" = some #[.iface te pe]
  e1 : ∃ te pe, w.var? Tryd.prog "strconv.ErrRange" = some #[.iface te pe]
  tab : Lib.TabIs Tryd.prog w "internal/strconv.uint64pow10" .u64 Lib.pow10Tab

def NotG (b : Nat) : Prop := b ≠ 1 ∧ b ≠ 2 ∧ b ≠ 3

theorem Tryd.gn0 : Tryd.prog.globalNamed "strconv.ErrSyntax" = some 1 := by kernel_rfl
theorem Tryd.gn1 : Tryd.prog.globalNamed "strconv.ErrRange" = some 2 := by kernel_rfl
theorem Tryd.gn2 : Tryd.prog.globalNamed "internal/strconv.uint64pow10" = some 3 := by kernel_rfl

theorem var_lt {P : Program} {w : World} {nm : String} {g : Nat} {x : Array Value} (hg : P.globalNamed nm = some g) (h : w.var? P nm = some x) : g < w.heap.size := by
  unfold World.var? at h
  rw [hg] at h
  simp only [Option.bind_some] at h
  rcases Nat.lt_or_ge g w.heap.size with h' | h'
  · exact h'
  · rw [Array.getElem?_eq_none h'] at h; simp at h
theorem var_keep {P : Program} {w w' : World} {nm : String} {g : Nat} {x : Array Value} (hg : P.globalNamed nm = some g) (hk : w'.heap[g]? = w.heap[g]?) (h : w.var? P nm = some x) : w'.var? P nm = some x := by
  unfold World.var? at *
  rw [hg] at *
  simp only [Option.bind_some] at *
  rw [hk]; exact h

theorem Glob.but {m : Nat → Prop} {w w' : World} (h : Glob w) (hb : But m w w') (hm : ∀ i, m i → NotG i) : Glob w' := by
  obtain ⟨⟨t0, p0, h0⟩, ⟨t1, p1, h1⟩, h2⟩ := h
  have l0 := var_lt Tryd.gn0 h0
  have l1 := var_lt Tryd.gn1 h1
  have l2 := var_lt Tryd.gn2 h2
  exact ⟨⟨t0, p0, var_keep Tryd.gn0 (hb.block _ l0 fun e => (hm _ e).1 rfl) h0⟩, ⟨t1, p1, var_keep Tryd.gn1 (hb.block _ l1 fun e => (hm _ e).2.1 rfl) h1⟩, var_keep Tryd.gn2 (hb.block _ l2 fun e => (hm _ e).2.2 rfl) h2⟩
theorem Glob.below {w w' : World} (h : Glob w) (hb : Below w.heap.size w w') : Glob w' := h.but (m := fun _ => False) (But.ofBelow hb) (fun _ e => e.elim)
theorem Glob.new {w : World} (h : Glob w) {b : Nat} (hb : w.heap.size ≤ b) : NotG b := by
  obtain ⟨⟨t0, p0, h0⟩, ⟨t1, p1, h1⟩, h2⟩ := h
  have l0 := var_lt Tryd.gn0 h0
  have l1 := var_lt Tryd.gn1 h1
  have l2 := var_lt Tryd.gn2 h2
  exact ⟨by omega, by omega, by omega⟩

theorem below_drewN {B : Nat} {a w : World} (h : Below B a w) (n : Nat) : Below B a (w.drewN n) := h.trans ⟨rfl, rfl, rfl, Nat.le_refl _, fun _ _ => rfl⟩
theorem below_grow (w : World) (os : Array Obj) : Below w.heap.size w (Go.Sort.grow w os) :=
  ⟨rfl, rfl, rfl, by simp [Go.Sort.grow], fun k hk => by simp [Go.Sort.grow, Array.getElem?_append_left hk]⟩
theorem below_freeze {B : Nat} {a w : World} (h : Below B a w) {p : Addr} (hp : B ≤ p.block) (n : Nat) : Below B a (w.freeze p n) := by
  refine h.trans ⟨?_, ?_, ?_, ?_, ?_⟩
  · unfold World.freeze; split <;> rfl
  · unfold World.freeze; split <;> rfl
  · unfold World.freeze; split <;> rfl
  · unfold World.freeze; split <;> simp
  · intro k hk
    unfold World.freeze; split
    · rfl
    · simp only [Array.getElem?_modify]; rw [if_neg (by omega)]
theorem below_bytesWorld (w : World) (e : TypeId) (s : ByteArray) : Below w.heap.size w (Lib.bytesWorld w e s) :=
  below_freeze (((Below.refl w.heap.size w).drew).alloc (Nat.le_refl _) _) (Nat.le_refl _) _

theorem atoi_ok (l : Bs) (w : World) (hl : Lim l.length) (v : Int) (h : Lib.atoiAll l = .ok v) :
    Calls Tryd.prog 97 #[str l] w fun en w' => en = .returned (.tuple #[.int .i64 v, .nilIface]) ∧ Below w.heap.size w w' := by
  have hl' := hl.le
  refine (Tryd.strconv_Atoi_ok ⟨l.toArray⟩ (by show l.toArray.size ≤ _; simp; omega) v h w).mono ?_
  rintro en w' ⟨rfl, rfl | ⟨t, rfl⟩⟩
  · exact ⟨rfl, Below.refl _ _⟩
  · exact ⟨rfl, below_bytesWorld _ _ _⟩

theorem atoi_no (l : Bs) (w : World) (hl : Lim l.length) (hg : Glob w) (h : ∀ v, Lib.atoiAll l ≠ .ok v) :
    Calls Tryd.prog 97 #[str l] w fun en w' => ∃ v t p, en = .returned (.tuple #[.int .i64 v, .iface t p]) ∧ Below w.heap.size w w' := by
  have hl' := hl.le
  have hs : (⟨l.toArray⟩ : ByteArray).size ≤ 281474976710656 := by show l.toArray.size ≤ _; simp; omega
  cases ha : Lib.atoiAll l
  · rename_i v; exact absurd ha (h v)
  · obtain ⟨te, pe, h0⟩ := hg.e0
    refine (Tryd.strconv_Atoi_syntax_var ⟨l.toArray⟩ hs ha te pe w h0).mono ?_
    rintro en w' ⟨N, rfl, _, _, hb⟩
    exact ⟨_, _, _, rfl, hb⟩
  · obtain ⟨te, pe, h0⟩ := hg.e1
    refine (Tryd.strconv_Atoi_range_var ⟨l.toArray⟩ hs ha te pe w h0).mono ?_
    rintro en w' ⟨N, rfl, _, _, hb⟩
    exact ⟨_, _, _, rfl, hb⟩

theorem itoa_any (n : Int) (w : World) (hg : Glob w) (h0 : -9223372036854775808 ≤ n) (h1 : n ≤ 9223372036854775807) :
    Calls Tryd.prog 89 #[.int .i64 n] w fun en w' => en = .returned (str (Lib.itoa n)) ∧ Below w.heap.size w w' := by
  refine (Tryd.strconv_Itoa n h0 h1 w hg.tab).mono ?_
  rintro en w' ⟨rfl, k, os, rfl⟩
  exact ⟨rfl, (below_drewN (Below.refl _ _) k).trans (below_grow (w.drewN k) os)⟩


theorem atoiAll_bd {l : Bs} {v : Int} (h : Lib.atoiAll l = .ok v) : -9223372036854775808 ≤ v ∧ v ≤ 9223372036854775807 := by
  unfold Lib.atoiAll at h
  split at h
  · simp at h
  · simp only at h
    split at h
    · simp at h
    · simp at h
    · split at h
      · simp at h
      · split at h
        · simp at h
        · rename_i h1 h2
          simp only [Lib.NumEnd.ok.injEq] at h
          split at h <;> omega

/-- Itoa of what Atoi has read. -/
theorem itoa_of {l : Bs} {v : Int} (h : Lib.atoiAll l = .ok v) (w : World) (hg : Glob w) :
    Calls Tryd.prog 89 #[.int .i64 v] w fun en w' => en = .returned (str (Lib.itoa v)) ∧ Below w.heap.size w w' :=
  itoa_any v w hg (atoiAll_bd h).1 (atoiAll_bd h).2

end Go.Proofs.YtmkgoacclgoidaaDoor

/- The walks of impl's machine: move (no play is kept), places, entries. -/
import Derived.Test.YtmkgoacclgoidaaDoorP9
import Derived.Test.YtmkgoacclgoidaaDoorW9a
import Derived.Deep.QuietTactic
import Derived.BigQuiet
namespace Go.Proofs.YtmkgoacclgoidaaDoor
open Go.RowKit

/-- The machine's block while no play is kept. -/
def Ma (w : World) (ma most moves : Nat) : Prop := w.heap[ma]? = some (.cells #[.slice none 0 0, .slice none 0 0, .int .i64 (most : Nat), .int .i64 (moves : Nat), .bool false] 101 (0, 0))
theorem Ma.cells {w : World} {ma most moves : Nat} (h : Ma w ma most moves) : w.cell? ⟨ma, 2, none⟩ = some (.int .i64 (most : Nat)) ∧ w.cell? ⟨ma, 3, none⟩ = some (.int .i64 (moves : Nat)) ∧ w.cell? ⟨ma, 4, none⟩ = some (.bool false) ∧ w.frozen? ⟨ma, 3, none⟩ = false := by
  unfold Ma at h
  exact ⟨by simp [World.cell?, h], by simp [World.cell?, h], by simp [World.cell?, h], by simp [World.frozen?, h]⟩
theorem Ma.but {m : Nat → Prop} {w w' : World} {ma most moves : Nat} (h : Ma w ma most moves) (hb : But m w w') (hm : ¬ m ma) : Ma w' ma most moves := by
  unfold Ma; rw [hb.block ma (lt_of_heap h) hm]; exact h
theorem Ma.below {w w' : World} {ma most moves : Nat} (h : Ma w ma most moves) (hb : Below w.heap.size w w') : Ma w' ma most moves := by
  unfold Ma; rw [hb.block ma (lt_of_heap h)]; exact h
theorem Ma.drewN {w : World} {ma most moves : Nat} (h : Ma w ma most moves) (n : Nat) : Ma (w.drewN n) ma most moves := h

/-- impl.errTooMany holds an error. -/
def GlobT (w : World) : Prop := ∃ te pe, w.cell? ⟨0, 0, none⟩ = some (.iface te pe)
theorem GlobT.but {m : Nat → Prop} {w w' : World} (h : GlobT w) (hb : But m w w') (hm : ¬ m 0) : GlobT w' := by
  obtain ⟨te, pe, h⟩ := h
  exact ⟨te, pe, (hb.cell (World.block_lt_of_cell? w _ h) hm).trans h⟩

theorem below_dN_but' {m : Nat → Prop} {a w : World} (h : But m a w) (n : Nat) : But m a (w.drewN n) := ⟨h.os, h.tape, h.output, h.size, h.block⟩

/-- What a move leaves. -/
def Moved (ma most moves : Nat) (w : World) (en : Ending) (w' : World) : Prop :=
  if moves = most then ∃ te pe, en = .returned (.tuple #[.int .i64 0, .iface te pe]) ∧ Below w.heap.size w w'
  else en = .returned (.tuple #[.int .i64 (moves : Nat), .nilIface]) ∧ But (· = ma) w w' ∧ Ma w' ma most (moves + 1)

set_option maxRecDepth 100000 in
set_option maxHeartbeats 2000000 in
theorem move_any (ma most moves : Nat) (s : Bs) (p : Int) (w : World) (h : Ma w ma most moves) (hg : GlobT w) (hm : most ≤ 16777216) (hmm : moves ≤ most) :
    Calls Tryd.prog 78 #[.pointer (some ⟨ma, 0, none⟩), str s, .int .i64 p] w (Moved ma most moves w) := by
  obtain ⟨c2, c3, c4, f3⟩ := h.cells
  obtain ⟨te, pe, hgl⟩ := hg
  have H := Lib.hid h; clear h
  by_cases he : moves = most
  · have hd : ((moves : Int) == (most : Int)) = true := by rw [beq_iff_eq]; omega
    have HE := Lib.hid he; clear he
    go_enter Tryd.func78, Tryd.ntmps78
    go_wp2_with fail
    go_quiet (fail)
    go_wp2_with fail
    go_quiet (fail)
    go_wp2_with fail
    refine bodyPost_ret (v := .tuple #[.int .i64 0, .iface te pe]) (by simp [results, Tryd.results78, go_sem]) rfl ?_
    unfold Moved
    rw [if_pos HE.out]
    exact ⟨te, pe, rfl, by first | exact below_dN (Below.refl _ _) _ | exact below_dN (below_dN (Below.refl _ _) _) _⟩
  · have hd : ((moves : Int) == (most : Int)) = false := by rw [beq_eq_false_iff_ne]; omega
    have HE := Lib.hid he; clear he
    have hw : IntKind.i64.wrap ((moves : Int) + 1) = (moves : Int) + 1 := by
      rw [show (moves : Int) + 1 = ((moves + 1 : Nat) : Int) from by omega]; exact wrap_nat _ (by omega)
    go_enter Tryd.func78, Tryd.ntmps78
    go_wp2_with fail
    go_quiet (fail)
    have HN := Lib.hid (H.out.drewN nq)
    have c4' : (w.drewN nq).cell? ⟨ma, 4, none⟩ = some (.bool false) := c4
    have hput : Ma ((w.drewN nq).setCell ⟨ma, 3, none⟩ (.int .i64 ((moves : Int) + 1))) ma most (moves + 1) := by
      unfold Ma; rw [setCell_at HN.out]; rfl
    have d4 : ((w.drewN nq).setCell ⟨ma, 3, none⟩ (.int .i64 ((moves : Int) + 1))).cell? ⟨ma, 4, none⟩ = some (.bool false) := hput.cells.2.2.1
    have d3 : ((w.drewN nq).setCell ⟨ma, 3, none⟩ (.int .i64 ((moves : Int) + 1))).cell? ⟨ma, 3, none⟩ = some (.int .i64 ((moves : Int) + 1)) := hput.cells.2.1
    have HP := Lib.hid hput; clear hput
    have hbt : But (· = ma) w ((w.drewN nq).setCell ⟨ma, 3, none⟩ (.int .i64 ((moves : Int) + 1))) :=
      But.setCell (m := (· = ma)) (p := ⟨ma, 3, none⟩) (below_dN_but' (But.refl _ _) _) (.inl rfl) _
    have HB := Lib.hid hbt; clear hbt
    go_wp2_with fail
    refine bodyPost_ret (v := .tuple #[.int .i64 (moves : Nat), .nilIface]) (by simp [results, Tryd.results78, go_sem]) rfl ?_
    unfold Moved
    rw [if_neg HE.out]
    exact ⟨rfl, HB.out, HP.out⟩

theorem SrcSl.litk {w : World} {e : TypeId} {sz : Nat} (cs : Array Value) (hn : cs.size = sz) (hc : ∀ u ∈ cs.toList, u.oneCell' = true) (g : Nat) (hg : g = w.heap.size) : SrcSl sz (.slice (some ⟨g, 0, none⟩) 1 1) 1 cs.toList (w.alloc (.cells cs e)) := by
  subst hg
  refine ⟨by simp [hn], hc, .inl ⟨_, _, rfl, fun j u hu => ?_⟩⟩
  unfold Addr.add
  split
  · subst j; simp; simpa using hu
  · simp; simpa using hu

/-- The cells of n places. -/
def plcs (begun : Nat) (path : Bs) : Nat → List Value
  | 0 => []
  | n + 1 => plcs begun path n ++ [.int .i64 (begun : Nat), str (path ++ dec n)]
theorem dec_decDigits (n : Nat) : dec n = Lib.decDigits n := by
  induction n using Nat.strongRecOn with
  | _ n ih =>
    by_cases h : n < 10
    · rw [dec_small h, Lib.decDigits, dif_pos h]; rfl
    · rw [dec_great h, Lib.decDigits, dif_neg h, ih (n / 10) (Nat.div_lt_self (by omega) (by omega))]; rfl
theorem itoa_dec (i : Nat) : Lib.itoa (i : Int) = dec i := by
  rw [dec_decDigits, Lib.itoa, if_neg (by omega)]; rfl

theorem Tryd.infoPl : (Tryd.prog.info? 74).map (fun i => (i.zero, i.size, i.bytes)) = some (some (.agg #[.int .i64 0, str []]), 2, 24) := by kernel_rfl

def FreshSl (w : World) (e : TypeId) (sz n : Nat) (xs : List Value) (en : Ending) (w' : World) : Prop :=
  ∃ a c, en = .returned (.slice a n c) ∧ Own w' e sz (.slice a n c) n xs ∧ Below w.heap.size w w' ∧ (∀ g, (Value.slice a n c).ownBlock = some g → w.heap.size ≤ g)

set_option maxRecDepth 100000 in
set_option maxHeartbeats 2000000 in
theorem places_any (n begun : Nat) (path : Bs) (w : World) (hg : Glob w) (hn : n ≤ 16) (hp : path.length ≤ 1000000) :
    Calls Tryd.prog 61 #[.int .i64 (n : Nat), .int .i64 (begun : Nat), str path] w (FreshSl w 74 2 n (plcs begun path n)) := by
  have HG := Lib.hid hg; clear hg
  go_enter Tryd.func61, Tryd.ntmps61
  go_wp2_with fail
  go_loopw [7, 10] (fun o i wr => ∃ k : Nat, k ≤ n ∧ i = .int .i64 k ∧ ∃ a c, o = .slice a k c ∧ Own wr 74 2 (.slice a k c) k (plcs begun path k) ∧ Below w.heap.size w wr ∧ (∀ g, (Value.slice a k c).ownBlock = some g → w.heap.size ≤ g)) (fun _ i _ => n - (intOf i).toNat)
  case atStart => exact ⟨0, Nat.zero_le _, rfl, none, 0, rfl, World.ownsRow_nil _ _ _ _, Below.refl _ _, fun g h => by simp [Value.ownBlock] at h⟩
  case round =>
    obtain ⟨k, hk, rfl, a, c, rfl, ho, hb, hf⟩ := hrel
    have HO := Lib.hid ho; have HF := Lib.hid hf; have HB := Lib.hid hb
    clear ho hf hb
    by_cases hlt : k < n
    · have hlt' : (k : Int) < (n : Int) := by omega
      have hdl : (dec k).length ≤ 2 := dec_length 1 k (by omega)
      have hadd := fun w0 => add_str (P := Tryd.prog) path (dec k) (by omega) w0
      have hgw := Lib.hid (HG.out.below HB.out)
      have HI := Lib.hid (itoa_dec k)
      go_wp2_with fail
      refine (itoa_any (k : Int) _ hgw.out (by omega) (by omega)).mono ?_
      rintro en w1 ⟨rfl, hb1⟩
      rw [HI.out]
      generalize hS : path ++ dec k = S at *
      have HS := Lib.hid hS; clear hS
      have z1 := hb1.size
      have HB1 := Lib.hid hb1; clear hb1
      go_wp2_with (at_builtin; refine wpList_append_gen rfl _ _ 72 rfl 74 (.agg #[.int .i64 0, str []]) 2 24 Tryd.underlying72 Tryd.infoPl rfl (by decide) (.slice a k c) k (plcs begun path k) rfl ?c1 _ 1 [.int .i64 (begun : Nat), str S] rfl ?c2 ?c3 ?c4 ?_)
      case c1 => exact (HO.out.keep fun g o _ ho => by rw [HB1.out.block g (lt_of_heap ho)]; exact ho).alloc _
      case c2 => exact SrcSl.litk #[.int .i64 (begun : Nat), str S] rfl (by simp [str, Value.oneCell']) _ (by simp)
      case c3 => unfold maxLen; omega
      case c4 => omega
      intro a' c' w7 ho7 hb7 hg7
      have hA : Own w7 74 2 (.slice a' (k + 1) c') (k + 1) (plcs begun path (k + 1)) := by
        rw [plcs, HS.out]; exact ho7
      have hb17 : Below w.heap.size w w7 := by
        have h1 := HB.out.trans (HB1.out.mono HB.out.size)
        refine (h1.alloc h1.size _).trans (hb7.toBelow (by rw [size_alloc]; have := h1.size; omega) fun i hi e => ?_)
        have := HF.out i e; omega
      have hf7 : ∀ g, (Value.slice a' (k + 1) c').ownBlock = some g → w.heap.size ≤ g := by
        intro g h
        rcases hg7 g h with h | h
        · exact HF.out g h
        · have h2 := HB.out.size
          have h3 : g = w1.heap.size + 1 := by simpa using h
          omega
      have HA := Lib.hid (And.intro hA (And.intro hb17 hf7)); clear hA hb17 hf7 ho7 hb7 hg7
      go_wp2_with fail
      go_roundw
      case rel => exact ⟨k + 1, by omega, by go_num, a', c', rfl, HA.out.1, HA.out.2.1, HA.out.2.2⟩
      case measure => simp [intOf]; omega
    · obtain rfl : k = n := by omega
      go_wp2_with fail
      go_ret
      exact ⟨a, c, rfl, HO.out, HB.out, HF.out⟩

end Go.Proofs.YtmkgoacclgoidaaDoor

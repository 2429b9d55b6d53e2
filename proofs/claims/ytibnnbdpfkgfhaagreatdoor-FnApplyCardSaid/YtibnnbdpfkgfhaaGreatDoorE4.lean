import Derived.Test.YtibnnbdpfkgfhaaGreatDoorP9
import Derived.Test.YtibnnbdpfkgfhaaGreatDoorW9a
import Derived.Deep.QuietTactic
import Derived.BigQuiet

/- The walks of impl's machine: move (no play is kept), places, entries. -/
namespace Go.Proofs.YtibnnbdpfkgfhaaGreatDoor
open Go.RowKit

/-- The machine's block while no play is kept. -/
def Ma (w : World) (ma most moves : Nat) : Prop := w.heap[ma]? = some (.cells #[.slice none 0 0, .slice none 0 0, .int .i64 (most : Nat), .int .i64 (moves : Nat), .bool false] 146 (0, 0))
theorem Ma.cells {w : World} {ma most moves : Nat} (h : Ma w ma most moves) : w.cell? ⟨ma, 2, none⟩ = some (.int .i64 (most : Nat)) ∧ w.cell? ⟨ma, 3, none⟩ = some (.int .i64 (moves : Nat)) ∧ w.cell? ⟨ma, 4, none⟩ = some (.bool false) ∧ w.frozen? ⟨ma, 3, none⟩ = false := by
  unfold Ma at h
  exact ⟨by simp [World.cell?, h], by simp [World.cell?, h], by simp [World.cell?, h], by simp [World.frozen?, h]⟩
theorem Ma.but {m : Nat → Prop} {w w' : World} {ma most moves : Nat} (h : Ma w ma most moves) (hb : But m w w') (hm : ¬ m ma) : Ma w' ma most moves := by
  unfold Ma; rw [hb.block ma (lt_of_heap h) hm]; exact h
theorem Ma.below {w w' : World} {ma most moves : Nat} (h : Ma w ma most moves) (hb : Below w.heap.size w w') : Ma w' ma most moves := by
  unfold Ma; rw [hb.block ma (lt_of_heap h)]; exact h
theorem Ma.drewN {w : World} {ma most moves : Nat} (h : Ma w ma most moves) (n : Nat) : Ma (w.drewN n) ma most moves := h

/-- impl.errTooMany holds an error. -/
def GlobT (w : World) : Prop := ∃ te pe, w.cell? ⟨0, 0, none⟩ = some (.iface te pe)
theorem GlobT.but {m : Nat → Prop} {w w' : World} (h : GlobT w) (hb : But m w w') (hm : ¬ m 0) : GlobT w' := by
  obtain ⟨te, pe, h⟩ := h
  exact ⟨te, pe, (hb.cell (World.block_lt_of_cell? w _ h) hm).trans h⟩

theorem below_dN_but' {m : Nat → Prop} {a w : World} (h : But m a w) (n : Nat) : But m a (w.drewN n) := ⟨h.os, h.tape, h.output, h.size, h.block⟩

/-- What a move leaves. -/
def Moved (ma most moves : Nat) (w : World) (en : Ending) (w' : World) : Prop :=
  if moves = most then ∃ te pe, en = .returned (.tuple #[.int .i64 0, .iface te pe]) ∧ Below w.heap.size w w'
  else en = .returned (.tuple #[.int .i64 (moves : Nat), .nilIface]) ∧ But (· = ma) w w' ∧ Ma w' ma most (moves + 1)

set_option maxRecDepth 100000 in
set_option maxHeartbeats 2000000 in
theorem move_any (ma most moves : Nat) (s : Bs) (p : Int) (w : World) (h : Ma w ma most moves) (hg : GlobT w) (hm : most ≤ 16777216) (hmm : moves ≤ most) :
    Calls Tryz.prog 106 #[.pointer (some ⟨ma, 0, none⟩), str s, .int .i64 p] w (Moved ma most moves w) := by
  obtain ⟨c2, c3, c4, f3⟩ := h.cells
  obtain ⟨te, pe, hgl⟩ := hg
  have H := Lib.hid h; clear h
  by_cases he : moves = most
  · have hd : ((moves : Int) == (most : Int)) = true := by rw [beq_iff_eq]; omega
    have HE := Lib.hid he; clear he
    go_enter Tryz.func106, Tryz.ntmps106
    go_wp2_with fail
    go_quiet (fail)
    go_wp2_with fail
    go_quiet (fail)
    go_wp2_with fail
    refine bodyPost_ret (v := .tuple #[.int .i64 0, .iface te pe]) (by simp [results, Tryz.results106, go_sem]) rfl ?_
    unfold Moved
    rw [if_pos HE.out]
    exact ⟨te, pe, rfl, by first | exact below_dN (Below.refl _ _) _ | exact below_dN (below_dN (Below.refl _ _) _) _⟩
  · have hd : ((moves : Int) == (most : Int)) = false := by rw [beq_eq_false_iff_ne]; omega
    have HE := Lib.hid he; clear he
    have hw : IntKind.i64.wrap ((moves : Int) + 1) = (moves : Int) + 1 := by
      rw [show (moves : Int) + 1 = ((moves + 1 : Nat) : Int) from by omega]; exact wrap_nat _ (by omega)
    go_enter Tryz.func106, Tryz.ntmps106
    go_wp2_with fail
    go_quiet (fail)
    have HN := Lib.hid (H.out.drewN nq)
    have c4' : (w.drewN nq).cell? ⟨ma, 4, none⟩ = some (.bool false) := c4
    have hput : Ma ((w.drewN nq).setCell ⟨ma, 3, none⟩ (.int .i64 ((moves : Int) + 1))) ma most (moves + 1) := by
      unfold Ma; rw [setCell_at HN.out]; rfl
    have d4 : ((w.drewN nq).setCell ⟨ma, 3, none⟩ (.int .i64 ((moves : Int) + 1))).cell? ⟨ma, 4, none⟩ = some (.bool false) := hput.cells.2.2.1
    have d3 : ((w.drewN nq).setCell ⟨ma, 3, none⟩ (.int .i64 ((moves : Int) + 1))).cell? ⟨ma, 3, none⟩ = some (.int .i64 ((moves : Int) + 1)) := hput.cells.2.1
    have HP := Lib.hid hput; clear hput
    have hbt : But (· = ma) w ((w.drewN nq).setCell ⟨ma, 3, none⟩ (.int .i64 ((moves : Int) + 1))) :=
      But.setCell (m := (· = ma)) (p := ⟨ma, 3, none⟩) (below_dN_but' (But.refl _ _) _) (.inl rfl) _
    have HB := Lib.hid hbt; clear hbt
    go_wp2_with fail
    refine bodyPost_ret (v := .tuple #[.int .i64 (moves : Nat), .nilIface]) (by simp [results, Tryz.results106, go_sem]) rfl ?_
    unfold Moved
    rw [if_neg HE.out]
    exact ⟨rfl, HB.out, HP.out⟩

theorem SrcSl.litk {w : World} {e : TypeId} {sz : Nat} (cs : Array Value) (hn : cs.size = sz) (hc : ∀ u ∈ cs.toList, u.oneCell' = true) (g : Nat) (hg : g = w.heap.size) : SrcSl sz (.slice (some ⟨g, 0, none⟩) 1 1) 1 cs.toList (w.alloc (.cells cs e)) := by
  subst hg
  refine ⟨by simp [hn], hc, .inl ⟨_, _, rfl, fun j u hu => ?_⟩⟩
  unfold Addr.add
  split
  · subst j; simp; simpa using hu
  · simp; simpa using hu

/-- The cells of n places. -/
def plcs (begun : Nat) (path : Bs) : Nat → List Value
  | 0 => []
  | n + 1 => plcs begun path n ++ [.int .i64 (begun : Nat), str (path ++ dec n)]
theorem dec_decDigits (n : Nat) : dec n = Lib.decDigits n := by
  induction n using Nat.strongRecOn with
  | _ n ih =>
    by_cases h : n < 10
    · rw [dec_small h, Lib.decDigits, dif_pos h]; rfl
    · rw [dec_great h, Lib.decDigits, dif_neg h, ih (n / 10) (Nat.div_lt_self (by omega) (by omega))]; rfl
theorem itoa_dec (i : Nat) : Lib.itoa (i : Int) = dec i := by
  rw [dec_decDigits, Lib.itoa, if_neg (by omega)]; rfl

theorem Tryz.infoPl : (Tryz.prog.info? 179).map (fun i => (i.zero, i.size, i.bytes)) = some (some (.agg #[.int .i64 0, str []]), 2, 24) := by kernel_rfl

def FreshSl (w : World) (e : TypeId) (sz n : Nat) (xs : List Value) (en : Ending) (w' : World) : Prop :=
  ∃ a c, en = .returned (.slice a n c) ∧ Own w' e sz (.slice a n c) n xs ∧ Below w.heap.size w w' ∧ (∀ g, (Value.slice a n c).ownBlock = some g → w.heap.size ≤ g)

set_option maxRecDepth 100000 in
set_option maxHeartbeats 2000000 in
theorem places_any (n begun : Nat) (path : Bs) (w : World) (hg : Glob w) (hn : n ≤ 16) (hp : path.length ≤ 1000000) :
    Calls Tryz.prog 108 #[.int .i64 (n : Nat), .int .i64 (begun : Nat), str path] w (FreshSl w 179 2 n (plcs begun path n)) := by
  have HG := Lib.hid hg; clear hg
  go_enter Tryz.func108, Tryz.ntmps108
  go_wp2_with fail
  go_loopw [7, 10] (fun o i wr => ∃ k : Nat, k ≤ n ∧ i = .int .i64 k ∧ ∃ a c, o = .slice a k c ∧ Own wr 179 2 (.slice a k c) k (plcs begun path k) ∧ Below w.heap.size w wr ∧ (∀ g, (Value.slice a k c).ownBlock = some g → w.heap.size ≤ g)) (fun _ i _ => n - (intOf i).toNat)
  case atStart => exact ⟨0, Nat.zero_le _, rfl, none, 0, rfl, World.ownsRow_nil _ _ _ _, Below.refl _ _, fun g h => by simp [Value.ownBlock] at h⟩
  case round =>
    obtain ⟨k, hk, rfl, a, c, rfl, ho, hb, hf⟩ := hrel
    have HO := Lib.hid ho; have HF := Lib.hid hf; have HB := Lib.hid hb
    clear ho hf hb
    by_cases hlt : k < n
    · have hlt' : (k : Int) < (n : Int) := by omega
      have hdl : (dec k).length ≤ 2 := dec_length 1 k (by omega)
      have hadd := fun w0 => add_str (P := Tryz.prog) path (dec k) (by omega) w0
      have hgw := Lib.hid (HG.out.below HB.out)
      have HI := Lib.hid (itoa_dec k)
      go_wp2_with fail
      refine (itoa_any (k : Int) _ hgw.out (by omega) (by omega)).mono ?_
      rintro en w1 ⟨rfl, hb1⟩
      rw [HI.out]
      generalize hS : path ++ dec k = S at *
      have HS := Lib.hid hS; clear hS
      have z1 := hb1.size
      have HB1 := Lib.hid hb1; clear hb1
      go_wp2_with (at_builtin; refine wpList_append_gen rfl _ _ 182 rfl 179 (.agg #[.int .i64 0, str []]) 2 24 Tryz.underlying182 Tryz.infoPl rfl (by decide) (.slice a k c) k (plcs begun path k) rfl ?c1 _ 1 [.int .i64 (begun : Nat), str S] rfl ?c2 ?c3 ?c4 ?_)
      case c1 => exact (HO.out.keep fun g o _ ho => by rw [HB1.out.block g (lt_of_heap ho)]; exact ho).alloc _
      case c2 => exact SrcSl.litk #[.int .i64 (begun : Nat), str S] rfl (by simp [str, Value.oneCell']) _ (by simp)
      case c3 => unfold maxLen; omega
      case c4 => omega
      intro a' c' w7 ho7 hb7 hg7
      have hA : Own w7 179 2 (.slice a' (k + 1) c') (k + 1) (plcs begun path (k + 1)) := by
        rw [plcs, HS.out]; exact ho7
      have hb17 : Below w.heap.size w w7 := by
        have h1 := HB.out.trans (HB1.out.mono HB.out.size)
        refine (h1.alloc h1.size _).trans (hb7.toBelow (by rw [size_alloc]; have := h1.size; omega) fun i hi e => ?_)
        have := HF.out i e; omega
      have hf7 : ∀ g, (Value.slice a' (k + 1) c').ownBlock = some g → w.heap.size ≤ g := by
        intro g h
        rcases hg7 g h with h | h
        · exact HF.out g h
        · have h2 := HB.out.size
          have h3 : g = w1.heap.size + 1 := by simpa using h
          omega
      have HA := Lib.hid (And.intro hA (And.intro hb17 hf7)); clear hA hb17 hf7 ho7 hb7 hg7
      go_wp2_with fail
      go_roundw
      case rel => exact ⟨k + 1, by omega, by go_num, a', c', rfl, HA.out.1, HA.out.2.1, HA.out.2.2⟩
      case measure => simp [intOf]; omega
    · obtain rfl : k = n := by omega
      go_wp2_with fail
      go_ret
      exact ⟨a, c, rfl, HO.out, HB.out, HF.out⟩

end Go.Proofs.YtibnnbdpfkgfhaaGreatDoor


/- Rows that are owned: their cells; a row made shorter. The walk of impl's entries. -/
namespace Go.Proofs.YtibnnbdpfkgfhaaGreatDoor
open Go.RowKit

theorem Own.at {w : World} {e : TypeId} {sz n : Nat} {xs : List Value} {v : Value} (h : Own w e sz v n xs) {j : Nat} {u : Value} (hj : xs[j]? = some u) : ∃ g c, v = .slice (some ⟨g, 0, none⟩) n c ∧ w.cell? ⟨g, j, none⟩ = some u := by
  have hlt := (List.getElem?_eq_some_iff.1 hj).1
  rcases h.2 with ⟨_, h0⟩ | ⟨g, cap, cur, rfl, _, hg, hnc, _, hcs, ht⟩
  · have := h.1; rw [h0, Nat.zero_mul] at this; omega
  · refine ⟨g, cap, rfl, ?_⟩
    rw [← ht] at hj
    rw [List.getElem?_take] at hj
    split at hj
    · simp only [World.cell?, hg]; simpa using hj
    · simp at hj
theorem Own.short {w : World} {e : TypeId} {sz n m : Nat} {xs : List Value} {a : Option Addr} {c : Nat} (h : Own w e sz (.slice a n c) n xs) (hm : m ≤ n) (ha : a ≠ none) : Own w e sz (.slice a m c) m (xs.take (m * sz)) := by
  have hl := h.1
  have hms : m * sz ≤ n * sz := Nat.mul_le_mul_right _ hm
  rcases h.2 with ⟨h0, _⟩ | ⟨g, cap, cur, e1, hb, hg, hnc, hmx, hcs, ht⟩
  · simp only [Value.slice.injEq] at h0; exact absurd h0.1 ha
  · simp only [Value.slice.injEq, true_and] at e1
    obtain ⟨rfl, rfl⟩ := e1
    refine ⟨by rw [List.length_take, hl]; omega, .inr ⟨g, c, cur, rfl, hb, hg, by omega, hmx, hcs, ?_⟩⟩
    rw [← ht, List.take_take, Nat.min_eq_left hms]

theorem plcs_length (begun : Nat) (path : Bs) : ∀ n, (plcs begun path n).length = n * 2
  | 0 => rfl
  | n + 1 => by rw [plcs, List.length_append, plcs_length begun path n]; simp; omega
theorem plcs_at (begun : Nat) (path : Bs) : ∀ n k, k < n → (plcs begun path n)[k * 2]? = some (.int .i64 (begun : Nat)) ∧ (plcs begun path n)[k * 2 + 1]? = some (str (path ++ dec k))
  | 0, k, h => by omega
  | n + 1, k, h => by
    have hl := plcs_length begun path n
    rw [plcs]
    rcases Nat.lt_or_ge k n with h1 | h1
    · obtain ⟨h2, h3⟩ := plcs_at begun path n k h1
      rw [List.getElem?_append_left (by omega), List.getElem?_append_left (by omega)]
      exact ⟨h2, h3⟩
    · obtain rfl : k = n := by omega
      rw [List.getElem?_append_right (by omega), List.getElem?_append_right (by omega), hl]
      simp

end Go.Proofs.YtibnnbdpfkgfhaaGreatDoor

/- The walk of impl's entries. -/
namespace Go.Proofs.YtibnnbdpfkgfhaaGreatDoor
open Go.RowKit

/-- The cells of n entries. -/
def ents (us : List Value) (ev : Value) (begun : Nat) (path : Bs) : Nat → List Value
  | 0 => []
  | n + 1 => ents us ev begun path n ++ [us.getD n (.pointer none), ev, .int .i64 (begun : Nat), str (path ++ dec n)]

theorem Tryz.infoEn : (Tryz.prog.info? 190).map (fun i => (i.zero, i.size, i.bytes)) = some (some (.agg #[.pointer none, .slice none 0 0, .int .i64 0, str []]), 4, 56) := by kernel_rfl

set_option maxRecDepth 100000 in
set_option maxHeartbeats 2000000 in
theorem entries_any (n begun : Nat) (path : Bs) (us : List Value) (sa : Option Addr) (sc : Nat) (ea : Option Addr) (el ec : Nat) (pa : Option Addr) (pc : Nat) (w : World) (hn : n ≤ 16)
    (hus : ∀ k, k < n → ∃ b o u, sa = some ⟨b, o, none⟩ ∧ us[k]? = some (.pointer (some ⟨u, 0, none⟩)) ∧ w.cell? ⟨b, o + k, none⟩ = some (.pointer (some ⟨u, 0, none⟩)))
    (hat : Own w 179 2 (.slice pa n pc) n (plcs begun path n)) :
    Calls Tryz.prog 107 #[.slice sa n sc, .slice ea el ec, .slice pa n pc] w (FreshSl w 190 4 n (ents us (.slice ea el ec) begun path n)) := by
  have HUS := Lib.hid hus; have HAT := Lib.hid hat; clear hus hat
  go_enter Tryz.func107, Tryz.ntmps107
  go_wp2_with fail
  go_loopw [7, 12] (fun o i wr => ∃ k : Nat, k ≤ n ∧ i = .int .i64 k ∧ ∃ a c, o = .slice a k c ∧ Own wr 190 4 (.slice a k c) k (ents us (.slice ea el ec) begun path k) ∧ Below w.heap.size w wr ∧ (∀ g, (Value.slice a k c).ownBlock = some g → w.heap.size ≤ g)) (fun _ i _ => n - (intOf i).toNat)
  case atStart => exact ⟨0, Nat.zero_le _, rfl, none, 0, rfl, World.ownsRow_nil _ _ _ _, Below.refl _ _, fun g h => by simp [Value.ownBlock] at h⟩
  case round =>
    obtain ⟨k, hk, rfl, a, c, rfl, ho, hb, hf⟩ := hrel
    have HO := Lib.hid ho; have HF := Lib.hid hf; have HB := Lib.hid hb
    clear ho hf hb
    by_cases hlt : k < n
    · have hlt' : (k : Int) < (n : Int) := by omega
      obtain ⟨b, o, u, e, hu, hc⟩ := HUS.out k hlt
      subst e
      obtain ⟨p1, p2⟩ := plcs_at begun path n k hlt
      obtain ⟨g, c1, eg, h1⟩ := HAT.out.at p1
      obtain ⟨g2, c2, eg2, h2⟩ := HAT.out.at p2
      rw [eg] at eg2
      simp only [Value.slice.injEq, Option.some.injEq, Addr.mk.injEq, and_true, true_and] at eg2
      obtain ⟨rfl, rfl⟩ := eg2
      simp only [Value.slice.injEq, true_and] at eg
      obtain ⟨rfl, rfl⟩ := eg
      have q0 := (HB.out.cell (World.block_lt_of_cell? w _ hc)).trans hc
      have q1 := (HB.out.cell (World.block_lt_of_cell? w _ h1)).trans h1
      have q2 := (HB.out.cell (World.block_lt_of_cell? w _ h2)).trans h2
      have HU := Lib.hid hu
      clear hu hc h1 h2 p1 p2
      generalize hS : path ++ dec k = S at *
      have HS := Lib.hid hS; clear hS
      go_wp2_with (at_builtin; refine wpList_append_gen rfl _ _ 180 rfl 190 (.agg #[.pointer none, .slice none 0 0, .int .i64 0, str []]) 4 56 Tryz.underlying180 Tryz.infoEn rfl (by decide) (.slice a k c) k (ents us (.slice ea el ec) begun path k) rfl ?c1 _ 1 [.pointer (some ⟨u, 0, none⟩), .slice ea el ec, .int .i64 (begun : Nat), str S] rfl ?c2 ?c3 ?c4 ?_)
      case c1 => exact HO.out.alloc _
      case c2 => exact SrcSl.litk #[.pointer (some ⟨u, 0, none⟩), .slice ea el ec, .int .i64 (begun : Nat), str S] rfl (by simp [str, Value.oneCell']) _ (by simp)
      case c3 => unfold maxLen; omega
      case c4 => omega
      intro a' c' w7 ho7 hb7 hg7
      have hA : Own w7 190 4 (.slice a' (k + 1) c') (k + 1) (ents us (.slice ea el ec) begun path (k + 1)) := by
        rw [ents, HS.out, List.getD_eq_getElem?_getD, HU.out]; exact ho7
      have hb17 : Below w.heap.size w w7 := by
        have h1 := HB.out
        refine (h1.alloc h1.size _).trans (hb7.toBelow (by rw [size_alloc]; have := h1.size; omega) fun i hi e => ?_)
        have := HF.out i e; omega
      have hf7 : ∀ g, (Value.slice a' (k + 1) c').ownBlock = some g → w.heap.size ≤ g := by
        intro g h
        rcases hg7 g h with h | h
        · exact HF.out g h
        · have h2 := HB.out.size
          omega
      have HA := Lib.hid (And.intro hA (And.intro hb17 hf7)); clear hA hb17 hf7 ho7 hb7 hg7
      go_wp2_with fail
      go_roundw
      case rel => exact ⟨k + 1, by omega, by go_num, a', c', rfl, HA.out.1, HA.out.2.1, HA.out.2.2⟩
      case measure => simp [intOf]; omega
    · obtain rfl : k = n := by omega
      go_wp2_with fail
      go_ret
      exact ⟨a, c, rfl, HO.out, HB.out, HF.out⟩

end Go.Proofs.YtibnnbdpfkgfhaaGreatDoor

/- What stands for a level, laid in memory: entries. -/
namespace Go.Proofs.YtibnnbdpfkgfhaaGreatDoor
open Go.RowKit

mutual
def encC : Clo → List DV
  | .mk b env n p => [encB b, .sl 190 4 env.length (encCs env), .val (.int .i64 (n : Nat)), .val (str p)]
def encCs : List Clo → List DV
  | [] => []
  | c :: cs => encC c ++ encCs cs
end
theorem encC_length (c : Clo) : (encC c).length = 4 := by cases c; simp [encC]
theorem encCs_length : ∀ cs : List Clo, (encCs cs).length = cs.length * 4
  | [] => by simp [encCs]
  | c :: cs => by rw [encCs, List.length_append, encC_length, encCs_length cs]; simp; omega
theorem encCs_append : ∀ (xs ys : List Clo), encCs (xs ++ ys) = encCs xs ++ encCs ys
  | [], ys => by simp [encCs]
  | x :: xs, ys => by simp [encCs, encCs_append xs ys]

theorem ownFrom_at (env : List Clo) (m : Nat) (p : Bs) : ∀ (ss : List Bd) (i k : Nat), (ownFrom env m p i ss)[k]? = ss[k]?.map fun s => Clo.mk s env m (p ++ dec (i + k))
  | [], i, k => by simp [ownFrom]
  | s :: ss, i, k => by
    cases k with
    | zero => simp [ownFrom]
    | succ k => simp only [ownFrom, List.getElem?_cons_succ, ownFrom_at env m p ss (i + 1) k]; rw [show i + 1 + k = i + (k + 1) from by omega]

/-- The entries that are made read as what stands for the arguments. -/
theorem ents_rep {F : Nat → Prop} {w : World} {env : List Clo} {ev : Value} {ss : List Bd} {us : List Value} {m : Nat} {p : Bs} (hu : Reps F w (encBs ss) us) (he : Rep F w (.sl 190 4 env.length (encCs env)) ev) :
    ∀ k, k ≤ ss.length → Reps F w (encCs ((ownFrom env m p 0 ss).take k)) (ents us ev m p k) := by
  intro k
  induction k with
  | zero => intro _; rw [List.take_zero, encCs, ents]; exact Reps_nil.2 rfl
  | succ k ih =>
    intro hk
    have hs : ss[k]? = some ss[k] := List.getElem?_eq_getElem (by omega)
    have ho := ownFrom_at env m p ss 0 k
    rw [hs] at ho
    simp only [Option.map_some, Nat.zero_add] at ho
    rw [List.take_add_one, ho, encCs_append, ents]
    refine Reps.append (ih (by omega)) ?_
    obtain ⟨u, hu1, hu2⟩ := hu.at (i := k) (d := encB ss[k]) (by rw [encBs_at, hs]; rfl)
    rw [List.getD_eq_getElem?_getD, hu1]
    simp only [Option.toList_some, encCs, encC, List.append_nil, Option.getD_some]
    exact Reps_cons.2 ⟨_, _, rfl, hu2, Reps_cons.2 ⟨_, _, rfl, he, Reps_cons.2 ⟨_, _, rfl, Rep_val.2 rfl, Reps_cons.2 ⟨_, _, rfl, Rep_val.2 rfl, Reps_nil.2 rfl⟩⟩⟩⟩

end Go.Proofs.YtibnnbdpfkgfhaaGreatDoor

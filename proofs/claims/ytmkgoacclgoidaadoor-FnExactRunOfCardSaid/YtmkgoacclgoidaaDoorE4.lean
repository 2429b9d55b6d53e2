import Derived.Test.YtmkgoacclgoidaaDoorE1

/- Rows that are owned: their cells; a row made shorter. The walk of impl's entries. -/
namespace Go.Proofs.YtmkgoacclgoidaaDoor
open Go.RowKit

theorem Own.at {w : World} {e : TypeId} {sz n : Nat} {xs : List Value} {v : Value} (h : Own w e sz v n xs) {j : Nat} {u : Value} (hj : xs[j]? = some u) : ∃ g c, v = .slice (some ⟨g, 0, none⟩) n c ∧ w.cell? ⟨g, j, none⟩ = some u := by
  have hlt := (List.getElem?_eq_some_iff.1 hj).1
  rcases h.2 with ⟨_, h0⟩ | ⟨g, cap, cur, rfl, _, hg, hnc, _, hcs, ht⟩
  · have := h.1; rw [h0, Nat.zero_mul] at this; omega
  · refine ⟨g, cap, rfl, ?_⟩
    rw [← ht] at hj
    rw [List.getElem?_take] at hj
    split at hj
    · simp only [World.cell?, hg]; simpa using hj
    · simp at hj
theorem Own.short {w : World} {e : TypeId} {sz n m : Nat} {xs : List Value} {a : Option Addr} {c : Nat} (h : Own w e sz (.slice a n c) n xs) (hm : m ≤ n) (ha : a ≠ none) : Own w e sz (.slice a m c) m (xs.take (m * sz)) := by
  have hl := h.1
  have hms : m * sz ≤ n * sz := Nat.mul_le_mul_right _ hm
  rcases h.2 with ⟨h0, _⟩ | ⟨g, cap, cur, e1, hb, hg, hnc, hmx, hcs, ht⟩
  · simp only [Value.slice.injEq] at h0; exact absurd h0.1 ha
  · simp only [Value.slice.injEq, true_and] at e1
    obtain ⟨rfl, rfl⟩ := e1
    refine ⟨by rw [List.length_take, hl]; omega, .inr ⟨g, c, cur, rfl, hb, hg, by omega, hmx, hcs, ?_⟩⟩
    rw [← ht, List.take_take, Nat.min_eq_left hms]

theorem plcs_length (begun : Nat) (path : Bs) : ∀ n, (plcs begun path n).length = n * 2
  | 0 => rfl
  | n + 1 => by rw [plcs, List.length_append, plcs_length begun path n]; simp; omega
theorem plcs_at (begun : Nat) (path : Bs) : ∀ n k, k < n → (plcs begun path n)[k * 2]? = some (.int .i64 (begun : Nat)) ∧ (plcs begun path n)[k * 2 + 1]? = some (str (path ++ dec k))
  | 0, k, h => by omega
  | n + 1, k, h => by
    have hl := plcs_length begun path n
    rw [plcs]
    rcases Nat.lt_or_ge k n with h1 | h1
    · obtain ⟨h2, h3⟩ := plcs_at begun path n k h1
      rw [List.getElem?_append_left (by omega), List.getElem?_append_left (by omega)]
      exact ⟨h2, h3⟩
    · obtain rfl : k = n := by omega
      rw [List.getElem?_append_right (by omega), List.getElem?_append_right (by omega), hl]
      simp

end Go.Proofs.YtmkgoacclgoidaaDoor

/- The walk of impl's entries. -/
namespace Go.Proofs.YtmkgoacclgoidaaDoor
open Go.RowKit

/-- The cells of n entries. -/
def ents (us : List Value) (ev : Value) (begun : Nat) (path : Bs) : Nat → List Value
  | 0 => []
  | n + 1 => ents us ev begun path n ++ [us.getD n (.pointer none), ev, .int .i64 (begun : Nat), str (path ++ dec n)]

theorem Tryd.infoEn : (Tryd.prog.info? 162).map (fun i => (i.zero, i.size, i.bytes)) = some (some (.agg #[.pointer none, .slice none 0 0, .int .i64 0, str []]), 4, 56) := by kernel_rfl

set_option maxRecDepth 100000 in
set_option maxHeartbeats 2000000 in
theorem entries_any (n begun : Nat) (path : Bs) (us : List Value) (sa : Option Addr) (sc : Nat) (ea : Option Addr) (el ec : Nat) (pa : Option Addr) (pc : Nat) (w : World) (hn : n ≤ 16)
    (hus : ∀ k, k < n → ∃ b o u, sa = some ⟨b, o, none⟩ ∧ us[k]? = some (.pointer (some ⟨u, 0, none⟩)) ∧ w.cell? ⟨b, o + k, none⟩ = some (.pointer (some ⟨u, 0, none⟩)))
    (hat : Own w 74 2 (.slice pa n pc) n (plcs begun path n)) :
    Calls Tryd.prog 79 #[.slice sa n sc, .slice ea el ec, .slice pa n pc] w (FreshSl w 162 4 n (ents us (.slice ea el ec) begun path n)) := by
  have HUS := Lib.hid hus; have HAT := Lib.hid hat; clear hus hat
  go_enter Tryd.func79, Tryd.ntmps79
  go_wp2_with fail
  go_loopw [7, 12] (fun o i wr => ∃ k : Nat, k ≤ n ∧ i = .int .i64 k ∧ ∃ a c, o = .slice a k c ∧ Own wr 162 4 (.slice a k c) k (ents us (.slice ea el ec) begun path k) ∧ Below w.heap.size w wr ∧ (∀ g, (Value.slice a k c).ownBlock = some g → w.heap.size ≤ g)) (fun _ i _ => n - (intOf i).toNat)
  case atStart => exact ⟨0, Nat.zero_le _, rfl, none, 0, rfl, World.ownsRow_nil _ _ _ _, Below.refl _ _, fun g h => by simp [Value.ownBlock] at h⟩
  case round =>
    obtain ⟨k, hk, rfl, a, c, rfl, ho, hb, hf⟩ := hrel
    have HO := Lib.hid ho; have HF := Lib.hid hf; have HB := Lib.hid hb
    clear ho hf hb
    by_cases hlt : k < n
    · have hlt' : (k : Int) < (n : Int) := by omega
      obtain ⟨b, o, u, e, hu, hc⟩ := HUS.out k hlt
      subst e
      obtain ⟨p1, p2⟩ := plcs_at begun path n k hlt
      obtain ⟨g, c1, eg, h1⟩ := HAT.out.at p1
      obtain ⟨g2, c2, eg2, h2⟩ := HAT.out.at p2
      rw [eg] at eg2
      simp only [Value.slice.injEq, Option.some.injEq, Addr.mk.injEq, and_true, true_and] at eg2
      obtain ⟨rfl, rfl⟩ := eg2
      simp only [Value.slice.injEq, true_and] at eg
      obtain ⟨rfl, rfl⟩ := eg
      have q0 := (HB.out.cell (World.block_lt_of_cell? w _ hc)).trans hc
      have q1 := (HB.out.cell (World.block_lt_of_cell? w _ h1)).trans h1
      have q2 := (HB.out.cell (World.block_lt_of_cell? w _ h2)).trans h2
      have HU := Lib.hid hu
      clear hu hc h1 h2 p1 p2
      generalize hS : path ++ dec k = S at *
      have HS := Lib.hid hS; clear hS
      go_wp2_with (at_builtin; refine wpList_append_gen rfl _ _ 154 rfl 162 (.agg #[.pointer none, .slice none 0 0, .int .i64 0, str []]) 4 56 Tryd.underlying154 Tryd.infoEn rfl (by decide) (.slice a k c) k (ents us (.slice ea el ec) begun path k) rfl ?c1 _ 1 [.pointer (some ⟨u, 0, none⟩), .slice ea el ec, .int .i64 (begun : Nat), str S] rfl ?c2 ?c3 ?c4 ?_)
      case c1 => exact HO.out.alloc _
      case c2 => exact SrcSl.litk #[.pointer (some ⟨u, 0, none⟩), .slice ea el ec, .int .i64 (begun : Nat), str S] rfl (by simp [str, Value.oneCell']) _ (by simp)
      case c3 => unfold maxLen; omega
      case c4 => omega
      intro a' c' w7 ho7 hb7 hg7
      have hA : Own w7 162 4 (.slice a' (k + 1) c') (k + 1) (ents us (.slice ea el ec) begun path (k + 1)) := by
        rw [ents, HS.out, List.getD_eq_getElem?_getD, HU.out]; exact ho7
      have hb17 : Below w.heap.size w w7 := by
        have h1 := HB.out
        refine (h1.alloc h1.size _).trans (hb7.toBelow (by rw [size_alloc]; have := h1.size; omega) fun i hi e => ?_)
        have := HF.out i e; omega
      have hf7 : ∀ g, (Value.slice a' (k + 1) c').ownBlock = some g → w.heap.size ≤ g := by
        intro g h
        rcases hg7 g h with h | h
        · exact HF.out g h
        · have h2 := HB.out.size
          omega
      have HA := Lib.hid (And.intro hA (And.intro hb17 hf7)); clear hA hb17 hf7 ho7 hb7 hg7
      go_wp2_with fail
      go_roundw
      case rel => exact ⟨k + 1, by omega, by go_num, a', c', rfl, HA.out.1, HA.out.2.1, HA.out.2.2⟩
      case measure => simp [intOf]; omega
    · obtain rfl : k = n := by omega
      go_wp2_with fail
      go_ret
      exact ⟨a, c, rfl, HO.out, HB.out, HF.out⟩

end Go.Proofs.YtmkgoacclgoidaaDoor

/- What stands for a level, laid in memory: entries. -/
namespace Go.Proofs.YtmkgoacclgoidaaDoor
open Go.RowKit

mutual
def encC : Clo → List DV
  | .mk b env n p => [encB b, .sl 162 4 env.length (encCs env), .val (.int .i64 (n : Nat)), .val (str p)]
def encCs : List Clo → List DV
  | [] => []
  | c :: cs => encC c ++ encCs cs
end
theorem encC_length (c : Clo) : (encC c).length = 4 := by cases c; simp [encC]
theorem encCs_length : ∀ cs : List Clo, (encCs cs).length = cs.length * 4
  | [] => by simp [encCs]
  | c :: cs => by rw [encCs, List.length_append, encC_length, encCs_length cs]; simp; omega
theorem encCs_append : ∀ (xs ys : List Clo), encCs (xs ++ ys) = encCs xs ++ encCs ys
  | [], ys => by simp [encCs]
  | x :: xs, ys => by simp [encCs, encCs_append xs ys]

theorem ownFrom_at (env : List Clo) (m : Nat) (p : Bs) : ∀ (ss : List Bd) (i k : Nat), (ownFrom env m p i ss)[k]? = ss[k]?.map fun s => Clo.mk s env m (p ++ dec (i + k))
  | [], i, k => by simp [ownFrom]
  | s :: ss, i, k => by
    cases k with
    | zero => simp [ownFrom]
    | succ k => simp only [ownFrom, List.getElem?_cons_succ, ownFrom_at env m p ss (i + 1) k]; rw [show i + 1 + k = i + (k + 1) from by omega]

/-- The entries that are made read as what stands for the arguments. -/
theorem ents_rep {F : Nat → Prop} {w : World} {env : List Clo} {ev : Value} {ss : List Bd} {us : List Value} {m : Nat} {p : Bs} (hu : Reps F w (encBs ss) us) (he : Rep F w (.sl 162 4 env.length (encCs env)) ev) :
    ∀ k, k ≤ ss.length → Reps F w (encCs ((ownFrom env m p 0 ss).take k)) (ents us ev m p k) := by
  intro k
  induction k with
  | zero => intro _; rw [List.take_zero, encCs, ents]; exact Reps_nil.2 rfl
  | succ k ih =>
    intro hk
    have hs : ss[k]? = some ss[k] := List.getElem?_eq_getElem (by omega)
    have ho := ownFrom_at env m p ss 0 k
    rw [hs] at ho
    simp only [Option.map_some, Nat.zero_add] at ho
    rw [List.take_add_one, ho, encCs_append, ents]
    refine Reps.append (ih (by omega)) ?_
    obtain ⟨u, hu1, hu2⟩ := hu.at (i := k) (d := encB ss[k]) (by rw [encBs_at, hs]; rfl)
    rw [List.getD_eq_getElem?_getD, hu1]
    simp only [Option.toList_some, encCs, encC, List.append_nil, Option.getD_some]
    exact Reps_cons.2 ⟨_, _, rfl, hu2, Reps_cons.2 ⟨_, _, rfl, he, Reps_cons.2 ⟨_, _, rfl, Rep_val.2 rfl, Reps_cons.2 ⟨_, _, rfl, Rep_val.2 rfl, Reps_nil.2 rfl⟩⟩⟩⟩

end Go.Proofs.YtmkgoacclgoidaaDoor

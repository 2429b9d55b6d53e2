/- What is drawn: a type, a strategy and strategies for its arguments. -/
import Derived.Test.YtibnnbdpfkgfhaaGreatDoorD8
import Derived.Test.YtibnnbdpfkgfhaaGreatDoorS15
namespace Go.Proofs.YtibnnbdpfkgfhaaGreatDoor
open Go.RowKit

/-- A new slice of strings, read. -/
def StrsNew (B : Nat) (w : World) (a : Option Addr) (xs : List Bs) : Prop := ∀ (k : Nat) (s : Bs), xs[k]? = some s → ∃ b o, a = some ⟨b, o, none⟩ ∧ B ≤ b ∧ w.cell? ⟨b, o + k, none⟩ = some (str s)
theorem StrsNew.at {B : Nat} {w : World} {a : Option Addr} {xs : List Bs} (h : StrsNew B w a xs) : StrsAt w a xs := fun k s hs => by
  obtain ⟨b, o, e, _, hc⟩ := h k s hs
  exact ⟨b, o, e, hc⟩
theorem StrsNew.but {B rd : Nat} {w w' : World} {a : Option Addr} {xs : List Bs} (h : StrsNew B w a xs) (hb : But (· = rd) w w') (hrd : rd < B) : StrsNew B w' a xs := fun k s hs => by
  obtain ⟨b, o, e, hB, hc⟩ := h k s hs
  exact ⟨b, o, e, hB, (hb.cell (p := ⟨b, o + k, none⟩) (World.block_lt_of_cell? w ⟨b, o + k, none⟩ hc) (fun e => by have e2 : b = rd := e; omega)).trans hc⟩
theorem Own.strsNew {B : Nat} {w : World} {e : TypeId} {a : Option Addr} {n c : Nat} {xs : List Bs} (h : Own w e 1 (.slice a n c) n (xs.map str)) (hf : ∀ g, (Value.slice a n c).ownBlock = some g → B ≤ g) : StrsNew B w a xs := by
  intro k s hk
  have hn : xs.length = n := by have := h.1; simpa using this
  have hlt := (List.getElem?_eq_some_iff.1 hk).1
  rcases h.2 with ⟨e0, e1⟩ | ⟨g, cap, cur, e0, hrest⟩
  · omega
  · injection e0 with e1 e2 e3
    subst e1
    refine ⟨g, 0, rfl, hf g (by simp [Value.ownBlock]), ?_⟩
    have := World.ownsRow.cells h (g := g) (by simp [Value.ownBlock]) k (str s) (by simp [hk])
    rw [Nat.zero_add]
    unfold Addr.add at this
    split at this
    · rename_i h0; subst h0; exact this
    · simpa using this
theorem Own.cap {w : World} {e : TypeId} {a : Option Addr} {n c k : Nat} {xs : List Value} (h : Own w e 1 (.slice a n c) k xs) : n ≤ c := by
  rcases h.2 with ⟨e0, rfl⟩ | ⟨g, cap, cur, e0, _, _, hc, _⟩
  · injection e0 with e1 e2 e3; omega
  · injection e0 with e1 e2 e3; omega

theorem args15 {t : Ty} (h : atomsT t ≤ 15) : (∀ a ∈ t.args, atomsT a ≤ 15) ∧ t.args.length ≤ 15 := by
  refine ⟨(hand_of_type h).1, ?_⟩
  have := length_le_atomsTs t.args; have := atomsT_mk t; omega
/-- The texts of the arguments, none if the text is no type. -/
def argsOf (s : Bs) : List Bs := if (specType s).2 then (specType s).1.args.map textT else []

set_option maxRecDepth 100000 in
set_option maxHeartbeats 4000000 in
theorem specTypeArgs_any (s : Bs) (hs : Lim s.length) (w : World) :
    Calls Tryz.prog 80 #[str s] w fun en w' => ∃ a c, en = .returned (.tuple #[.slice a (argsOf s).length c, .bool (specType s).2]) ∧ Below w.heap.size w w' ∧ StrsNew w.heap.size w' a (argsOf s) := by
  go_enter Tryz.func80, Tryz.ntmps80
  go_wp2_with fail
  refine (l1Type_any s hs w).mono ?_
  rintro en w1 ⟨v, rfl, hb1, hr1⟩
  obtain ⟨ta, tc, e⟩ := encS_slice hr1
  subst e
  cases hok : (specType s).2 with
  | false =>
    have HB1 := Lib.hid hb1; have HOK := Lib.hid hok; clear hb1 hr1 hok
    have z1 := HB1.out.size
    go_wp2_with fail
    refine bodyPost_ret (v := .tuple #[.slice (some ⟨w1.heap.size + 1, 0, none⟩) 0 0, .bool false]) (by simp [results, Tryz.results80, go_sem]) rfl ?_
    have e0 : argsOf s = [] := by unfold argsOf; rw [HOK.out]; rfl
    rw [e0, HOK.out]
    exact ⟨_, _, rfl, ((HB1.out.alloc z1 _).alloc (by rw [size_alloc]; omega) _), fun k x hk => by simp at hk⟩
  | true =>
    have h15 := specType_ok hok
    have hal := args15 h15
    have e0 : argsOf s = (specType s).1.args.map textT := by unfold argsOf; rw [hok]; rfl
    have HE := Lib.hid e0
    have HOK := Lib.hid hok
    clear hok e0
    generalize hT : (specType s).1 = t at *
    have hlen : (argsOf s).length = t.args.length := by rw [HE.out, List.length_map]
    have HLEN := Lib.hid hlen
    rw [encS_eq] at hr1
    obtain ⟨_, _, e, _, _, hat⟩ := Rep_sl1_open hr1
    cases e
    obtain ⟨W, hW⟩ : ∃ W, w1.alloc (.cells #[.slice ta t.args.length tc] 46) = W := ⟨_, rfl⟩
    have bX : W.heap[w1.heap.size]? = some (.cells #[.slice ta t.args.length tc] 46 (0, 0)) := by rw [← hW]; exact heap_new _ _
    have hbW : Below w.heap.size w W := by rw [← hW]; exact hb1.alloc hb1.size _
    have h1W : Below w1.heap.size w1 W := by rw [← hW]; exact (Below.refl _ _).alloc (Nat.le_refl _) _
    have hz1 : w.heap.size ≤ w1.heap.size := hb1.size
    have hzW : W.heap.size = w1.heap.size + 1 := by rw [← hW, size_alloc]
    have HW := Lib.hid (And.intro hW (And.intro bX (And.intro hbW (And.intro h1W (And.intro hz1 hzW)))))
    have AT := Lib.hid hat
    have HA := Lib.hid hal
    clear hW bX hbW h1W hz1 hzW hat hr1 hT hlen hb1
    have hlb : t.args.length ≤ 15 := HA.out.2
    go_wp2_with fail
    rw [HW.out.1]
    go_loopw [6, 7] (fun o i wr => ∃ k : Nat, k ≤ t.args.length ∧ i = .int .i64 k ∧ ∃ a c, o = .slice a k c ∧ Own wr 9 1 (.slice a k c) k (((t.args.take k).map textT).map str) ∧ Below W.heap.size W wr ∧ (∀ g, (Value.slice a k c).ownBlock = some g → W.heap.size ≤ g)) (fun _ i _ => t.args.length - (intOf i).toNat)
    case atStart => exact ⟨0, Nat.zero_le _, rfl, _, _, rfl, Own.litAt #[] 0 _ (by have := HW.out.2.2.2.2.2; omega) (by decide) rfl, (Below.refl _ _).alloc (Nat.le_refl _) _, fun g h => by simp [Value.ownBlock] at h; have := HW.out.2.2.2.2.2; omega⟩
    case round =>
      obtain ⟨k, hk, rfl, a, c, rfl, ho, hb, hf⟩ := hrel
      have HO := Lib.hid ho; have HF := Lib.hid hf; have HB := Lib.hid hb
      clear ho hf hb
      have hcX : wr.cell? ⟨w1.heap.size, 0, none⟩ = some (.slice ta t.args.length tc) := by
        have h := (HB.out.block _ (lt_of_heap HW.out.2.1)).trans HW.out.2.1
        simp [World.cell?, h]
      by_cases hlt : k < t.args.length
      · have hlt' : (k : Int) < (t.args.length : Int) := by omega
        obtain ⟨b, o, u, d, e, hFb, hbw, hd, hc, hru⟩ := AT.out k hlt
        subst e
        rw [encSs_at, Option.map_eq_some_iff] at hd
        obtain ⟨tk, ht, rfl⟩ := hd
        obtain ⟨ua, uc, rfl⟩ := encS_slice hru
        have h1r : Below w1.heap.size w1 wr := HW.out.2.2.2.1.trans (HB.out.mono (by have := HW.out.2.2.2.2.2; omega))
        have q0 : wr.cell? ⟨b, o + k, none⟩ = some (.slice ua tk.args.length uc) := (h1r.cell (p := ⟨b, o + k, none⟩) hbw).trans hc
        have htk : atomsT tk ≤ 15 := HA.out.1 tk (List.mem_of_getElem? ht)
        have C1 := Lib.hid (l1Text_any 15 tk htk (by omega) _ wr _ (Rep.below h1r (fun _ h => h) hru))
        have HT := Lib.hid ht
        clear ht hc hru h1r hFb
        go_wp2_with fail
        (with_reducible refine C1.out.mono ?_)
        rintro en w4 ⟨rfl, hb4⟩
        have ho4 := HO.out.keep (w' := w4) fun g x _ hx => by rw [hb4.block g (lt_of_heap hx)]; exact hx
        have HB4 := Lib.hid (HB.out.trans (hb4.mono HB.out.size)); have HO4 := Lib.hid ho4
        clear hb4 ho4 C1
        obtain ⟨X, hX⟩ : ∃ X, X = textT tk := ⟨_, rfl⟩
        rw [← hX]
        have HX := Lib.hid hX; clear hX
        go_wp2_with (at_builtin; refine wpList_append_gen rfl _ _ 33 rfl 9 (str []) 1 16 Tryz.underlying33 Tryz.infoStr rfl (by decide) (.slice a k c) k (((t.args.take k).map textT).map str) rfl ?c1 _ 1 [str X] rfl ?c2 ?c3 ?c4 ?_)
        case c1 => exact HO4.out.alloc _
        case c2 => exact SrcSl.lit (by simp [Value.oneCell'])
        case c3 => unfold maxLen; omega
        case c4 => omega
        intro a' c' w7 ho7 hb7 hg7
        have hb17 : Below W.heap.size W w7 := by
          have h1 := HB4.out
          refine (h1.alloc h1.size _).trans (hb7.toBelow (by rw [size_alloc]; have := h1.size; omega) fun i hi e => ?_)
          have := HF.out i e; omega
        have hf7 : ∀ g, (Value.slice a' (k + 1) c').ownBlock = some g → W.heap.size ≤ g := by
          intro g h
          rcases hg7 g h with h | h
          · exact HF.out g h
          · have h2 := HB4.out.size
            omega
        have ho7' : Own w7 9 1 (.slice a' (k + 1) c') (k + 1) (((t.args.take (k + 1)).map textT).map str) := by
          have e : ((t.args.take (k + 1)).map textT).map str = List.take k (List.map (str ∘ textT) t.args) ++ [str (textT tk)] := by rw [List.take_add_one, HT.out]; simp [List.map_take]
          have h := ho7
          rw [HX.out] at h
          rw [e]
          simpa [List.map_take] using h
        have HA7 := Lib.hid (And.intro ho7' (And.intro hb17 hf7)); clear ho7 ho7' hb17 hf7 hb7 hg7
        go_wp2_with fail
        go_roundw
        case rel => exact ⟨k + 1, by omega, by go_num, a', c', rfl, HA7.out.1, HA7.out.2.1, HA7.out.2.2⟩
        case measure => simp [intOf]; omega
      · obtain rfl : k = t.args.length := by omega
        go_wp2_with fail
        refine bodyPost_ret (v := .tuple #[.slice a t.args.length c, .bool true]) (by simp [results, Tryz.results80, go_sem]) rfl ?_
        have h0 := HO.out
        rw [List.take_length] at h0
        refine ⟨a, c, by rw [HLEN.out, HOK.out], HW.out.2.2.1.trans (HB.out.mono (by have := HW.out.2.2.2.2; omega)), ?_⟩
        rw [HE.out]
        exact h0.strsNew fun g h => by have := HF.out g h; have := HW.out.2.2.2.2; omega

theorem argsOf_len (s : Bs) : (argsOf s).length ≤ 15 := by
  unfold argsOf
  cases h : (specType s).2 with
  | false => simp
  | true => simp; exact (args15 (specType_ok h)).2
theorem argsOf_each {s x : Bs} (h : x ∈ argsOf s) : x.length ≤ 100 ∧ HandOk 3 (specType x).1.args := by
  unfold argsOf at h
  cases hok : (specType s).2 with
  | false => rw [hok] at h; simp at h
  | true =>
    rw [hok] at h
    simp only [if_true, List.mem_map] at h
    obtain ⟨t, ht, rfl⟩ := h
    have h15 := (args15 (specType_ok hok)).1 t ht
    have hl := textT_length 15 t h15
    refine ⟨by omega, ?_⟩
    exact hand3_of_ok (by rw [specType_text h15])

/-- Strategies for the arguments of a type, drawn. -/
def ArgsD (rd Q : Nat) (w : World) (en : Ending) (w' : World) : Prop :=
  ∃ (xs : List Bs) (a : Option Addr) (c : Nat), en = .returned (.slice a xs.length c) ∧ xs.length ≤ 16 ∧ xs.length ≤ c ∧ (∀ x ∈ xs, x.length ≤ 100000) ∧ StrsNew w.heap.size w' a xs ∧ But (· = rd) w w' ∧ RdAt w' rd Q

set_option maxRecDepth 100000 in
set_option maxHeartbeats 4000000 in
theorem l91Args_any (rd P : Nat) (s : Bs) (hs : Lim s.length) (w : World) (h : RdAt w rd P) (hP : P + 200000 ≤ 1099511627776) :
    Calls Tryz.prog 53 #[.pointer (some ⟨rd, 0, none⟩), str s] w (ArgsD rd (P + 100000) w) := by
  have hlt := h.lt
  have H := Lib.hid h; clear h
  have hln := argsOf_len s
  go_enter Tryz.func53, Tryz.ntmps53
  go_wp2_with fail
  refine (specTypeArgs_any s hs w).mono ?_
  rintro en w1 ⟨la, lc, rfl, hb1, hx1⟩
  obtain ⟨ok, hok⟩ : ∃ ok, ok = (specType s).2 := ⟨_, rfl⟩
  rw [← hok]
  clear hok
  have HEACH := Lib.hid (fun x (h : x ∈ argsOf s) => argsOf_each h)
  generalize argsOf s = ls at *
  have hr1 := H.out.below (hb1.mono (Nat.le_refl _))
  have hz1 := hb1.size
  have hrd1 : rd < w1.heap.size := by omega
  have HX := Lib.hid hx1; have HB1 := Lib.hid hb1; have HR1 := Lib.hid hr1
  clear hx1 hb1 hr1
  obtain ⟨W, hW⟩ : ∃ W, w1.alloc (.cells #[] 9) = W := ⟨_, rfl⟩
  have hrW : RdAt W rd P := by rw [← hW]; exact HR1.out.alloc _
  have h1W : But (· = rd) w1 W := by rw [← hW]; exact (But.refl _ _).alloc _
  have hO0 : Own W 9 1 (.slice (some ⟨w1.heap.size, 0, none⟩) 0 0) 0 [] := by rw [← hW]; exact Own.litAt #[] 0 _ rfl (by decide) rfl
  have HW := Lib.hid (And.intro hW (And.intro hrW (And.intro h1W hO0)))
  clear hW hrW h1W hO0
  go_wp2_with fail
  rw [HW.out.1]
  go_loopw [7, 8] (fun o i wr => ∃ k : Nat, k ≤ ls.length ∧ i = .int .i64 k ∧ ∃ a c ys, o = .slice a k c ∧ Own wr 9 1 (.slice a k c) k (List.map str ys) ∧ But (· = rd) w1 wr ∧ (∀ g, (Value.slice a k c).ownBlock = some g → w1.heap.size ≤ g) ∧ RdAt wr rd (P + 6449 * k) ∧ (∀ y ∈ ys, y.length ≤ 100000)) (fun _ i _ => ls.length - (intOf i).toNat)
  case atStart => exact ⟨0, Nat.zero_le _, rfl, _, _, [], rfl, HW.out.2.2.2, HW.out.2.2.1, fun g h => by simp [Value.ownBlock] at h; omega, HW.out.2.1, by simp⟩
  case round =>
    obtain ⟨k, hk, rfl, a, c, ys, rfl, ho, hb, hf, hr, hy⟩ := hrel
    have HO := Lib.hid ho; have HF := Lib.hid hf; have HB := Lib.hid hb; have HR := Lib.hid hr; have HY := Lib.hid hy
    clear ho hf hb hr hy
    by_cases hlt2 : k < ls.length
    · have hlt' : (k : Int) < (ls.length : Int) := by omega
      obtain ⟨x, hx⟩ : ∃ x, ls[k]? = some x := ⟨ls[k], by simp [hlt2]⟩
      obtain ⟨b, o, ea, hbB, hc⟩ := HX.out k x hx
      subst ea
      have q0 : wr.cell? ⟨b, o + k, none⟩ = some (str x) := (HB.out.cell (p := ⟨b, o + k, none⟩) (World.block_lt_of_cell? w1 ⟨b, o + k, none⟩ hc) (fun e => by have e2 : b = rd := e; omega)).trans hc
      have hE := HEACH.out x (List.mem_of_getElem? hx)
      have C1 := Lib.hid (l91Strategy_gen rd (P + 6449 * k) x hE.1 hE.2 wr HR.out (by omega))
      clear hx hc hE
      go_wp2_with fail
      (with_reducible refine C1.out.mono ?_)
      intro en w4 h4
      obtain ⟨m, rfl, lm, hb4, hr4⟩ := strat_len h4
      have ho4 := HO.out.keep (w' := w4) fun g y hg hy => by
        rw [hb4.block g (lt_of_heap hy) (fun e => by have e2 : g = rd := e; have := HF.out g hg; omega)]; exact hy
      have HB4 := Lib.hid (HB.out.trans hb4); have HO4 := Lib.hid ho4; have HR4 := Lib.hid hr4; have HM := Lib.hid lm
      clear hb4 ho4 hr4 h4 C1 lm
      go_wp2_with (at_builtin; refine wpList_append_gen rfl _ _ 33 rfl 9 (str []) 1 16 Tryz.underlying33 Tryz.infoStr rfl (by decide) (.slice a k c) k (List.map str ys) rfl ?c1 _ 1 [str m] rfl ?c2 ?c3 ?c4 ?_)
      case c1 => exact HO4.out.alloc _
      case c2 => exact SrcSl.lit (by simp [Value.oneCell'])
      case c3 => unfold maxLen; omega
      case c4 => omega
      intro a' c' w7 ho7 hb7 hg7
      have hb17 : But (· = rd) w1 w7 := (HB4.out.alloc (.cells #[str m] 9)).trans' hb7 fun i hi e => by have := HF.out i e; omega
      have hr7 : RdAt w7 rd (P + 6449 * (k + 1)) := by
        exact ((HR4.out.alloc (.cells #[str m] 9)).but hb7 fun i hi e => by have := HF.out i e; omega).mono (by omega)
      have hf7 : ∀ g, (Value.slice a' (k + 1) c').ownBlock = some g → w1.heap.size ≤ g := by
        intro g h
        rcases hg7 g h with h | h
        · exact HF.out g h
        · have := HB4.out.size; omega
      have ho7' : Own w7 9 1 (.slice a' (k + 1) c') (k + 1) (List.map str (ys ++ [m])) := by rw [List.map_append]; exact ho7
      have HA7 := Lib.hid (And.intro ho7' (And.intro hb17 (And.intro hf7 hr7))); clear ho7 ho7' hb17 hf7 hb7 hg7 hr7
      go_wp2_with fail
      go_roundw
      case rel => exact ⟨k + 1, by omega, by go_num, a', c', _, rfl, HA7.out.1, HA7.out.2.1, HA7.out.2.2.1, HA7.out.2.2.2, fun y hy => by
        rcases List.mem_append.1 hy with h | h
        · exact HY.out y h
        · simp at h; subst h; exact HM.out⟩
      case measure => simp [intOf]; omega
    · obtain rfl : k = ls.length := by omega
      have hlen : ys.length = ls.length := by have := HO.out.1; simpa using this
      have HL := Lib.hid hlen; clear hlen
      go_wp2_with fail
      refine (pick_any rd (P + 6449 * ls.length) 24 wr HR.out (by omega) (by omega) (by omega)).mono ?_
      rintro en w2 ⟨v, rfl, hv, hb2, hr2⟩
      have ho2 := HO.out.keep (w' := w2) fun g y hg hy => by
        rw [hb2.block g (lt_of_heap hy) (fun e => by have e2 : g = rd := e; have := HF.out g hg; omega)]; exact hy
      have HB2 := Lib.hid (HB.out.trans hb2); have HO2 := Lib.hid ho2; have HR2 := Lib.hid hr2
      clear hb2 ho2 hr2
      have hzz := HB2.out.size
      by_cases hv0 : v = 0
      · subst hv0
        go_wp2_with (at_builtin; refine wpList_append_gen rfl _ _ 33 rfl 9 (str []) 1 16 Tryz.underlying33 Tryz.infoStr rfl (by decide) (.slice a ls.length c) ls.length (List.map str ys) rfl ?c1 _ 1 [str [116]] rfl ?c2 ?c3 ?c4 ?_)
        case c1 => exact HO2.out.alloc _
        case c2 => exact SrcSl.lit (by simp [Value.oneCell'])
        case c3 => unfold maxLen; omega
        case c4 => omega
        intro a' c' w7 ho7 hb7 hg7
        have hb17 : But (· = rd) w1 w7 := (HB2.out.alloc (.cells #[str [116]] 9)).trans' hb7 fun i hi e => by have := HF.out i e; omega
        have hr7 : RdAt w7 rd (P + 100000) := ((HR2.out.alloc (.cells #[str [116]] 9)).but hb7 fun i hi e => by have := HF.out i e; omega).mono (by omega)
        have hf7 : ∀ g, (Value.slice a' (ls.length + 1) c').ownBlock = some g → w.heap.size ≤ g := by
          intro g h
          rcases hg7 g h with h | h
          · have := HF.out g h; omega
          · omega
        have ho7' : Own w7 9 1 (.slice a' (ls.length + 1) c') (ls.length + 1) (List.map str (ys ++ [[116]])) := by rw [List.map_append]; exact ho7
        have HA7 := Lib.hid (And.intro ho7' (And.intro hb17 (And.intro hf7 hr7))); clear ho7 ho7' hb17 hf7 hb7 hg7 hr7
        go_wp2_with fail
        refine bodyPost_ret (v := .slice a' (ls.length + 1) c') (by simp [results, Tryz.results53, go_sem]) rfl ?_
        have hl2 : (ys ++ [[116]]).length = ls.length + 1 := by rw [List.length_append, HL.out]; rfl
        refine ⟨ys ++ [[116]], a', c', by rw [hl2], by omega, by rw [hl2]; exact HA7.out.1.cap, fun y hy => ?_, HA7.out.1.strsNew HA7.out.2.2.1, (But.ofBelow HB1.out).trans HA7.out.2.1, HA7.out.2.2.2⟩
        rcases List.mem_append.1 hy with h | h
        · exact HY.out y h
        · simp at h; subst h; simp
      · have hv1 : ((v : Int) == 0) = false := by rw [beq_eq_false_iff_ne]; omega
        go_wp2_with fail
        refine bodyPost_ret (v := .slice a ls.length c) (by simp [results, Tryz.results53, go_sem]) rfl ?_
        refine ⟨ys, a, c, by rw [HL.out], by rw [HL.out]; omega, by rw [HL.out]; exact HO2.out.cap, HY.out, HO2.out.strsNew fun g h => by have := HF.out g h; omega, (But.ofBelow HB1.out).trans HB2.out, HR2.out.mono (by omega)⟩

/-- A type, a strategy and strategies for its arguments, drawn. -/
def DrawnA (w : World) (en : Ending) (w' : World) : Prop :=
  ∃ (s text : Bs) (xs : List Bs) (a : Option Addr) (c : Nat), en = .returned (.tuple #[str s, str text, .slice a xs.length c]) ∧ s.length ≤ 100 ∧ text.length ≤ 100000 ∧ xs.length ≤ 16 ∧ xs.length ≤ c ∧ (∀ x ∈ xs, x.length ≤ 100000) ∧ StrsNew w.heap.size w' a xs ∧ Below w.heap.size w w'

set_option maxHeartbeats 1000000 in
theorem drawRunOf_any (a0 : Option Addr) (len cap : Nat) (zs : List Int) (w : World) (h : Row8 w a0 len cap zs) (hl : len ≤ 1048576) :
    Calls Tryz.prog 58 #[.slice a0 len cap] w (DrawnA w) := by
  go_enter Tryz.func58, Tryz.ntmps58
  go_wp2_with fail
  refine (l6Open_any a0 len cap zs w h hl).mono ?_
  rintro en w1 ⟨rfl, hb1, hr1, hs1⟩
  clear h
  go_wp2_with fail
  refine (l91Given_any w.heap.size 0 w1 hr1 (by omega)).mono ?_
  rintro en w2 ⟨s, text, rfl, hs, ht, hb2, hr2⟩
  have HB2 := Lib.hid (but_new hb1 (Nat.le_refl _) hb2); clear hb1 hb2 hr1
  go_wp2_with fail
  refine (l91Args_any w.heap.size (0 + 6500) s (show _ ≤ _ by omega) w2 hr2 (by omega)).mono ?_
  rintro en w3 ⟨xs, a, c, rfl, hl3, hc3, hx3, hn3, hb3, _⟩
  have HB3 := Lib.hid (but_new HB2.out (Nat.le_refl _) hb3); have HN3 := Lib.hid (And.intro hx3 hn3); clear hb3 hr2 hn3 hx3
  go_wp2_with fail
  refine bodyPost_ret (v := .tuple #[str s, str text, .slice a xs.length c]) (by simp [results, Tryz.results58, go_sem]) rfl ?_
  exact ⟨s, text, xs, a, c, rfl, hs, ht, hl3, hc3, HN3.out.1, fun k x hk => by
    obtain ⟨b, o, e, hB, h⟩ := HN3.out.2 k x hk
    exact ⟨b, o, e, Nat.le_trans HB2.out.size hB, h⟩, HB3.out⟩

set_option maxHeartbeats 1000000 in
theorem drawRunResult_any (a0 : Option Addr) (len cap : Nat) (zs : List Int) (w : World) (h : Row8 w a0 len cap zs) (hl : len ≤ 1048576) :
    Calls Tryz.prog 25 #[.slice a0 len cap] w (DrawnA w) := by
  go_enter Tryz.func25, Tryz.ntmps25
  go_wp2_with fail
  refine (drawRunOf_any a0 len cap zs w h hl).mono ?_
  rintro en w1 ⟨s, text, xs, a, c, rfl, h1⟩
  have H1 := Lib.hid h1; clear h1 h
  go_wp2_with fail
  refine bodyPost_ret (v := .tuple #[str s, str text, .slice a xs.length c]) (by simp [results, Tryz.results25, go_sem]) rfl ?_
  exact ⟨s, text, xs, a, c, rfl, H1.out⟩

end Go.Proofs.YtibnnbdpfkgfhaaGreatDoor

/- The law FnApply. -/
import Derived.Test.YtibnnbdpfkgfhaaGreatDoorP26
import Derived.Test.YtibnnbdpfkgfhaaGreatDoorB14
import Derived.Test.YtibnnbdpfkgfhaaGreatDoorD11
import Derived.Test.YtibnnbdpfkgfhaaGreatDoorW16
import Derived.Test.YtibnnbdpfkgfhaaGreatDoorW11
import Derived.Deep.DeepCutAuto
namespace Go.Proofs.YtibnnbdpfkgfhaaGreatDoor
open Go.RowKit

theorem GlobE.t' {w : World} (h : GlobE w) : GlobT w := by
  obtain ⟨a, h⟩ := h
  exact ⟨_, _, h⟩
def resR : Option (UInt8 × List (Bs × Int)) → Bs × Bool
  | none => ([], false)
  | some x => ([x.1], true)
theorem implRunRes_any (s text : Bs) (xs : List Bs) (a : Option Addr) (c : Nat) (w : World) (hg : Glob w) (hgt : GlobT w) (hx : StrsAt w a xs) (hs : Lim s.length) (ht : Lim text.length) (hxs : ∀ x ∈ xs, Lim x.length) (hxl : Lim xs.length) :
    Calls Tryz.prog 26 #[str s, str text, .slice a xs.length c] w fun en w' => en = .returned (.tuple #[str (resR (implRun 5000 s text xs)).1, .bool (resR (implRun 5000 s text xs)).2]) ∧ Below w.heap.size w w' := by
  have C := Lib.hid (runOf_any false 5000 s text xs a c w hg hgt hx hs ht hxs hxl (by omega) (by omega))
  clear hx hxs hxl
  generalize hR : implRun 5000 s text xs = R at *
  go_enter Tryz.func26, Tryz.ntmps26
  go_wp2_with fail
  refine C.out.mono ?_
  rintro en w1 ⟨hb, hn, hy⟩
  rw [hR] at hn hy
  clear C hR
  cases R with
  | none =>
    obtain rfl := hn rfl
    have HB := Lib.hid hb; clear hn hy hb
    go_wp2_with fail
    go_ret2
    refine ⟨rfl, ?_⟩
    have h := HB.out.size
    exact Below.alloc HB.out h _
  | some x =>
    obtain ⟨ma, ka, n, k, ka', n', k', rfl, _⟩ := hy x.1 x.2 rfl
    have HB := Lib.hid hb; clear hn hy hb
    go_wp2_with fail
    go_ret2
    refine ⟨rfl, ?_⟩
    have h := HB.out.size
    exact Below.alloc HB.out h _

theorem us_each {n : Nat} : ∀ x ∈ us n, Lim x.length := fun x hx => by
  obtain rfl := List.eq_of_mem_replicate hx
  show _ ≤ _
  simp
theorem us_length (n : Nat) : (us n).length = n := by simp [us]
theorem us_str (n : Nat) : (us n).map str = List.replicate n (str [117]) := by simp [us]
theorem apply_len' {s m n out : Bs} (h : specApplyOf s m n = some out) : out.length ≤ 100000 := by
  cases hq : specStrat s m with
  | none => rw [specApplyOf_none hq] at h; simp at h
  | some b =>
    rw [specApplyOf_eq hq, Option.map_eq_some_iff] at h
    obtain ⟨x, h1, rfl⟩ := h
    have g := applyOne_good (specStrat_good hq).1 h1
    have := textB_length _ g.lv
    have := g.size
    omega

set_option maxRecDepth 100000 in
set_option maxHeartbeats 4000000 in
theorem fnApply_any (a0 : Option Addr) (len cap : Nat) (zs : List Int) (w : World) (h : Row8 w a0 len cap zs) (hg : Glob w) (he : GlobE w) :
    Calls Tryz.prog 9 #[.slice a0 len cap] w fun en w' => en = .returned (.bool true) ∧ Below w.heap.size w w' := by
  by_cases hlen : 1048576 < len
  · have hlen' : (1048576 : Int) < (len : Int) := by omega
    go_enter Tryz.func9, Tryz.ntmps9
    go_wp2_with fail
    go_ret
    exact ⟨rfl, Below.refl _ _⟩
  have hlen' : ¬ (1048576 : Int) < (len : Int) := by omega
  have H := Lib.hid h; clear h
  have HG := Lib.hid (And.intro hg he); clear hg he
  go_enter Tryz.func9, Tryz.ntmps9
  go_wp2_with fail
  refine (drawApplyOf_any a0 len cap zs w H.out (by omega)).mono ?_
  rintro en w1 ⟨s, m, n, rfl, hs, hm, hn, hb1⟩
  have ls : Lim s.length := show _ ≤ _ by omega
  have lm : Lim m.length := show _ ≤ _ by omega
  have ln : Lim n.length := show _ ≤ _ by omega
  have HB1 := Lib.hid hb1; clear hb1
  have C1 := implOne_any s m n w1 (HG.out.1.below HB1.out) (HG.out.2.below HB1.out) ls lm ln
  rw [one_eq] at C1
  have C1 := Lib.hid C1
  go_wp2_with fail
  (with_reducible refine C1.out.mono ?_)
  rintro en w2 ⟨rfl, hb2⟩
  have HB2 := Lib.hid (HB1.out.trans (hb2.mono HB1.out.size)); clear hb2 C1
  go_wp2_with fail
  (with_reducible refine (specApplyOf_any s m n ls lm ln w2).mono ?_)
  rintro en w3 ⟨rfl, hb3⟩
  have HB3 := Lib.hid (HB2.out.trans (hb3.mono HB2.out.size)); clear hb3
  cases hR : specApplyOf s m n with
  | none =>
    rw [Option.getD_none, Option.isSome_none]
    clear hR
    have e0 : (([] : Bs) != []) = false := by simp
    go_wp2_with fail
    go_ret
    exact ⟨by simp, HB3.out⟩
  | some out =>
  rw [Option.getD_some, Option.isSome_some]
  have e0 : (out != out) = false := by simp
  obtain ⟨t, ch, log, t1, t2, t3, t4, ⟨ob, t5⟩, t6, t7⟩ := apply_plays hR
  have hal := args15 t3
  have h15d := drop_atoms t3 1
  have hrl := textT_length 15 _ h15d
  have hol := apply_len' hR
  have htk := rdKind_text t3
  have lr : Lim (textT (.mk (t.args.drop 1))).length := show _ ≤ _ by omega
  have lo : Lim out.length := show _ ≤ _ by omega
  obtain ⟨R, hRR⟩ : ∃ R, R = textT (.mk (t.args.drop 1)) := ⟨_, rfl⟩
  obtain ⟨N, hN⟩ : ∃ N, t.args.length = N + 1 := ⟨t.args.length - 1, by omega⟩
  have hN15 : N ≤ 15 := by have := hal.2; omega
  have CT : ∀ wz, Calls Tryz.prog 23 #[str s] wz fun en w' => ∃ a c, en = .returned (.tuple #[.slice a (N + 1) c, .bool true]) ∧ N + 1 ≤ c ∧ Below wz.heap.size wz w' ∧ StrsNew wz.heap.size w' a (t.args.map textT) := fun wz => by
    have := implTypeArgs_any s t ls (by rw [t2]; exact htk) t3 wz
    rw [hN] at this
    exact this
  have CM : ∀ wz la lc, StrsAt wz la ((t.args.map textT).drop 1) → Calls Tryz.prog 24 #[.slice la N lc] wz fun en w' => en = .returned (.tuple #[str R, .bool true]) ∧ Below wz.heap.size wz w' := fun wz la lc h => by
    have := implTypeMake_any (t.args.drop 1) la lc wz h15d (by rw [List.map_drop]; exact h)
    rw [List.length_drop, hN, ← hRR] at this
    exact this
  have e9 : t.args.length - 1 = N := by omega
  rw [e9, ← hRR] at t6
  rw [e9] at t7
  have CR : ∀ wz a c, Below w.heap.size w wz → StrsAt wz a (us N) → Calls Tryz.prog 26 #[str R, str out, .slice a N c] wz fun en w' => en = .returned (.tuple #[str [ch], .bool true]) ∧ Below wz.heap.size wz w' := fun wz a c h hx => by
    have := implRunRes_any R out (us N) a c wz (HG.out.1.below h) ((HG.out.2.below h).t') hx (by rw [hRR]; exact lr) lo us_each (by rw [us_length]; exact show _ ≤ _ by omega)
    rw [us_length, t6] at this
    exact this
  obtain ⟨Y, hY⟩ : ∃ Y, Y = resR (implRun 5000 s m (n :: us N)) := ⟨_, rfl⟩
  have hYY : Y.2 = false ∨ (Y.2 = true ∧ Y.1 = [ch]) := by
    cases hq : implRun 5000 s m (n :: us N) with
    | none => left; rw [hY, hq]; rfl
    | some x =>
      right
      rw [hY, hq]
      have := t7 x.1 x.2 hq
      rw [this]
      exact ⟨rfl, rfl⟩
  have CS : ∀ wz a c, Below w.heap.size w wz → StrsAt wz a (n :: us N) → Calls Tryz.prog 26 #[str s, str m, .slice a (1 + N) c] wz fun en w' => en = .returned (.tuple #[str Y.1, .bool Y.2]) ∧ Below wz.heap.size wz w' := fun wz a c h hx => by
    have := implRunRes_any s m (n :: us N) a c wz (HG.out.1.below h) ((HG.out.2.below h).t') hx ls lm (fun x hx => by
      rcases List.mem_cons.1 hx with rfl | hx
      · exact ln
      · exact us_each x hx) (by rw [List.length_cons, us_length]; exact show _ ≤ _ by omega)
    rw [List.length_cons, us_length, ← hY, Nat.add_comm N 1] at this
    exact this
  have CV : ∀ wz, Below w.heap.size w wz → Calls Tryz.prog 13 #[str R, str out] wz fun en w' => en = .returned (.bool true) ∧ Below wz.heap.size wz w' := fun wz h => by
    have := implValid_any R out (by rw [hRR]; exact lr) lo wz (HG.out.1.below h)
    rw [hRR, t5, Option.isSome_some, ← hRR] at this
    exact this
  obtain ⟨y, t0⟩ := Y
  simp only at hYY CS
  have HCT := Lib.hid CT; have HCM := Lib.hid CM; have HCR := Lib.hid CR; have HCS := Lib.hid CS; have HCV := Lib.hid CV
  have HYY := Lib.hid hYY
  have hNt : (t.args.map textT).length = N + 1 := by rw [List.length_map, hN]
  have HNT := Lib.hid hNt
  clear CT CM CR CS CV hYY hY t1 t2 t3 t4 t5 t6 t7 hR hal h15d hrl hol htk lr lo hRR hN e9 hNt
  go_wp2_with fail
  (with_reducible refine (HCT.out w3).mono ?_)
  rintro en w4 ⟨a4, c4, rfl, hc4, hb4, hn4⟩
  have HN4 := Lib.hid (And.intro hb4 hn4); clear hb4 hn4
  obtain ⟨b4, o4, rfl⟩ : ∃ b4 o4, a4 = some ⟨b4, o4, none⟩ := by
    have hlt : 0 < (t.args.map textT).length := by have := HNT.out; omega
    obtain ⟨b4, o4, e4, _⟩ := HN4.out.2 0 _ (List.getElem?_eq_getElem hlt)
    exact ⟨b4, o4, e4⟩
  have HB4 := Lib.hid (HB3.out.trans (HN4.out.1.mono HB3.out.size))
  have hcases : ∃ o5 c5, (∀ {P : Program}, True) ∧ StrsAt w4 (some ⟨b4, o5, none⟩) ((t.args.map textT).drop 1) ∧ ((c4 - 1 = 0 ∧ o5 = o4 ∧ c5 = 0) ∨ (¬ c4 - 1 = 0 ∧ o5 = o4 + 1 ∧ c5 = c4 - 1)) := by
    by_cases h0 : c4 - 1 = 0
    · refine ⟨o4, 0, trivial, fun k x hk => ?_, .inl ⟨h0, rfl, rfl⟩⟩
      rw [List.drop_of_length_le (by have := HNT.out; omega)] at hk
      simp at hk
    · refine ⟨o4 + 1, c4 - 1, trivial, ?_, .inr ⟨h0, rfl, rfl⟩⟩
      intro k x hk
      rw [List.getElem?_drop] at hk
      obtain ⟨b', o', e, h1, h2⟩ := HN4.out.2 _ x hk
      simp only [Option.some.injEq, Addr.mk.injEq, and_true] at e
      obtain ⟨rfl, rfl⟩ := e
      exact ⟨b4, o4 + 1, rfl, by rw [show o4 + 1 + k = o4 + (1 + k) from by omega]; exact h2⟩
  obtain ⟨o5, c5, _, hs5, hor⟩ := hcases
  have CM5 := Lib.hid (HCM.out w4 (some ⟨b4, o5, none⟩) c5 hs5)
  have hc1 : 1 ≤ c4 := by omega
  clear hs5
  rcases hor with ⟨h0, rfl, rfl⟩ | ⟨h0, rfl, rfl⟩
  · go_wp2_with fail
    (with_reducible refine CM5.out.mono ?_)
    rintro en w5 ⟨rfl, hb5⟩
    have HB5 := Lib.hid (HB4.out.trans (hb5.mono HB4.out.size)); clear hb5 CM5 h0 hc1 hc4
    obtain ⟨W, hW⟩ : ∃ W, w5.alloc (.cells #[] 9) = W := ⟨_, rfl⟩
    have hzW : W.heap.size = w5.heap.size + 1 := by rw [← hW, size_alloc]
    have hO0 : Own W 9 1 (.slice (some ⟨w5.heap.size, 0, none⟩) 0 0) 0 [] := by rw [← hW]; exact Own.litAt #[] 0 _ rfl (by decide) rfl
    have hbW : Below w.heap.size w W := by rw [← hW]; exact HB5.out.alloc HB5.out.size _
    have HW := Lib.hid (And.intro hW (And.intro hzW (And.intro hO0 hbW))); clear hW hzW hO0 hbW
    go_wp2_with fail
    rw [HW.out.1]
    go_loopw [14, 15] (fun o i wr => ∃ j : Nat, j ≤ N ∧ i = .int .i64 ((j : Int) + 1) ∧ ∃ a c, o = .slice a j c ∧ Own wr 9 1 (.slice a j c) j (List.replicate j (str [117])) ∧ Below w.heap.size w wr ∧ (∀ g, (Value.slice a j c).ownBlock = some g → w.heap.size ≤ g)) (fun _ i _ => N + 1 - (intOf i).toNat)
    case atStart => exact ⟨0, Nat.zero_le _, rfl, _, _, rfl, HW.out.2.2.1, HW.out.2.2.2, fun g h => by simp [Value.ownBlock] at h; have := HB5.out.size; omega⟩
    case round =>
      rename_i wr _ _
      obtain ⟨j, hj, rfl, a, c, rfl, ho, hb, hf⟩ := hrel
      have HO := Lib.hid ho; have HF := Lib.hid hf; have HB := Lib.hid hb
      clear ho hf hb
      by_cases hlt : j < N
      · have hlt' : (j : Int) < (N : Int) := by omega
        go_wp2_with (at_builtin; refine wpList_append_gen rfl _ _ 33 rfl 9 (str []) 1 16 Tryz.underlying33 Tryz.infoStr rfl (by decide) (.slice a j c) j (List.replicate j (str [117])) rfl ?c1 _ 1 [str [117]] rfl ?c2 ?c3 ?c4 ?_)
        case c1 => exact HO.out.alloc _
        case c2 => exact SrcSl.lit (by simp [Value.oneCell'])
        case c3 => unfold maxLen; omega
        case c4 => omega
        intro a' c' w7 ho7 hb7 hg7
        have hb17 : Below w.heap.size w w7 := by
          have h1 := HB.out
          refine (h1.alloc h1.size _).trans (hb7.toBelow (by rw [size_alloc]; have := h1.size; omega) fun i hi e => ?_)
          have := HF.out i e; omega
        have hf7 : ∀ g, (Value.slice a' (j + 1) c').ownBlock = some g → w.heap.size ≤ g := by
          intro g h
          rcases hg7 g h with h | h
          · exact HF.out g h
          · have h2 := HB.out.size
            omega
        have ho7' : Own w7 9 1 (.slice a' (j + 1) c') (j + 1) (List.replicate (j + 1) (str [117])) := by
          rw [List.replicate_succ']; exact ho7
        have HA := Lib.hid (And.intro ho7' (And.intro hb17 hf7)); clear ho7 ho7' hb17 hf7 hb7 hg7
        go_wp2_with fail
        go_roundw
        case rel => exact ⟨j + 1, by omega, by go_num, a', c', rfl, HA.out.1, HA.out.2.1, HA.out.2.2⟩
        case measure => simp [intOf]; omega
      · obtain rfl : j = N := by omega
        have hou : Own wr 9 1 (.slice a j c) j ((us j).map str) := by rw [us_str]; exact HO.out
        have CR6 := Lib.hid (HCR.out wr a c HB.out (hou.strsNew HF.out).at)
        clear hou
        go_wp2_with fail
        (with_reducible refine CR6.out.mono ?_)
        rintro en w6 ⟨rfl, hb6⟩
        have ho6 := HO.out.keep (w' := w6) fun g y _ hy => by rw [hb6.block g (lt_of_heap hy)]; exact hy
        have HB6 := Lib.hid (HB.out.trans (hb6.mono HB.out.size)); have HO6 := Lib.hid ho6; clear hb6 ho6 CR6
        go_wp2_with (at_builtin; refine wpList_append_gen rfl _ _ 33 rfl 9 (str []) 1 16 Tryz.underlying33 Tryz.infoStr rfl (by decide) (.slice (some ⟨w6.heap.size, 0, none⟩) 1 1) 1 [str n] rfl ?c1 _ j (List.replicate j (str [117])) rfl ?c2 ?c3 ?c4 ?_)
        case c1 => exact Own.litAt #[str n] 1 _ rfl (by decide) rfl
        case c2 => exact (SrcSl.ofOwn HO6.out fun u hu => by obtain rfl := List.eq_of_mem_replicate hu; simp [Value.oneCell']).alloc _
        case c3 => unfold maxLen; omega
        case c4 => omega
        intro a' c' w7 ho7 hb7 hg7
        have hb17 : Below w.heap.size w w7 := by
          have h1 := HB6.out
          refine (h1.alloc h1.size _).trans (hb7.toBelow (by rw [size_alloc]; have := h1.size; omega) fun i hi e => ?_)
          have := h1.size; simp [Value.ownBlock] at e; omega
        have ho7' : Own w7 9 1 (.slice a' (1 + j) c') (1 + j) ((n :: us j).map str) := by rw [List.map_cons, us_str]; exact ho7
        have hx7 : StrsAt w7 a' (n :: us j) := (ho7'.strsNew (B := 0) fun g _ => Nat.zero_le _).at
        have CS7 := Lib.hid (HCS.out w7 a' c' hb17 hx7)
        have HB7 := Lib.hid hb17
        clear ho7 hb7 hg7 hb17 ho7' hx7
        go_wp2_with fail
        (with_reducible refine CS7.out.mono ?_)
        rintro en w8 ⟨rfl, hb8⟩
        have HB8 := Lib.hid (HB7.out.trans (hb8.mono HB7.out.size)); clear hb8 CS7
        have CV8 := Lib.hid (HCV.out w8 HB8.out)
        have e1 : (([ch] : Bs) == [ch]) = true := by simp
        go_wp2_with fail
        (with_reducible refine CV8.out.mono ?_)
        rintro en w9 ⟨rfl, hb9⟩
        have HB9 := Lib.hid (HB8.out.trans (hb9.mono HB8.out.size)); clear hb9 CV8
        rcases HYY.out with rfl | ⟨rfl, rfl⟩
        all_goals
          go_wp2_with fail
          go_ret
          exact ⟨by simp, HB9.out⟩
  · go_wp2_with fail
    (with_reducible refine CM5.out.mono ?_)
    rintro en w5 ⟨rfl, hb5⟩
    have HB5 := Lib.hid (HB4.out.trans (hb5.mono HB4.out.size)); clear hb5 CM5 h0 hc1 hc4
    obtain ⟨W, hW⟩ : ∃ W, w5.alloc (.cells #[] 9) = W := ⟨_, rfl⟩
    have hzW : W.heap.size = w5.heap.size + 1 := by rw [← hW, size_alloc]
    have hO0 : Own W 9 1 (.slice (some ⟨w5.heap.size, 0, none⟩) 0 0) 0 [] := by rw [← hW]; exact Own.litAt #[] 0 _ rfl (by decide) rfl
    have hbW : Below w.heap.size w W := by rw [← hW]; exact HB5.out.alloc HB5.out.size _
    have HW := Lib.hid (And.intro hW (And.intro hzW (And.intro hO0 hbW))); clear hW hzW hO0 hbW
    go_wp2_with fail
    rw [HW.out.1]
    go_loopw [14, 15] (fun o i wr => ∃ j : Nat, j ≤ N ∧ i = .int .i64 ((j : Int) + 1) ∧ ∃ a c, o = .slice a j c ∧ Own wr 9 1 (.slice a j c) j (List.replicate j (str [117])) ∧ Below w.heap.size w wr ∧ (∀ g, (Value.slice a j c).ownBlock = some g → w.heap.size ≤ g)) (fun _ i _ => N + 1 - (intOf i).toNat)
    case atStart => exact ⟨0, Nat.zero_le _, rfl, _, _, rfl, HW.out.2.2.1, HW.out.2.2.2, fun g h => by simp [Value.ownBlock] at h; have := HB5.out.size; omega⟩
    case round =>
      rename_i wr _ _
      obtain ⟨j, hj, rfl, a, c, rfl, ho, hb, hf⟩ := hrel
      have HO := Lib.hid ho; have HF := Lib.hid hf; have HB := Lib.hid hb
      clear ho hf hb
      by_cases hlt : j < N
      · have hlt' : (j : Int) < (N : Int) := by omega
        go_wp2_with (at_builtin; refine wpList_append_gen rfl _ _ 33 rfl 9 (str []) 1 16 Tryz.underlying33 Tryz.infoStr rfl (by decide) (.slice a j c) j (List.replicate j (str [117])) rfl ?c1 _ 1 [str [117]] rfl ?c2 ?c3 ?c4 ?_)
        case c1 => exact HO.out.alloc _
        case c2 => exact SrcSl.lit (by simp [Value.oneCell'])
        case c3 => unfold maxLen; omega
        case c4 => omega
        intro a' c' w7 ho7 hb7 hg7
        have hb17 : Below w.heap.size w w7 := by
          have h1 := HB.out
          refine (h1.alloc h1.size _).trans (hb7.toBelow (by rw [size_alloc]; have := h1.size; omega) fun i hi e => ?_)
          have := HF.out i e; omega
        have hf7 : ∀ g, (Value.slice a' (j + 1) c').ownBlock = some g → w.heap.size ≤ g := by
          intro g h
          rcases hg7 g h with h | h
          · exact HF.out g h
          · have h2 := HB.out.size
            omega
        have ho7' : Own w7 9 1 (.slice a' (j + 1) c') (j + 1) (List.replicate (j + 1) (str [117])) := by
          rw [List.replicate_succ']; exact ho7
        have HA := Lib.hid (And.intro ho7' (And.intro hb17 hf7)); clear ho7 ho7' hb17 hf7 hb7 hg7
        go_wp2_with fail
        go_roundw
        case rel => exact ⟨j + 1, by omega, by go_num, a', c', rfl, HA.out.1, HA.out.2.1, HA.out.2.2⟩
        case measure => simp [intOf]; omega
      · obtain rfl : j = N := by omega
        have hou : Own wr 9 1 (.slice a j c) j ((us j).map str) := by rw [us_str]; exact HO.out
        have CR6 := Lib.hid (HCR.out wr a c HB.out (hou.strsNew HF.out).at)
        clear hou
        go_wp2_with fail
        (with_reducible refine CR6.out.mono ?_)
        rintro en w6 ⟨rfl, hb6⟩
        have ho6 := HO.out.keep (w' := w6) fun g y _ hy => by rw [hb6.block g (lt_of_heap hy)]; exact hy
        have HB6 := Lib.hid (HB.out.trans (hb6.mono HB.out.size)); have HO6 := Lib.hid ho6; clear hb6 ho6 CR6
        go_wp2_with (at_builtin; refine wpList_append_gen rfl _ _ 33 rfl 9 (str []) 1 16 Tryz.underlying33 Tryz.infoStr rfl (by decide) (.slice (some ⟨w6.heap.size, 0, none⟩) 1 1) 1 [str n] rfl ?c1 _ j (List.replicate j (str [117])) rfl ?c2 ?c3 ?c4 ?_)
        case c1 => exact Own.litAt #[str n] 1 _ rfl (by decide) rfl
        case c2 => exact (SrcSl.ofOwn HO6.out fun u hu => by obtain rfl := List.eq_of_mem_replicate hu; simp [Value.oneCell']).alloc _
        case c3 => unfold maxLen; omega
        case c4 => omega
        intro a' c' w7 ho7 hb7 hg7
        have hb17 : Below w.heap.size w w7 := by
          have h1 := HB6.out
          refine (h1.alloc h1.size _).trans (hb7.toBelow (by rw [size_alloc]; have := h1.size; omega) fun i hi e => ?_)
          have := h1.size; simp [Value.ownBlock] at e; omega
        have ho7' : Own w7 9 1 (.slice a' (1 + j) c') (1 + j) ((n :: us j).map str) := by rw [List.map_cons, us_str]; exact ho7
        have hx7 : StrsAt w7 a' (n :: us j) := (ho7'.strsNew (B := 0) fun g _ => Nat.zero_le _).at
        have CS7 := Lib.hid (HCS.out w7 a' c' hb17 hx7)
        have HB7 := Lib.hid hb17
        clear ho7 hb7 hg7 hb17 ho7' hx7
        go_wp2_with fail
        (with_reducible refine CS7.out.mono ?_)
        rintro en w8 ⟨rfl, hb8⟩
        have HB8 := Lib.hid (HB7.out.trans (hb8.mono HB7.out.size)); clear hb8 CS7
        have CV8 := Lib.hid (HCV.out w8 HB8.out)
        have e1 : (([ch] : Bs) == [ch]) = true := by simp
        go_wp2_with fail
        (with_reducible refine CV8.out.mono ?_)
        rintro en w9 ⟨rfl, hb9⟩
        have HB9 := Lib.hid (HB8.out.trans (hb9.mono HB8.out.size)); clear hb9 CV8
        rcases HYY.out with rfl | ⟨rfl, rfl⟩
        all_goals
          go_wp2_with fail
          go_ret
          exact ⟨by simp, HB9.out⟩

end Go.Proofs.YtibnnbdpfkgfhaaGreatDoor

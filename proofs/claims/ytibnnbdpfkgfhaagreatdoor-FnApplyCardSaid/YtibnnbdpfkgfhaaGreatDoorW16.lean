/- The walks of impl's kindTexts, TypeArgs and TypeMake. -/
import Derived.Test.YtibnnbdpfkgfhaaGreatDoorW15
import Derived.Test.YtibnnbdpfkgfhaaGreatDoorD10
namespace Go.Proofs.YtibnnbdpfkgfhaaGreatDoor
open Go.RowKit

set_option maxRecDepth 100000 in
set_option maxHeartbeats 2000000 in
theorem kindTexts_any (F : Nat → Prop) (ts : List Ty) (kv : Value) (w : World) (h : Rep F w (.sl 65 1 ts.length (encKs ts)) kv) (h15 : ∀ t ∈ ts, atomsT t ≤ 15) (hl : ts.length ≤ 15) :
    Calls Tryz.prog 56 #[kv] w fun en w' => ∃ a c, en = .returned (.slice a ts.length c) ∧ ts.length ≤ c ∧ Below w.heap.size w w' ∧ StrsNew w.heap.size w' a (ts.map textT) := by
  obtain ⟨ka, kc, e, _, _, hat⟩ := Rep_sl1_open h
  subst e
  have H := Lib.hid (And.intro hat h15); clear hat h h15
  go_enter Tryz.func56, Tryz.ntmps56
  go_wp2_with fail
  go_loopw [3, 8] (fun o i wr => ∃ k : Nat, k ≤ ts.length ∧ i = .int .i64 k ∧ ∃ a c, o = .slice a k c ∧ Own wr 9 1 (.slice a k c) k (List.take k (List.map (str ∘ textT) ts)) ∧ Below w.heap.size w wr ∧ (∀ g, (Value.slice a k c).ownBlock = some g → w.heap.size ≤ g)) (fun _ i _ => ts.length - (intOf i).toNat)
  case atStart => exact ⟨0, Nat.zero_le _, rfl, none, 0, rfl, World.ownsRow_nil _ _ _ _, Below.refl _ _, fun g h => by simp [Value.ownBlock] at h⟩
  case round =>
    obtain ⟨k, hk, rfl, a, c, rfl, ho, hb, hf⟩ := hrel
    have HO := Lib.hid ho; have HF := Lib.hid hf; have HB := Lib.hid hb
    clear ho hf hb
    by_cases hlt : k < ts.length
    · have hlt' : (k : Int) < (ts.length : Int) := by omega
      obtain ⟨b, o, u, d, e, _, hbw, hd, hc, hru⟩ := H.out.1 k hlt
      subst e
      rw [encKs_at, Option.map_eq_some_iff] at hd
      obtain ⟨t, ht, rfl⟩ := hd
      obtain ⟨ub, _, rfl, _⟩ := encK_open hru
      have q0 := (HB.out.cell (p := ⟨b, o + k, none⟩) hbw).trans hc
      have h15t := H.out.2 t (List.mem_of_getElem? ht)
      have C1 := Lib.hid (textK_any 15 t h15t (by omega) _ wr _ (Rep.below (F' := F) HB.out (fun _ h => h) hru))
      have HT := Lib.hid ht
      clear ht hru hc
      go_wp2_with fail
      (with_reducible refine C1.out.mono ?_)
      rintro en w4 ⟨rfl, hb4⟩
      have ho4 := HO.out.keep (w' := w4) fun g x _ hx => by rw [hb4.block g (lt_of_heap hx)]; exact hx
      have HB4 := Lib.hid (HB.out.trans (hb4.mono HB.out.size)); have HO4 := Lib.hid ho4
      clear hb4 ho4 C1
      obtain ⟨X, hX⟩ : ∃ X, X = textT t := ⟨_, rfl⟩
      rw [← hX]
      have HX := Lib.hid hX; clear hX
      go_wp2_with (at_builtin; refine wpList_append_gen rfl _ _ 33 rfl 9 (str []) 1 16 Tryz.underlying33 Tryz.infoStr rfl (by decide) (.slice a k c) k (List.take k (List.map (str ∘ textT) ts)) rfl ?c1 _ 1 [str X] rfl ?c2 ?c3 ?c4 ?_)
      case c1 => exact HO4.out.alloc _
      case c2 => exact SrcSl.lit (by simp [Value.oneCell'])
      case c3 => unfold maxLen; omega
      case c4 => omega
      intro a' c' w7 ho7 hb7 hg7
      have hb17 : Below w.heap.size w w7 := by
        have h1 := HB4.out
        refine (h1.alloc h1.size _).trans (hb7.toBelow (by rw [size_alloc]; have := h1.size; omega) fun i hi e => ?_)
        have := HF.out i e; omega
      have hf7 : ∀ g, (Value.slice a' (k + 1) c').ownBlock = some g → w.heap.size ≤ g := by
        intro g h
        rcases hg7 g h with h | h
        · exact HF.out g h
        · have h2 := HB4.out.size
          omega
      have ho7' : Own w7 9 1 (.slice a' (k + 1) c') (k + 1) (List.take (k + 1) (List.map (str ∘ textT) ts)) := by
        have e : List.take (k + 1) (List.map (str ∘ textT) ts) = List.take k (List.map (str ∘ textT) ts) ++ [str X] := by
          rw [List.take_add_one, List.getElem?_map, HT.out, HX.out]; rfl
        rw [e]; exact ho7
      have HA := Lib.hid (And.intro ho7' (And.intro hb17 hf7)); clear ho7 ho7' hb17 hf7 hb7 hg7
      go_wp2_with fail
      go_roundw
      case rel => exact ⟨k + 1, by omega, by go_num, a', c', rfl, HA.out.1, HA.out.2.1, HA.out.2.2⟩
      case measure => simp [intOf]; omega
    · obtain rfl : k = ts.length := by omega
      go_wp2_with fail
      refine bodyPost_ret (v := .slice a ts.length c) (by simp [results, Tryz.results56, go_sem]) rfl ?_
      have h0 : Own wr 9 1 (.slice a ts.length c) ts.length ((ts.map textT).map str) := by
        have h := HO.out
        rw [List.take_of_length_le (by simp)] at h
        rw [List.map_map]; exact h
      exact ⟨a, c, rfl, h0.cap, HB.out, h0.strsNew HF.out⟩

set_option maxRecDepth 100000 in
set_option maxHeartbeats 2000000 in
theorem implTypeArgs_any (s : Bs) (t : Ty) (hs : Lim s.length) (ht : rdKind s = some t) (h15 : atomsT t ≤ 15) (w : World) :
    Calls Tryz.prog 23 #[str s] w fun en w' => ∃ a c, en = .returned (.tuple #[.slice a t.args.length c, .bool true]) ∧ t.args.length ≤ c ∧ Below w.heap.size w w' ∧ StrsNew w.heap.size w' a (t.args.map textT) := by
  have C1 := readKind_any s w hs
  rw [ht] at C1
  have C1 := Lib.hid C1
  have hal := args15 h15
  have HA := Lib.hid hal; clear ht hal
  go_enter Tryz.func23, Tryz.ntmps23
  go_wp2_with fail
  (with_reducible refine C1.out.mono ?_)
  rintro en w1 ⟨v, rfl, hb1, _, hr1⟩
  have hr := hr1 t rfl
  obtain ⟨b, sv, rfl, _, hc, hrs⟩ := encK_open hr
  have c1 : w1.cell? ⟨b, 0, none⟩ = some sv := by simp [World.cell?, hc]
  obtain ⟨a, cap, rfl, _, _, _⟩ := Rep_sl1_open hrs
  have HB1 := Lib.hid hb1
  have C2 := Lib.hid (kindTexts_any _ t.args _ w1 hrs HA.out.1 HA.out.2)
  clear hr hr1 hc hrs hb1 C1
  go_wp2_with fail
  (with_reducible refine C2.out.mono ?_)
  rintro en w2 ⟨a2, c2, rfl, hc2, hb2, hn2⟩
  have HN := Lib.hid (And.intro hb2 hn2); clear hb2 hn2
  go_wp2_with fail
  refine bodyPost_ret (v := .tuple #[.slice a2 t.args.length c2, .bool true]) (by simp [results, Tryz.results23, go_sem]) rfl ?_
  exact ⟨a2, c2, rfl, hc2, HB1.out.trans (HN.out.1.mono HB1.out.size), fun k x hk => by
    obtain ⟨b, o, e, hB, h⟩ := HN.out.2 k x hk
    exact ⟨b, o, e, Nat.le_trans HB1.out.size hB, h⟩⟩

set_option maxRecDepth 100000 in
set_option maxHeartbeats 4000000 in
theorem implTypeMake_any (ts : List Ty) (la : Option Addr) (lc : Nat) (w : World) (h15 : atomsT (.mk ts) ≤ 15) (hat : StrsAt w la (ts.map textT)) :
    Calls Tryz.prog 24 #[.slice la ts.length lc] w fun en w' => en = .returned (.tuple #[str (textT (.mk ts)), .bool true]) ∧ Below w.heap.size w w' := by
  have hal := args15 h15
  have hln : ts.length ≤ 15 := hal.2
  have H := Lib.hid (And.intro hal.1 (And.intro hat h15)); clear hal hat h15
  obtain ⟨W, hW⟩ : ∃ W, w.alloc (.cells #[.slice none 0 0] 75) = W := ⟨_, rfl⟩
  have bX : W.heap[w.heap.size]? = some (.cells #[.slice none 0 0] 75 (0, 0)) := by rw [← hW]; exact heap_new _ _
  have hbW : Below w.heap.size w W := by rw [← hW]; exact (Below.refl _ _).alloc (Nat.le_refl _) _
  have HW := Lib.hid (And.intro hW (And.intro bX hbW)); clear hW bX hbW
  go_enter Tryz.func24, Tryz.ntmps24
  go_wp2_with fail
  rw [HW.out.1]
  go_loopw [12] (fun i wr => ∃ k : Nat, k ≤ ts.length ∧ i = .int .i64 k ∧ ∃ a c vs, wr.heap[w.heap.size]? = some (.cells #[.slice a k c] 75 (0, 0)) ∧ Own wr 65 1 (.slice a k c) k vs ∧ Reps (fun i => (Value.slice a k c).ownBlock ≠ some i ∧ i ≠ w.heap.size) wr (encKs (ts.take k)) vs ∧ Below w.heap.size w wr ∧ (∀ g, (Value.slice a k c).ownBlock = some g → w.heap.size < g)) (fun i _ => ts.length - (intOf i).toNat)
  case atStart => exact ⟨0, Nat.zero_le _, rfl, none, 0, [], HW.out.2.1, World.ownsRow_nil _ _ _ _, by simp [encKs, Reps_nil], HW.out.2.2, fun g h => by simp [Value.ownBlock] at h⟩
  case round =>
    obtain ⟨k, hk, rfl, a, c, vs, hx, ho, hr, hb, hf⟩ := hrel
    have HX := Lib.hid hx; have HO := Lib.hid ho; have HF := Lib.hid hf; have HB := Lib.hid hb; have HR := Lib.hid hr
    clear hx ho hf hb hr
    by_cases hlt : k < ts.length
    · have hlt' : (k : Int) < (ts.length : Int) := by omega
      obtain ⟨t, ht⟩ : ∃ t, ts[k]? = some t := ⟨ts[k], by simp [hlt]⟩
      obtain ⟨b, o, e, hc⟩ := H.out.2.1 k (textT t) (by rw [List.getElem?_map, ht]; rfl)
      subst e
      have q0 : wr.cell? ⟨b, o + k, none⟩ = some (str (textT t)) := (HB.out.cell (p := ⟨b, o + k, none⟩) (World.block_lt_of_cell? w ⟨b, o + k, none⟩ hc)).trans hc
      have h15t := H.out.1 t (List.mem_of_getElem? ht)
      have hlen := textT_length 15 t h15t
      have C1 := readKind_any (textT t) wr (show _ ≤ _ by omega)
      rw [rdKind_text h15t] at C1
      have C1 := Lib.hid C1
      have HT := Lib.hid ht
      obtain ⟨X, hX⟩ : ∃ X, X = textT t := ⟨_, rfl⟩
      rw [← hX] at q0 C1
      clear ht hc hlen hX
      go_wp2_with fail
      (with_reducible refine C1.out.mono ?_)
      rintro en w2 ⟨v, rfl, hb2, _, hr2⟩
      have hrv := hr2 t rfl
      obtain ⟨ub, _, rfl, _⟩ := encK_open hrv
      have hx2 : w2.heap[w.heap.size]? = some (.cells #[.slice a k c] 75 (0, 0)) := (hb2.block _ (lt_of_heap HX.out)).trans HX.out
      have q1 : w2.cell? ⟨w.heap.size, 0, none⟩ = some (.slice a k c) := by simp [World.cell?, hx2]
      have hk15 : ¬ (15 : Int) < (k : Int) := by omega
      have HB2 := Lib.hid hb2; have HRV := Lib.hid hrv; have HX2 := Lib.hid hx2
      clear hb2 hrv hr2 hx2 C1
      go_wp2_with (at_builtin; refine wpList_append_gen rfl _ _ 73 rfl 65 (.pointer none) 1 8 Tryz.underlying73 Tryz.infoK rfl (by decide) (.slice a k c) k vs rfl ?c1 _ 1 [.pointer (some ⟨ub, 0, none⟩)] rfl ?c2 ?c3 ?c4 ?_)
      case c1 => exact (HO.out.keep (w' := w2) fun g x _ hx => by rw [HB2.out.block g (lt_of_heap hx)]; exact hx).alloc _
      case c2 => exact SrcSl.lit (by simp [Value.oneCell'])
      case c3 => unfold maxLen; omega
      case c4 => omega
      intro a' c' w7 ho7 hb7 hg7
      have hz := HB.out.size
      have hz2 := HB2.out.size
      have hg7' : ∀ g, (Value.slice a' (k + 1) c').ownBlock = some g → (Value.slice a k c).ownBlock = some g ∨ g = w2.heap.size + 1 := by
        intro g hg
        rcases hg7 g hg with h | h
        · exact .inl h
        · exact .inr (by simpa using h)
      have hx7 : w7.heap[w.heap.size]? = some (.cells #[.slice a k c] 75 (0, 0)) := by
        rw [hb7.block _ (by rw [size_alloc]; have := lt_of_heap HX2.out; omega) (fun e => by have := HF.out _ e; omega)]; exact heap_past HX2.out
      have hb17 : Below w.heap.size w w7 := by
        have h1 : Below w.heap.size w w2 := HB.out.trans (HB2.out.mono hz)
        refine (h1.alloc h1.size _).trans (hb7.toBelow (by rw [size_alloc]; have := h1.size; omega) fun i hi e => ?_)
        have := HF.out i e; omega
      have hr7 : Reps (fun i => (Value.slice a' (k + 1) c').ownBlock ≠ some i ∧ i ≠ w.heap.size) w7 (encKs (ts.take (k + 1))) (vs ++ [.pointer (some ⟨ub, 0, none⟩)]) := by
        have e : encKs (ts.take (k + 1)) = encKs (ts.take k) ++ [encK t] := by
          rw [List.take_add_one, HT.out]
          have key : ∀ (xs : List Ty), encKs (xs ++ [t]) = encKs xs ++ [encK t] := by
            intro xs
            induction xs with
            | nil => simp [encKs]
            | cons x xs ih => rw [List.cons_append, encKs, ih, encKs]; rfl
          exact key _
        rw [e]
        refine Reps.append ?_ (Reps.one ?_)
        · have keyA : ∀ b o, (Value.slice a k c).ownBlock ≠ some b → wr.heap[b]? = some o → (Value.slice a' (k + 1) c').ownBlock ≠ some b ∧ w7.heap[b]? = some o := by
            intro b o hf ho
            have hlt := lt_of_heap ho
            refine ⟨fun e => ?_, ?_⟩
            · rcases hg7' b e with h | h
              · exact hf h
              · omega
            · have h2 : w2.heap[b]? = some o := by rw [HB2.out.block b hlt]; exact ho
              rw [hb7.block b (by rw [size_alloc]; have := lt_of_heap h2; omega) hf]; exact heap_past h2
          exact (Rep.keep fun b o hf ho => ⟨⟨(keyA b o hf.1 ho).1, hf.2⟩, (keyA b o hf.1 ho).2⟩).2 _ _ HR.out
        · have keyB : ∀ b o, wr.heap.size ≤ b → w2.heap[b]? = some o → (Value.slice a' (k + 1) c').ownBlock ≠ some b ∧ w7.heap[b]? = some o := by
            intro b o hf ho
            have hlt := lt_of_heap ho
            refine ⟨fun e => ?_, ?_⟩
            · rcases hg7' b e with h | h
              · have := HO.out.lt h; omega
              · omega
            · rw [hb7.block b (by rw [size_alloc]; omega) (fun e => by have := HO.out.lt e; omega)]; exact heap_past ho
          have hxl := lt_of_heap HX.out
          exact (Rep.keep fun b o hf ho => ⟨⟨(keyB b o hf ho).1, by have h9 : wr.heap.size ≤ b := hf; omega⟩, (keyB b o hf ho).2⟩).1 _ _ HRV.out
      have hf7 : ∀ g, (Value.slice a' (k + 1) c').ownBlock = some g → w.heap.size < g := by
        intro g h
        rcases hg7' g h with h | h
        · exact HF.out g h
        · have := lt_of_heap HX.out; omega
      have q2 : w7.cell? ⟨w.heap.size, 0, none⟩ = some (.slice a k c) := by simp [World.cell?, hx7]
      have q3 : w7.frozen? ⟨w.heap.size, 0, none⟩ = false := by simp [World.frozen?, hx7]
      obtain ⟨W8, hW8⟩ : ∃ W8, w7.setCell ⟨w.heap.size, 0, none⟩ (.slice a' (k + 1) c') = W8 := ⟨_, rfl⟩
      have hx8 : W8.heap[w.heap.size]? = some (.cells #[.slice a' (k + 1) c'] 75 (0, 0)) := by rw [← hW8, setCell_at hx7]; rfl
      have ho8 : Own W8 65 1 (.slice a' (k + 1) c') (k + 1) (vs ++ [.pointer (some ⟨ub, 0, none⟩)]) := ho7.keep fun g x hg hx => by
        rw [← hW8, Below.heap_setCell _ _ _ _ (by have := hf7 g hg; show g ≠ w.heap.size; omega)]; exact hx
      have hr8 : Reps (fun i => (Value.slice a' (k + 1) c').ownBlock ≠ some i ∧ i ≠ w.heap.size) W8 (encKs (ts.take (k + 1))) (vs ++ [.pointer (some ⟨ub, 0, none⟩)]) :=
        (Rep.keep fun b o hf ho => ⟨hf, by rw [← hW8, Below.heap_setCell _ _ _ _ hf.2]; exact ho⟩).2 _ _ hr7
      have hb8 : Below w.heap.size w W8 := by rw [← hW8]; exact hb17.setCell (p := ⟨w.heap.size, 0, none⟩) (Nat.le_refl _) _
      have HA := Lib.hid (And.intro hW8 (And.intro hx8 (And.intro ho8 (And.intro hr8 (And.intro hb8 hf7))))); clear ho7 hb17 hf7 hb7 hg7 hg7' hr7 hx7 hW8 hx8 ho8 hr8 hb8 hz hz2
      go_wp2_with fail
      rw [HA.out.1]
      go_roundw
      case rel => exact ⟨k + 1, by omega, by go_num, a', c', _, HA.out.2.1, HA.out.2.2.1, HA.out.2.2.2.1, HA.out.2.2.2.2.1, HA.out.2.2.2.2.2⟩
      case measure => simp [intOf]; omega
    · obtain rfl : k = ts.length := by omega
      have hrK : Rep (fun _ => True) wr (encK (.mk ts)) (.pointer (some ⟨w.heap.size, 0, none⟩)) := by
        have h0 := HR.out
        rw [List.take_length] at h0
        have h1 : Rep (fun _ => True) wr (.sl 65 1 ts.length (encKs ts)) (.slice a ts.length c) := HO.out.rep (fun _ _ => trivial) ((Rep.keep fun _ _ _ ho => ⟨trivial, ho⟩).2 _ _ h0)
        rw [encK, Rep_ptr]
        exact ⟨_, _, rfl, trivial, HX.out, Reps.one h1⟩
      have C1 := Lib.hid (atoms_any _ wr 15 (.mk ts) H.out.2.2 (show _ ≤ _ by omega) _ hrK)
      have C2 := Lib.hid (textK_any 15 (.mk ts) H.out.2.2 (by omega) _ wr _ hrK)
      have hgt : ¬ (15 : Int) < (atomsT (.mk ts) : Int) := by have := H.out.2.2; omega
      obtain ⟨X, hX⟩ : ∃ X, X = textT (.mk ts) := ⟨_, rfl⟩
      have HXX := Lib.hid hX
      rw [← hX] at C2
      clear hX hrK
      generalize atomsT (.mk ts) = M at *
      go_wp2_with fail
      (with_reducible refine C1.out.mono ?_)
      rintro en w3 ⟨rfl, rfl⟩
      go_wp2_with fail
      (with_reducible refine C2.out.mono ?_)
      rintro en w4 ⟨rfl, hb4⟩
      have HB4 := Lib.hid hb4; clear hb4
      go_wp2_with fail
      refine bodyPost_ret (v := .tuple #[str X, .bool true]) (by simp [results, Tryz.results24, go_sem]) rfl ?_
      exact ⟨by rw [HXX.out], HB.out.trans (HB4.out.mono HB.out.size)⟩

end Go.Proofs.YtibnnbdpfkgfhaaGreatDoor

/- The walk of the reference's ApplyAll. -/
import Derived.Test.YtibnnbdpfkgfhaaGreatDoorB14
namespace Go.Proofs.YtibnnbdpfkgfhaaGreatDoor
open Go.RowKit

theorem specStrat_len {s t : Bs} {b : Bd} (h : specStrat s t = some b) : t.length ≤ 2000 := by
  unfold specStrat at h
  split at h
  · simp at h
  · rename_i hc
    rw [not_or] at hc
    omega
theorem specApplyOf_len {s m n x : Bs} (h : specApplyOf s m n = some x) : x.length ≤ 2000 := by
  unfold specApplyOf at h
  simp only [Option.bind_eq_some_iff] at h
  obtain ⟨b, _, h⟩ := h
  cases hts : (specType s).1.args with
  | nil => rw [hts] at h; simp at h
  | cons a rest =>
    rw [hts] at h
    simp only [Option.bind_eq_some_iff, Option.map_eq_some_iff] at h
    obtain ⟨c, _, out, _, y, h2, rfl⟩ := h
    exact specStrat_len h2

/-- What holds at each round of ApplyAll's loop; B is the type's box. -/
def ARel (ls : List Bs) (R : Option Bs) (B : Nat) (w : World) (x i : Value) (wr : World) : Prop :=
  ∃ (j : Nat) (M : Bs) (t : Ty) (ta : Option Addr) (tc : Nat), j ≤ ls.length ∧ x = str M ∧ i = .int .i64 (j : Nat) ∧ atomsT t ≤ 15 ∧ Lim M.length ∧ ls.length ≤ j + t.args.length ∧ specMany t M (ls.drop j) = R ∧
    wr.heap[B]? = some (.cells #[.slice ta t.args.length tc] 46 (0, 0)) ∧ Rep (fun i => w.heap.size ≤ i ∧ i ≠ B) wr (encS t) (.slice ta t.args.length tc) ∧ Below w.heap.size w wr

set_option maxRecDepth 100000 in
set_option maxHeartbeats 8000000 in
theorem specApplyAll_any (s m : Bs) (ls : List Bs) (sa : Option Addr) (sc : Nat) (w : World) (hs : Lim s.length) (hm : Lim m.length) (hls : ∀ l ∈ ls, Lim l.length) (hlen : Lim ls.length) (hat : TextsAt w sa ls) :
    Calls Tryz.prog 22 #[str s, str m, .slice sa ls.length sc] w (TxtPost (specAll s m ls) w) := by
  have hll := hlen.le
  have C0 := Lib.hid (l3Strategy_any s m hs hm w)
  have HSP : Hid (specAll s m ls = (specStrat s m).bind fun _ => if (specType s).1.args.length < ls.length then none else specMany (specType s).1 m ls) := rfl
  generalize specAll s m ls = R at *
  have HG := Lib.hid (fun b (h : specStrat s m = some b) => (specStrat_good h).1)
  have HP := Lib.hid (And.intro hm (And.intro hls hat)); clear hs hm hls hlen hat
  go_enter Tryz.func22, Tryz.ntmps22
  go_wp2_with fail
  (with_reducible refine C0.out.mono ?_)
  rintro en w1 ⟨ta, tc, s1, v1, a2, n2, c2, a3, n3, c3, rfl, hb1, hrt, -⟩
  generalize hT : (specType s).1 = t at *
  have HT := Lib.hid hT; clear hT C0
  cases hq : specStrat s m with
  | none =>
    have hR : R = none := by rw [HSP.out, hq]; rfl
    have HR := Lib.hid hR
    have HB := Lib.hid hb1; clear hR hb1 hrt hq
    simp only [Option.isSome_none]
    go_wp2_with fail
    go_ret2
    rw [HR.out]
    exact ⟨rfl, (HB.out.alloc HB.out.size _).alloc (by rw [size_alloc]; exact Nat.le_succ_of_le HB.out.size) _⟩
  | some b =>
    have hg := HG.out b hq
    simp only [Option.isSome_some]
    have h15 := hg.atoms
    have hal := (args_atoms h15).2
    by_cases hl : t.args.length < ls.length
    · have hR : R = none := by rw [HSP.out, hq]; simp only [Option.bind_some]; rw [if_pos hl]
      have HR := Lib.hid hR
      have HB := Lib.hid hb1; clear hR hb1 hrt hq hg
      have hl' : (t.args.length : Int) < (ls.length : Int) := by omega
      go_wp2_with fail
      go_ret2
      rw [HR.out]
      exact ⟨rfl, (HB.out.alloc HB.out.size _).alloc (by rw [size_alloc]; exact Nat.le_succ_of_le HB.out.size) _⟩
    · have hR : specMany t m ls = R := by rw [HSP.out, hq]; simp only [Option.bind_some]; rw [if_neg hl]
      have hl' : ¬ (t.args.length : Int) < (ls.length : Int) := by omega
      obtain ⟨W, hW⟩ : ∃ W, (w1.alloc (.cells #[.slice ta t.args.length tc] 46)).alloc (.cells #[str s1, .int .i64 v1, .slice a2 n2 c2, .slice a3 n3 c3] 51) = W := ⟨_, rfl⟩
      have hbW : Below w1.heap.size w1 W := by rw [← hW]; exact ((Below.refl _ _).alloc (Nat.le_refl _) _).alloc (by rw [size_alloc]; omega) _
      have bT : W.heap[w1.heap.size]? = some (.cells #[.slice ta t.args.length tc] 46 (0, 0)) := by rw [← hW]; exact heap_past (heap_new _ _)
      have t0 : W.cell? ⟨w1.heap.size, 0, none⟩ = some (.slice ta t.args.length tc) := by simp [World.cell?, bT]
      have hst : ARel ls R w1.heap.size w (str m) (.int .i64 0) W := by
        refine ⟨0, m, t, ta, tc, Nat.zero_le _, rfl, rfl, h15, HP.out.1, by omega, by rw [List.drop_zero]; exact hR, bT, ?_, hb1.trans (hbW.mono hb1.size)⟩
        refine (Rep.keep fun i o hi ho => ⟨⟨hi, by have := lt_of_heap ho; omega⟩, ?_⟩).1 _ _ hrt
        rw [hbW.block i (lt_of_heap ho)]; exact ho
      have HST := Lib.hid hst
      have HW := Lib.hid hW
      have HB0 := Lib.hid hb1.size
      have HAT := Lib.hid (fun wr (h : Below w.heap.size w wr) => fun (k : Nat) (x : Bs) (hx : ls[k]? = some x) => (by
        obtain ⟨g, o, e, hc⟩ := HP.out.2.2 k x hx
        exact ⟨g, o, e, World.block_lt_of_cell? _ _ hc, (h.cell (World.block_lt_of_cell? _ _ hc)).trans hc⟩ : ∃ g o, sa = some ⟨g, o, none⟩ ∧ g < w.heap.size ∧ wr.cell? ⟨g, o + k, none⟩ = some (str x)))
      clear hR hW hbW bT hst hb1 hrt hq hg h15
      obtain ⟨B, hB⟩ : ∃ B, w1.heap.size = B := ⟨_, rfl⟩
      go_upto_region 2 with (fail)
      rw [HW.out]
      rw [hB] at HST HB0 t0
      try rw [hB]
      clear hB HW
      go_wp2_with fail
      clear t0
      go_loopw [1, 11] (fun x i wr => ARel ls R B w x i wr) (fun _ i _ => ls.length - (intOf i).toNat)
      case atStart => exact HST.out
      case round =>
        clear HST
        obtain ⟨j, M, t, ta, tc, hj, rfl, rfl, h15, hM, hlj, hspec, bT, hrt, hbw⟩ := hrel
        by_cases hlt : j < ls.length
        · obtain ⟨l, hjl⟩ : ∃ l, ls[j]? = some l := ⟨ls[j], by simp [hlt]⟩
          obtain ⟨g, o, e, hgw, hcl⟩ := HAT.out wr hbw j l hjl
          subst e
          have hll2 := HP.out.2.1 l (List.mem_of_getElem? hjl)
          cases hts : t.args with
          | nil => rw [hts] at hlj; simp at hlj; omega
          | cons a rest =>
            have hat := Ty_atoms_cons hts
            have hlen1 : t.args.length = rest.length + 1 := by rw [hts]; rfl
            have hrt2 := hrt
            rw [encS_eq] at hrt2
            obtain ⟨_, _, e, htc, _, hta⟩ := Rep_sl1_open hrt2
            simp only [Value.slice.injEq] at e
            obtain ⟨rfl, _, rfl⟩ := e
            rw [hts] at hrt2 htc hta
            obtain ⟨kb, ko, u, d1, e, -, -, -, -, -⟩ := hta 0 (by simp)
            subst e
            have hb0 : wr.cell? ⟨B, 0, none⟩ = some (.slice (some ⟨kb, ko, none⟩) (rest.length + 1) tc) := by simp [World.cell?, bT, hlen1]
            have htx := textT_length 15 t h15
            have SX : Hid (∀ w', Below wr.heap.size wr w' → w'.cell? ⟨B, 0, none⟩ = some (.slice (some ⟨kb, ko, none⟩) (rest.length + 1) tc) ∧ w'.cell? ⟨g, o + j, none⟩ = some (str l)) := by
              show ∀ w', _ → _
              intro w' hb'
              exact ⟨(hb'.cell (World.block_lt_of_cell? _ _ hb0)).trans hb0, (hb'.cell (World.block_lt_of_cell? _ _ hcl)).trans hcl⟩
            have C1 : Hid (∀ wz, Below wr.heap.size wr wz → Calls Tryz.prog 55 #[.agg #[.slice (some ⟨kb, ko, none⟩) (rest.length + 1) tc]] wz fun en w' => en = .returned (str (textT t)) ∧ Below wz.heap.size wz w') := by
              show ∀ wz, _ → _
              intro wz hz
              have h := Rep.below (F' := fun _ => True) hz (fun _ _ => trivial) hrt
              rw [hlen1] at h
              exact l1Text_any 15 t h15 (by omega) _ wz _ h
            have C2 := Lib.hid (fun wz => specApplyOf_any (textT t) M l (show _ ≤ _ by omega) hM hll2 wz)
            have HSTEP : Hid (specMany t M (ls.drop j) = (specApplyOf (textT t) M l).bind fun out => specMany (.mk rest) out (ls.drop (j + 1))) := by
              show _ = _
              have hd : ls.drop j = l :: ls.drop (j + 1) := by
                have e : ls[j] = l := (List.getElem?_eq_some_iff.1 hjl).2
                rw [List.drop_eq_getElem_cons hlt, e]
              rw [hd, specMany, hts]; rfl
            have HREL := Lib.hid (And.intro hlj (And.intro hspec (And.intro bT (And.intro hrt hbw))))
            have HTS := Lib.hid (And.intro hts (And.intro hlen1 (show atomsT (.mk rest) ≤ 15 by omega)))
            have HRT := Lib.hid hrt2
            have HTC := Lib.hid htc
            have hlt' : (j : Int) < (ls.length : Int) := by omega
            have hlj2 : ls.length ≤ j + (rest.length + 1) := by rw [← hlen1]; exact hlj
            have hj0 : (0 : Int) ≤ (j : Int) := by omega
            clear hlj hspec bT hrt hbw hts hrt2 htc hta hlen1 hll2 hM hjl htx hat hal hb0 hcl
            go_wp2_with fail
            refine wp_region_noPanic ?_
            refine wp_region_S (fun w' => Below wr.heap.size wr w') (fun _ => false) (by kernel_rfl) ?_
            obtain ⟨x0, hx0⟩ : ∃ x, wr.drew = x := ⟨_, rfl⟩
            rw [hx0]
            have hBx0 : Below wr.heap.size wr x0 := by rw [← hx0]; exact Below.drew (Below.refl _ _)
            clear hx0
            refine wpAnyS_take 0 (v := ?_) (by kernel_rfl) (by kernel_rfl) (by kernel_rfl) (by kernel_rfl) (fun _ _ _ _ h => h) hBx0 ?_ ?_
            rotate_left
            · (intro oi ho; simp at ho; subst ho; refine Or.inl ⟨by rfl, fun w' hw' => ?_⟩; obtain ⟨i0, i1⟩ := SX.out w' hw'; go_simp; try with_reducible rfl)
            (intro d hd; simp at hd; subst hd; simp only [Act.put, List.setIfInBounds_toArray, List.set_cons_zero, List.set_cons_succ])
            refine wpAnyS_take 2 (v := ?_) (by kernel_rfl) (by kernel_rfl) (by kernel_rfl) (by kernel_rfl) (fun _ _ _ _ h => h) hBx0 ?_ ?_
            rotate_left
            · (intro oi ho; simp at ho; subst ho; refine Or.inl ⟨by rfl, fun w' hw' => ?_⟩; go_simp; try with_reducible rfl)
            (intro d hd; simp at hd; subst hd; simp only [Act.put, List.setIfInBounds_toArray, List.set_cons_zero, List.set_cons_succ])
            refine wpAnyS_take 3 (v := ?_) (by kernel_rfl) (by kernel_rfl) (by kernel_rfl) (by kernel_rfl) (fun _ _ _ _ h => h) hBx0 ?_ ?_
            rotate_left
            · (intro oi ho; simp at ho; subst ho; refine Or.inl ⟨by rfl, fun w' hw' => ?_⟩; go_simp; try with_reducible rfl)
            (intro d hd; simp at hd; subst hd; simp only [Act.put, List.setIfInBounds_toArray, List.set_cons_zero, List.set_cons_succ])
            refine wpAnyS_take 4 (v := ?_) (by kernel_rfl) (by kernel_rfl) (by kernel_rfl) (by kernel_rfl) (fun _ _ _ _ h => h) hBx0 ?_ ?_
            rotate_left
            · (intro oi ho; simp at ho; subst ho; refine Or.inl ⟨by rfl, fun w' hw' => ?_⟩; go_simp; try with_reducible rfl)
            (intro d hd; simp at hd; subst hd; simp only [Act.put, List.setIfInBounds_toArray, List.set_cons_zero, List.set_cons_succ])
            refine wpAnyS_take 5 (v := ?_) (by kernel_rfl) (by kernel_rfl) (by kernel_rfl) (by kernel_rfl) (fun _ _ _ _ h => h) hBx0 ?_ ?_
            rotate_left
            · (intro oi ho; simp at ho; subst ho; refine Or.inl ⟨by rfl, fun w' hw' => ?_⟩; go_simp; try with_reducible rfl)
            (intro d hd; simp at hd; subst hd; simp only [Act.put, List.setIfInBounds_toArray, List.set_cons_zero, List.set_cons_succ])
            refine wpAnyS_take 6 (v := ?_) (by kernel_rfl) (by kernel_rfl) (by kernel_rfl) (by kernel_rfl) (fun _ _ _ _ h => h) hBx0 ?_ ?_
            rotate_left
            · (intro oi ho; simp at ho; subst ho; refine Or.inl ⟨by rfl, fun w' hw' => ?_⟩; obtain ⟨i0, i1⟩ := SX.out w' hw'; go_simp; try with_reducible rfl)
            (intro d hd; simp at hd; subst hd; simp only [Act.put, List.setIfInBounds_toArray, List.set_cons_zero, List.set_cons_succ])
            refine wpAnyS_one 1 (by kernel_rfl) ?_
            (intro o1 ho K' hK; simp at ho; subst ho)
            go_simp
            go_at_call 55
            (with_reducible refine (C1.out x0 hBx0).mono ?_)
            rintro en x1 ⟨rfl, hb⟩
            have hBx1 : Below wr.heap.size wr x1 := hBx0.trans (hb.mono hBx0.size)
            have hbx1 := Lib.hid hb; clear hb
            refine hK.out _ _ (fun _ => ?_) ?_
            · exact hBx1
            clear hK K'
            (try simp only [Act.put, List.setIfInBounds_toArray, List.set_cons_zero, List.set_cons_succ])
            refine wpAnyS_one 7 (by kernel_rfl) ?_
            (intro o7 ho K' hK; simp at ho; subst ho)
            go_simp
            go_at_call 29
            (with_reducible refine (C2.out x1).mono ?_)
            rintro en x2 ⟨rfl, hb⟩
            have hBx2 : Below wr.heap.size wr x2 := hBx1.trans (hb.mono hBx1.size)
            have hbx2 := Lib.hid hb; clear hb
            refine hK.out _ _ (fun _ => ?_) ?_
            · exact hBx2
            clear hK K'
            (try simp only [Act.put, List.setIfInBounds_toArray, List.set_cons_zero, List.set_cons_succ])
            refine wpAnyS_take 8 (v := ?_) (by kernel_rfl) (by kernel_rfl) (by kernel_rfl) (by kernel_rfl) (fun _ _ _ _ h => h) hBx2 ?_ ?_
            rotate_left
            · (intro oi ho; simp at ho; subst ho; refine Or.inl ⟨by rfl, fun w' hw' => ?_⟩; go_simp; try with_reducible rfl)
            (intro d hd; simp at hd; subst hd; simp only [Act.put, List.setIfInBounds_toArray, List.set_cons_zero, List.set_cons_succ])
            refine wpAnyS_take 9 (v := ?_) (by kernel_rfl) (by kernel_rfl) (by kernel_rfl) (by kernel_rfl) (fun _ _ _ _ h => h) hBx2 ?_ ?_
            rotate_left
            · (intro oi ho; simp at ho; subst ho; refine Or.inl ⟨by rfl, fun w' hw' => ?_⟩; go_simp; try with_reducible rfl)
            (intro d hd; simp at hd; subst hd; simp only [Act.put, List.setIfInBounds_toArray, List.set_cons_zero, List.set_cons_succ])
            refine wpAnyS_take 10 (v := ?_) (by kernel_rfl) (by kernel_rfl) (by kernel_rfl) (by kernel_rfl) (fun _ _ _ _ h => h) hBx2 ?_ ?_
            rotate_left
            · (intro oi ho; simp at ho; subst ho; refine Or.inl ⟨by rfl, fun w' hw' => ?_⟩; go_simp; try with_reducible rfl)
            (intro d hd; simp at hd; subst hd; simp only [Act.put, List.setIfInBounds_toArray, List.set_cons_zero, List.set_cons_succ])
            refine wpAnyS_one 11 (by kernel_rfl) ?_
            (intro o11 ho K' hK; simp at ho; subst ho)
            go_simp
            refine hK.out _ _ (fun _ => ?_) ?_
            · exact hBx2
            clear hK K'
            (try simp only [Act.put, List.setIfInBounds_toArray, List.set_cons_zero, List.set_cons_succ])
            refine wpAnyS_one 12 (by kernel_rfl) ?_
            (intro o12 ho K' hK; simp at ho; subst ho)
            go_simp
            refine hK.out _ _ (fun _ => ?_) ?_
            · exact hBx2
            clear hK K'
            (try simp only [Act.put, List.setIfInBounds_toArray, List.set_cons_zero, List.set_cons_succ])
            refine wpAnyS_done (by kernel_rfl) (NoPanic.normal ?_) _
            have HB9 := Lib.hid hBx2
            clear hBx2
            obtain ⟨w9, hw9⟩ : ∃ x, x2 = x := ⟨_, rfl⟩
            rw [hw9] at HB9
            rw [hw9]
            clear hw9
            cases hq : specApplyOf (textT t) M l with
            | none =>
              have hR : R = none := by rw [← HREL.out.2.1, HSTEP.out, hq]; rfl
              have HR := Lib.hid hR; clear hR hq
              simp only [Option.isSome_none]
              go_wp2_with fail
              go_ret2
              rw [HR.out]
              exact ⟨rfl, HREL.out.2.2.2.2.trans (HB9.out.mono HREL.out.2.2.2.2.size)⟩
            | some x =>
              have hx2 : x.length ≤ 2000 := specApplyOf_len hq
              have hR2 : specMany (.mk rest) x (ls.drop (j + 1)) = R := by rw [← HREL.out.2.1, HSTEP.out, hq]; rfl
              have hBlt := lt_of_heap HREL.out.2.2.1
              have bT9 := (HB9.out.block B hBlt).trans HREL.out.2.2.1
              have b9 : w9.cell? ⟨B, 0, none⟩ = some (.slice (some ⟨kb, ko, none⟩) (rest.length + 1) tc) := by simp [World.cell?, bT9, HTS.out.2.1]
              have f9 : w9.frozen? ⟨B, 0, none⟩ = false := by simp [World.frozen?, bT9]
              have NEXT : Hid (∀ (ra : Option Addr) (rc : Nat), Rep (fun i => w.heap.size ≤ i ∧ i ≠ B) wr (.sl 46 1 rest.length (encSs rest)) (.slice ra rest.length rc) → ARel ls R B w (str x) (.int .i64 ((j : Int) + 1)) (w9.setCell ⟨B, 0, none⟩ (.slice ra rest.length rc))) := by
                show ∀ _ _, _ → _
                intro ra rc hrr
                have hat := HTS.out.2.2
                have h9 := HREL.out.2.2.2.2.trans (HB9.out.mono HREL.out.2.2.2.2.size)
                refine ⟨j + 1, x, .mk rest, ra, rc, by omega, rfl, by rw [Int.natCast_add]; rfl, by omega, by show _ ≤ _; omega, by have := HREL.out.1; simp only [Ty.args]; omega, hR2, ?_, ?_, h9.setCell (p := ⟨B, 0, none⟩) HB0.out _⟩
                · rw [setCell_at bT9]; rfl
                · rw [encS_eq]
                  refine (Rep.keep fun i o hi ho => ⟨hi, ?_⟩).1 _ _ hrr
                  rw [Below.heap_setCell _ _ _ _ (by simpa using hi.2), HB9.out.block i (lt_of_heap ho)]; exact ho
              have hT2 : ¬ tc = 1 → Rep (fun i => w.heap.size ≤ i ∧ i ≠ B) wr (.sl 46 1 rest.length (encSs rest)) (.slice (some ⟨kb, ko + 1, none⟩) rest.length (tc - 1)) := fun _ => Rep_sl1_tail (d := encS a) HRT.out
              have hT1 : tc = 1 → rest.length = 0 ∧ Rep (fun i => w.heap.size ≤ i ∧ i ≠ B) wr (.sl 46 1 rest.length (encSs rest)) (.slice (some ⟨kb, ko, none⟩) rest.length 0) := fun h => by
                obtain rfl : rest = [] := by
                  have h1 := HTC.out
                  rw [h] at h1
                  simp at h1; exact h1
                exact ⟨rfl, Rep_sl.2 ⟨by simp [encSs], _, _, rfl, Nat.zero_le _, fun h => by simp at h, .inl rfl⟩⟩
              have htc' : rest.length + 1 ≤ tc := by have := HTC.out; simpa using this
              have h1l : (1 : Int) ≤ (rest.length : Int) + 1 := by omega
              simp only [Option.isSome_some, Option.getD_some]
              clear bT9 hR2 hq hBlt
              by_cases htc1 : tc = 1
              · have h := hT1 htc1
                have CK := Lib.hid (NEXT.out _ _ h.2)
                have htc0 : (rest.length : Int) = 0 := by omega
                subst htc1
                clear h hT1 hT2 htc' NEXT
                go_wp2_with fail
                go_roundw
                case rel => exact CK.out
                case measure => simp [intOf]; omega
              · have CK := Lib.hid (NEXT.out _ _ (hT2 htc1))
                clear hT1 hT2 NEXT
                go_wp2_with fail
                go_roundw
                case rel => exact CK.out
                case measure => simp [intOf]; omega
        · obtain rfl : j = ls.length := by omega
          have hR : R = some M := by rw [← hspec, List.drop_length]; rfl
          have HR := Lib.hid (And.intro hR hbw); clear hR hbw hspec bT hrt hlj
          go_wp2_with fail
          go_ret2
          rw [HR.out.1]
          exact ⟨rfl, HR.out.2⟩

end Go.Proofs.YtibnnbdpfkgfhaaGreatDoor

/- The law FnExactRunOf. -/
import Derived.Test.YtmkgoacclgoidaaDoorS27
namespace Go.Proofs.YtmkgoacclgoidaaDoor
open Go.RowKit

/-- A struct of two cells, made. -/
theorem box2 (w : World) (u v : Value) (T : TypeId) : ∃ W, w.alloc (.cells #[u, v] T) = W ∧ W.heap[w.heap.size]? = some (.cells #[u, v] T (0, 0)) ∧ Below w.heap.size w W ∧ W.heap.size = w.heap.size + 1 :=
  ⟨_, rfl, heap_new _ _, (Below.refl w.heap.size w).alloc (Nat.le_refl _) _, by simp⟩

/-- The results of both, held. -/
structure StPl (w : World) (b8 b12 : Nat) (P G : World → Prop) (mvW ptW mvG ptG : Value) (wi : World) : Prop where
  bel : Below w.heap.size w wi
  pw : P wi
  pg : G wi
  c8 : wi.heap[b8]? = some (.cells #[mvW, ptW] 31 (0, 0))
  c12 : wi.heap[b12]? = some (.cells #[mvG, ptG] 31 (0, 0))
def Stay (P : World → Prop) : Prop := ∀ w w', P w → Below w.heap.size w w' → P w'
theorem StPl.below {w : World} {b8 b12 : Nat} {P G : World → Prop} {mvW ptW mvG ptG : Value} {wi wj : World} (h : StPl w b8 b12 P G mvW ptW mvG ptG wi) (hP : Stay P) (hG : Stay G) (hb : Below wi.heap.size wi wj) : StPl w b8 b12 P G mvW ptW mvG ptG wj :=
  ⟨h.bel.trans (hb.mono h.bel.size), hP _ _ h.pw hb, hG _ _ h.pg hb, by rw [hb.block _ (lt_of_heap h.c8)]; exact h.c8, by rw [hb.block _ (lt_of_heap h.c12)]; exact h.c12⟩
theorem stay_play (log : List (Bs × Int)) (mv pt : Value) : Stay fun w => PlayAt w log mv pt := fun _ _ h hb => h.below hb
theorem stay_mark (n k : Nat) (mv pt : Value) : Stay fun w => MarkAt w n k mv pt := fun _ _ h hb => h.below hb
theorem StPl.mid {w : World} {b8 b12 : Nat} {P G : World → Prop} {mvW ptW mvG ptG : Value} {wi : World} (h : StPl w b8 b12 P G mvW ptW mvG ptG wi) : wi.cell? ⟨b8, 0, none⟩ = some mvW ∧ wi.cell? ⟨b8, 1, none⟩ = some ptW ∧ wi.cell? ⟨b12, 0, none⟩ = some mvG ∧ wi.cell? ⟨b12, 1, none⟩ = some ptG :=
  ⟨(cells2 h.c8).1, (cells2 h.c8).2.1, (cells2 h.c12).1, (cells2 h.c12).2.1⟩

set_option maxRecDepth 100000 in
set_option maxHeartbeats 8000000 in
theorem fnExactRunOf_any (s text : Bs) (xs : List Bs) (a : Option Addr) (c : Nat) (w : World) (hg : Glob w) (hgt : GlobT w) (hx : StrsAt w a xs) (hxl : xs.length ≤ 9223372036854775807) (hxs : ∀ x ∈ xs, x.length ≤ 9223372036854775807) :
    Calls Tryd.prog 4 #[str s, str text, .slice a xs.length c] w fun en w' => en = .returned (.bool true) ∧ Below w.heap.size w w' := by
  by_cases ha : 1048576 < s.length
  · have ha' : (1048576 : Int) < (s.length : Int) := by omega
    go_enter Tryd.func4, Tryd.ntmps4
    go_wp2_with fail
    go_ret
    exact ⟨rfl, Below.refl _ _⟩
  have ha' : ¬ (1048576 : Int) < (s.length : Int) := by omega
  by_cases hb : 1048576 < text.length
  · have hb' : (1048576 : Int) < (text.length : Int) := by omega
    go_enter Tryd.func4, Tryd.ntmps4
    go_wp2_with fail
    go_ret
    exact ⟨rfl, Below.refl _ _⟩
  have hb' : ¬ (1048576 : Int) < (text.length : Int) := by omega
  have hs : Lim s.length := show _ ≤ _ by omega
  have ht : Lim text.length := show _ ≤ _ by omega
  have CS : Hid (Calls Tryd.prog 7 #[.slice a xs.length c, .int .i64 1048576] w (Sized 1048576 xs w)) := Lib.hid (szStringS_any 1048576 a c xs w hx (by omega) hxl hxs)
  have HX := Lib.hid hx; have HG := Lib.hid (And.intro hg hgt); clear hx hxl hxs ha hb hg hgt
  go_enter Tryd.func4, Tryd.ntmps4
  go_wp2_with fail
  refine CS.out.mono ?_
  rintro en w0 ⟨rfl, rfl | ⟨r, rfl, hl, hxs⟩⟩
  · go_wp2_with fail
    go_ret
    exact ⟨rfl, Below.refl _ _⟩
  have hl2 : xs.length ≤ 16777216 := by omega
  have hxl : Lim xs.length := show _ ≤ _ by omega
  have hxs' : ∀ x ∈ xs, Lim x.length := fun x hx => show _ ≤ _ by have := hxs x hx; omega
  have hl3 : xs.length ≤ 1048576 := hl
  have HL := Lib.hid (And.intro hl2 (And.intro hxl hxs')); clear hl hxs hl2 hxl hxs' CS
  have hr0 : ¬ (r : Int) < 0 := by omega
  -- the reference
  go_wp2_with fail
  refine (toStringS_any a c xs w0 HX.out HL.out.1).mono ?_
  rintro en w1 ⟨a1, c1, rfl, hx1, hb1⟩
  have H1 := Lib.hid (And.intro hx1 hb1); clear hx1 hb1
  have CW := Lib.hid (specRunOf_any s text xs a1 c1 w1 H1.out.1 hs ht HL.out.2.2 HL.out.2.1)
  have hlog : (logOf (specRun true 60 s text xs)).length ≤ 60 := by
    cases h : specRun true 60 s text xs with
    | none => simp [logOf]
    | some x => obtain ⟨cc, log⟩ := x; have := specRun_len (by omega) h; simpa [logOf] using this
  have hsame : logOf (specRun true 60 s text xs) = logOf (implRun 60 s text xs) := by
    obtain ⟨h1, h2⟩ := run_eq true 60 s text xs
    cases h : implRun 60 s text xs with
    | none => rw [h1 h]
    | some x =>
      obtain ⟨log', h3, h4⟩ := h2 x.1 x.2 h
      rw [h3, h4 rfl]
  have hres := res_same true 60 s text xs
  unfold RunOfPost at CW
  have CI : Hid (∀ w0 (a0 : Option Addr) (c0 : Nat), Glob w0 → GlobT w0 → StrsAt w0 a0 xs → Calls Tryd.prog 13 #[str s, str text, .slice a0 xs.length c0] w0 (RunOfPost (implRun 60 s text xs) w0)) :=
    Lib.hid (fun w0 a0 c0 h1 h2 h3 => implRunOf_any s text xs a0 c0 w0 h1 h2 h3 hs ht HL.out.2.2 HL.out.2.1)
  unfold RunOfPost at CI
  rw [hres, hsame] at CW
  rw [hsame] at hlog
  clear hsame hres
  generalize logOf (implRun 60 s text xs) = log at *
  generalize resOf (implRun 60 s text xs) = res at *
  obtain ⟨p0, p1⟩ := res
  have e0 : (p0 != p0) = false := by simp
  have e1 : (p1 != p1) = false := by simp
  go_wp2_with fail
  refine CW.out.mono ?_
  rintro en w2 ⟨mvW, ptW, rfl, hb2, hpw, hfw⟩
  clear CW
  obtain ⟨W3, hW3, h83, hb3, hz3⟩ := box2 w2 mvW ptW 31
  have HZ3 := Lib.hid hz3; clear hz3
  have hb02 := H1.out.2.trans (hb2.mono H1.out.2.size)
  have hb03 := hb02.trans (hb3.mono hb02.size)
  have hpw3 := hpw.below hb3
  have hltw : ∀ g, mvW.ownBlock = some g ∨ ptW.ownBlock = some g → g < W3.heap.size := fun g h => by
    rcases h with h | h
    · exact hpw3.1.lt h
    · exact hpw3.2.lt h
  obtain ⟨a8, k8, e8⟩ := hpw.1.slice
  obtain ⟨a9, k9, e9⟩ := hpw.2.slice
  subst e8; subst e9
  have H3 := Lib.hid (And.intro h83 (And.intro hb03 (And.intro hpw3 (And.intro hltw hW3)))); clear h83 hb3 hb02 hb03 hpw hpw3 hltw hW3 hb2 hfw
  have hxA := HX.out.below H3.out.2.1
  have C2 := Lib.hid (toStringS_own a c xs W3 hxA HL.out.1); clear hxA
  go_wp2_with fail
  rw [H3.out.2.2.2.2]
  refine C2.out.mono ?_
  rintro en w4 ⟨c4, rfl, hox, hb4⟩
  have hb04 := H3.out.2.1.trans (hb4.mono H3.out.2.1.size)
  have hz4 := hox.lt (g := W3.heap.size) rfl
  have C3 := Lib.hid (CI.out w4 _ c4 (HG.out.1.below hb04) (HG.out.2.but (m := fun _ => False) (But.ofBelow hb04) (fun h => h)) hox.strs)
  have H4 := Lib.hid (And.intro hox (And.intro hb4 hb04)); clear hox hb4 hb04 C2
  go_wp2_with fail
  refine C3.out.mono ?_
  rintro en w5 ⟨mvG, ptG, rfl, hb5, hpg, hfg⟩
  clear C3
  obtain ⟨W6, hW6, h126, hb6, hz6⟩ := box2 w5 mvG ptG 31
  clear hz6
  have hb05 := H4.out.2.2.trans (hb5.mono H4.out.2.2.size)
  have hb06 := hb05.trans (hb6.mono hb05.size)
  have hb36 : Below W3.heap.size W3 W6 := (H4.out.2.1.trans (hb5.mono H4.out.2.1.size)).trans (hb6.mono (Nat.le_trans H4.out.2.1.size hb5.size))
  have hS : StPl w0 w2.heap.size w5.heap.size (fun w => PlayAt w log (.slice a8 log.length k8) (.slice a9 log.length k9)) (fun w => PlayAt w log mvG ptG) (.slice a8 log.length k8) (.slice a9 log.length k9) mvG ptG W6 :=
    ⟨hb06, H3.out.2.2.1.below hb36, hpg.below hb6, by rw [hb36.block _ (lt_of_heap H3.out.1)]; exact H3.out.1, h126⟩
  have hox6 : Own W6 9 1 (.slice (some ⟨W3.heap.size, 0, none⟩) xs.length c4) xs.length (xs.map str) := H4.out.1.keep fun g o hg ho => by
    have h1 := lt_of_heap ho
    have h2 := hb5.size
    rw [hb6.block g (by omega), hb5.block g h1]; exact ho
  have hz5 : W3.heap.size < w5.heap.size := Nat.lt_of_lt_of_le hz4 hb5.size
  obtain ⟨a12, k12, e12⟩ := hpg.1.slice
  obtain ⟨a13, k13, e13⟩ := hpg.2.slice
  subst e12; subst e13
  have hltg : ∀ g, (Value.slice a12 log.length k12).ownBlock = some g ∨ (Value.slice a13 log.length k13).ownBlock = some g → g < w5.heap.size := fun g h => by
    rcases h with h | h
    · exact hpg.1.lt h
    · exact hpg.2.lt h
  have HLTG := Lib.hid hltg; clear hltg
  have H6 := Lib.hid (And.intro hS (And.intro hox6 hfg)); clear hS hox6 hfg hb5 hpg h126 hb6 hb05 hb06 hb36
  obtain ⟨d8, d9, d12, d13⟩ := H6.out.1.mid
  have C4 := Lib.hid (eqPlay_any log _ _ _ _ W6 H6.out.1.pg H6.out.1.pw (by omega))
  subst hW6
  go_wp2_with fail
  (with_reducible refine C4.out.mono ?_)
  rintro en w7 ⟨rfl, hb7⟩
  clear C4 d8 d9 d12 d13
  have hox7 : Own w7 9 1 (.slice (some ⟨W3.heap.size, 0, none⟩) xs.length c4) xs.length (xs.map str) := H6.out.2.1.keep fun g o hg ho => by rw [hb7.block g (lt_of_heap ho)]; exact ho
  have H7 := Lib.hid (And.intro (H6.out.1.below (stay_play _ _ _) (stay_play _ _ _) hb7) hox7); clear hox7 hb7
  have C5 := Lib.hid (toStringS_any a c xs w7 (HX.out.below H7.out.1.bel) HL.out.1)
  go_wp2_with fail
  refine C5.out.mono ?_
  rintro en w8 ⟨a58, c58, rfl, hx8, hb8⟩
  have hox8 : Own w8 9 1 (.slice (some ⟨W3.heap.size, 0, none⟩) xs.length c4) xs.length (xs.map str) := H7.out.2.keep fun g o hg ho => by rw [hb8.block g (lt_of_heap ho)]; exact ho
  have C6 := Lib.hid (eqStringS_any (some ⟨W3.heap.size, 0, none⟩) a58 c4 c58 xs w8 hox8.strs hx8 HL.out.1)
  have H8 := Lib.hid (And.intro (H7.out.1.below (stay_play _ _ _) (stay_play _ _ _) hb8) hox8); clear hox8 hb8 hx8 C5
  go_wp2_with fail
  refine C6.out.mono ?_
  rintro en w9 ⟨rfl, hb9⟩
  have hox9 : Own w9 9 1 (.slice (some ⟨W3.heap.size, 0, none⟩) xs.length c4) xs.length (xs.map str) := H8.out.2.keep fun g o hg ho => by rw [hb9.block g (lt_of_heap ho)]; exact ho
  have H9 := Lib.hid (H8.out.1.below (stay_play _ _ _) (stay_play _ _ _) hb9); clear hb9 C6
  have C7 := Lib.hid (markStringS_any 1 xs.length _ c4 _ w9 hox9 (by omega) (by omega)); clear hox9
  rw [show ((1 : Nat) : Int) = 1 from rfl] at C7
  go_wp2_with fail
  refine C7.out.mono ?_
  rintro en w10 ⟨rfl, hb10, _⟩
  clear C7
  have hne : ∀ g, (Value.slice (some ⟨W3.heap.size, 0, none⟩) xs.length c4).ownBlock = some g → g = W3.heap.size := fun g h => by simp [Value.ownBlock] at h; exact h.symm
  have hz03 := H3.out.2.1.size
  have hz2 : w2.heap.size < W3.heap.size := by have := HZ3.out; omega
  have hz4' := H4.out.2.1.size
  have hS10 : StPl w0 w2.heap.size w5.heap.size (fun w => PlayAt w log (.slice a8 log.length k8) (.slice a9 log.length k9)) (fun w => PlayAt w log (.slice a12 log.length k12) (.slice a13 log.length k13)) (.slice a8 log.length k8) (.slice a9 log.length k9) (.slice a12 log.length k12) (.slice a13 log.length k13) w10 := by
    refine ⟨H9.out.bel.trans (hb10.toBelow H9.out.bel.size fun i hi e => by have := hne i e; omega), ?_, ?_, ?_, ?_⟩
    · exact H9.out.pw.but hb10 fun g hg e => by have := hne g e; have := H3.out.2.2.2.1 g hg; omega
    · exact H9.out.pg.but hb10 fun g hg e => by have := hne g e; have := H6.out.2.2 g hg; omega
    · rw [hb10.block _ (lt_of_heap H9.out.c8) (fun e => by have := hne _ e; omega)]; exact H9.out.c8
    · rw [hb10.block _ (lt_of_heap H9.out.c12) (fun e => by
        have h1 := hne _ e
        have h2 := H6.out.1.bel.size
        have h3 := lt_of_heap H6.out.1.c12
        have h4 : W3.heap.size < w5.heap.size := hz5
        omega)]; exact H9.out.c12
  have hne12 : ∀ g, (Value.slice a12 log.length k12).ownBlock = some g ∨ (Value.slice a13 log.length k13).ownBlock = some g → w4.heap.size ≤ g := H6.out.2.2
  have hgt12 := HLTG.out
  have H10 := Lib.hid (And.intro hS10 (And.intro hne12 hgt12)); clear hS10 hb10 hne hne12 hgt12
  obtain ⟨d8, d9, d12, d13⟩ := H10.out.1.mid
  have C8 := Lib.hid (eqPlay_any log _ _ _ _ w10 H10.out.1.pg H10.out.1.pw (by omega))
  have hk0 : ¬ (1 : Int) + (xs.length : Int) < 0 := by omega
  go_wp2_with fail
  (with_reducible refine C8.out.mono ?_)
  rintro en w11 ⟨rfl, hb11⟩
  clear C8 d8 d9 d12 d13
  have H11 := Lib.hid (H10.out.1.below (stay_play _ _ _) (stay_play _ _ _) hb11); clear hb11
  obtain ⟨d8, d9, d12, d13⟩ := H11.out.mid
  have C9 := Lib.hid (markPlay_any 1 log _ _ w11 H11.out.pg (by omega) (by omega))
  rw [show ((1 : Nat) : Int) = 1 from rfl] at C9
  go_wp2_with fail
  (with_reducible refine C9.out.mono ?_)
  rintro en w12 ⟨rfl, hb12, hmk⟩
  clear C9 d8 d9 d12 d13
  have hS12 : StPl w0 w2.heap.size w5.heap.size (fun w => PlayAt w log (.slice a8 log.length k8) (.slice a9 log.length k9)) (fun w => MarkAt w log.length 1 (.slice a12 log.length k12) (.slice a13 log.length k13)) (.slice a8 log.length k8) (.slice a9 log.length k9) (.slice a12 log.length k12) (.slice a13 log.length k13) w12 := by
    refine ⟨H11.out.bel.trans (hb12.toBelow H11.out.bel.size fun i hi e => by have := H10.out.2.1 i e; omega), ?_, hmk, ?_, ?_⟩
    · exact H11.out.pw.but hb12 fun g hg e => by have := H3.out.2.2.2.1 g hg; have := H10.out.2.1 g e; omega
    · rw [hb12.block _ (lt_of_heap H11.out.c8) (fun e => by have := H10.out.2.1 _ e; omega)]; exact H11.out.c8
    · rw [hb12.block _ (lt_of_heap H11.out.c12) (fun e => by have := H10.out.2.2 _ e; omega)]; exact H11.out.c12
  have H12 := Lib.hid hS12; clear hS12 hb12 hmk
  obtain ⟨d8, d9, d12, d13⟩ := H12.out.mid
  have C10 := Lib.hid (fun w0 h => heldPlay_any 1 log.length (.slice a12 log.length k12) (.slice a13 log.length k13) w0 h (by omega) (by omega))
  rw [show ((1 : Nat) : Int) = 1 from rfl] at C10
  generalize hM : 1 + log.length + log.length = M at *
  have hM0 : ¬ (M : Int) < 0 := by omega
  have hM1 : ((M : Int) != (M : Int)) = false := by simp
  clear hM
  go_wp2_with fail
  (with_reducible refine (C10.out w12 H12.out.pg).mono ?_)
  rintro en w13 ⟨rfl, hb13⟩
  have H13 := Lib.hid (H12.out.below (stay_play _ _ _) (stay_mark _ _ _ _) hb13); clear hb13 d8 d9 d12 d13
  have C11 := Lib.hid (toStringS_any a c xs w13 (HX.out.below H13.out.bel) HL.out.1)
  go_wp2_with fail
  refine C11.out.mono ?_
  rintro en w14 ⟨a14, c14, rfl, hx14, hb14⟩
  have H14 := Lib.hid (H13.out.below (stay_play _ _ _) (stay_mark _ _ _ _) hb14); clear hb14 C11
  have C12 := Lib.hid (CI.out w14 a14 c14 (HG.out.1.below H14.out.bel) (HG.out.2.but (m := fun _ => False) (But.ofBelow H14.out.bel) (fun h => h)) hx14); clear hx14
  go_wp2_with fail
  refine C12.out.mono ?_
  rintro en w15 ⟨mvH, ptH, rfl, hb15, hph, _⟩
  clear C12
  obtain ⟨W16, hW16, h16, hb16, hz16⟩ := box2 w15 mvH ptH 31
  have hS16 := (H14.out.below (stay_play _ _ _) (stay_mark _ _ _ _) hb15).below (stay_play _ _ _) (stay_mark _ _ _ _) hb16
  have hph16 := hph.below hb16
  obtain ⟨a18, k18, e18⟩ := hph.1.slice
  obtain ⟨a19, k19, e19⟩ := hph.2.slice
  subst e18; subst e19
  obtain ⟨q0, q1, _, _⟩ := cells2 h16
  have H16 := Lib.hid (And.intro hS16 hph16); clear hS16 hph hph16 hb15 hb16 h16 hz16
  obtain ⟨d8, d9, d12, d13⟩ := H16.out.1.mid
  have C13 := Lib.hid (eqPlay_any log _ _ _ _ W16 H16.out.2 H16.out.1.pw (by omega))
  subst hW16
  go_wp2_with fail
  (with_reducible refine C13.out.mono ?_)
  rintro en w17 ⟨rfl, hb17⟩
  clear C13 d8 d9 d12 d13 q0 q1
  have H17 := Lib.hid (H16.out.1.below (stay_play _ _ _) (stay_mark _ _ _ _) hb17); clear hb17
  obtain ⟨d8, d9, d12, d13⟩ := H17.out.mid
  go_wp2_with fail
  (with_reducible refine (C10.out w17 H17.out.pg).mono ?_)
  rintro en w18 ⟨rfl, hb18⟩
  have hbF := H17.out.bel.trans (hb18.mono H17.out.bel.size)
  have HF := Lib.hid hbF; clear hbF hb18
  go_wp2_with fail
  go_ret
  exact ⟨rfl, HF.out⟩

end Go.Proofs.YtmkgoacclgoidaaDoor

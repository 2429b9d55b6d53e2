/- The walks of the reference's trees: names, sizes, texts, terms. -/
import Derived.Test.YtohepefbogngfaaDoorS7
import Derived.Test.YtohepefbogngfaaDoorP34
namespace Go.Proofs.YtohepefbogngfaaDoor
open Go.RowKit

theorem l6In_any (n lo hi : Int) (w : World) : Calls Tryd.prog 72 #[.int .i64 n, .int .i64 lo, .int .i64 hi] w fun en w' => en = .returned (.bool (decide (lo ≤ n) && decide (n ≤ hi))) ∧ w' = w := by
  by_cases h1 : lo ≤ n
  · by_cases h2 : n ≤ hi
    · go_enter Tryd.func72, Tryd.ntmps72
      go_wp2_with fail
      go_ret
      exact ⟨by simp [h1, h2], rfl⟩
    · go_enter Tryd.func72, Tryd.ntmps72
      go_wp2_with fail
      go_ret
      exact ⟨by simp [h1, h2], rfl⟩
  · go_enter Tryd.func72, Tryd.ntmps72
    go_wp2_with fail
    go_ret
    exact ⟨by simp [h1]; omega, rfl⟩

set_option maxRecDepth 20000 in
set_option maxHeartbeats 1000000 in
theorem l5Name_any (s : Bs) (w : World) (hl : Lim s.length) :
    Calls Tryd.prog 61 #[str s] w fun en w' => en = .returned (.bool (nameB s)) ∧ w' = w := by
  have hl' := hl.le
  by_cases h0 : s.length = 0
  · obtain rfl : s = [] := List.eq_nil_of_length_eq_zero h0
    clear h0
    go_enter Tryd.func61, Tryd.ntmps61
    go_wp2_with fail
    (with_reducible refine (l6In_any 0 1 3 w).mono ?_)
    rintro en w1 ⟨rfl, e⟩
    subst w1
    have q1 : (decide ((1 : Int) ≤ 0) && decide ((0 : Int) ≤ 3)) = false := by decide
    rw [q1]
    clear q1
    go_wp2_with fail
    go_ret
    exact ⟨rfl, rfl⟩
  have hne : (s == []) = false := by rw [beq_eq_false_iff_ne]; rintro rfl; exact h0 rfl
  have hne2 : s.isEmpty = false := by rw [List.isEmpty_eq_false_iff]; rintro rfl; exact h0 rfl
  have hpos : 0 < s.length := by omega
  clear h0
  by_cases h3 : 3 < s.length
  · have HN := Lib.hid (name_no1 h3)
    go_enter Tryd.func61, Tryd.ntmps61
    have q1 : (decide ((1 : Int) ≤ (s.length : Int)) && decide ((s.length : Int) ≤ 3)) = false := by rw [decide_eq_false (show ¬ (s.length : Int) ≤ 3 by omega), Bool.and_false]
    go_wp2_with fail
    (with_reducible refine (l6In_any (s.length : Int) 1 3 w).mono ?_)
    rintro en w1 ⟨rfl, e⟩
    subst w1
    rw [q1]
    clear q1
    go_wp2_with fail
    go_ret
    exact ⟨by rw [HN.out]; rfl, rfl⟩
  have q1 : (decide ((1 : Int) ≤ (s.length : Int)) && decide ((s.length : Int) ≤ 3)) = true := by rw [decide_eq_true (show (1 : Int) ≤ (s.length : Int) by omega), decide_eq_true (show (s.length : Int) ≤ 3 by omega)]; rfl
  have Q1 := Lib.hid q1; clear q1
  have B := byte_int hpos
  by_cases hA : s[0].toNat < 120
  · have HN := Lib.hid (name_no2 hpos (.inl hA))
    have b1 : ((((⟨s.toArray⟩ : ByteArray)[0]'(lt_str hpos)).toNat : Int)) < 120 := by rw [B]; omega
    clear B hA
    go_enter Tryd.func61, Tryd.ntmps61
    go_wp2_with fail
    (with_reducible refine (l6In_any (s.length : Int) 1 3 w).mono ?_)
    rintro en w1 ⟨rfl, e⟩
    subst w1
    rw [Q1.out]
    go_wp2_with fail
    go_ret
    exact ⟨by rw [HN.out]; rfl, rfl⟩
  by_cases hB : 122 < s[0].toNat
  · have HN := Lib.hid (name_no2 hpos (.inr hB))
    have b1 : (122 : Int) < ((((⟨s.toArray⟩ : ByteArray)[0]'(lt_str hpos)).toNat : Int)) := by rw [B]; omega
    have b2 : ¬ ((((⟨s.toArray⟩ : ByteArray)[0]'(lt_str hpos)).toNat : Int)) < 120 := by omega
    clear B hA hB
    go_enter Tryd.func61, Tryd.ntmps61
    go_wp2_with fail
    (with_reducible refine (l6In_any (s.length : Int) 1 3 w).mono ?_)
    rintro en w1 ⟨rfl, e⟩
    subst w1
    rw [Q1.out]
    go_wp2_with fail
    go_ret
    exact ⟨by rw [HN.out]; rfl, rfl⟩
  have b1 : ¬ (122 : Int) < ((((⟨s.toArray⟩ : ByteArray)[0]'(lt_str hpos)).toNat : Int)) := by rw [B]; omega
  have b2 : ¬ ((((⟨s.toArray⟩ : ByteArray)[0]'(lt_str hpos)).toNat : Int)) < 120 := by rw [B]; omega
  have HA := Lib.hid (And.intro hA hB)
  clear B hA hB
  go_enter Tryd.func61, Tryd.ntmps61
  go_wp2_with fail
  (with_reducible refine (l6In_any (s.length : Int) 1 3 w).mono ?_)
  rintro en w1 ⟨rfl, e⟩
  subst w1
  rw [Q1.out]
  go_wp2_with fail
  clear b1 b2
  go_loop [3] (fun i => ∃ k : Nat, 1 ≤ k ∧ k ≤ s.length ∧ i = .int .i64 k ∧ ∀ j, 1 ≤ j → j < k → ∀ (hj : j < s.length), 48 ≤ s[j].toNat ∧ s[j].toNat ≤ 57) (fun i => s.length - (intOf i).toNat)
  case atStart => exact ⟨1, Nat.le_refl _, hpos, rfl, fun j h1 h2 => by omega⟩
  case round =>
    obtain ⟨k, hk1, hk, rfl, hall⟩ := hrel
    have HR := Lib.hid hall; clear hall
    by_cases hlt : k < s.length
    · have B := byte_int hlt
      by_cases hA : s[k].toNat < 48
      · have HN := Lib.hid (name_no3 hk1 hlt (.inl hA))
        have b1 : ((((⟨s.toArray⟩ : ByteArray)[k]'(lt_str hlt)).toNat : Int)) < 48 := by rw [B]; omega
        clear B hA
        go_wp2_with fail
        go_ret
        exact ⟨by rw [HN.out]; rfl, rfl⟩
      by_cases hB : 57 < s[k].toNat
      · have HN := Lib.hid (name_no3 hk1 hlt (.inr hB))
        have b1 : (57 : Int) < ((((⟨s.toArray⟩ : ByteArray)[k]'(lt_str hlt)).toNat : Int)) := by rw [B]; omega
        have b2 : ¬ ((((⟨s.toArray⟩ : ByteArray)[k]'(lt_str hlt)).toNat : Int)) < 48 := by omega
        clear B hA hB
        go_wp2_with fail
        go_ret
        exact ⟨by rw [HN.out]; rfl, rfl⟩
      have b1 : ¬ (57 : Int) < ((((⟨s.toArray⟩ : ByteArray)[k]'(lt_str hlt)).toNat : Int)) := by rw [B]; omega
      have b2 : ¬ ((((⟨s.toArray⟩ : ByteArray)[k]'(lt_str hlt)).toNat : Int)) < 48 := by rw [B]; omega
      have HB := Lib.hid (And.intro hA hB)
      clear B hA hB
      go_wp2_with fail
      go_round
      case rel => exact ⟨k + 1, by omega, by omega, by go_num, fun j h1 h2 hj => by
        by_cases e : j = k
        · subst e; have := HB.out; omega
        · exact HR.out j h1 (by omega) hj⟩
      case measure => simp [intOf]; omega
    · go_wp2_with fail
      go_ret
      have HA' := HA.out
      exact ⟨by rw [name_yes hpos (by omega) (by omega) (fun j h1 hj => HR.out j h1 (by omega) hj)]; rfl, rfl⟩


mutual
/-- A tree in memory: two cells. -/
def encTr : Tr → List DV
  | .am a => [.val (str a), .sl 41 2 0 []]
  | .ls ps => [.val (str []), .sl 41 2 ps.length (encTrs ps)]
def encTrs : List Tr → List DV
  | [] => []
  | p :: ps => encTr p ++ encTrs ps
end
theorem encTr_length (b : Tr) : (encTr b).length = 2 := by cases b <;> simp [encTr]
theorem encTrs_length (bs : List Tr) : (encTrs bs).length = bs.length * 2 := by
  induction bs with
  | nil => simp [encTrs]
  | cons b bs ih => simp [encTrs, encTr_length, ih]; omega
theorem encTrs_append (a b : List Tr) : encTrs (a ++ b) = encTrs a ++ encTrs b := by
  induction a with
  | nil => simp [encTrs]
  | cons t ts ih => simp [encTrs, ih, List.append_assoc]
theorem Tryd.infoTr : (Tryd.prog.info? 41).map (fun i => (i.zero, i.size, i.bytes)) = some (some (.agg #[str [], .slice none 0 0]), 2, 40) := by kernel_rfl
def kidsTr : Tr → List Tr
  | .am _ => []
  | .ls ps => ps
theorem encTr_open {F : Nat → Prop} {w : World} {b : Tr} {vs : List Value} (h : Reps F w (encTr b) vs) :
    ∃ a c, vs = [str (atomTr b), .slice a (kidsTr b).length c] ∧ Rep F w (.sl 41 2 (kidsTr b).length (encTrs (kidsTr b))) (.slice a (kidsTr b).length c) := by
  have key : ∀ (s : Bs) (n : Nat) (ds : List DV), Reps F w [.val (str s), .sl 41 2 n ds] vs → ∃ a c, vs = [str s, .slice a n c] ∧ Rep F w (.sl 41 2 n ds) (.slice a n c) := by
    intro s n ds h
    obtain ⟨_, _, rfl, h0, h⟩ := Reps_cons.1 h
    obtain ⟨_, _, rfl, h1, h⟩ := Reps_cons.1 h
    rw [Reps_nil] at h; subst h
    rw [Rep_val] at h0
    subst h0
    have h1' := h1
    obtain ⟨_, a2, c2, e2', _⟩ := Rep_sl.1 h1'
    subst e2'
    exact ⟨a2, c2, rfl, h1⟩
  cases b with
  | am a => rw [encTr] at h; exact key _ _ _ h
  | ls ps => rw [encTr] at h; exact key _ _ _ h
def AtTr (F : Nat → Prop) (w : World) (bs : List Tr) (a : Option Addr) (k : Nat) : Prop :=
  ∃ b o s a2 n2 c2 d, a = some ⟨b, o, none⟩ ∧ b < w.heap.size ∧ bs[k]? = some d ∧ w.cell? ⟨b, o + k * 2, none⟩ = some (str s) ∧ w.cell? ⟨b, o + k * 2 + 1, none⟩ = some (.slice a2 n2 c2) ∧ Reps F w (encTr d) [str s, .slice a2 n2 c2] ∧ s = atomTr d ∧ n2 = (kidsTr d).length
def AtTrs (F : Nat → Prop) (w : World) (bs : List Tr) (a : Option Addr) : Prop := ∀ k, k < bs.length → AtTr F w bs a k
theorem AtTrs.of {F : Nat → Prop} {w : World} {bs : List Tr} {v : Value} (h : Rep F w (.sl 41 2 bs.length (encTrs bs)) v) : ∃ a c, v = .slice a bs.length c ∧ AtTrs F w bs a := by
  obtain ⟨hl, a, c, rfl, hn, hz, h⟩ := Rep_sl.1 h
  refine ⟨a, c, rfl, fun k hk => ?_⟩
  rcases h with h | ⟨b, o, cs, fr, rfl, hb, hc, hr⟩
  · omega
  · have hs : encTrs bs = encTrs (bs.take k) ++ (encTr bs[k] ++ encTrs (bs.drop (k + 1))) := by
      have e1 : encTr bs[k] = encTrs [bs[k]] := by simp [encTrs]
      rw [e1, ← encTrs_append, ← encTrs_append]
      congr 1
      simp
    rw [hs] at hr
    obtain ⟨h1, h2⟩ := hr.split
    obtain ⟨h3, h4⟩ := h2.split
    have hkl : (encTrs (bs.take k)).length = k * 2 := by rw [encTrs_length]; simp; omega
    rw [hkl, encTr_length] at h3
    obtain ⟨a2, c2, e, _⟩ := encTr_open h3
    have hat : ∀ j u, ([str (atomTr bs[k]), .slice a2 (kidsTr bs[k]).length c2] : List Value)[j]? = some u → w.cell? ⟨b, o + k * 2 + j, none⟩ = some u := by
      intro j u hu
      rw [← e] at hu
      have hj : j < 2 := by
        have := (List.getElem?_eq_some_iff.1 hu).1
        simp at this; omega
      rw [List.getElem?_take, if_pos hj, List.getElem?_drop, List.getElem?_take] at hu
      split at hu
      · rw [List.getElem?_drop] at hu
        simp only [World.cell?, hc]
        rw [Nat.add_assoc]
        simpa using hu
      · simp at hu
    refine ⟨b, o, _, a2, _, c2, bs[k], rfl, lt_of_heap hc, by simp [hk], hat 0 _ rfl, hat 1 _ rfl, ?_, rfl, rfl⟩
    rw [← e]; exact h3
theorem okTrs_at : ∀ (ps : List Tr), okTrs ps → ∀ (k : Nat) (t : Tr), ps[k]? = some t → okTr t
  | [], _, k, t, h => by simp at h
  | p :: ps, ho, 0, t, h => by simp at h; subst h; exact (by rw [okTrs] at ho; exact ho.1)
  | p :: ps, ho, k + 1, t, h => by rw [okTrs] at ho; exact okTrs_at ps ho.2 k t (by simpa using h)

/-- The parts' texts, a space between two. -/
def joinTr : List Tr → Bs
  | [] => []
  | [p] => textTr p
  | p :: q :: ps => textTr p ++ 32 :: joinTr (q :: ps)
theorem tail_join : ∀ ps : List Tr, ps ≠ [] → tailTrs ps = 32 :: (joinTr ps ++ [41])
  | [], h => absurd rfl h
  | [p], _ => by rw [tailTrs, tailTrs, joinTr]
  | p :: q :: ps, _ => by rw [tailTrs, tail_join (q :: ps) (by simp), joinTr]; simp
theorem text_join : ∀ ps : List Tr, textTr (.ls ps) = [40] ++ joinTr ps ++ [41]
  | [] => by rw [textTr, textTrs, joinTr]; rfl
  | [p] => by rw [textTr, textTrs, tailTrs, joinTr]; simp
  | p :: q :: ps => by rw [textTr, textTrs, tail_join (q :: ps) (by simp), joinTr]; simp
theorem join_snoc : ∀ (ps : List Tr) (t : Tr), ps ≠ [] → joinTr (ps ++ [t]) = joinTr ps ++ [32] ++ textTr t
  | [], t, h => absurd rfl h
  | [p], t, _ => by rw [List.singleton_append, joinTr, joinTr, joinTr]; simp
  | p :: q :: ps, t, _ => by rw [List.cons_append, List.cons_append, joinTr, ← List.cons_append, join_snoc (q :: ps) t (by simp), joinTr]; simp
theorem join_one (t : Tr) : joinTr [t] = textTr t := by rw [joinTr]
theorem join_take_len (ps : List Tr) (k : Nat) : (joinTr (ps.take k)).length ≤ (joinTr ps).length := by
  induction ps generalizing k with
  | nil => simp
  | cons p ps ih =>
    cases k with
    | zero => simp [joinTr]
    | succ k =>
      cases ps with
      | nil => simp [joinTr]
      | cons q ps =>
        have := ih k
        cases k with
        | zero => simp [joinTr]
        | succ k => simp only [List.take_succ_cons, joinTr, List.length_append, List.length_cons] at this ⊢; omega
theorem part_len : ∀ (ps : List Tr) (t : Tr), t ∈ ps → (textTr t).length ≤ (joinTr ps).length
  | [], t, h => by simp at h
  | [p], t, h => by simp at h; subst h; rw [joinTr]; exact Nat.le_refl _
  | p :: q :: ps, t, h => by
    rw [joinTr]
    rcases List.mem_cons.1 h with rfl | h
    · simp
    · have := part_len (q :: ps) t h
      simp only [List.length_append, List.length_cons] at this ⊢; omega
theorem text_ls_len (ps : List Tr) : (textTr (.ls ps)).length = (joinTr ps).length + 2 := by rw [text_join]; simp
theorem text_pos (t : Tr) (h : okTr t) : 1 ≤ (textTr t).length := by
  cases t with
  | am a => rw [okTr] at h; rw [textTr]; exact List.length_pos_iff.2 h.1
  | ls ps => rw [text_ls_len]; omega
mutual
theorem size_text : ∀ t : Tr, okTr t → sizeTr t ≤ (textTr t).length
  | .am a, h => by
    rw [okTr] at h
    rw [sizeTr, textTr]
    exact List.length_pos_iff.2 h.1
  | .ls ps, h => by
    rw [okTr] at h
    rw [sizeTr, text_ls_len]
    have := sizes_text ps h.2
    omega
theorem sizes_text : ∀ ps : List Tr, okTrs ps → sizeTrs ps ≤ (joinTr ps).length
  | [], h => by rw [sizeTrs]; omega
  | [p], h => by
    rw [okTrs] at h
    rw [sizeTrs, sizeTrs, joinTr]
    exact size_text p h.1
  | p :: q :: ps, h => by
    rw [okTrs] at h
    have h1 := size_text p h.1
    have h2 := sizes_text (q :: ps) h.2
    rw [sizeTrs, joinTr, List.length_append, List.length_cons]
    omega
end
theorem kids_len : ∀ ps : List Tr, okTrs ps → ps.length ≤ (joinTr ps).length
  | [], _ => by simp
  | [p], h => by
    rw [okTrs] at h
    have hp := text_pos p h.1
    rw [joinTr]; simpa using hp
  | p :: q :: ps, h => by
    rw [okTrs] at h
    have hp := text_pos p h.1
    have := kids_len (q :: ps) h.2
    rw [joinTr]; simp only [List.length_cons, List.length_append] at this ⊢; omega
theorem sizeTrs_take {ps : List Tr} {k : Nat} {t : Tr} (h : ps[k]? = some t) : sizeTrs (ps.take (k + 1)) = sizeTrs (ps.take k) + sizeTr t := by
  induction ps generalizing k with
  | nil => simp at h
  | cons p ps ih =>
    cases k with
    | zero => simp at h; subst h; simp [sizeTrs]
    | succ k =>
      simp only [List.getElem?_cons_succ] at h
      have := ih h
      simp only [List.take_succ_cons, sizeTrs] at this ⊢
      omega
theorem sizeTrs_take_le (ps : List Tr) (k : Nat) : sizeTrs (ps.take k) ≤ sizeTrs ps := by
  induction ps generalizing k with
  | nil => simp
  | cons p ps ih =>
    cases k with
    | zero => simp [sizeTrs]
    | succ k => have := ih k; simp only [List.take_succ_cons, sizeTrs]; omega
theorem am_ne {a : Bs} (h : okTr (.am a)) : (a == []) = false := by
  rw [okTr] at h
  rw [beq_eq_false_iff_ne]; exact h.1

/-- A tree in a box, read. -/
def BoxT (g : Nat) (s : Bs) (k : Value) (w : World) : Prop := w.cell? ⟨g, 0, none⟩ = some (str s) ∧ w.cell? ⟨g, 1, none⟩ = some k
theorem BoxT.below {g : Nat} {s : Bs} {k : Value} {w w' : World} (h : BoxT g s k w) (hb : Below w.heap.size w w') : BoxT g s k w' := by
  obtain ⟨h1, h2⟩ := h
  have := World.block_lt_of_cell? w _ h1
  exact ⟨by rw [hb.cell (by exact this)]; exact h1, by rw [hb.cell (by exact this)]; exact h2⟩

def SizeTrSaid (b : Tr) : Prop := ∀ (F : Nat → Prop) (w : World) (s v : Value), Reps F w (encTr b) [s, v] →
  Calls Tryd.prog 38 #[.agg #[s, v]] w fun en w' => en = .returned (.int .i64 (sizeTr b)) ∧ Below w.heap.size w w'
set_option maxRecDepth 100000 in
set_option maxHeartbeats 2000000 in
theorem l5Size_step (b : Tr) (ho : okTr b) (hl : Lim (textTr b).length) (ih : ∀ b', (textTr b').length < (textTr b).length → okTr b' → SizeTrSaid b') : SizeTrSaid b := by
  intro F w s v hv
  obtain ⟨a2, c2, e, hk⟩ := encTr_open hv
  simp only [List.cons.injEq, and_true] at e
  obtain ⟨rfl, rfl⟩ := e
  cases b with
  | am a =>
    have ha := am_ne ho
    clear hv hk ih hl
    simp only [atomTr, kidsTr]
    go_enter Tryd.func38, Tryd.ntmps38
    go_wp2_with fail
    go_ret
    exact ⟨by rw [sizeTr]; rfl, (Below.refl _ _).alloc (Nat.le_refl _) _⟩
  | ls kids =>
    simp only [atomTr, kidsTr] at hk ⊢
    obtain ⟨_, _, ek, hatk⟩ := AtTrs.of hk
    simp only [Value.slice.injEq, true_and] at ek
    obtain ⟨rfl, rfl⟩ := ek
    rw [okTr] at ho
    have IH := Lib.hid ih; clear ih
    have hsz := sizes_text kids ho.2
    have htl := text_ls_len kids
    have hll := hl.le
    have hkl : kids.length ≤ sizeTrs kids + kids.length := by omega
    have nk : kids.length ≤ 16777216 := by have := kids_len kids ho.2; omega
    have E1 := Lib.hid hsz
    have HO := Lib.hid ho
    have HT := Lib.hid htl
    have ATK := Lib.hid hatk
    clear hatk hk hv hsz htl hkl ho
    go_enter Tryd.func38, Tryd.ntmps38
    go_wp2_with fail
    go_loopw [3, 4] (fun n i wr => ∃ k : Nat, k ≤ kids.length ∧ i = .int .i64 k ∧ n = .int .i64 ((sizeTrs (kids.take k) : Nat) : Int) ∧ Below w.heap.size w wr ∧ BoxT w.heap.size [] (.slice a2 kids.length c2) wr) (fun _ i _ => kids.length - (intOf i).toNat)
    case atStart => exact ⟨0, Nat.zero_le _, rfl, by simp [sizeTrs], (Below.refl _ _).alloc (Nat.le_refl _) _, by simp, by simp⟩
    case round =>
      rename_i wr
      obtain ⟨k, hk, rfl, rfl, hb, hc⟩ := hrel
      obtain ⟨hc1, hc2⟩ := id hc
      by_cases hlt : k < kids.length
      · obtain ⟨bb, o, s', b2, m2, d2, t, rfl, hbb, ht, u0, u1, hr, es, en⟩ := ATK.out k hlt
        clear es en
        have q0 := (hb.cell hbb).trans u0
        have q1 := (hb.cell hbb).trans u1
        have hr' := (Reps.below (F' := F) hb (fun _ h => h) hr)
        have hs := sizeTrs_take ht
        have hle := sizeTrs_take_le kids (k + 1)
        have hat' := E1.out
        have hpl := part_len kids t (List.mem_of_getElem? ht)
        have ht' := HT.out
        have IH' := Lib.hid (IH.out t (by omega) (okTrs_at kids HO.out.2 k t ht))
        unfold SizeTrSaid at IH'
        have HS := Lib.hid hs
        have b1 : sizeTrs (kids.take k) + sizeTr t ≤ 16777216 := by omega
        have hz := World.block_lt_of_cell? wr _ hc1
        have hlt' : (k : Int) < (kids.length : Int) := by omega
        clear hs ht hat' u0 u1 hr ht' hpl
        go_wp2_with fail
        (with_reducible refine (IH'.out _ _ _ _ hr').mono ?_)
        rintro en w2 ⟨rfl, hb2⟩
        have hb3 := hb.trans (hb2.mono hb.size)
        obtain ⟨hc1, hc2⟩ := id (hc.below hb2)
        have hc' := Lib.hid (hc.below hb2)
        go_wp2_with fail
        go_roundw
        case rel => exact ⟨k + 1, by omega, by go_num, by rw [HS.out] <;> go_num, hb3, hc'.out⟩
        case measure => simp [intOf]; omega
      · obtain rfl : k = kids.length := by omega
        rw [List.take_length]
        go_wp2_with fail
        go_ret
        exact ⟨by rw [sizeTr]; rfl, hb⟩
theorem l5Size_any (n : Nat) : ∀ b, (textTr b).length ≤ n → Lim n → okTr b → SizeTrSaid b := by
  induction n with
  | zero => intro b h hn ho; exact l5Size_step b ho (hn.mono h) (fun b' h' _ => by omega)
  | succ n ih => exact fun b h hn ho => l5Size_step b ho (hn.mono h) (fun b' h' ho' => ih b' (by omega) (hn.mono (by omega)) ho')

/-- The first atom of a tree's parts. -/
def headW : Tr → Bs
  | .am _ => []
  | .ls ps => headTr ps
set_option maxRecDepth 100000 in
theorem l5Head_any (b : Tr) (ho : okTr b) (F : Nat → Prop) (w : World) (s v : Value) (hv : Reps F w (encTr b) [s, v]) :
    Calls Tryd.prog 62 #[.agg #[s, v]] w fun en w' => en = .returned (str (headW b)) ∧ Below w.heap.size w w' := by
  obtain ⟨a2, c2, e, hk⟩ := encTr_open hv
  simp only [List.cons.injEq, and_true] at e
  obtain ⟨rfl, rfl⟩ := e
  cases b with
  | am a =>
    have ha := am_ne ho
    clear hv hk
    simp only [atomTr, kidsTr]
    go_enter Tryd.func62, Tryd.ntmps62
    go_wp2_with fail
    go_ret
    exact ⟨by rw [headW]; rfl, (Below.refl _ _).alloc (Nat.le_refl _) _⟩
  | ls kids =>
    simp only [atomTr, kidsTr] at hk ⊢
    obtain ⟨_, _, ek, hatk⟩ := AtTrs.of hk
    simp only [Value.slice.injEq, true_and] at ek
    obtain ⟨rfl, rfl⟩ := ek
    rw [okTr] at ho
    cases kids with
    | nil => exact absurd rfl ho.1
    | cons p ps =>
      obtain ⟨bb, o, s', b2, m2, d2, t, rfl, hbb, ht, u0, u1, hr, hs', _⟩ := hatk 0 (by simp)
      simp only [List.getElem?_cons_zero, Option.some.injEq] at ht
      subst ht
      have HH := Lib.hid (show headW (.ls (p :: ps)) = s' by rw [hs', headW]; cases p <;> rfl)
      simp only [Nat.zero_mul, Nat.add_zero] at u0
      have hl0 : 0 < (p :: ps).length := by simp
      have hl1 : (((p :: ps).length : Int) == 0) = false := by rw [beq_eq_false_iff_ne]; simp; omega
      generalize (p :: ps).length = L at *
      have hl2 : (0 : Int) < (L : Int) := by omega
      clear hatk hk hv ho u1 hr hs'
      go_enter Tryd.func62, Tryd.ntmps62
      go_wp2_with fail
      go_ret
      exact ⟨by rw [HH.out]; rfl, (Below.refl _ _).alloc (Nat.le_refl _) _⟩

def TextTrSaid (b : Tr) : Prop := ∀ (F : Nat → Prop) (w : World) (s v : Value), Reps F w (encTr b) [s, v] →
  Calls Tryd.prog 13 #[.agg #[s, v]] w fun en w' => en = .returned (str (textTr b)) ∧ Below w.heap.size w w'
/-- What is written behind so many parts. -/
def joinAt (ps : List Tr) (k : Nat) : Bs := [40] ++ joinTr (ps.take k)
set_option maxRecDepth 100000 in
set_option maxHeartbeats 2000000 in
theorem l5Text_step (b : Tr) (ho : okTr b) (hl : Lim (textTr b).length) (ih : ∀ b', (textTr b').length < (textTr b).length → okTr b' → TextTrSaid b') : TextTrSaid b := by
  intro F w s v hv
  obtain ⟨a2, c2, e, hk⟩ := encTr_open hv
  simp only [List.cons.injEq, and_true] at e
  obtain ⟨rfl, rfl⟩ := e
  cases b with
  | am a =>
    have ha := am_ne ho
    clear hv hk ih hl
    simp only [atomTr, kidsTr]
    go_enter Tryd.func13, Tryd.ntmps13
    go_wp2_with fail
    go_ret
    exact ⟨by rw [textTr]; rfl, (Below.refl _ _).alloc (Nat.le_refl _) _⟩
  | ls kids =>
    simp only [atomTr, kidsTr] at hk ⊢
    obtain ⟨_, _, ek, hatk⟩ := AtTrs.of hk
    simp only [Value.slice.injEq, true_and] at ek
    obtain ⟨rfl, rfl⟩ := ek
    rw [okTr] at ho
    have IH := Lib.hid ih; clear ih
    have htl := text_ls_len kids
    have hll := hl.le
    have nk : kids.length ≤ 16777216 := by have := kids_len kids ho.2; omega
    have HO := Lib.hid ho
    have HT := Lib.hid htl
    have ATK := Lib.hid hatk
    have HJ := Lib.hid (text_join kids)
    clear hatk hk hv htl ho hl
    go_enter Tryd.func13, Tryd.ntmps13
    go_wp2_with fail
    go_loopw [3, 4] (fun n i wr => ∃ k : Nat, k ≤ kids.length ∧ i = .int .i64 k ∧ n = str (joinAt kids k) ∧ Below w.heap.size w wr ∧ BoxT w.heap.size [] (.slice a2 kids.length c2) wr) (fun _ i _ => kids.length - (intOf i).toNat)
    case atStart => exact ⟨0, Nat.zero_le _, rfl, rfl, (Below.refl _ _).alloc (Nat.le_refl _) _, by simp, by simp⟩
    case round =>
      rename_i wr
      obtain ⟨k, hk, rfl, rfl, hb, hc⟩ := hrel
      obtain ⟨hc1, hc2⟩ := id hc
      have hjl : (joinAt kids k).length ≤ (joinTr kids).length + 1 := by
        have := join_take_len kids k
        unfold joinAt; simp; omega
      by_cases hlt : k < kids.length
      · obtain ⟨bb, o, s', b2, m2, d2, t, rfl, hbb, ht, u0, u1, hr, es, en⟩ := ATK.out k hlt
        clear es en
        have q0 := (hb.cell hbb).trans u0
        have q1 := (hb.cell hbb).trans u1
        have hr' := (Reps.below (F' := F) hb (fun _ h => h) hr)
        have hpl := part_len kids t (List.mem_of_getElem? ht)
        have ht' := HT.out
        have IH' := Lib.hid (IH.out t (by omega) (okTrs_at kids HO.out.2 k t ht))
        have hz := World.block_lt_of_cell? wr _ hc1
        have hlt' : (k : Int) < (kids.length : Int) := by omega
        have e1 : kids.take (k + 1) = kids.take k ++ [t] := by rw [List.take_add_one, ht]; rfl
        by_cases hk0 : k = 0
        · have hk1 : ¬ (0 : Int) < (k : Int) := by omega
          have hstep : joinAt kids (k + 1) = joinAt kids k ++ textTr t := by unfold joinAt; rw [e1, hk0, List.take_zero, List.nil_append, join_one, joinTr]; simp
          obtain ⟨A, hA⟩ : ∃ x, x = joinAt kids k := ⟨_, rfl⟩
          obtain ⟨T, hT⟩ : ∃ x, x = textTr t := ⟨_, rfl⟩
          unfold TextTrSaid at IH'
          rw [← hA] at hstep hjl ⊢
          rw [← hT] at hstep hpl IH'
          obtain ⟨O, hO⟩ : ∃ x, x = A ++ T := ⟨_, rfl⟩
          have a1 := fun w0 => add_str (P := Tryd.prog) A T (by omega) w0
          rw [← hO] at a1 hstep
          have HS := Lib.hid hstep
          clear hk0 hstep hA hT hO e1 ht u0 u1 hr ht' hpl
          go_wp2_with fail
          (with_reducible refine (IH'.out _ _ _ _ hr').mono ?_)
          rintro en w2 ⟨rfl, hb2⟩
          have hb3 := hb.trans (hb2.mono hb.size)
          obtain ⟨hc1, hc2⟩ := id (hc.below hb2)
          have hc' := Lib.hid (hc.below hb2)
          go_wp2_with fail
          go_roundw
          case rel => exact ⟨k + 1, by omega, by go_num, by rw [← HS.out], hb3, hc'.out⟩
          case measure => simp [intOf]; omega
        · have hk1 : (0 : Int) < (k : Int) := by omega
          have hstep : joinAt kids (k + 1) = joinAt kids k ++ [32] ++ textTr t := by unfold joinAt; rw [e1, join_snoc _ _ (by intro h; have := congrArg List.length h; rw [List.length_take] at this; simp only [List.length_nil] at this; omega)]; simp
          obtain ⟨A, hA⟩ : ∃ x, x = joinAt kids k := ⟨_, rfl⟩
          obtain ⟨T, hT⟩ : ∃ x, x = textTr t := ⟨_, rfl⟩
          unfold TextTrSaid at IH'
          rw [← hA] at hstep hjl ⊢
          rw [← hT] at hstep hpl IH'
          obtain ⟨A1, hA1⟩ : ∃ x, x = A ++ [32] := ⟨_, rfl⟩
          have lA1 : A1.length = A.length + 1 := by rw [hA1]; simp
          obtain ⟨O, hO⟩ : ∃ x, x = A1 ++ T := ⟨_, rfl⟩
          have a0 := fun w0 => add_str (P := Tryd.prog) A [32] (by simp; omega) w0
          have a1 := fun w0 => add_str (P := Tryd.prog) A1 T (by omega) w0
          rw [← hA1] at a0 hstep
          rw [← hO] at a1 hstep
          have HS := Lib.hid hstep
          clear hstep hA hT hO hA1 lA1 e1 ht u0 u1 hr ht' hpl
          go_wp2_with fail
          (with_reducible refine (IH'.out _ _ _ _ hr').mono ?_)
          rintro en w2 ⟨rfl, hb2⟩
          have hb3 := hb.trans (hb2.mono hb.size)
          obtain ⟨hc1, hc2⟩ := id (hc.below hb2)
          have hc' := Lib.hid (hc.below hb2)
          go_wp2_with fail
          go_roundw
          case rel => exact ⟨k + 1, by omega, by go_num, by rw [← HS.out], hb3, hc'.out⟩
          case measure => simp [intOf]; omega
      · obtain rfl : k = kids.length := by omega
        have hj : textTr (.ls kids) = joinAt kids kids.length ++ [41] := by rw [HJ.out]; unfold joinAt; rw [List.take_length]
        have hnl : ¬ ((kids.length : Int) < (kids.length : Int)) := by omega
        obtain ⟨A, hA⟩ : ∃ x, x = joinAt kids kids.length := ⟨_, rfl⟩
        rw [← hA] at hj hjl ⊢
        obtain ⟨O, hO⟩ : ∃ x, x = A ++ [41] := ⟨_, rfl⟩
        have ht' := HT.out
        have a1 := fun w0 => add_str (P := Tryd.prog) A [41] (by simp; omega) w0
        rw [← hO] at a1 hj
        have HS := Lib.hid hj
        clear hj hA hO ht'
        go_wp2_with fail
        go_ret
        exact ⟨by rw [HS.out]; rfl, hb⟩
theorem l5Text_any (n : Nat) : ∀ b, (textTr b).length ≤ n → Lim n → okTr b → TextTrSaid b := by
  induction n with
  | zero => intro b h hn ho; exact l5Text_step b ho (hn.mono h) (fun b' h' _ => by omega)
  | succ n ih => exact fun b h hn ho => l5Text_step b ho (hn.mono h) (fun b' h' ho' => ih b' (by omega) (hn.mono (by omega)) ho')

theorem TypeValid_any (l : Bs) (hl : Lim l.length) (w : World) : Calls Tryd.prog 63 #[str l] w fun en w' => en = .returned (.bool (specType l).2) ∧ Below w.heap.size w w' := by
  have C := Lib.hid (l1Type_any l hl w)
  generalize hB : (specType l).2 = B
  have HB := Lib.hid hB; clear hB
  go_enter Tryd.func63, Tryd.ntmps63
  go_wp2_with fail
  (with_reducible refine C.out.mono ?_)
  rintro en w1 ⟨v, rfl, hb, hv⟩
  obtain ⟨a1, c1, e1⟩ := encS_slice hv
  subst e1
  clear hv
  rw [HB.out]
  generalize (specType l).1.args.length = n1
  go_wp2_with fail
  refine bodyPost_ret (v := .bool B) (by simp [results, Tryd.results63, go_sem]) rfl ?_
  exact ⟨rfl, by repeat (first | exact hb | refine Below.alloc ?_ hb.size _ | refine Below.setCell ?_ (by simp; exact hb.size) _)⟩

end Go.Proofs.YtohepefbogngfaaDoor

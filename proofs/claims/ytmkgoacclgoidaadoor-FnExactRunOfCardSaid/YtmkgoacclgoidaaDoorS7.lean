/- The walks of the reference's counts of nodes. -/
import Derived.Test.YtmkgoacclgoidaaDoorS6
namespace Go.Proofs.YtmkgoacclgoidaaDoor
open Go.RowKit

def kidsOf : Bd → List Bd
  | .leaf _ => []
  | .ask _ ss _ _ => ss
def yesOf : Bd → List Bd
  | .leaf _ => []
  | .ask _ _ y n => [y, n]
def atomOf : Bd → Bs
  | .leaf c => [c]
  | .ask _ _ _ _ => []

def AtN (F : Nat → Prop) (w : World) (bs : List Bd) (a : Option Addr) (k : Nat) : Prop :=
  ∃ b o s v a2 n2 c2 a3 n3 c3 d, a = some ⟨b, o, none⟩ ∧ b < w.heap.size ∧ bs[k]? = some d ∧ w.cell? ⟨b, o + k * 4, none⟩ = some (str s) ∧ w.cell? ⟨b, o + k * 4 + 1, none⟩ = some (.int .i64 v) ∧
    w.cell? ⟨b, o + k * 4 + 2, none⟩ = some (.slice a2 n2 c2) ∧ w.cell? ⟨b, o + k * 4 + 3, none⟩ = some (.slice a3 n3 c3) ∧ Reps F w (encN d) [str s, .int .i64 v, .slice a2 n2 c2, .slice a3 n3 c3]
def AtNs (F : Nat → Prop) (w : World) (bs : List Bd) (a : Option Addr) : Prop := ∀ k, k < bs.length → AtN F w bs a k

theorem encN_open {F : Nat → Prop} {w : World} {b : Bd} {vs : List Value} (h : Reps F w (encN b) vs) :
    ∃ v a2 c2 a3 c3, vs = [str (atomOf b), .int .i64 v, .slice a2 (kidsOf b).length c2, .slice a3 (yesOf b).length c3] ∧
      Rep F w (.sl 57 4 (kidsOf b).length (encNs (kidsOf b))) (.slice a2 (kidsOf b).length c2) ∧ Rep F w (.sl 57 4 (yesOf b).length (encNs (yesOf b))) (.slice a3 (yesOf b).length c3) := by
  have key : ∀ (s : Bs) (v : Int) (d2 d3 : DV) (n2 n3 : Nat) (k2 k3 : List DV), d2 = .sl 57 4 n2 k2 → d3 = .sl 57 4 n3 k3 → Reps F w [.val (str s), .val (.int .i64 v), d2, d3] vs →
      ∃ a2 c2 a3 c3, vs = [str s, .int .i64 v, .slice a2 n2 c2, .slice a3 n3 c3] ∧ Rep F w d2 (.slice a2 n2 c2) ∧ Rep F w d3 (.slice a3 n3 c3) := by
    intro s v d2 d3 n2 n3 k2 k3 e2 e3 h
    obtain ⟨_, _, rfl, h0, h⟩ := Reps_cons.1 h
    obtain ⟨_, _, rfl, h1, h⟩ := Reps_cons.1 h
    obtain ⟨_, _, rfl, h2, h⟩ := Reps_cons.1 h
    obtain ⟨_, _, rfl, h3, h⟩ := Reps_cons.1 h
    rw [Reps_nil] at h; subst h
    rw [Rep_val] at h0 h1
    subst h0; subst h1
    have h2' := h2; have h3' := h3
    rw [e2] at h2'; rw [e3] at h3'
    obtain ⟨_, a2, c2, e2', _⟩ := Rep_sl.1 h2'
    obtain ⟨_, a3, c3, e3', _⟩ := Rep_sl.1 h3'
    subst e2'; subst e3'
    exact ⟨a2, c2, a3, c3, rfl, h2, h3⟩
  cases b with
  | leaf c =>
    rw [encN] at h
    obtain ⟨a2, c2, a3, c3, e, h2, h3⟩ := key _ _ _ _ 0 0 [] [] rfl rfl h
    exact ⟨_, a2, c2, a3, c3, e, h2, h3⟩
  | ask v ss y n =>
    rw [encN_ask] at h
    obtain ⟨a2, c2, a3, c3, e, h2, h3⟩ := key _ _ _ _ _ _ _ _ rfl rfl h
    exact ⟨_, a2, c2, a3, c3, e, h2, h3⟩

/-- The nodes of a slice, each with its cells. -/
theorem AtNs.of {F : Nat → Prop} {w : World} {bs : List Bd} {v : Value} (h : Rep F w (.sl 57 4 bs.length (encNs bs)) v) : ∃ a c, v = .slice a bs.length c ∧ AtNs F w bs a := by
  obtain ⟨hl, a, c, rfl, hn, hz, h⟩ := Rep_sl.1 h
  refine ⟨a, c, rfl, fun k hk => ?_⟩
  rcases h with h | ⟨b, o, cs, fr, rfl, hb, hc, hr⟩
  · omega
  · have hs : encNs bs = encNs (bs.take k) ++ (encN bs[k] ++ encNs (bs.drop (k + 1))) := by
      have e1 : encN bs[k] = encNs [bs[k]] := by simp [encNs]
      rw [e1, ← encNs_append, ← encNs_append]
      congr 1
      simp
    rw [hs] at hr
    obtain ⟨h1, h2⟩ := hr.split
    obtain ⟨h3, h4⟩ := h2.split
    have hkl : (encNs (bs.take k)).length = k * 4 := by rw [encNs_length]; simp; omega
    rw [hkl, encN_length] at h3
    obtain ⟨v, a2, c2, a3, c3, e, _⟩ := encN_open h3
    have hat : ∀ j u, ([str (atomOf bs[k]), .int .i64 v, .slice a2 (kidsOf bs[k]).length c2, .slice a3 (yesOf bs[k]).length c3] : List Value)[j]? = some u → w.cell? ⟨b, o + k * 4 + j, none⟩ = some u := by
      intro j u hu
      rw [← e] at hu
      have hj : j < 4 := by
        have := (List.getElem?_eq_some_iff.1 hu).1
        simp at this; omega
      rw [List.getElem?_take, if_pos hj, List.getElem?_drop, List.getElem?_take] at hu
      split at hu
      · rw [List.getElem?_drop] at hu
        simp only [World.cell?, hc]
        rw [Nat.add_assoc]
        simpa using hu
      · simp at hu
    refine ⟨b, o, _, v, a2, _, c2, a3, _, c3, bs[k], rfl, lt_of_heap hc, by simp [hk], hat 0 _ rfl, hat 1 _ rfl, hat 2 _ rfl, hat 3 _ rfl, ?_⟩
    rw [← e]; exact h3

theorem partsOf_eq (b : Bd) : partsOf b = kidsOf b ++ yesOf b := by cases b <;> rfl

/-- A node in a box, read. -/
def BoxN (g : Nat) (s : Bs) (k y : Value) (w : World) : Prop :=
  w.cell? ⟨g, 0, none⟩ = some (str s) ∧ w.cell? ⟨g, 2, none⟩ = some k ∧ w.cell? ⟨g, 3, none⟩ = some y
theorem BoxN.below {g : Nat} {s : Bs} {k y : Value} {w w' : World} (h : BoxN g s k y w) (hb : Below w.heap.size w w') : BoxN g s k y w' := by
  obtain ⟨h1, h2, h3⟩ := h
  have := World.block_lt_of_cell? w _ h1
  exact ⟨by rw [hb.cell (by exact this)]; exact h1, by rw [hb.cell (by exact this)]; exact h2, by rw [hb.cell (by exact this)]; exact h3⟩

def SizeNSaid (b : Bd) : Prop := ∀ (F : Nat → Prop) (w : World) (s : Bs) (v : Int) (a2 : Option Addr) (n2 c2 : Nat) (a3 : Option Addr) (n3 c3 : Nat), Reps F w (encN b) [str s, .int .i64 v, .slice a2 n2 c2, .slice a3 n3 c3] →
  Calls Tryd.prog 51 #[.agg #[str s, .int .i64 v, .slice a2 n2 c2, .slice a3 n3 c3]] w fun en w' => en = .returned (.int .i64 (sizeB b)) ∧ Below w.heap.size w w'

set_option maxRecDepth 100000 in
set_option maxHeartbeats 2000000 in
theorem l3Size_step (b : Bd) (hl : Lim (sizeB b)) (ih : ∀ b', sizeB b' < sizeB b → SizeNSaid b') : SizeNSaid b := by
  intro F w s v a2 n2 c2 a3 n3 c3 hv
  have hv0 := encN_open hv
  obtain ⟨v', a2', c2', a3', c3', e, hk, hy⟩ := hv0
  simp only [List.cons.injEq, Value.slice.injEq, and_true] at e
  obtain ⟨e0, e1, ⟨rfl, e2, rfl⟩, ⟨rfl, e3, rfl⟩⟩ := e
  clear e0 e1
  subst e2; subst e3
  obtain ⟨_, _, ek, hatk⟩ := AtNs.of hk
  obtain ⟨_, _, ey, haty⟩ := AtNs.of hy
  simp only [Value.slice.injEq, true_and] at ek ey
  obtain ⟨rfl, rfl⟩ := ek
  obtain ⟨rfl, rfl⟩ := ey
  have IH := Lib.hid ih; clear ih
  have hl' := hl.le
  have hsz := sizeB_parts b
  rw [partsOf_eq, sizeBs_append] at hsz
  have hkl := length_le_sizeBs (kidsOf b)
  have hyl := length_le_sizeBs (yesOf b)
  have E1 := Lib.hid hsz
  have kl : (kidsOf b).length ≤ 16777216 := by omega
  have yl : (yesOf b).length ≤ 16777216 := by omega
  have ATK := Lib.hid hatk; have ATY := Lib.hid haty
  clear hatk haty hk hy hv hsz hkl hyl
  generalize hK : kidsOf b = kids at *
  generalize hY : yesOf b = yess at *
  clear hK hY
  go_enter Tryd.func51, Tryd.ntmps51
  go_wp2_with fail
  go_loopw [3, 4] (fun n i wr => ∃ k : Nat, k ≤ kids.length ∧ i = .int .i64 k ∧ n = .int .i64 ((1 + sizeBs (kids.take k) : Nat) : Int) ∧ Below w.heap.size w wr ∧ BoxN w.heap.size s (.slice a2 kids.length c2) (.slice a3 yess.length c3) wr) (fun _ i _ => kids.length - (intOf i).toNat)
  case atStart => exact ⟨0, Nat.zero_le _, rfl, by simp [sizeBs], (Below.refl _ _).alloc (Nat.le_refl _) _, by simp, by simp, by simp⟩
  case round =>
    rename_i wr
    obtain ⟨k, hk, rfl, rfl, hb, hc⟩ := hrel
    obtain ⟨hc1, hc2, hc3⟩ := id hc
    by_cases hlt : k < kids.length
    · obtain ⟨bb, o, s', v', b2, m2, d2, b3, m3, d3, t, rfl, hbb, ht, u0, u1, u2, u3, hr⟩ := ATK.out k hlt
      have q0 := (hb.cell hbb).trans u0
      have q1 := (hb.cell hbb).trans u1
      have q2 := (hb.cell hbb).trans u2
      have q3 := (hb.cell hbb).trans u3
      have hr' := (Reps.below (F' := F) hb (fun _ h => h) hr)
      have hs := sizeBs_take ht
      have hle := sizeBs_take_le kids (k + 1)
      have hat' := E1.out
      have hp := sizeB_pos t
      have IH' := Lib.hid (IH.out t (by omega))
      have HS := Lib.hid hs
      have b1 : 1 + sizeBs (kids.take k) + sizeB t ≤ 16777216 := by omega
      have hz := World.block_lt_of_cell? wr _ hc1
      clear hs ht hat' u0 u1 u2 u3 hr
      go_wp2_with fail
      refine (IH'.out _ _ _ _ _ _ _ _ _ _ hr').mono ?_
      rintro en w2 ⟨rfl, hb2⟩
      have hb3 := hb.trans (hb2.mono hb.size)
      obtain ⟨hc1, hc2, hc3⟩ := id (hc.below hb2)
      have hc' := Lib.hid (hc.below hb2)
      go_wp2_with fail
      go_roundw
      case rel => exact ⟨k + 1, by omega, by go_num, by rw [HS.out] <;> go_num, hb3, hc'.out⟩
      case measure => simp [intOf]; omega
    · obtain rfl : k = kids.length := by omega
      rw [List.take_length]
      have bK : 1 + sizeBs kids ≤ 16777216 := by have := E1.out; omega
      clear hk hlt
      go_wp2_with fail
      have hb0 := hb; have hc0 := hc
      clear hb hc hc1 hc2 hc3
      go_loopw [3, 5] (fun n i wr => ∃ k : Nat, k ≤ yess.length ∧ i = .int .i64 k ∧ n = .int .i64 ((1 + sizeBs kids + sizeBs (yess.take k) : Nat) : Int) ∧ Below w.heap.size w wr ∧ BoxN w.heap.size s (.slice a2 kids.length c2) (.slice a3 yess.length c3) wr) (fun _ i _ => yess.length - (intOf i).toNat)
      case atStart => exact ⟨0, Nat.zero_le _, rfl, by simp [sizeBs], hb0, hc0⟩
      case round =>
        clear hb0 hc0
        obtain ⟨k, hk, rfl, rfl, hb, hc⟩ := hrel
        obtain ⟨hc1, hc2, hc3⟩ := id hc
        by_cases hlt : k < yess.length
        · obtain ⟨bb, o, s', v', b2, m2, d2, b3, m3, d3, t, rfl, hbb, ht, u0, u1, u2, u3, hr⟩ := ATY.out k hlt
          have q0 := (hb.cell hbb).trans u0
          have q1 := (hb.cell hbb).trans u1
          have q2 := (hb.cell hbb).trans u2
          have q3 := (hb.cell hbb).trans u3
          have hr' := (Reps.below (F' := F) hb (fun _ h => h) hr)
          have hs := sizeBs_take ht
          have hle := sizeBs_take_le yess (k + 1)
          have hat' := E1.out
          have hp := sizeB_pos t
          have IH' := Lib.hid (IH.out t (by omega))
          have HS := Lib.hid hs
          have b1 : 1 + sizeBs kids + sizeBs (yess.take k) + sizeB t ≤ 16777216 := by omega
          have hz := World.block_lt_of_cell? _ _ hc1
          clear hs ht hat' u0 u1 u2 u3 hr
          go_wp2_with fail
          refine (IH'.out _ _ _ _ _ _ _ _ _ _ hr').mono ?_
          rintro en w2 ⟨rfl, hb2⟩
          have hb3 := hb.trans (hb2.mono hb.size)
          obtain ⟨hc1, hc2, hc3⟩ := id (hc.below hb2)
          have hc' := Lib.hid (hc.below hb2)
          go_wp2_with fail
          go_roundw
          case rel => exact ⟨k + 1, by omega, by go_num, by rw [HS.out] <;> go_num, hb3, hc'.out⟩
          case measure => simp [intOf]; omega
        · obtain rfl : k = yess.length := by omega
          go_wp2_with fail
          go_ret
          exact ⟨ret_i64 (by rw [E1.out, List.take_length]; omega), hb⟩

theorem l3Size_any (n : Nat) : ∀ b, sizeB b ≤ n → Lim n → SizeNSaid b := by
  induction n with
  | zero => intro b h _; have := sizeB_pos b; omega
  | succ n ih => exact fun b h hn => l3Size_step b (hn.mono h) (fun b' h' => ih b' (by omega) (hn.mono (by omega)))

theorem depthBs_pos {ts : List Bd} (h : ts ≠ []) : 1 ≤ depthBs ts := by
  cases ts with
  | nil => exact absurd rfl h
  | cons t ts => simp only [depthBs]; omega
theorem depthBs_le_size (ts : List Bd) : depthBs ts ≤ sizeBs ts := depthBs_lt fun t _ => depthB_lt (sizeB t) t (Nat.le_refl _)
theorem str_inj {a b : Bs} (h : str a = str b) : a = b := by
  simp only [str, Value.string.injEq, ByteArray.mk.injEq] at h
  simpa using congrArg Array.toList h

end Go.Proofs.YtmkgoacclgoidaaDoor

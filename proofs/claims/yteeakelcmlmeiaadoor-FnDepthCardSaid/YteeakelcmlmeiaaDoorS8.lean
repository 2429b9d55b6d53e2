/- The walk of the reference's depths of nodes. -/
import Derived.Test.YteeakelcmlmeiaaDoorS7
namespace Go.Proofs.YteeakelcmlmeiaaDoor
open Go.RowKit

theorem depthBs_pos {ts : List Bd} (h : ts ≠ []) : 1 ≤ depthBs ts := by
  cases ts with
  | nil => exact absurd rfl h
  | cons t ts => simp only [depthBs]; omega
theorem depthBs_le_size (ts : List Bd) : depthBs ts ≤ sizeBs ts := depthBs_lt fun t _ => depthB_lt (sizeB t) t (Nat.le_refl _)
theorem str_inj {a b : Bs} (h : str a = str b) : a = b := by
  simp only [str, Value.string.injEq, ByteArray.mk.injEq] at h
  simpa using congrArg Array.toList h

def DeepNSaid (b : Bd) : Prop := ∀ (F : Nat → Prop) (w : World) (s : Bs) (v : Int) (a2 : Option Addr) (n2 c2 : Nat) (a3 : Option Addr) (n3 c3 : Nat), Reps F w (encN b) [str s, .int .i64 v, .slice a2 n2 c2, .slice a3 n3 c3] →
  Calls Tryd.prog 20 #[.agg #[str s, .int .i64 v, .slice a2 n2 c2, .slice a3 n3 c3]] w fun en w' => en = .returned (.int .i64 (depthB b)) ∧ Below w.heap.size w w'

set_option maxRecDepth 100000 in
set_option maxHeartbeats 2000000 in
theorem l3Deep_step (b : Bd) (hl : Lim (sizeB b)) (ih : ∀ b', sizeB b' < sizeB b → DeepNSaid b') : DeepNSaid b := by
  intro F w s v a2 n2 c2 a3 n3 c3 hv
  have hv0 := encN_open hv
  obtain ⟨v', a2', c2', a3', c3', e, hk, hy⟩ := hv0
  simp only [List.cons.injEq, Value.slice.injEq, and_true] at e
  obtain ⟨e0, e1, ⟨rfl, e2, rfl⟩, ⟨rfl, e3, rfl⟩⟩ := e
  obtain rfl : s = atomOf b := str_inj e0
  clear e0 e1
  subst e2; subst e3
  cases b with
  | leaf c =>
    clear hv hk hy ih
    show Calls Tryd.prog 20 #[.agg #[str [c], .int .i64 v, .slice a2 0 c2, .slice a3 0 c3]] w _
    go_enter Tryd.func20, Tryd.ntmps20
    go_wp2_with fail
    go_ret
    exact ⟨rfl, (Below.refl _ _).alloc (Nat.le_refl _) _⟩
  | ask lv ss yb nb =>
    obtain ⟨_, _, ek, hatk⟩ := AtNs.of hk
    obtain ⟨_, _, ey, haty⟩ := AtNs.of hy
    simp only [Value.slice.injEq, true_and] at ek ey
    obtain ⟨rfl, rfl⟩ := ek
    obtain ⟨rfl, rfl⟩ := ey
    change AtNs F w ss a2 at hatk
    change AtNs F w [yb, nb] a3 at haty
    have IH := Lib.hid ih; clear ih
    have hl' := hl.le
    have hsz := sizeB_parts (.ask lv ss yb nb)
    rw [partsOf_eq, sizeBs_append] at hsz
    change sizeB (.ask lv ss yb nb) = 1 + (sizeBs ss + sizeBs [yb, nb]) at hsz
    change Rep F w (.sl 34 4 ss.length (encNs ss)) _ at hk
    change Rep F w (.sl 34 4 [yb, nb].length (encNs [yb, nb])) _ at hy
    show Calls Tryd.prog 20 #[.agg #[str [], .int .i64 v, .slice a2 ss.length c2, .slice a3 [yb, nb].length c3]] w _
    have hdp := depthB_parts (.ask lv ss yb nb)
    rw [partsOf_eq, depthBs_append] at hdp
    change depthB (.ask lv ss yb nb) = max (depthBs ss) (depthBs [yb, nb]) at hdp
    have hdk := depthBs_le_size ss
    have hdy := depthBs_le_size [yb, nb]
    have hd1 := depthBs_pos (ts := [yb, nb]) (by simp)
    have hkl := length_le_sizeBs (ss)
    have hyl := length_le_sizeBs ([yb, nb])
    have E1 := Lib.hid hsz
    have kl : (ss).length ≤ 16777216 := by omega
    have yl : ([yb, nb]).length ≤ 16777216 := by omega
    have ATK := Lib.hid hatk; have ATY := Lib.hid haty
    clear hatk haty hk hy hv hsz hkl hyl
    have E2 := Lib.hid hdp; clear hdp
    generalize hB : (Bd.ask lv ss yb nb) = b at *
    generalize hK : ss = kids at *
    generalize hY : [yb, nb] = yess at *
    clear hK hY hB
    go_enter Tryd.func20, Tryd.ntmps20
    go_wp2_with fail
    go_loopw [3, 4] (fun n i wr => ∃ k : Nat, k ≤ kids.length ∧ i = .int .i64 k ∧ n = .int .i64 ((depthBs (kids.take k) - 1 : Nat) : Int) ∧ Below w.heap.size w wr ∧ BoxN w.heap.size [] (.slice a2 kids.length c2) (.slice a3 yess.length c3) wr) (fun _ i _ => kids.length - (intOf i).toNat)
    case atStart => exact ⟨0, Nat.zero_le _, rfl, by simp [depthBs], (Below.refl _ _).alloc (Nat.le_refl _) _, by simp, by simp, by simp⟩
    case round =>
      rename_i wr
      obtain ⟨k, hk, rfl, rfl, hb, hc⟩ := hrel
      obtain ⟨hc1, hc2, hc3⟩ := id hc
      by_cases hlt : k < kids.length
      · obtain ⟨bb, o, s', v', b2, m2, d2, b3, m3, d3, t, rfl, hbb, ht, u0, u1, u2, u3, hr⟩ := ATK.out k hlt
        have q0 := (hb.cell hbb).trans u0
        have q1 := (hb.cell hbb).trans u1
        have q2 := (hb.cell hbb).trans u2
        have q3 := (hb.cell hbb).trans u3
        have hr' := (Reps.below (F' := F) hb (fun _ h => h) hr)
        have hs := depthBs_take ht
        have hle := sizeBs_take_le kids (k + 1)
        have hle2 := sizeBs_take ht
        have hle3 := depthBs_le_size (kids.take k)
        have hle4 := depthB_lt _ t (Nat.le_refl _)
        have hat' := E1.out
        have hp := sizeB_pos t
        have IH' := Lib.hid (IH.out t (by omega))
        have HS := Lib.hid hs
        have b1 : depthBs (kids.take k) ≤ 16777216 := by omega
        have b2 : depthB t ≤ 16777216 := by omega
        have hz := World.block_lt_of_cell? wr _ hc1
        clear hs ht hat' u0 u1 u2 u3 hr
        go_wp2_with fail
        refine (IH'.out _ _ _ _ _ _ _ _ _ _ hr').mono ?_
        rintro en w2 ⟨rfl, hb2⟩
        have hb3 := hb.trans (hb2.mono hb.size)
        obtain ⟨hc1, hc2, hc3⟩ := id (hc.below hb2)
        have hc' := Lib.hid (hc.below hb2)
        go_wp2_with fail
        go_roundw
        case rel => exact ⟨k + 1, by omega, by go_num, by have h := HS.out; congr 1; omega, hb3, hc'.out⟩
        case measure => simp [intOf]; omega
      · obtain rfl : k = kids.length := by omega
        rw [List.take_length]
        have bK : depthBs kids ≤ 16777216 := by have := E1.out; omega
        clear hk hlt
        go_wp2_with fail
        have hb0 := hb; have hc0 := hc
        clear hb hc hc1 hc2 hc3
        go_loopw [3, 5] (fun n i wr => ∃ k : Nat, k ≤ yess.length ∧ i = .int .i64 k ∧ n = .int .i64 ((max (depthBs kids - 1) (depthBs (yess.take k) - 1) : Nat) : Int) ∧ Below w.heap.size w wr ∧ BoxN w.heap.size [] (.slice a2 kids.length c2) (.slice a3 yess.length c3) wr) (fun _ i _ => yess.length - (intOf i).toNat)
        case atStart => exact ⟨0, Nat.zero_le _, rfl, by simp [depthBs], hb0, hc0⟩
        case round =>
          clear hb0 hc0
          obtain ⟨k, hk, rfl, rfl, hb, hc⟩ := hrel
          obtain ⟨hc1, hc2, hc3⟩ := id hc
          by_cases hlt : k < yess.length
          · obtain ⟨bb, o, s', v', b2, m2, d2, b3, m3, d3, t, rfl, hbb, ht, u0, u1, u2, u3, hr⟩ := ATY.out k hlt
            have q0 := (hb.cell hbb).trans u0
            have q1 := (hb.cell hbb).trans u1
            have q2 := (hb.cell hbb).trans u2
            have q3 := (hb.cell hbb).trans u3
            have hr' := (Reps.below (F' := F) hb (fun _ h => h) hr)
            have hs := depthBs_take ht
            have hle := sizeBs_take_le yess (k + 1)
            have hle2 := sizeBs_take ht
            have hle3 := depthBs_le_size (yess.take k)
            have hle4 := depthB_lt _ t (Nat.le_refl _)
            have hat' := E1.out
            have hp := sizeB_pos t
            have IH' := Lib.hid (IH.out t (by omega))
            have HS := Lib.hid hs
            have b1 : depthBs (yess.take k) ≤ 16777216 := by omega
            have b2 : depthB t ≤ 16777216 := by omega
            have hz := World.block_lt_of_cell? _ _ hc1
            clear hs ht hat' u0 u1 u2 u3 hr
            go_wp2_with fail
            refine (IH'.out _ _ _ _ _ _ _ _ _ _ hr').mono ?_
            rintro en w2 ⟨rfl, hb2⟩
            have hb3 := hb.trans (hb2.mono hb.size)
            obtain ⟨hc1, hc2, hc3⟩ := id (hc.below hb2)
            have hc' := Lib.hid (hc.below hb2)
            go_wp2_with fail
            go_roundw
            case rel => exact ⟨k + 1, by omega, by go_num, by have h := HS.out; congr 1; omega, hb3, hc'.out⟩
            case measure => simp [intOf]; omega
          · obtain rfl : k = yess.length := by omega
            rw [List.take_length]
            have hyl := depthBs_le_size yess
            have hkl := depthBs_le_size kids
            have bM : max (depthBs kids - 1) (depthBs yess - 1) ≤ 16777216 := by have := E1.out; omega
            have D1 := Lib.hid hd1; clear hd1 hyl hkl hdk hdy
            go_wp2_with fail
            have hd1 := D1.out
            go_ret
            exact ⟨ret_i64 (by rw [E2.out]; omega), hb⟩


theorem l3Deep_any (n : Nat) : ∀ b, sizeB b ≤ n → Lim n → DeepNSaid b := by
  induction n with
  | zero => intro b h _; have := sizeB_pos b; omega
  | succ n ih => exact fun b h hn => l3Deep_step b (hn.mono h) (fun b' h' => ih b' (by omega) (hn.mono (by omega)))

end Go.Proofs.YteeakelcmlmeiaaDoor

/- The walk of the reference's reader of levels. -/
import Derived.Test.YtmkgoacclgoidaaDoorS3
import Derived.Test.YtmkgoacclgoidaaDoorP3
namespace Go.Proofs.YtmkgoacclgoidaaDoor
open Go.RowKit

def NumPost (i : Nat) (o : Option (Nat × Nat)) (w : World) (en : Ending) (w' : World) : Prop :=
  ∃ (v : Nat) (k : Int), en = .returned (.tuple #[.int .i64 v, .int .i64 k]) ∧ w = w' ∧ (o = none → k = -1) ∧ (∀ v' c, o = some (v', c) → v = v' ∧ k = ((i + c : Nat) : Int))

set_option maxHeartbeats 2000000 in
theorem l3Number_any (l : Bs) (hl : Lim l.length) (i : Nat) (hi : i ≤ l.length) (w : World) :
    Calls Tryd.prog 82 #[str l, .int .i64 i] w (NumPost i (specNum (l.drop i)) w) := by
  have hl' := hl.le
  obtain ⟨ds, hds⟩ : ∃ ds, ds = digsOf (l.drop i) := ⟨_, rfl⟩
  have hd4 := digsOf_le (l.drop i)
  rw [← hds] at hd4
  have h4 : ds.length ≤ 4 := hd4.1
  have hdl : i + ds.length ≤ l.length := by have := hd4.2; simp at this; omega
  have HDS := Lib.hid hds; clear hds hd4
  go_enter Tryd.func82, Tryd.ntmps82
  go_wp2_with fail
  go_loop [6, 7] (fun n k => ∃ j : Nat, j ≤ ds.length ∧ k = .int .i64 ((i + j : Nat) : Int) ∧ n = .int .i64 (valOf (ds.take j) : Nat)) (fun _ k => i + ds.length - (intOf k).toNat)
  case atStart => exact ⟨0, Nat.zero_le _, by simp, by simp [valOf]⟩
  case round =>
    obtain ⟨j, hj, rfl, rfl⟩ := hrel
    by_cases hlt : j < ds.length
    · have hij : i + j < l.length := by omega
      have hat : l[i + j] = ds[j] ∧ dig l[i + j] = true := by
        have h1 := HDS.out; subst h1
        obtain ⟨hm, e1, e2⟩ := digsOf_at hlt
        rw [List.getElem_drop] at e1 e2
        exact ⟨e1, e2⟩
      have b1 : (48 : Int) ≤ ((((⟨l.toArray⟩ : ByteArray)[i + j]'(lt_str hij)).toNat : Int)) ∧ ((((⟨l.toArray⟩ : ByteArray)[i + j]'(lt_str hij)).toNat : Int)) ≤ 57 := by
        have h2 := hat.2
        simp [dig, UInt8.le_iff_toNat_le] at h2
        rw [byte_int hij]; omega
      obtain ⟨b1, b2⟩ := b1
      have hv : valOf (ds.take j) ≤ 9999 := by
        have h1 := valOf_lt (ds.take j) (fun c hc => digsOf_all _ c (by have := HDS.out; rw [← this]; exact List.mem_of_mem_take hc))
        have h2 : 10 ^ (ds.take j).length ≤ 10 ^ 4 := Nat.pow_le_pow_right (by omega) (by simp; omega)
        omega
      have hs := valOf_take hlt
      have hs' : (valOf (ds.take (j + 1)) : Int) = 10 * (valOf (ds.take j) : Int) + (((((⟨l.toArray⟩ : ByteArray)[i + j]'(lt_str hij)).toNat : Int)) - 48) := by
        rw [byte_int hij] at b1 ⊢; rw [hs, hat.1] at *; omega
      have HS := Lib.hid hs'
      have j4 : j < 4 := by omega
      clear hs hs' hat
      go_wp2_with fail
      go_round
      case rel => exact ⟨j + 1, by omega, by go_num, by rw [HS.out]⟩
      case measure => simp [intOf]; omega
    · obtain rfl : j = ds.length := by omega
      have hend : ds.length = 4 ∨ i + ds.length = l.length ∨ ∃ h : i + ds.length < l.length, dig l[i + ds.length] = false := by
        have h1 := HDS.out; subst h1
        rcases digsOf_end (m := l.drop i) with h | h | ⟨h, h2⟩
        · exact .inl h
        · right; left; simp at h; omega
        · right; right; simp at h; refine ⟨by omega, ?_⟩; rw [List.getElem_drop] at h2; exact h2
      have HV : specNum (l.drop i) = (if ds = [] ∨ (1 < ds.length ∧ (l.drop i).head? = some 48) then none else some (valOf ds, ds.length)) := by
        unfold specNum; rw [← HDS.out]
      have hend4 : 4 ≤ ds.length ∨ l.length ≤ i + ds.length ∨ (∃ h : i + ds.length < l.length, ((((⟨l.toArray⟩ : ByteArray)[i + ds.length]'(lt_str h)).toNat : Int)) < 48) ∨ (∃ h : i + ds.length < l.length, (57 : Int) < ((((⟨l.toArray⟩ : ByteArray)[i + ds.length]'(lt_str h)).toNat : Int))) := by
        rcases hend with h | h | ⟨h, h2⟩
        · exact .inl (by omega)
        · exact .inr (.inl (by omega))
        · simp [dig, UInt8.le_iff_toNat_le] at h2
          by_cases hc : l[i + ds.length].toNat < 48
          · exact .inr (.inr (.inl ⟨h, by rw [byte_int h]; omega⟩))
          · exact .inr (.inr (.inr ⟨h, by rw [byte_int h]; have := h2 (by omega); omega⟩))
      clear hend
      rw [List.take_length]
      rcases (by omega : ds.length = 0 ∨ ds.length = 1 ∨ 2 ≤ ds.length) with hn | hn | hn
      · have e0 : ((i : Int) + (ds.length : Int) == (i : Int)) = true := by rw [beq_iff_eq]; omega
        have fin : NumPost i (specNum (l.drop i)) w (.returned (.tuple #[.int .i64 0, .int .i64 (-1)])) w := by
          have hd0 : ds = [] := List.eq_nil_of_length_eq_zero hn
          refine ⟨0, -1, rfl, rfl, fun _ => rfl, fun v c h => ?_⟩
          rw [HV, if_pos (.inl hd0)] at h; simp at h
        have HF := Lib.hid fin; have hn0 : (ds.length : Int) ≤ 0 := by omega
        clear fin HV hn
        rcases hend4 with h | h | ⟨h, h2⟩ | ⟨h, h2⟩
        all_goals
          go_wp2_with fail
          all_goals (go_ret2; exact HF.out)
      · have e0 : ((i : Int) + (ds.length : Int) == (i : Int)) = false := by rw [beq_eq_false_iff_ne]; omega
        have n1 : ¬ 1 < ds.length := by omega
        have fin : NumPost i (specNum (l.drop i)) w (.returned (.tuple #[.int .i64 (valOf ds : Nat), .int .i64 ((i : Int) + (ds.length : Int))])) w := by
          have hd0 : ¬ (ds = [] ∨ (1 < ds.length ∧ (l.drop i).head? = some 48)) := by
            rintro (h | h)
            · rw [h] at hn; simp at hn
            · omega
          refine ⟨_, _, rfl, rfl, fun h => ?_, fun v c h => ?_⟩
          · rw [HV, if_neg hd0] at h; simp at h
          · rw [HV, if_neg hd0] at h; simp at h; exact ⟨h.1, by omega⟩
        have HF := Lib.hid fin; have hn2 : 1 ≤ ds.length := by omega
        clear fin HV hn
        rcases hend4 with h | h | ⟨h, h2⟩ | ⟨h, h2⟩
        all_goals
          go_wp2_with fail
          all_goals (go_ret2; exact HF.out)
      · have e0 : ((i : Int) + (ds.length : Int) == (i : Int)) = false := by rw [beq_eq_false_iff_ne]; omega
        have n1 : 1 < ds.length := by omega
        have hil : i < l.length := by rcases hend4 with h | h | ⟨h, h2⟩ | ⟨h, h2⟩ <;> omega
        have hhd : (l.drop i).head? = some l[i] := by rw [List.head?_drop]; simp [hil]
        have hdn : ds ≠ [] := by intro h; rw [h] at hn; simp at hn
        by_cases h48 : l[i] = 48
        · have f1 := byte_yes hil (n := 48) (by decide) h48
          have fin : NumPost i (specNum (l.drop i)) w (.returned (.tuple #[.int .i64 0, .int .i64 (-1)])) w := by
            refine ⟨0, -1, rfl, rfl, fun _ => rfl, fun v c h => ?_⟩
            rw [HV, if_pos (.inr ⟨n1, by rw [hhd, h48]⟩)] at h; simp at h
          have HF := Lib.hid fin; clear fin HV hhd h48
          rcases hend4 with h | h | ⟨h, h2⟩ | ⟨h, h2⟩
          all_goals
            go_wp2_with fail
            all_goals (go_ret2; exact HF.out)
        · have f1 := byte_no hil (n := 48) (by decide) h48
          have fin : NumPost i (specNum (l.drop i)) w (.returned (.tuple #[.int .i64 (valOf ds : Nat), .int .i64 ((i : Int) + (ds.length : Int))])) w := by
            have hd0 : ¬ (ds = [] ∨ (1 < ds.length ∧ (l.drop i).head? = some 48)) := by
              rintro (h | h)
              · exact hdn h
              · rw [hhd] at h; exact h48 (Option.some.inj h.2)
            refine ⟨_, _, rfl, rfl, fun h => ?_, fun v c h => ?_⟩
            · rw [HV, if_neg hd0] at h; simp at h
            · rw [HV, if_neg hd0] at h; simp at h; exact ⟨h.1, by omega⟩
          have HF := Lib.hid fin; clear fin HV hhd h48
          rcases hend4 with h | h | ⟨h, h2⟩ | ⟨h, h2⟩
          all_goals
            go_wp2_with fail
            all_goals (go_ret2; exact HF.out)

end Go.Proofs.YtmkgoacclgoidaaDoor

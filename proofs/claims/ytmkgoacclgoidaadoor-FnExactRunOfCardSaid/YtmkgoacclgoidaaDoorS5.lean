/- The walk of the reference's reader of bodies: what it leaves, and where it reads no list. -/
import Derived.Test.YtmkgoacclgoidaaDoorS4
namespace Go.Proofs.YtmkgoacclgoidaaDoor
open Go.RowKit

mutual
def encN : Bd → List DV
  | .leaf c => [.val (str [c]), .val (.int .i64 (0 : Nat)), .sl 57 4 0 [], .sl 57 4 0 []]
  | .ask v ss y n => [.val (str []), .val (.int .i64 v), .sl 57 4 ss.length (encNs ss), .sl 57 4 2 (encN y ++ (encN n ++ []))]
def encNs : List Bd → List DV
  | [] => []
  | b :: bs => encN b ++ encNs bs
end

theorem encN_length (b : Bd) : (encN b).length = 4 := by cases b <;> simp [encN]
theorem encNs_length (bs : List Bd) : (encNs bs).length = bs.length * 4 := by
  induction bs with
  | nil => simp [encNs]
  | cons b bs ih => simp [encNs, encN_length, ih]; omega
theorem encNs_append (a b : List Bd) : encNs (a ++ b) = encNs a ++ encNs b := by
  induction a with
  | nil => simp [encNs]
  | cons t ts ih => simp [encNs, ih, List.append_assoc]
theorem encN_ask (v : Nat) (ss : List Bd) (y n : Bd) : encN (.ask v ss y n) = [.val (str []), .val (.int .i64 v), .sl 57 4 ss.length (encNs ss), .sl 57 4 2 (encNs [y, n])] := by
  simp [encN, encNs]

theorem Tryd.infoN : (Tryd.prog.info? 57).map (fun i => (i.zero, i.size, i.bytes)) = some (some (.agg #[str [], .int .i64 0, .slice none 0 0, .slice none 0 0]), 4, 72) := by kernel_rfl

/-- What the reference's reader of bodies leaves: 'o' is what is read. -/
def NPost (L : Nat) (w : World) (o : Option (Bd × Bs)) (en : Ending) (w' : World) : Prop :=
  ∃ (s : Bs) (v : Int) (a2 : Option Addr) (n2 k2 : Nat) (a3 : Option Addr) (n3 k3 : Nat) (k : Int), en = .returned (.tuple #[.agg #[str s, .int .i64 v, .slice a2 n2 k2, .slice a3 n3 k3], .int .i64 k]) ∧ Below w.heap.size w w' ∧ (o = none → k = -1) ∧
    (∀ b rest, o = some (b, rest) → k = (L : Int) - rest.length ∧ Reps (w.heap.size ≤ ·) w' (encN b) [str s, .int .i64 v, .slice a2 n2 k2, .slice a3 n3 k3])

theorem NPost.no {L : Nat} {w w' : World} {o : Option (Bd × Bs)} (ho : o = none) (hb : Below w.heap.size w w') :
    NPost L w o (.returned (.tuple #[.agg #[str [], .int .i64 0, .slice none 0 0, .slice none 0 0], .int .i64 (-1)])) w' :=
  ⟨[], 0, none, 0, 0, none, 0, 0, _, rfl, hb, fun _ => rfl, fun _ _ h => by rw [ho] at h; simp at h⟩
theorem NPost.yes {L : Nat} {w w' : World} {o : Option (Bd × Bs)} {b : Bd} {rest : Bs} {s : Bs} {v : Int} {a2 : Option Addr} {n2 k2 : Nat} {a3 : Option Addr} {n3 k3 : Nat} {k : Int} (ho : o = some (b, rest)) (hk : k = (L : Int) - rest.length) (hb : Below w.heap.size w w') (hv : Reps (w.heap.size ≤ ·) w' (encN b) [str s, .int .i64 v, .slice a2 n2 k2, .slice a3 n3 k3]) :
    NPost L w o (.returned (.tuple #[.agg #[str s, .int .i64 v, .slice a2 n2 k2, .slice a3 n3 k3], .int .i64 k])) w' :=
  ⟨s, v, a2, n2, k2, a3, n3, k3, k, rfl, hb, fun h => by rw [ho] at h; simp at h, fun _ _ h => by rw [ho] at h; simp at h; obtain ⟨rfl, rfl⟩ := h; exact ⟨hk, hv⟩⟩

def NodeSaid (l : Bs) (e d : Nat) : Prop := ∀ (F : Nat → Prop) (hand : List Ty) (hv : Value) (i : Nat) (w : World), i ≤ l.length → HandOk e hand →
    Rep F w (.sl 54 1 hand.length (encSs hand)) hv →
    Calls Tryd.prog 50 #[str l, .int .i64 i, hv, .int .i64 d] w (NPost l.length w (rdN e hand (l.drop i)))

theorem leaf_reps (F : Nat → Prop) (w : World) (c : UInt8) : Reps F w (encN (.leaf c)) [str [c], .int .i64 0, .slice none 0 0, .slice none 0 0] := by
  have hz : Rep F w (.sl 57 4 0 []) (.slice none 0 0) := Rep_sl.2 ⟨rfl, none, 0, rfl, Nat.le_refl _, fun _ => rfl, .inl rfl⟩
  rw [encN]
  exact Reps_cons.2 ⟨_, _, rfl, Rep_val.2 rfl, Reps_cons.2 ⟨_, _, rfl, Rep_val.2 rfl, Reps_cons.2 ⟨_, _, rfl, hz, Reps_cons.2 ⟨_, _, rfl, hz, Reps_nil.2 rfl⟩⟩⟩⟩

theorem rdN_end (e : Nat) (hand : List Ty) : rdN e hand [] = none := by cases e <;> rfl
theorem rdN_leaf (e : Nat) (hand : List Ty) {l : Bs} {i : Nat} (h : i < l.length) (hc : l[i] = 116 ∨ l[i] = 102 ∨ l[i] = 117) : rdN (e + 1) hand (l.drop i) = some (.leaf l[i], l.drop (i + 1)) := by
  rw [List.drop_eq_getElem_cons h, rdN]; simp only [if_pos hc]
theorem rdN_other (e : Nat) (hand : List Ty) {l : Bs} {i : Nat} (h : i < l.length) (hc : ¬ (l[i] = 116 ∨ l[i] = 102 ∨ l[i] = 117)) (h40 : ¬ l[i] = 40) : rdN (e + 1) hand (l.drop i) = none := by
  rw [List.drop_eq_getElem_cons h, rdN]; simp only [if_neg hc, if_pos h40]
theorem rdN_40 (e : Nat) (hand : List Ty) {l : Bs} {i : Nat} (h : i < l.length) (h40 : l[i] = 40) : rdN (e + 1) hand (l.drop i) = (match specNum (l.drop (i + 1)) with
      | none => none
      | some (v, k) => match hand[v]? with
        | none => none
        | some t => do
          let (ps, l1) ← specParts (rdN e) (allHands hand t) ((l.drop (i + 1)).drop k)
          let l2 ← cut [41] l1
          let b ← askOf v t.args.length ps
          some (b, l2)) := by
  rw [List.drop_eq_getElem_cons h, rdN]
  rw [if_neg (by rw [h40]; decide), if_neg (by simpa using h40)]
  rfl

set_option maxHeartbeats 2000000 in
/-- Where it reads no list. -/
theorem l3Read_plain (l : Bs) (hl : Lim l.length) (e d : Nat) (hed : e + d = 101) (F : Nat → Prop) (hand : List Ty) (hv : Value) (i : Nat) (w : World) (hi : i ≤ l.length)
    (hr : Rep F w (.sl 54 1 hand.length (encSs hand)) hv) (hno : ∀ h : i < l.length, e = 0 ∨ ¬ l[i] = 40) :
    Calls Tryd.prog 50 #[str l, .int .i64 i, hv, .int .i64 d] w (NPost l.length w (rdN e hand (l.drop i))) := by
  have hl' := hl.le
  obtain ⟨a0, c0, e0, _⟩ := Rep_sl1_open hr
  subst e0
  rcases e with _ | e
  · have hd1 : (100 : Int) < (d : Int) := by omega
    clear hno
    go_enter Tryd.func50, Tryd.ntmps50
    go_wp2_with fail
    refine bodyPost_ret (v := .tuple #[.agg #[str [], .int .i64 0, .slice none 0 0, .slice none 0 0], .int .i64 (-1)]) (by simp [results, Tryd.results50, go_sem]) rfl ?_
    exact NPost.no (by rfl) (by repeat (first | exact Below.refl _ _ | refine Below.alloc ?_ (Nat.le_refl _) _ | refine Below.setCell ?_ (by simp) _))
  have hd0 : ¬ (100 : Int) < (d : Int) := by omega
  by_cases hlt : i < l.length
  rotate_left
  · clear hno
    go_enter Tryd.func50, Tryd.ntmps50
    go_wp2_with fail
    refine bodyPost_ret (v := .tuple #[.agg #[str [], .int .i64 0, .slice none 0 0, .slice none 0 0], .int .i64 (-1)]) (by simp [results, Tryd.results50, go_sem]) rfl ?_
    exact NPost.no (by rw [List.drop_eq_nil_of_le (by omega)]; rfl) (by repeat (first | exact Below.refl _ _ | refine Below.alloc ?_ (Nat.le_refl _) _ | refine Below.setCell ?_ (by simp) _))
  have h40 : ¬ l[i] = 40 := (hno hlt).resolve_left (by omega)
  clear hno
  by_cases hlf : l[i] = 116 ∨ l[i] = 102 ∨ l[i] = 117
  · have HM := Lib.hid (rdN_leaf e hand hlt hlf)
    have hx : ((⟨l.toArray⟩ : ByteArray).extract i (i + 1)) = ⟨#[l[i]]⟩ := by
      rw [ext_str]; congr 1
      rw [List.drop_take, List.drop_eq_getElem_cons hlt, show i + 1 - i = 1 from by omega]; rfl
    have HX := Lib.hid hx; clear hx
    have fin : ∀ w' : World, Below w.heap.size w w' → NPost l.length w (rdN (e + 1) hand (l.drop i)) (.returned (.tuple #[.agg #[.string ((⟨l.toArray⟩ : ByteArray).extract i (i + 1)), .int .i64 0, .slice none 0 0, .slice none 0 0], .int .i64 ((i : Int) + 1)])) w' := by
      intro w' hb
      rw [HX.out]
      exact NPost.yes (s := [l[i]]) HM.out (by simp; omega) hb (leaf_reps _ _ _)
    have FIN := Lib.hid fin; clear fin
    have key : ((((⟨l.toArray⟩ : ByteArray)[i]'(lt_str hlt)).toNat : Int) == 116) = true ∨ ((((((⟨l.toArray⟩ : ByteArray)[i]'(lt_str hlt)).toNat : Int) == 116) = false ∧ ((((⟨l.toArray⟩ : ByteArray)[i]'(lt_str hlt)).toNat : Int) == 102) = true)) ∨ ((((((⟨l.toArray⟩ : ByteArray)[i]'(lt_str hlt)).toNat : Int) == 116) = false ∧ ((((⟨l.toArray⟩ : ByteArray)[i]'(lt_str hlt)).toNat : Int) == 102) = false ∧ ((((⟨l.toArray⟩ : ByteArray)[i]'(lt_str hlt)).toNat : Int) == 117) = true)) := by
      rcases hlf with h | h | h
      · exact .inl (byte_yes hlt (n := 116) (by decide) h)
      · exact .inr (.inl ⟨byte_no hlt (c := 116) (n := 116) (by decide) (by rw [h]; decide), byte_yes hlt (n := 102) (by decide) h⟩)
      · exact .inr (.inr ⟨byte_no hlt (c := 116) (n := 116) (by decide) (by rw [h]; decide), byte_no hlt (c := 102) (n := 102) (by decide) (by rw [h]; decide), byte_yes hlt (n := 117) (by decide) h⟩)
    clear hlf h40 HM HX
    rcases key with f1 | ⟨f1, f2⟩ | ⟨f1, f2, f3⟩
    all_goals
      go_enter Tryd.func50, Tryd.ntmps50
      go_wp2_with fail
      refine bodyPost_ret (v := .tuple #[.agg #[.string ((⟨l.toArray⟩ : ByteArray).extract i (i + 1)), .int .i64 0, .slice none 0 0, .slice none 0 0], .int .i64 ((i : Int) + 1)]) (by simp [results, Tryd.results50, go_sem]) rfl ?_
      exact FIN.out _ (by repeat (first | exact Below.refl _ _ | refine Below.alloc ?_ (Nat.le_refl _) _ | refine Below.setCell ?_ (by simp) _))
  have HM := Lib.hid (rdN_other e hand hlt hlf h40)
  have f1 := byte_no hlt (n := 116) (by decide) (fun h => hlf (.inl h))
  have f2 := byte_no hlt (n := 102) (by decide) (fun h => hlf (.inr (.inl h)))
  have f3 := byte_no hlt (n := 117) (by decide) (fun h => hlf (.inr (.inr h)))
  have f4 := byte_no2 hlt (n := 40) (by decide) h40
  clear hlf h40
  go_enter Tryd.func50, Tryd.ntmps50
  go_wp2_with fail
  refine bodyPost_ret (v := .tuple #[.agg #[str [], .int .i64 0, .slice none 0 0, .slice none 0 0], .int .i64 (-1)]) (by simp [results, Tryd.results50, go_sem]) rfl ?_
  exact NPost.no HM.out (by repeat (first | exact Below.refl _ _ | refine Below.alloc ?_ (Nat.le_refl _) _ | refine Below.setCell ?_ (by simp) _))
end Go.Proofs.YtmkgoacclgoidaaDoor

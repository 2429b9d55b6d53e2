/- The walks of the reference's drawing of types: of, l91Type, l91Odd. -/
import Derived.Test.YteeakelcmlmeiaaDoorD1
namespace Go.Proofs.YteeakelcmlmeiaaDoor
open Go.RowKit

/-- A slice of texts. -/
def StrSl (w : World) (rd : Nat) (l : Value) (xs : List Bs) : Prop :=
  ∃ b o c, l = .slice (some ⟨b, o, none⟩) xs.length c ∧ b ≠ rd ∧ ∀ (k : Nat) (s : Bs), xs[k]? = some s → w.cell? ⟨b, o + k, none⟩ = some (str s)

theorem StrSl.new {w : World} {rd : Nat} (hrd : rd < w.heap.size) (xs : List Bs) (n : Nat) (hn : n = xs.length) (e : TypeId) : StrSl (w.alloc (.cells (xs.map str).toArray e)) rd (.slice (some ⟨w.heap.size, 0, none⟩) n n) xs := by
  subst hn
  refine ⟨w.heap.size, 0, _, rfl, by omega, fun k s hs => ?_⟩
  rw [Nat.zero_add]
  simp only [World.cell?, heap_new]
  simp [hs]

def Took (rd P : Nat) (xs : List Bs) (w : World) (en : Ending) (w' : World) : Prop :=
  ∃ s ∈ xs, en = .returned (str s) ∧ But (· = rd) w w' ∧ RdAt w' rd P

set_option maxHeartbeats 1000000 in
theorem of_any (rd P : Nat) (l : Value) (xs : List Bs) (w : World) (h : RdAt w rd P) (hl : StrSl w rd l xs) (hx : 0 < xs.length) (hx2 : xs.length ≤ 16777216) (hP : P ≤ 1099511627776) :
    Calls Tryd.prog 38 #[.pointer (some ⟨rd, 0, none⟩), l] w (Took rd (P + 1) xs w) := by
  obtain ⟨b, o, c, rfl, hne, hk⟩ := hl
  have HK := Lib.hid hk; clear hk
  go_enter Tryd.func38, Tryd.ntmps38
  go_wp2_with fail
  refine (pick_any rd P xs.length w h hx hx2 hP).mono ?_
  rintro en w1 ⟨v, rfl, hv, hb, hr⟩
  obtain ⟨s, hs⟩ : ∃ s, xs[v]? = some s := ⟨xs[v], by simp [hv]⟩
  have hc := HK.out v s hs
  have hc1 : w1.cell? ⟨b, o + v, none⟩ = some (str s) := (hb.cell (p := ⟨b, o + v, none⟩) (World.block_lt_of_cell? w ⟨b, o + v, none⟩ hc) (fun e => hne e)).trans hc
  have hv' : (v : Int) < (xs.length : Int) := by omega
  have HM := Lib.hid (List.mem_of_getElem? hs)
  clear hs hc
  go_wp2_with fail
  go_ret
  exact ⟨s, HM.out, rfl, hb, hr⟩

def typeTexts : List Bs := [[98], [40, 62, 32, 98, 32, 98, 41], [40, 62, 32, 98, 32, 40, 62, 32, 98, 32, 98, 41, 41], [40, 62, 32, 40, 62, 32, 98, 32, 98, 41, 32, 98, 41], [40, 62, 32, 40, 62, 32, 98, 32, 98, 41, 32, 40, 62, 32, 98, 32, 98, 41, 41], [40, 62, 32, 40, 62, 32, 40, 62, 32, 98, 32, 98, 41, 32, 98, 41, 32, 98, 41], [40, 62, 32, 40, 62, 32, 98, 32, 40, 62, 32, 98, 32, 98, 41, 41, 32, 98, 41], [40, 62, 32, 98, 32, 40, 62, 32, 40, 62, 32, 98, 32, 98, 41, 32, 98, 41, 41]]
def oddTexts : List Bs := [[], [99], [40, 62, 32, 98, 41], [40, 62, 32, 32, 98, 32, 98, 41], [40, 62, 32, 98, 32, 98, 32, 98, 41], [98, 32], [40, 62, 32, 40, 62, 32, 40, 62, 32, 40, 62, 32, 98, 32, 98, 41, 32, 40, 62, 32, 98, 32, 98, 41, 41, 32, 40, 62, 32, 98, 32, 98, 41, 41, 32, 40, 62, 32, 98, 32, 40, 62, 32, 98, 32, 98, 41, 41, 41]]
def badTexts : List Bs := [[], [120], [40, 48, 32, 116, 41], [40, 57, 32, 116, 32, 102, 41], [40, 48, 32, 32, 116, 32, 102, 41], [40, 48, 48, 32, 116, 32, 102, 41], [117, 32], [40, 48, 32, 116, 32, 102, 32, 116, 32, 102, 41]]
def atomTexts : List Bs := [[116], [102], [116], [102], [117]]

set_option maxRecDepth 100000 in
set_option maxHeartbeats 1000000 in
theorem l91Type_any (rd P : Nat) (w : World) (h : RdAt w rd P) (hP : P ≤ 1099511627776) :
    Calls Tryd.prog 35 #[.pointer (some ⟨rd, 0, none⟩)] w (Took rd (P + 1) typeTexts w) := by
  have hlt := h.lt
  go_enter Tryd.func35, Tryd.ntmps35
  go_wp2_with fail
  refine (of_any rd P _ typeTexts _ (h.alloc _) (StrSl.new hlt typeTexts 8 rfl _) (by decide) (by decide) hP).mono ?_
  rintro en w1 ⟨s, hs, rfl, hb, hr⟩
  have HM := Lib.hid hs; clear hs
  go_wp2_with fail
  go_ret
  exact ⟨s, HM.out, rfl, ((But.refl _ w).alloc _).trans hb, hr⟩

set_option maxRecDepth 100000 in
set_option maxHeartbeats 1000000 in
theorem l91Odd_any (rd P : Nat) (w : World) (h : RdAt w rd P) (hP : P + 1 ≤ 1099511627776) :
    Calls Tryd.prog 37 #[.pointer (some ⟨rd, 0, none⟩)] w (Took rd (P + 2) (typeTexts ++ oddTexts) w) := by
  go_enter Tryd.func37, Tryd.ntmps37
  go_wp2_with fail
  refine (pick_any rd P 12 w h (by omega) (by omega) (by omega)).mono ?_
  rintro en w1 ⟨v, rfl, hv, hb1, hr1⟩
  have hlt := hr1.lt
  by_cases hv0 : v = 0
  · subst hv0
    go_wp2_with fail
    refine (of_any rd (P + 1) _ oddTexts _ (hr1.alloc _) (StrSl.new hlt oddTexts 7 rfl _) (by decide) (by decide) hP).mono ?_
    rintro en w2 ⟨s, hs, rfl, hb, hr⟩
    have HM := Lib.hid hs; clear hs
    go_wp2_with fail
    go_ret
    exact ⟨s, List.mem_append_right _ HM.out, rfl, (hb1.alloc _).trans hb, hr⟩
  · have hv1 : ((v : Int) == 0) = false := by rw [beq_eq_false_iff_ne]; omega
    go_wp2_with fail
    refine (l91Type_any rd (P + 1) w1 hr1 hP).mono ?_
    rintro en w2 ⟨s, hs, rfl, hb, hr⟩
    have HM := Lib.hid hs; clear hs
    go_wp2_with fail
    go_ret
    exact ⟨s, List.mem_append_left _ HM.out, rfl, hb1.trans hb, hr⟩

end Go.Proofs.YteeakelcmlmeiaaDoor

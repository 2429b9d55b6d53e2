/- The walks of the reference's l4Args, l4Start and RunResult. -/
import Derived.Test.YtibnnbdpfkgfhaaGreatDoorS21
import Derived.Test.YtibnnbdpfkgfhaaGreatDoorS15
import Derived.Deep.DeepCutAuto
namespace Go.Proofs.YtibnnbdpfkgfhaaGreatDoor
open Go.RowKit

def ArgsPost (t : Ty) (xs : List Bs) (w : World) (en : Ending) (w' : World) : Prop :=
  ∃ a n c, en = .returned (.tuple #[.slice a n c, .bool (decide (xs.length = t.args.length) && (readAll t.args xs).isSome)]) ∧ Below w.heap.size w w' ∧
    (∀ bs, xs.length = t.args.length → readAll t.args xs = some bs → n = bs.length ∧ Rep (w.heap.size ≤ ·) w' (.sl 51 4 bs.length (encNs bs)) (.slice a bs.length c))

theorem Rep.alloc {F : Nat → Prop} {w : World} {d : DV} {v : Value} (h : Rep F w d v) (o : Obj) : Rep F (w.alloc o) d v := (Rep.keep fun _ _ hf ho => ⟨hf, heap_past ho⟩).1 _ _ h
theorem bcell {W w1 : World} (hb : Below W.heap.size W w1) : (∀ b o, b < W.heap.size → w1.cell? ⟨b, o, none⟩ = W.cell? ⟨b, o, none⟩) ∧ (∀ b o, b < W.heap.size → w1.frozen? ⟨b, o, none⟩ = W.frozen? ⟨b, o, none⟩) :=
  ⟨fun b o h => hb.cell (p := ⟨b, o, none⟩) h, fun b o h => hb.frozen (p := ⟨b, o, none⟩) h⟩
theorem below_ad2 {w wc : World} {o o' : Obj} (h : Below ((w.alloc o).alloc o').drew.heap.size ((w.alloc o).alloc o').drew wc) : Below w.heap.size w wc := by
  have h1 := below_ad (w := w.alloc o) h
  exact ((Below.refl w.heap.size w).alloc (Nat.le_refl _) o).trans (h1.mono (by rw [size_alloc]; omega))
theorem early1 {w wc : World} {o : Obj} (h : Below (w.alloc o).drew.heap.size (w.alloc o).drew wc) : wc.heap[w.heap.size]? = some o := by
  rw [h.block _ (by show _ < (w.alloc o).heap.size; rw [size_alloc]; omega)]; exact heap_new w o
theorem early1n {w wc : World} {o : Obj} (h : Below (w.alloc o).heap.size (w.alloc o) wc) : wc.heap[w.heap.size]? = some o := by
  rw [h.block _ (by rw [size_alloc]; omega)]; exact heap_new w o
theorem early2 {w wc : World} {o o' : Obj} (h : Below ((w.alloc o).alloc o').drew.heap.size ((w.alloc o).alloc o').drew wc) : wc.heap[w.heap.size]? = some o ∧ wc.heap[w.heap.size + 1]? = some o' := by
  have hz : ((w.alloc o).alloc o').drew.heap.size = w.heap.size + 2 := by show ((w.alloc o).alloc o').heap.size = _; rw [size_alloc, size_alloc]
  refine ⟨by rw [h.block _ (by omega)]; exact heap_past (heap_new w o), ?_⟩
  rw [h.block _ (by omega)]
  have := heap_new (w.alloc o) o'
  rw [size_alloc] at this; exact this
theorem early2n {w wc : World} {o o' : Obj} (h : Below ((w.alloc o).alloc o').heap.size ((w.alloc o).alloc o') wc) : wc.heap[w.heap.size]? = some o ∧ wc.heap[w.heap.size + 1]? = some o' := by
  have hz : ((w.alloc o).alloc o').heap.size = w.heap.size + 2 := by rw [size_alloc, size_alloc]
  refine ⟨by rw [h.block _ (by omega)]; exact heap_past (heap_new w o), ?_⟩
  rw [h.block _ (by omega)]
  have := heap_new (w.alloc o) o'
  rw [size_alloc] at this; exact this
theorem keepB {X wc : World} {b : Nat} {x : Obj} (hb : Below X.heap.size X wc) (hX : X.heap[b]? = some x) : wc.heap[b]? = some x := by
  rw [hb.block b (lt_of_heap hX)]; exact hX
theorem cell1_of {w : World} {b : Nat} {u : Value} {T : TypeId} (h : w.heap[b]? = some (.cells #[u] T (0, 0))) : w.cell? ⟨b, 0, none⟩ = some u ∧ w.frozen? ⟨b, 0, none⟩ = false ∧ b < w.heap.size := ⟨by simp [World.cell?, h], by simp [World.frozen?, h], lt_of_heap h⟩
theorem cell4_of {w : World} {b : Nat} {u0 u1 u2 u3 : Value} {T : TypeId} (h : w.heap[b]? = some (.cells #[u0, u1, u2, u3] T (0, 0))) : w.cell? ⟨b, 0, none⟩ = some u0 ∧ w.cell? ⟨b, 1, none⟩ = some u1 ∧ w.cell? ⟨b, 2, none⟩ = some u2 ∧ w.cell? ⟨b, 3, none⟩ = some u3 ∧ w.frozen? ⟨b, 0, none⟩ = false ∧ w.frozen? ⟨b, 1, none⟩ = false ∧ w.frozen? ⟨b, 2, none⟩ = false ∧ w.frozen? ⟨b, 3, none⟩ = false ∧ b < w.heap.size :=
  ⟨by simp [World.cell?, h], by simp [World.cell?, h], by simp [World.cell?, h], by simp [World.cell?, h], by simp [World.frozen?, h], by simp [World.frozen?, h], by simp [World.frozen?, h], by simp [World.frozen?, h], lt_of_heap h⟩
theorem heap_newE {w : World} {o : Obj} {g : Nat} (h : g = w.heap.size) : (w.alloc o).heap[g]? = some o := by subst h; exact heap_new w o
theorem sizeS (w : World) (p : Addr) (u : Value) : w.heap.size = (w.setCell p u).heap.size := by simp [World.setCell]
theorem sizeA (w : World) (o : Obj) : w.heap.size + 1 = (w.alloc o).heap.size := (size_alloc w o).symm
theorem heap_newS (w : World) (p : Addr) (u : Value) (o : Obj) : ((w.setCell p u).alloc o).heap[w.heap.size]? = some o := by
  have h : (w.setCell p u).heap.size = w.heap.size := by simp [World.setCell]
  have := heap_new (w.setCell p u) o
  rw [h] at this; exact this
theorem heap_new2 (w : World) (o o' : Obj) : ((w.alloc o).alloc o').heap[w.heap.size + 1]? = some o' := by
  have := heap_new (w.alloc o) o'
  rw [size_alloc] at this; exact this
theorem box4_at {B : Nat} {y0 y1 y2 y3 : Value} {T : TypeId} {w : World} (h : w.heap[B]? = some (.cells #[y0, y1, y2, y3] T (0, 0))) (x0 x1 x2 x3 : Value) : ((((w.setCell ⟨B, 0, none⟩ x0).setCell ⟨B, 1, none⟩ x1).setCell ⟨B, 2, none⟩ x2).setCell ⟨B, 3, none⟩ x3).heap[B]? = some (.cells #[x0, x1, x2, x3] T (0, 0)) := boxPut_at h x0 x1 x2 x3
theorem heap_ne {w : World} {b i : Nat} {o : Nat} {u : Value} {x : Obj} (h : w.heap[i]? = some x) (hi : ¬ i = b) : (w.setCell ⟨b, o, none⟩ u).heap[i]? = some x := by
  rw [Below.heap_setCell _ _ _ _ hi]; exact h
/-- What the reading of one argument leaves. -/
def ArgCut (wr : World) (X x : Bs) (s9 s10 : Value) (wx : World) : Prop :=
  ∃ g s' v' a2 n2 c2 a3 n3 c3, s9 = .pointer (some ⟨g, 0, none⟩) ∧ s10 = .bool (specStrat X x).isSome ∧ wr.heap.size ≤ g ∧ wx.heap[g]? = some (.cells #[str s', .int .i64 v', .slice a2 n2 c2, .slice a3 n3 c3] 51 (0, 0)) ∧ Below wr.heap.size wr wx ∧
    (∀ b, specStrat X x = some b → Reps (fun i => wr.heap.size ≤ i ∧ i ≠ g) wx (encN b) [str s', .int .i64 v', .slice a2 n2 c2, .slice a3 n3 c3])

theorem encNs_snoc (bs : List Bd) (b : Bd) : encNs (bs ++ [b]) = encNs bs ++ encN b := by rw [encNs_append]; simp [encNs]

set_option maxRecDepth 100000 in
set_option maxHeartbeats 4000000 in
theorem l4Args_any (F : Nat → Prop) (t : Ty) (tv : Value) (xs : List Bs) (a : Option Addr) (c : Nat) (w : World) (ht : Rep F w (encS t) tv) (h15 : atomsT t ≤ 15) (hx : StrsAt w a xs) (hxs : ∀ x ∈ xs, Lim x.length) (hxl : Lim xs.length) :
    Calls Tryz.prog 84 #[.agg #[tv], .slice a xs.length c] w (ArgsPost t xs w) := by
  have hxl' := hxl.le
  have hta : t.args.length ≤ 15 := by have := atomsT_mk t; have := length_le_atomsTs t.args; omega
  have ht' := ht
  rw [encS_eq] at ht'
  obtain ⟨ka, kc, e, _, _, hka⟩ := Rep_sl1_open ht'
  subst e
  have H := Lib.hid (And.intro hka (And.intro hx (And.intro hxs h15))); clear hka hx hxs hxl ht ht'
  by_cases hlen : xs.length = t.args.length
  rotate_left
  · have hd : ((xs.length : Int) != (t.args.length : Int)) = true := by rw [bne_iff_ne]; omega
    have HL := Lib.hid hlen; clear hlen
    go_enter Tryz.func84, Tryz.ntmps84
    go_wp2_with fail
    go_ret2
    unfold ArgsPost
    rw [decide_eq_false HL.out]
    exact ⟨_, _, _, rfl, ((Below.refl _ _).alloc (Nat.le_refl _) _).alloc (by simp) _, fun bs h => absurd h HL.out⟩
  have hd : ((xs.length : Int) != (t.args.length : Int)) = false := by rw [hlen]; simp
  have HL := Lib.hid hlen; clear hlen
  have hcell0 : ((w.alloc (.cells #[.slice ka t.args.length kc] 46)).alloc (.cells #[] 51)).cell? ⟨w.heap.size, 0, none⟩ = some (.slice ka t.args.length kc) := by simp
  have hbA : Below w.heap.size w ((w.alloc (.cells #[.slice ka t.args.length kc] 46)).alloc (.cells #[] 51)) := ((Below.refl _ _).alloc (Nat.le_refl _) _).alloc (by simp) _
  have hO0 : Own ((w.alloc (.cells #[.slice ka t.args.length kc] 46)).alloc (.cells #[] 51)) 51 4 (.slice (some ⟨w.heap.size + 1, 0, none⟩) 0 0) 0 [] := Own.litAt #[] 0 _ (by simp) (by decide) rfl
  have HA := Lib.hid (And.intro hcell0 (And.intro hbA hO0)); clear hcell0 hbA hO0
  go_enter Tryz.func84, Tryz.ntmps84
  go_wp2_with fail
  go_loopw [6, 7] (fun l i wr => ∃ (k : Nat) (a' : Option Addr) (c' : Nat) (us : List Value) (bs : List Bd), k ≤ xs.length ∧ i = .int .i64 k ∧ l = .slice a' k c' ∧ Own wr 51 4 (.slice a' k c') k us ∧ Reps (fun i => w.heap.size ≤ i ∧ (Value.slice a' k c').ownBlock ≠ some i) wr (encNs bs) us ∧ bs.length = k ∧ readAll (t.args.take k) (xs.take k) = some bs ∧ Below w.heap.size w wr ∧
      (∀ g, (Value.slice a' k c').ownBlock = some g → w.heap.size + 1 ≤ g) ∧ wr.cell? ⟨w.heap.size, 0, none⟩ = some (.slice ka t.args.length kc)) (fun _ i _ => xs.length - (intOf i).toNat)
  case atStart => exact ⟨0, _, _, [], [], Nat.zero_le _, rfl, rfl, HA.out.2.2, by rw [encNs]; exact Reps_nil.2 rfl, rfl, by simp [readAll], HA.out.2.1, fun g h => by simp [Value.ownBlock] at h; omega, HA.out.1⟩
  case round =>
    obtain ⟨k, a', c', us, bs, hk, rfl, rfl, ho, hr, hbl, hrd, hb, hf, hc0⟩ := hrel
    have HO := Lib.hid (And.intro ho (And.intro hr (And.intro hrd (And.intro hf (And.intro hb hbl))))); clear ho hr hrd hf hb hbl
    by_cases hlt : k < xs.length
    · obtain ⟨x, hkx⟩ : ∃ x, xs[k]? = some x := ⟨xs[k], by simp [hlt]⟩
      obtain ⟨bs1, os1, es1, hcs1⟩ := H.out.2.1.below HO.out.2.2.2.2.1 k x hkx
      subst es1
      have hlx := H.out.2.2.1 x (List.mem_of_getElem? hkx)
      have hkt : k < t.args.length := by have := HL.out; omega
      obtain ⟨bk, ok, uk, dk, eka, _, hbk, hdk, hck2, hrk⟩ := H.out.1 k hkt
      subst eka
      rw [encSs_at, Option.map_eq_some_iff] at hdk
      obtain ⟨tk, htk, rfl⟩ := hdk
      obtain ⟨ua, uc, e⟩ := encS_slice hrk
      subst e
      have hck3 : wr.cell? ⟨bk, ok + k, none⟩ = some (.slice ua tk.args.length uc) := by rw [HO.out.2.2.2.2.1.cell hbk]; exact hck2
      have hrk3 := Rep.below (F' := fun _ => True) HO.out.2.2.2.2.1 (fun _ _ => trivial) hrk
      have h15k : atomsT tk ≤ 15 := by have := H.out.2.2.2; have hm := atomsT_mk t; have := mem_atomsTs (List.mem_of_getElem? htk); omega
      have hkt' : (k : Int) < (t.args.length : Int) := by omega
      have hlt' : (k : Int) < (xs.length : Int) := by omega
      obtain ⟨X, hX⟩ : ∃ X, X = textT tk := ⟨_, rfl⟩
      have hXl : Lim X.length := by rw [hX]; have := textT_length 15 tk h15k; show _ ≤ _; omega
      have C1 := Lib.hid (fun wz (hz : Rep (fun _ => True) wz (encS tk) (.slice ua tk.args.length uc)) => l1Text_any 15 tk h15k (by omega) _ wz _ hz)
      rw [← hX] at C1
      have R0 := Lib.hid hrk3.drew
      have R1 := Lib.hid (fun o => (hrk3.alloc o).drew)
      have R2 := Lib.hid (fun o o' => ((hrk3.alloc o).alloc o').drew)
      have C2 := Lib.hid (fun wz => l3Strategy_any X x hXl hlx wz)
      have HS := Lib.hid (And.intro hkx (And.intro htk (And.intro hX h15k))); clear hkx htk hX h15k hck2 hrk hrk3 hXl hlx
      have hkb : bk < wr.heap.size := World.block_lt_of_cell? wr _ hck3
      have hsb : bs1 < wr.heap.size := World.block_lt_of_cell? wr _ hcs1
      have h0b : w.heap.size < wr.heap.size := World.block_lt_of_cell? wr _ hc0
      go_upto_region 7 with (fail)
      go_cut [9, 10] (fun s9 s10 wx => ArgCut wr X x s9 s10 wx)
      case first =>
        have nk0 : ¬ wr.heap.size ≤ w.heap.size := by omega
        have nk1 : ¬ wr.heap.size ≤ bk := by omega
        have nk2 : ¬ wr.heap.size ≤ bs1 := by omega
        go_region_held3 (fun w' => w'.cell? ⟨w.heap.size, 0, none⟩ = some (.slice (some ⟨bk, ok, none⟩) t.args.length kc) ∧ w'.cell? ⟨bk, ok + k, none⟩ = some (.slice ua tk.args.length uc) ∧ w'.cell? ⟨bs1, os1 + k, none⟩ = some (str x))
          (first
            | (refine cells3 (m := fun i => wr.heap.size ≤ i) ?_ hc0 hck3 hcs1 nk0 nk1 nk2; (repeat' (first | with_reducible exact But.ofBelow HW2.out | with_reducible refine But.alloc ?_ _ | with_reducible refine But.drew ?_ | with_reducible refine But.setCell ?_ (.inr ?_) _)); all_goals ((try dsimp only); omega))
            | (refine cells3 (m := fun i => wr.heap.size ≤ i) ?_ hc0 hck3 hcs1 nk0 nk1 nk2; (repeat' (first | with_reducible exact But.ofBelow HW1.out | with_reducible refine But.alloc ?_ _ | with_reducible refine But.drew ?_ | with_reducible refine But.setCell ?_ (.inr ?_) _)); all_goals ((try dsimp only); omega))
            | (refine cells3 (m := fun i => wr.heap.size ≤ i) ?_ hc0 hck3 hcs1 nk0 nk1 nk2; (repeat' (first | with_reducible exact (But.refl (fun i => wr.heap.size ≤ i) wr) | with_reducible refine But.alloc ?_ _ | with_reducible refine But.drew ?_ | with_reducible refine But.setCell ?_ (.inr ?_) _)); all_goals ((try dsimp only); omega))
            | go_keep)
          (first
            | (go_at_call 31; have _t0 := E8a; have _t1 := E9b; (with_reducible refine (C2.out w1).mono ?_); rintro en w2 ⟨sa, sc, s', v', a2, n2, c2, a3, n3, c3, rfl, hb2, hrt, hrs⟩; have F8 : w2.heap[wr.heap.size]? = some (.cells #[.slice none 0 0] 46 (0, 0)) := keepB hb2 E8a.out; have F9 : w2.heap[(wr.heap.size + 1)]? = some (.cells #[str [], .int .i64 0, .slice none 0 0, .slice none 0 0] 51 (0, 0)) := keepB hb2 E9b.out; have HW2 := Lib.hid ((HW1.out).trans (hb2.mono (HW1.out).size)); have z2 := hb2.size; (try rw [size_alloc] at z2); (try rw [size_alloc] at z2); have q0 := lt_of_heap E8a.out; have q1 := lt_of_heap E9b.out; have ne1 : ¬ wr.heap.size = (wr.heap.size + 1) := (by omega); have ne2 : ¬ (wr.heap.size + 1) = wr.heap.size := (by omega); obtain ⟨x80, y80, l8⟩ := cell1_of F8; have F8 := Lib.hid F8; obtain ⟨x90, x91, x92, x93, y90, y91, y92, y93, l9⟩ := cell4_of F9; have F9 := Lib.hid F9; have HB2 := Lib.hid (And.intro hb2 hrs); clear hb2 hrs hrt)
            | (go_at_call 31; have _t0 := E9a; have _t1 := E8b; (with_reducible refine (C2.out w1).mono ?_); rintro en w2 ⟨sa, sc, s', v', a2, n2, c2, a3, n3, c3, rfl, hb2, hrt, hrs⟩; have F9 : w2.heap[wr.heap.size]? = some (.cells #[str [], .int .i64 0, .slice none 0 0, .slice none 0 0] 51 (0, 0)) := keepB hb2 E9a.out; have F8 : w2.heap[(wr.heap.size + 1)]? = some (.cells #[.slice none 0 0] 46 (0, 0)) := keepB hb2 E8b.out; have HW2 := Lib.hid ((HW1.out).trans (hb2.mono (HW1.out).size)); have z2 := hb2.size; (try rw [size_alloc] at z2); (try rw [size_alloc] at z2); have q0 := lt_of_heap E9a.out; have q1 := lt_of_heap E8b.out; have ne1 : ¬ (wr.heap.size + 1) = wr.heap.size := (by omega); have ne2 : ¬ wr.heap.size = (wr.heap.size + 1) := (by omega); obtain ⟨x80, y80, l8⟩ := cell1_of F8; have F8 := Lib.hid F8; obtain ⟨x90, x91, x92, x93, y90, y91, y92, y93, l9⟩ := cell4_of F9; have F9 := Lib.hid F9; have HB2 := Lib.hid (And.intro hb2 hrs); clear hb2 hrs hrt)
            | (go_at_call 31; have _t0 := E8a; (with_reducible refine (C2.out w1).mono ?_); rintro en w2 ⟨sa, sc, s', v', a2, n2, c2, a3, n3, c3, rfl, hb2, hrt, hrs⟩; have F8 : w2.heap[wr.heap.size]? = some (.cells #[.slice none 0 0] 46 (0, 0)) := keepB hb2 E8a.out; have HW2 := Lib.hid ((HW1.out).trans (hb2.mono (HW1.out).size)); have z2 := hb2.size; (try rw [size_alloc] at z2); (try rw [size_alloc] at z2); have q0 := lt_of_heap E8a.out; obtain ⟨x80, y80, l8⟩ := cell1_of F8; have F8 := Lib.hid F8; have HB2 := Lib.hid (And.intro hb2 hrs); clear hb2 hrs hrt)
            | (go_at_call 31; have _t0 := E8a; (with_reducible refine (C2.out (w1.alloc (.cells #[str [], .int .i64 0, .slice none 0 0, .slice none 0 0] 51))).mono ?_); rintro en w2 ⟨sa, sc, s', v', a2, n2, c2, a3, n3, c3, rfl, hb2, hrt, hrs⟩; have F8 : w2.heap[wr.heap.size]? = some (.cells #[.slice none 0 0] 46 (0, 0)) := keepB hb2 (heap_past E8a.out); have F9 : w2.heap[w1.heap.size]? = some (.cells #[str [], .int .i64 0, .slice none 0 0, .slice none 0 0] 51 (0, 0)) := early1n hb2; have HW2 := Lib.hid ((HW1.out.alloc HW1.out.size _).trans (hb2.mono (HW1.out.alloc HW1.out.size _).size)); have z2 := hb2.size; (try rw [size_alloc] at z2); (try rw [size_alloc] at z2); have q0 := lt_of_heap E8a.out; have ne1 : ¬ wr.heap.size = w1.heap.size := (by omega); have ne2 : ¬ w1.heap.size = wr.heap.size := (by omega); obtain ⟨x80, y80, l8⟩ := cell1_of F8; have F8 := Lib.hid F8; obtain ⟨x90, x91, x92, x93, y90, y91, y92, y93, l9⟩ := cell4_of F9; have F9 := Lib.hid F9; have HB2 := Lib.hid (And.intro hb2 hrs); clear hb2 hrs hrt)
            | (go_at_call 31; have _t0 := E9a; (with_reducible refine (C2.out w1).mono ?_); rintro en w2 ⟨sa, sc, s', v', a2, n2, c2, a3, n3, c3, rfl, hb2, hrt, hrs⟩; have F9 : w2.heap[wr.heap.size]? = some (.cells #[str [], .int .i64 0, .slice none 0 0, .slice none 0 0] 51 (0, 0)) := keepB hb2 E9a.out; have HW2 := Lib.hid ((HW1.out).trans (hb2.mono (HW1.out).size)); have z2 := hb2.size; (try rw [size_alloc] at z2); (try rw [size_alloc] at z2); have q0 := lt_of_heap E9a.out; obtain ⟨x90, x91, x92, x93, y90, y91, y92, y93, l9⟩ := cell4_of F9; have F9 := Lib.hid F9; have HB2 := Lib.hid (And.intro hb2 hrs); clear hb2 hrs hrt)
            | (go_at_call 31; have _t0 := E9a; (with_reducible refine (C2.out (w1.alloc (.cells #[.slice none 0 0] 46))).mono ?_); rintro en w2 ⟨sa, sc, s', v', a2, n2, c2, a3, n3, c3, rfl, hb2, hrt, hrs⟩; have F9 : w2.heap[wr.heap.size]? = some (.cells #[str [], .int .i64 0, .slice none 0 0, .slice none 0 0] 51 (0, 0)) := keepB hb2 (heap_past E9a.out); have F8 : w2.heap[w1.heap.size]? = some (.cells #[.slice none 0 0] 46 (0, 0)) := early1n hb2; have HW2 := Lib.hid ((HW1.out.alloc HW1.out.size _).trans (hb2.mono (HW1.out.alloc HW1.out.size _).size)); have z2 := hb2.size; (try rw [size_alloc] at z2); (try rw [size_alloc] at z2); have q0 := lt_of_heap E9a.out; have ne1 : ¬ w1.heap.size = wr.heap.size := (by omega); have ne2 : ¬ wr.heap.size = w1.heap.size := (by omega); obtain ⟨x80, y80, l8⟩ := cell1_of F8; have F8 := Lib.hid F8; obtain ⟨x90, x91, x92, x93, y90, y91, y92, y93, l9⟩ := cell4_of F9; have F9 := Lib.hid F9; have HB2 := Lib.hid (And.intro hb2 hrs); clear hb2 hrs hrt)
            | (go_at_call 31; (with_reducible refine (C2.out w1).mono ?_); rintro en w2 ⟨sa, sc, s', v', a2, n2, c2, a3, n3, c3, rfl, hb2, hrt, hrs⟩; have HW2 := Lib.hid ((HW1.out).trans (hb2.mono (HW1.out).size)); have z2 := hb2.size; (try rw [size_alloc] at z2); (try rw [size_alloc] at z2); have HB2 := Lib.hid (And.intro hb2 hrs); clear hb2 hrs hrt)
            | (go_at_call 31; (with_reducible refine (C2.out (w1.alloc (.cells #[.slice none 0 0] 46))).mono ?_); rintro en w2 ⟨sa, sc, s', v', a2, n2, c2, a3, n3, c3, rfl, hb2, hrt, hrs⟩; have F8 : w2.heap[w1.heap.size]? = some (.cells #[.slice none 0 0] 46 (0, 0)) := early1n hb2; have HW2 := Lib.hid ((HW1.out.alloc HW1.out.size _).trans (hb2.mono (HW1.out.alloc HW1.out.size _).size)); have z2 := hb2.size; (try rw [size_alloc] at z2); (try rw [size_alloc] at z2); obtain ⟨x80, y80, l8⟩ := cell1_of F8; have F8 := Lib.hid F8; have HB2 := Lib.hid (And.intro hb2 hrs); clear hb2 hrs hrt)
            | (go_at_call 31; (with_reducible refine (C2.out (w1.alloc (.cells #[str [], .int .i64 0, .slice none 0 0, .slice none 0 0] 51))).mono ?_); rintro en w2 ⟨sa, sc, s', v', a2, n2, c2, a3, n3, c3, rfl, hb2, hrt, hrs⟩; have F9 : w2.heap[w1.heap.size]? = some (.cells #[str [], .int .i64 0, .slice none 0 0, .slice none 0 0] 51 (0, 0)) := early1n hb2; have HW2 := Lib.hid ((HW1.out.alloc HW1.out.size _).trans (hb2.mono (HW1.out.alloc HW1.out.size _).size)); have z2 := hb2.size; (try rw [size_alloc] at z2); (try rw [size_alloc] at z2); obtain ⟨x90, x91, x92, x93, y90, y91, y92, y93, l9⟩ := cell4_of F9; have F9 := Lib.hid F9; have HB2 := Lib.hid (And.intro hb2 hrs); clear hb2 hrs hrt)
            | (go_at_call 31; (with_reducible refine (C2.out ((w1.alloc (.cells #[.slice none 0 0] 46)).alloc (.cells #[str [], .int .i64 0, .slice none 0 0, .slice none 0 0] 51))).mono ?_); rintro en w2 ⟨sa, sc, s', v', a2, n2, c2, a3, n3, c3, rfl, hb2, hrt, hrs⟩; have F8 : w2.heap[w1.heap.size]? = some (.cells #[.slice none 0 0] 46 (0, 0)) := (early2n hb2).1; have F9 : w2.heap[(w1.heap.size + 1)]? = some (.cells #[str [], .int .i64 0, .slice none 0 0, .slice none 0 0] 51 (0, 0)) := (early2n hb2).2; have HW2 := Lib.hid (((HW1.out.alloc HW1.out.size _).alloc (HW1.out.alloc HW1.out.size _).size _).trans (hb2.mono ((HW1.out.alloc HW1.out.size _).alloc (HW1.out.alloc HW1.out.size _).size _).size)); have z2 := hb2.size; (try rw [size_alloc] at z2); (try rw [size_alloc] at z2); have ne1 : ¬ w1.heap.size = (w1.heap.size + 1) := (by omega); have ne2 : ¬ (w1.heap.size + 1) = w1.heap.size := (by omega); obtain ⟨x80, y80, l8⟩ := cell1_of F8; have F8 := Lib.hid F8; obtain ⟨x90, x91, x92, x93, y90, y91, y92, y93, l9⟩ := cell4_of F9; have F9 := Lib.hid F9; have HB2 := Lib.hid (And.intro hb2 hrs); clear hb2 hrs hrt)
            | (go_at_call 31; (with_reducible refine (C2.out ((w1.alloc (.cells #[str [], .int .i64 0, .slice none 0 0, .slice none 0 0] 51)).alloc (.cells #[.slice none 0 0] 46))).mono ?_); rintro en w2 ⟨sa, sc, s', v', a2, n2, c2, a3, n3, c3, rfl, hb2, hrt, hrs⟩; have F9 : w2.heap[w1.heap.size]? = some (.cells #[str [], .int .i64 0, .slice none 0 0, .slice none 0 0] 51 (0, 0)) := (early2n hb2).1; have F8 : w2.heap[(w1.heap.size + 1)]? = some (.cells #[.slice none 0 0] 46 (0, 0)) := (early2n hb2).2; have HW2 := Lib.hid (((HW1.out.alloc HW1.out.size _).alloc (HW1.out.alloc HW1.out.size _).size _).trans (hb2.mono ((HW1.out.alloc HW1.out.size _).alloc (HW1.out.alloc HW1.out.size _).size _).size)); have z2 := hb2.size; (try rw [size_alloc] at z2); (try rw [size_alloc] at z2); have ne1 : ¬ (w1.heap.size + 1) = w1.heap.size := (by omega); have ne2 : ¬ w1.heap.size = (w1.heap.size + 1) := (by omega); obtain ⟨x80, y80, l8⟩ := cell1_of F8; have F8 := Lib.hid F8; obtain ⟨x90, x91, x92, x93, y90, y91, y92, y93, l9⟩ := cell4_of F9; have F9 := Lib.hid F9; have HB2 := Lib.hid (And.intro hb2 hrs); clear hb2 hrs hrt)
            | (go_at_call 55; (with_reducible refine (C1.out wr.drew (R0.out)).mono ?_); rintro en w1 ⟨rfl, hb1⟩; have HW1 := Lib.hid (below_ud hb1); have z1 := HW1.out.size; have HB1 := Lib.hid hb1; clear hb1)
            | (go_at_call 55; (with_reducible refine (C1.out (wr.alloc (.cells #[.slice none 0 0] 46)).drew (R1.out _)).mono ?_); rintro en w1 ⟨rfl, hb1⟩; have E8a : w1.heap[wr.heap.size]? = some (.cells #[.slice none 0 0] 46 (0, 0)) := early1 hb1; have E8a := Lib.hid E8a; have HW1 := Lib.hid (below_ad hb1); have z1 := HW1.out.size; have HB1 := Lib.hid hb1; clear hb1)
            | (go_at_call 55; (with_reducible refine (C1.out (wr.alloc (.cells #[str [], .int .i64 0, .slice none 0 0, .slice none 0 0] 51)).drew (R1.out _)).mono ?_); rintro en w1 ⟨rfl, hb1⟩; have E9a : w1.heap[wr.heap.size]? = some (.cells #[str [], .int .i64 0, .slice none 0 0, .slice none 0 0] 51 (0, 0)) := early1 hb1; have E9a := Lib.hid E9a; have HW1 := Lib.hid (below_ad hb1); have z1 := HW1.out.size; have HB1 := Lib.hid hb1; clear hb1)
            | (go_at_call 55; (with_reducible refine (C1.out ((wr.alloc (.cells #[.slice none 0 0] 46)).alloc (.cells #[str [], .int .i64 0, .slice none 0 0, .slice none 0 0] 51)).drew (R2.out _ _)).mono ?_); rintro en w1 ⟨rfl, hb1⟩; have E8a : w1.heap[wr.heap.size]? = some (.cells #[.slice none 0 0] 46 (0, 0)) := (early2 hb1).1; have E9b : w1.heap[(wr.heap.size + 1)]? = some (.cells #[str [], .int .i64 0, .slice none 0 0, .slice none 0 0] 51 (0, 0)) := (early2 hb1).2; have E8a := Lib.hid E8a; have E9b := Lib.hid E9b; have HW1 := Lib.hid (below_ad2 hb1); have z1 := HW1.out.size; have HB1 := Lib.hid hb1; clear hb1)
            | (go_at_call 55; (with_reducible refine (C1.out ((wr.alloc (.cells #[str [], .int .i64 0, .slice none 0 0, .slice none 0 0] 51)).alloc (.cells #[.slice none 0 0] 46)).drew (R2.out _ _)).mono ?_); rintro en w1 ⟨rfl, hb1⟩; have E9a : w1.heap[wr.heap.size]? = some (.cells #[str [], .int .i64 0, .slice none 0 0, .slice none 0 0] 51 (0, 0)) := (early2 hb1).1; have E8b : w1.heap[(wr.heap.size + 1)]? = some (.cells #[.slice none 0 0] 46 (0, 0)) := (early2 hb1).2; have E9a := Lib.hid E9a; have E8b := Lib.hid E8b; have HW1 := Lib.hid (below_ad2 hb1); have z1 := HW1.out.size; have HB1 := Lib.hid hb1; clear hb1))
        all_goals (go_wp2_with fail; go_meet)
        all_goals
          have hHB2 := HB2.out.2
          refine ⟨_, s', v', a2, n2, c2, a3, n3, c3, rfl, rfl, ?_, ?_, ?_, fun b hb => ?_⟩
          · omega
          · first
              | with_reducible exact box4_at F9.out _ _ _ _
              | with_reducible exact heap_past (box4_at F9.out _ _ _ _)
              | with_reducible exact box4_at (heap_ne F9.out ne1) _ _ _ _
              | with_reducible exact box4_at (heap_ne F9.out ne2) _ _ _ _
              | ((with_reducible refine heap_newE ?_); first | with_reducible exact Eq.refl w2.heap.size | with_reducible exact sizeS _ _ _ | with_reducible exact sizeA _ _)
              | ((with_reducible refine heap_past (heap_newE ?_)); with_reducible exact Eq.refl w2.heap.size)
          · refine But.toBelow (m := fun i => wr.heap.size ≤ i) ?_ (Nat.le_refl _) (fun i hi h => by omega)
            (repeat' (first | with_reducible exact But.ofBelow HW2.out | with_reducible refine But.alloc ?_ _ | with_reducible refine But.drew ?_ | with_reducible refine But.setCell ?_ (.inr ?_) _)); all_goals ((try dsimp only); omega)
          · have hrb := hHB2 b hb
            refine (Rep.keep fun i o hi ho => ?_).2 _ _ hrb
            have hlt := lt_of_heap ho
            replace hi : _ ≤ i := hi
            (try rw [size_alloc] at hi)
            (try rw [size_alloc] at hi)
            refine ⟨⟨by omega, by omega⟩, ?_⟩
            (repeat' (first | with_reducible exact ho | with_reducible refine heap_past ?_ | with_reducible refine heap_ne ?_ ?_))
            all_goals omega
      case rest =>
        rename World => wx
        obtain ⟨g, s', v', a2, n2, c2, a3, n3, c3, rfl, rfl, hgr, hgb, hbx, hrx⟩ := hcut
        have hSQ : specStrat X x = rdStrat tk x := by rw [rdStrat_text HS.out.2.2.2, HS.out.2.2.1]
        have hstep : readAll (t.args.take (k + 1)) (xs.take (k + 1)) = (rdStrat tk x).map fun b => bs ++ [b] := by
          have h1 : t.args.take (k + 1) = t.args.take k ++ [tk] := by rw [List.take_add_one, HS.out.2.1]; rfl
          have h2 : xs.take (k + 1) = xs.take k ++ [x] := by rw [List.take_add_one, HS.out.1]; rfl
          rw [h1, h2, readAll_snoc _ _ _ _ (by rw [List.length_take, List.length_take]; omega), HO.out.2.2.1]; rfl
        rw [← hSQ] at hstep
        have HST := Lib.hid hstep; clear hstep hSQ
        have hzx := hbx.size
        have g0 : wx.cell? ⟨g, 0, none⟩ = some (str s') := by simp [World.cell?, hgb]
        have g1 : wx.cell? ⟨g, 1, none⟩ = some (.int .i64 v') := by simp [World.cell?, hgb]
        have g2 : wx.cell? ⟨g, 2, none⟩ = some (.slice a2 n2 c2) := by simp [World.cell?, hgb]
        have g3 : wx.cell? ⟨g, 3, none⟩ = some (.slice a3 n3 c3) := by simp [World.cell?, hgb]
        have hcx : wx.cell? ⟨w.heap.size, 0, none⟩ = some (.slice (some ⟨bk, ok, none⟩) t.args.length kc) := (hbx.cell (p := ⟨w.heap.size, 0, none⟩) h0b).trans hc0
        have HBX := Lib.hid (And.intro hbx (And.intro hgb hrx)); clear hbx hgb hrx C1 C2 R0 R1 R2 hc0 hck3 hcs1
        cases hq : specStrat X x with
        | none =>
          have hR : readAll t.args xs = none := readAll_none _ _ (k + 1) (by rw [HST.out, hq]; rfl)
          have HR := Lib.hid hR; clear hR hq
          simp only [Option.isSome_none]
          go_wp2_with fail
          go_ret2
          unfold ArgsPost
          rw [HR.out, Option.isSome_none, Bool.and_false]
          exact ⟨_, _, _, rfl, HO.out.2.2.2.2.1.trans (HBX.out.1.mono HO.out.2.2.2.2.1.size), fun bs' _ h => by simp at h⟩
        | some b =>
          have HB := Lib.hid (And.intro hq (HBX.out.2.2 b hq)); clear hq
          simp only [Option.isSome_some]
          go_wp2_with (at_builtin; refine wpList_append_gen rfl _ _ 49 rfl 51 (.agg #[str [], .int .i64 0, .slice none 0 0, .slice none 0 0]) 4 72 Tryz.underlying49 Tryz.infoN rfl (by decide) (.slice a' k c') k us rfl ?c1 _ 1 [str s', .int .i64 v', .slice a2 n2 c2, .slice a3 n3 c3] rfl ?c2 ?c3 ?c4 ?_)
          case c1 => exact (HO.out.1.keep fun g o _ ho => by rw [HBX.out.1.block g (lt_of_heap ho)]; exact ho).alloc _
          case c2 => exact SrcSl.lit4 #[str s', .int .i64 v', .slice a2 n2 c2, .slice a3 n3 c3] rfl (by simp [str, Value.oneCell']) _ (by simp)
          case c3 => unfold maxLen; omega
          case c4 => omega
          intro a7 c7 w7 ho7 hb7 hg7
          have hz1r := HO.out.2.2.2.2.1.size
          have hrow : ∀ i, (Value.slice a' k c').ownBlock = some i → i < wr.heap.size := fun i hi => HO.out.1.lt hi
          have hb17 : Below w.heap.size w w7 := by
            have h1 : Below w.heap.size w wx := HO.out.2.2.2.2.1.trans (HBX.out.1.mono hz1r)
            refine (h1.alloc h1.size _).trans (hb7.toBelow (by rw [size_alloc]; have := h1.size; omega) fun i hi e => ?_)
            have := HO.out.2.2.2.1 i e; omega
          have hg7' : ∀ i, (Value.slice a7 (k + 1) c7).ownBlock = some i → (Value.slice a' k c').ownBlock = some i ∨ i = wx.heap.size + 1 := by
            intro i hi
            rcases hg7 i hi with h | h
            · exact .inl h
            · exact .inr (by simpa using h)
          have keep7 : ∀ (i : Nat) (o : Obj), (Value.slice a' k c').ownBlock ≠ some i → wx.heap[i]? = some o → w7.heap[i]? = some o := by
            intro i o hf ho
            rw [hb7.block i (by rw [size_alloc]; have := lt_of_heap ho; omega) hf]; exact heap_past ho
          have hr7 : Reps (fun i => w.heap.size ≤ i ∧ (Value.slice a7 (k + 1) c7).ownBlock ≠ some i) w7 (encNs (bs ++ [b])) (us ++ [str s', .int .i64 v', .slice a2 n2 c2, .slice a3 n3 c3]) := by
            rw [encNs_snoc]
            refine Reps.append ?_ ?_
            · exact (Rep.keep fun i o hf ho => ⟨⟨hf.1, fun e => by
                have := lt_of_heap ho
                rcases hg7' i e with h | h
                · exact hf.2 h
                · omega⟩, keep7 i o hf.2 (by rw [HBX.out.1.block i (lt_of_heap ho)]; exact ho)⟩).2 _ _ HO.out.2.1
            · exact (Rep.keep fun i o hf ho => ⟨⟨by have := hf.1; omega, fun e => by
                have := lt_of_heap ho
                rcases hg7' i e with h | h
                · have := hrow i h; have := hf.1; omega
                · omega⟩, keep7 i o (fun e => by have := hrow i e; have := hf.1; omega) ho⟩).2 _ _ HB.out.2
          have hf7 : ∀ i, (Value.slice a7 (k + 1) c7).ownBlock = some i → w.heap.size + 1 ≤ i := by
            intro i hi
            rcases hg7' i hi with h | h
            · exact HO.out.2.2.2.1 i h
            · omega
          have hrd7 : readAll (t.args.take (k + 1)) (xs.take (k + 1)) = some (bs ++ [b]) := by rw [HST.out, HB.out.1]; rfl
          have hbl7 : (bs ++ [b]).length = k + 1 := by rw [List.length_append, HO.out.2.2.2.2.2]; rfl
          have hc7 : w7.cell? ⟨w.heap.size, 0, none⟩ = some (.slice (some ⟨bk, ok, none⟩) t.args.length kc) := by
            rw [hb7.cell (p := ⟨w.heap.size, 0, none⟩) (by rw [size_alloc]; show w.heap.size < _; omega) (fun e => by have h5 : w.heap.size + 1 ≤ w.heap.size := HO.out.2.2.2.1 _ e; omega)]
            exact cell_alloc hcx
          have H7 := Lib.hid (And.intro ho7 (And.intro hr7 (And.intro hbl7 (And.intro hrd7 (And.intro hb17 (And.intro hf7 hc7)))))); clear ho7 hr7 hbl7 hrd7 hb17 hf7 hc7 hb7 hg7 hg7' keep7 hcx g0 g1 g2 g3
          go_wp2_with fail
          go_roundw
          case rel => exact ⟨k + 1, a7, c7, _, _, by omega, by go_num, rfl, H7.out.1, H7.out.2.1, H7.out.2.2.1, H7.out.2.2.2.1, H7.out.2.2.2.2.1, H7.out.2.2.2.2.2.1, H7.out.2.2.2.2.2.2⟩
          case measure => simp [intOf]; omega
    · obtain rfl : k = xs.length := by omega
      have hnlt : ¬ (xs.length : Int) < (xs.length : Int) := by omega
      have hrd := HO.out.2.2.1
      rw [List.take_of_length_le (by rw [HL.out]; exact Nat.le_refl _), List.take_length] at hrd
      have HRD := Lib.hid hrd; clear hrd hc0
      go_wp2_with fail
      go_ret2
      unfold ArgsPost
      rw [decide_eq_true HL.out, HRD.out]
      refine ⟨_, _, _, rfl, HO.out.2.2.2.2.1, fun bs' _ h => ?_⟩
      simp only [Option.some.injEq] at h
      subst h
      refine ⟨HO.out.2.2.2.2.2.symm, ?_⟩
      rw [HO.out.2.2.2.2.2]
      exact HO.out.1.rep (fun i hi => by have := HO.out.2.2.2.1 i hi; omega) ((Rep.keep fun _ _ hf ho => ⟨hf.1, ho⟩).2 _ _ HO.out.2.1)

end Go.Proofs.YtibnnbdpfkgfhaaGreatDoor

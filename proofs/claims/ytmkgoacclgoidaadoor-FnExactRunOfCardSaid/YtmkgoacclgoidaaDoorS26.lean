/- The walks of the reference's runner's small parts while a play is kept: l4Make, l4Path; RunOf, both sides. -/
import Derived.Test.YtmkgoacclgoidaaDoorS24
import Derived.Test.YtmkgoacclgoidaaDoorS25
import Derived.Test.YtmkgoacclgoidaaDoorT2
namespace Go.Proofs.YtmkgoacclgoidaaDoor
open Go.RowKit

/-- The runner's block while a play is kept. -/
def RnK (w : World) (ra : Nat) (mv pt : Value) (moves most : Nat) (bad : Bool) : Prop := w.heap[ra]? = some (.cells #[mv, pt, .int .i64 (moves : Nat), .int .i64 (most : Nat), .bool true, .bool bad] 48 (0, 0))
theorem RnK.cells {w : World} {ra : Nat} {mv pt : Value} {moves most : Nat} {bad : Bool} (h : RnK w ra mv pt moves most bad) : w.cell? ⟨ra, 0, none⟩ = some mv ∧ w.cell? ⟨ra, 1, none⟩ = some pt ∧ w.cell? ⟨ra, 2, none⟩ = some (.int .i64 (moves : Nat)) ∧ w.cell? ⟨ra, 3, none⟩ = some (.int .i64 (most : Nat)) ∧ w.cell? ⟨ra, 4, none⟩ = some (.bool true) ∧ w.cell? ⟨ra, 5, none⟩ = some (.bool bad) ∧
    w.frozen? ⟨ra, 0, none⟩ = false ∧ w.frozen? ⟨ra, 1, none⟩ = false ∧ w.frozen? ⟨ra, 2, none⟩ = false ∧ w.frozen? ⟨ra, 5, none⟩ = false := by
  unfold RnK at h
  exact ⟨by simp [World.cell?, h], by simp [World.cell?, h], by simp [World.cell?, h], by simp [World.cell?, h], by simp [World.cell?, h], by simp [World.cell?, h], by simp [World.frozen?, h], by simp [World.frozen?, h], by simp [World.frozen?, h], by simp [World.frozen?, h]⟩

/-- A move too many. -/
theorem make_bad (ra : Nat) (mv pt : Value) (moves most : Nat) (s : Bs) (p : Int) (w : World) (h : RnK w ra mv pt moves most false) (hm : moves ≤ 16777216) (hbig : most < moves + 1) :
    Calls Tryd.prog 44 #[.pointer (some ⟨ra, 0, none⟩), str s, .int .i64 p] w fun en w' => en = .returned (.int .i64 (moves : Nat)) ∧ But (· = ra) w w' ∧ RnK w' ra mv pt (moves + 1) most true := by
  obtain ⟨c0, c1, c2, c3, c4, c5, f0, f1, f2, f5⟩ := h.cells
  obtain ⟨W, hW⟩ : ∃ W, w.setCell ⟨ra, 2, none⟩ (.int .i64 ((moves : Int) + 1)) = W := ⟨_, rfl⟩
  have hput : RnK W ra mv pt (moves + 1) most false := by rw [← hW]; unfold RnK; rw [setc_at h]; rfl
  have hbut : But (· = ra) w W := by rw [← hW]; exact But.setCell (m := (· = ra)) (p := ⟨ra, 2, none⟩) (But.refl _ _) (.inl rfl) _
  obtain ⟨d0, d1, d2, d3, d4, d5, g0, g1, g2, g5⟩ := hput.cells
  have d2' : W.cell? ⟨ra, 2, none⟩ = some (.int .i64 ((moves : Int) + 1)) := d2
  have HW := Lib.hid hW; have HP := Lib.hid hput; have HB := Lib.hid hbut
  clear h hput hbut hW d2
  have hd : (most : Int) < (moves : Int) + 1 := by omega
  have HD := Lib.hid hbig; clear hbig
  go_enter Tryd.func44, Tryd.ntmps44
  go_upto_region 2 with (fail)
  rw [HW.out]
  clear c0 c1 c2 c3 c4 c5 f0 f1 f2 f5
  go_quiet (fail)
  have hp2 : RnK ((W.drewN nq).setCell ⟨ra, 5, none⟩ (.bool true)) ra mv pt (moves + 1) most true := by
    unfold RnK; rw [setc_at (show (W.drewN nq).heap[ra]? = _ from HP.out)]; rfl
  obtain ⟨e0, e1, e2, e3, e4, e5, _⟩ := hp2.cells
  have e2' : ((W.drewN nq).setCell ⟨ra, 5, none⟩ (.bool true)).cell? ⟨ra, 2, none⟩ = some (.int .i64 ((moves : Int) + 1)) := e2
  have g5' : (W.drewN nq).frozen? ⟨ra, 5, none⟩ = false := g5
  have d5' : (W.drewN nq).cell? ⟨ra, 5, none⟩ = some (.bool false) := d5
  have HP2 := Lib.hid hp2; clear hp2 e2
  go_wp2_with fail
  go_ret
  exact ⟨ret_i64 (by omega), But.setCell (m := (· = ra)) (p := ⟨ra, 5, none⟩) (HB.out.trans (c := W.drewN nq) ⟨rfl, rfl, rfl, Nat.le_refl _, fun _ _ _ => rfl⟩) (.inl rfl) _, HP2.out⟩

def MadeK (ra : Nat) (mv pt : Value) (n most : Nat) (xs ys : List Value) (s : Bs) (p : Int) (w : World) (en : Ending) (w' : World) : Prop :=
  ∃ a1 c1 a2 c2, en = .returned (.int .i64 (n : Nat)) ∧ But (· = ra) w w' ∧ RnK w' ra (.slice a1 (n + 1) c1) (.slice a2 (n + 1) c2) (n + 1) most false ∧ Own w' 9 1 (.slice a1 (n + 1) c1) (n + 1) (xs ++ [str s]) ∧ Own w' 3 1 (.slice a2 (n + 1) c2) (n + 1) (ys ++ [.int .i64 p]) ∧
    (∀ g, (Value.slice a1 (n + 1) c1).ownBlock = some g → w.heap.size ≤ g) ∧ (∀ g, (Value.slice a2 (n + 1) c2).ownBlock = some g → w.heap.size ≤ g)

set_option maxRecDepth 100000 in
set_option maxHeartbeats 2000000 in
/-- A move that is kept. -/
theorem make_kept (ra : Nat) (mv pt : Value) (n most : Nat) (xs ys : List Value) (s : Bs) (p : Int) (w : World) (h : RnK w ra mv pt n most false) (hx : Own w 9 1 mv n xs) (hy : Own w 3 1 pt n ys) (hsx : SrcSl 1 mv n xs w) (hsy : SrcSl 1 pt n ys w) (hne : ∀ g, mv.ownBlock = some g ∨ pt.ownBlock = some g → g ≠ ra) (hm : n ≤ 1000000) (hbig : ¬ most < n + 1) :
    Calls Tryd.prog 44 #[.pointer (some ⟨ra, 0, none⟩), str s, .int .i64 p] w (MadeK ra mv pt n most xs ys s p w) := by
  obtain ⟨c0, c1, c2, c3, c4, c5, f0, f1, f2, f5⟩ := h.cells
  obtain ⟨W, hW⟩ : ∃ W, w.setCell ⟨ra, 2, none⟩ (.int .i64 ((n : Int) + 1)) = W := ⟨_, rfl⟩
  have hput : RnK W ra mv pt (n + 1) most false := by rw [← hW]; unfold RnK; rw [setc_at h]; rfl
  have hbut : But (· = ra) w W := by rw [← hW]; exact But.setCell (m := (· = ra)) (p := ⟨ra, 2, none⟩) (But.refl _ _) (.inl rfl) _
  have hra := lt_of_heap h
  obtain ⟨d0, d1, d2, d3, d4, d5, g0, g1, g2, g5⟩ := hput.cells
  have d2' : W.cell? ⟨ra, 2, none⟩ = some (.int .i64 ((n : Int) + 1)) := d2
  have ksx : SrcSl 1 mv n xs W := by
    obtain ⟨h1, h2, ⟨a, c, rfl, h3⟩ | h3⟩ := hsx
    · refine ⟨h1, h2, .inl ⟨a, c, rfl, fun j u hu => ?_⟩⟩
      have h4 := h3 j u hu
      have hjn := (List.getElem?_eq_some_iff.1 hu).1
      obtain ⟨g, e, _, hg, _⟩ := hx.open1 (j := j) (by omega)
      cases e
      have hgr := hne g (.inl rfl)
      rw [hbut.cell (World.block_lt_of_cell? w _ h4) (by unfold Addr.add; split <;> exact hgr)]; exact h4
    · exact ⟨h1, h2, .inr h3⟩
  have ksy : SrcSl 1 pt n ys W := by
    obtain ⟨h1, h2, ⟨a, c, rfl, h3⟩ | h3⟩ := hsy
    · refine ⟨h1, h2, .inl ⟨a, c, rfl, fun j u hu => ?_⟩⟩
      have h4 := h3 j u hu
      have hjn := (List.getElem?_eq_some_iff.1 hu).1
      obtain ⟨g, e, _, hg, _⟩ := hy.open1 (j := j) (by omega)
      cases e
      have hgr := hne g (.inr rfl)
      rw [hbut.cell (World.block_lt_of_cell? w _ h4) (by unfold Addr.add; split <;> exact hgr)]; exact h4
    · exact ⟨h1, h2, .inr h3⟩
  have HW := Lib.hid hW; have HP := Lib.hid hput; have HB := Lib.hid hbut; have HS := Lib.hid (And.intro ksx ksy)
  clear h hput hbut hW d2 ksx ksy hx hy hsx hsy hne
  obtain ⟨am, cm, rfl⟩ := HS.out.1.slice1
  obtain ⟨ap, cp, rfl⟩ := HS.out.2.slice1
  have hd : ¬ (most : Int) < (n : Int) + 1 := by omega
  have HD := Lib.hid hbig; clear hbig
  go_enter Tryd.func44, Tryd.ntmps44
  go_upto_region 2 with (fail)
  rw [HW.out]
  clear c0 c1 c2 c3 c4 c5 f0 f1 f2 f5
  go_quiet (fail)
  have e0 : (W.drewN nq).cell? ⟨ra, 0, none⟩ = some (.slice am n cm) := d0
  have e1 : (W.drewN nq).cell? ⟨ra, 1, none⟩ = some (.slice ap n cp) := d1
  have e2 : (W.drewN nq).cell? ⟨ra, 2, none⟩ = some (.int .i64 ((n : Int) + 1)) := d2'
  have e4 : (W.drewN nq).cell? ⟨ra, 4, none⟩ = some (.bool true) := d4
  have e5 : (W.drewN nq).cell? ⟨ra, 5, none⟩ = some (.bool false) := d5
  have hS2 := Lib.hid (show SrcSl 1 (.slice am n cm) n xs (W.drewN nq) ∧ SrcSl 1 (.slice ap n cp) n ys (W.drewN nq) from ⟨HS.out.1.keep (w' := W.drewN nq) fun _ _ h => h, HS.out.2.keep (w' := W.drewN nq) fun _ _ h => h⟩)
  have hP2 := Lib.hid (show RnK (W.drewN nq) ra (.slice am n cm) (.slice ap n cp) (n + 1) most false from HP.out)
  have hB2 := Lib.hid (show But (· = ra) w (W.drewN nq) from HB.out.trans ⟨rfl, rfl, rfl, Nat.le_refl _, fun _ _ _ => rfl⟩)
  generalize W.drewN nq = V at *
  go_wp2_with fail
  (with_reducible refine (l2With_any n n (.slice am n cm) (.slice ap n cp) xs ys s p V hS2.out.1 hS2.out.2 hm hm).mono ?_)
  rintro en w2 ⟨a1, k1, a2, k2, rfl, hb2, ho1, ho2, hf1, hf2⟩
  have hP3 : RnK w2 ra (.slice am n cm) (.slice ap n cp) (n + 1) most false := by unfold RnK; rw [hb2.block ra (by have := hB2.out.size; omega)]; exact hP2.out
  obtain ⟨u0, u1, u2, u3, u4, u5, v0, v1, v2, v5⟩ := hP3.cells
  have hP4 : RnK ((w2.setCell ⟨ra, 0, none⟩ (.slice a1 (n + 1) k1)).setCell ⟨ra, 1, none⟩ (.slice a2 (n + 1) k2)) ra (.slice a1 (n + 1) k1) (.slice a2 (n + 1) k2) (n + 1) most false := by
    unfold RnK; rw [setc_at (setc_at hP3)]; rfl
  obtain ⟨x0, x1, x2, x3, x4, x5, y0, y1, y2, y5⟩ := hP4.cells
  have x2' : ((w2.setCell ⟨ra, 0, none⟩ (.slice a1 (n + 1) k1)).setCell ⟨ra, 1, none⟩ (.slice a2 (n + 1) k2)).cell? ⟨ra, 2, none⟩ = some (.int .i64 ((n : Int) + 1)) := x2
  have hbF : But (· = ra) w ((w2.setCell ⟨ra, 0, none⟩ (.slice a1 (n + 1) k1)).setCell ⟨ra, 1, none⟩ (.slice a2 (n + 1) k2)) := by
    have h0 : But (· = ra) w w2 := hB2.out.trans (But.ofBelow hb2)
    exact (h0.setCell (p := ⟨ra, 0, none⟩) (.inl rfl) _).setCell (p := ⟨ra, 1, none⟩) (.inl rfl) _
  have hz := hB2.out.size
  have keep : ∀ {e : TypeId} {v : Value} {zs : List Value}, Own w2 e 1 v (n + 1) zs → (∀ g, v.ownBlock = some g → V.heap.size ≤ g) → Own ((w2.setCell ⟨ra, 0, none⟩ (.slice a1 (n + 1) k1)).setCell ⟨ra, 1, none⟩ (.slice a2 (n + 1) k2)) e 1 v (n + 1) zs := fun ho hf =>
    ho.keep fun g o hg hh => by
      have := hf g hg
      rw [Below.heap_setCell _ _ _ _ (by show g ≠ ra; omega), Below.heap_setCell _ _ _ _ (by show g ≠ ra; omega)]; exact hh
  have HF := Lib.hid (And.intro hbF (And.intro hP4 (And.intro (keep ho1 hf1) (And.intro (keep ho2 hf2) (And.intro (fun g hg => Nat.le_trans hz (hf1 g hg)) (fun g hg => Nat.le_trans hz (hf2 g hg)))))))
  clear hbF hP4 keep ho1 ho2 hf1 hf2 hP3 hb2 x2 u2
  go_wp2_with fail
  go_ret
  exact ⟨a1, k1, a2, k2, ret_i64 (by omega), HF.out.1, HF.out.2.1, HF.out.2.2.1, HF.out.2.2.2.1, HF.out.2.2.2.2.1, HF.out.2.2.2.2.2⟩

theorem addr0 (g j : Nat) : ((⟨g, 0, none⟩ : Addr).add j) = ⟨g, j, none⟩ := by
  unfold Addr.add
  split <;> simp_all
theorem logM_src {w : World} {mv : Value} {n : Nat} {log : List (Bs × Int)} (h : Own w 9 1 mv n (logM log)) : SrcSl 1 mv n (logM log) w := by
  obtain ⟨a, c, rfl⟩ := h.slice
  refine ⟨h.1, fun u hu => ?_, ?_⟩
  · simp only [logM, List.mem_map] at hu; obtain ⟨x, _, rfl⟩ := hu; rfl
  · have hl := h.1
    rcases Nat.eq_zero_or_pos n with rfl | hn
    · rcases h.2 with ⟨e, _⟩ | ⟨g, cap, cur, e, _⟩
      · exact .inr ⟨e, rfl⟩
      · refine .inl ⟨⟨g, 0, none⟩, cap, e, fun j u hu => ?_⟩
        have := (List.getElem?_eq_some_iff.1 hu).1; omega
    · obtain ⟨g, rfl, _⟩ := h.open1 hn
      refine .inl ⟨_, c, rfl, fun j u hu => ?_⟩
      obtain ⟨g', e, _, _, ⟨u', hu', hc⟩, _⟩ := h.open1 (j := j) (by have := (List.getElem?_eq_some_iff.1 hu).1; omega)
      cases e
      rw [hu] at hu'; cases hu'
      rw [addr0]; exact hc
theorem logP_src {w : World} {mv : Value} {n : Nat} {log : List (Bs × Int)} (h : Own w 3 1 mv n (logP log)) : SrcSl 1 mv n (logP log) w := by
  obtain ⟨a, c, rfl⟩ := h.slice
  refine ⟨h.1, fun u hu => ?_, ?_⟩
  · simp only [logP, List.mem_map] at hu; obtain ⟨x, _, rfl⟩ := hu; rfl
  · have hl := h.1
    rcases Nat.eq_zero_or_pos n with rfl | hn
    · rcases h.2 with ⟨e, _⟩ | ⟨g, cap, cur, e, _⟩
      · exact .inr ⟨e, rfl⟩
      · refine .inl ⟨⟨g, 0, none⟩, cap, e, fun j u hu => ?_⟩
        have := (List.getElem?_eq_some_iff.1 hu).1; omega
    · obtain ⟨g, rfl, _⟩ := h.open1 hn
      refine .inl ⟨_, c, rfl, fun j u hu => ?_⟩
      obtain ⟨g', e, _, _, ⟨u', hu', hc⟩, _⟩ := h.open1 (j := j) (by have := (List.getElem?_eq_some_iff.1 hu).1; omega)
      cases e
      rw [hu] at hu'; cases hu'
      rw [addr0]; exact hc

theorem make_some : MakeSaid true := by
  intro most ra log mv pt s p w h hl hm _
  have hd : decide (most < log.length) = false := by rw [decide_eq_false_iff_not]; omega
  have hb := h.blk
  rw [hd] at hb
  have hlen : (log ++ [(s, p)]).length = log.length + 1 := by simp
  by_cases hbig : most < log.length + 1
  · refine (make_bad ra mv pt log.length most s p w hb (by omega) hbig).mono ?_
    rintro en w' ⟨rfl, hb', hr⟩
    refine ⟨mv, pt, rfl, hb'.weak fun i _ hi => .inl hi, ⟨?_, h.sls, fun _ hle => by rw [hlen] at hle; omega, fun g hg => ⟨(h.ne g hg).1, Nat.lt_of_lt_of_le (h.ne g hg).2 hb'.size⟩⟩, fun b hb => .inl hb⟩
    rw [hlen, show decide (most < log.length + 1) = true from by simpa using hbig]
    exact hr
  · obtain ⟨o1, o2⟩ := h.rows rfl hl
    refine (make_kept ra mv pt log.length most (logM log) (logP log) s p w hb o1 o2 (logM_src o1) (logP_src o2) (fun g hg => (h.ne g hg).1) (by omega) hbig).mono ?_
    rintro en w' ⟨a1, c1, a2, c2, rfl, hb', hr, k1, k2, k3, k4⟩
    have hra := lt_of_heap h.blk
    refine ⟨.slice a1 (log.length + 1) c1, .slice a2 (log.length + 1) c2, rfl, hb'.weak fun i _ hi => .inl hi, ⟨?_, ⟨_, _, _, _, _, _, rfl, rfl⟩, fun _ _ => ⟨by rw [hlen, logM_snoc]; exact k1, by rw [hlen, logP_snoc]; exact k2⟩, fun g hg => ?_⟩, fun b hb => ?_⟩
    · rw [hlen, show decide (most < log.length + 1) = false from by simpa using hbig]
      exact hr
    · rcases hg with hg | hg
      · exact ⟨by have := k3 g hg; omega, k1.lt hg⟩
      · exact ⟨by have := k4 g hg; omega, k2.lt hg⟩
    · rcases hb with hb | hb | hb
      · exact .inl (.inl hb)
      · exact .inr (k3 b hb)
      · exact .inr (k4 b hb)

theorem path_some : PathSaid true := by
  intro most ra log mv pt i w h hl hm hi
  obtain ⟨q, p, hq, h1, h2⟩ := hi
  have hd : decide (most < log.length) = false := by rw [decide_eq_false_iff_not]; omega
  have hb := h.blk
  rw [hd] at hb
  obtain ⟨o1, o2⟩ := h.rows rfl hl
  have hlt := (List.getElem?_eq_some_iff.1 hq).1
  obtain ⟨a, c, rfl⟩ := o1.slice
  obtain ⟨g, rfl, hg, _, ⟨u, hu, hc⟩, _⟩ := o1.open1 hlt
  rw [logM, List.getElem?_map, hq] at hu
  simp only [Option.map_some, Option.some.injEq] at hu
  subst hu
  obtain ⟨c0, c1, c2, c3, c4, c5, f0, f1, f2, f5⟩ := (show RnK w ra _ _ _ _ _ from hb).cells
  have hp : Hid (pthS true log i = q.drop 1) := by show pthS true log i = _; unfold pthS; simp [hq]
  have hx : Hid ((⟨q.toArray⟩ : ByteArray).extract 1 q.length = ⟨(q.drop 1).toArray⟩) := by
    show _ = _
    rw [ext_str, List.take_length]
  have hi0 : (0 : Int) ≤ (i : Int) := by omega
  have hlt' : (i : Int) < (log.length : Int) := by omega
  have h1' : (1 : Int) ≤ (q.length : Int) := by omega
  clear hb o1 o2 hq h hd
  go_enter Tryd.func76, Tryd.ntmps76
  go_wp2_with fail
  go_ret
  exact ⟨by rw [hp.out, hx.out]; rfl, rfl⟩

end Go.Proofs.YtmkgoacclgoidaaDoor

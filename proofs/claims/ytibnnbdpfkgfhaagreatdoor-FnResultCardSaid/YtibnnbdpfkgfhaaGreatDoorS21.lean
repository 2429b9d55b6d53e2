/- The walk of the reference's l4Go. -/
import Derived.Test.YtibnnbdpfkgfhaaGreatDoorS20
import Derived.BigRegion
import Derived.Deep.Cut
namespace Go.Proofs.YtibnnbdpfkgfhaaGreatDoor
open Go.RowKit

def GoPost (keep : Bool) (R : Option (UInt8 × List (Bs × Int))) (most ra : Nat) (mv pt : Value) (w : World) (en : Ending) (w' : World) : Prop :=
  ∃ mv' pt' log' o, en = .returned (str o) ∧ But (MBk ra mv pt) w w' ∧ RS keep most ra log' mv' pt' w' ∧ (∀ i, MBk ra mv' pt' i → MBk ra mv pt i ∨ w.heap.size ≤ i) ∧ (R = none → most < log'.length) ∧ (∀ c l, R = some (c, l) → o = [c] ∧ l = log' ∧ log'.length ≤ most)

def GoRel (keep : Bool) (R : Option (UInt8 × List (Bs × Int))) (most ra : Nat) (mv0 pt0 : Value) (w : World) (B : Nat) (ev ov sv : Value) (wr : World) : Prop :=
  ∃ b env opens st log mv pt v a2 n2 c2 a3 n3 c3 cells, ov = .int .i64 (opens : Nat) ∧ GoPl keep R most b env opens st log ∧ GoAt keep most ra mv0 pt0 w B b env opens st log mv pt v (.slice a2 n2 c2) (.slice a3 n3 c3) ev sv cells wr

/-- How many moves are left, off the runner's block. -/
def leftG (most ra : Nat) (wr : World) : Nat := match wr.heap[ra]? with
  | some (.cells c _ _) => most + 2 - (intOf (c.getD 2 (.int .i64 0))).toNat
  | _ => 0
theorem leftG_eq {keep : Bool} {most ra : Nat} {log : List (Bs × Int)} {mv pt : Value} {w : World} (h : RS keep most ra log mv pt w) : leftG most ra w = most + 2 - log.length := by
  unfold leftG
  rw [h.blk]
  simp [intOf]

theorem go_start {keep : Bool} {most ra : Nat} {log : List (Bs × Int)} {mv pt : Value} {w : World} {b : Bd} {env : List SC} {opens : Nat} {v : Int} {x2 x3 ev : Value}
    (h : RS keep most ra log mv pt w) (rb : Reps (fun i => ¬ MBk ra mv pt i) w (encN b) [str (atomOf b), .int .i64 v, x2, x3]) (re : Rep (fun i => ¬ MBk ra mv pt i) w (.sl 60 9 env.length (encSCs env)) ev) :
    GoAt keep most ra mv pt w w.heap.size b env opens [] log mv pt v x2 x3 ev (.slice (some ⟨w.heap.size + 1, 0, none⟩) 0 0) [] ((w.alloc (.cells #[str (atomOf b), .int .i64 v, x2, x3] 51)).alloc (.cells #[] 112)) := by
  have hb : Below w.heap.size w ((w.alloc (.cells #[str (atomOf b), .int .i64 v, x2, x3] 51)).alloc (.cells #[] 112)) := ((Below.refl _ _).alloc (Nat.le_refl _) _).alloc (by rw [size_alloc]; omega) _
  have hlt : ∀ i, MBk ra mv pt i → i < w.heap.size := fun i hi => h.lt hi
  have hk : ∀ (i : Nat) (o : Obj), ¬ MBk ra mv pt i → w.heap[i]? = some o → ¬ Chg ra mv pt w.heap.size (.slice (some ⟨w.heap.size + 1, 0, none⟩) 0 0) i ∧ ((w.alloc (.cells #[str (atomOf b), .int .i64 v, x2, x3] 51)).alloc (.cells #[] 112)).heap[i]? = some o := by
    intro i o hi ho
    have := lt_of_heap ho
    refine ⟨?_, heap_past (heap_past ho)⟩
    rintro (h' | h' | h')
    · exact hi h'
    · omega
    · simp [Value.ownBlock] at h'; omega
  refine ⟨h.below hb, ⟨heap_past (heap_new _ _), (Rep.keep hk).2 _ _ rb⟩, (Rep.keep hk).1 _ _ re, Own.litAt #[] 0 _ (by simp) (by decide) rfl, Reps_nil.2 rfl, But.ofBelow hb, fun i hi => .inl hi, ⟨Nat.le_refl _, fun hi => by have := hlt _ hi; omega⟩, fun g hg => ?_⟩
  simp [Value.ownBlock] at hg
  subst hg
  exact ⟨by omega, by omega, fun hi => by have := hlt _ hi; omega⟩

theorem askbox {F : Nat → Prop} {w : World} {v : Nat} {ss : List Bd} {y n : Bd} {x0 x1 x2 x3 : Value} (h : Reps F w (encN (.ask v ss y n)) [x0, x1, x2, x3]) :
    x1 = .int .i64 (v : Nat) ∧ (∃ a c, x2 = .slice a ss.length c) ∧ (∃ a c, x3 = .slice a 2 c) ∧ Rep F w (.sl 51 4 ss.length (encNs ss)) x2 ∧ Rep F w (.sl 51 4 2 (encNs [y, n])) x3 := by
  rw [encN_ask] at h
  obtain ⟨u0, r0, e0, h0, h⟩ := Reps_cons.1 h
  simp only [List.cons.injEq] at e0
  obtain ⟨rfl, rfl⟩ := e0
  obtain ⟨u1, r1, e1, h1, h⟩ := Reps_cons.1 h
  simp only [List.cons.injEq] at e1
  obtain ⟨rfl, rfl⟩ := e1
  obtain ⟨u2, r2, e2, h2, h⟩ := Reps_cons.1 h
  simp only [List.cons.injEq] at e2
  obtain ⟨rfl, rfl⟩ := e2
  obtain ⟨u3, r3, e3, h3, h⟩ := Reps_cons.1 h
  simp only [List.cons.injEq] at e3
  obtain ⟨rfl, rfl⟩ := e3
  refine ⟨Rep_val.1 h1, ?_, ?_, h2, h3⟩
  · rw [Rep_sl] at h2; obtain ⟨_, a, c, e, _⟩ := h2; exact ⟨a, c, e⟩
  · rw [Rep_sl] at h3; obtain ⟨_, a, c, e, _⟩ := h3; exact ⟨a, c, e⟩
theorem Tryz.infoFS : (Tryz.prog.info? 112).map (fun i => (i.zero, i.size, i.bytes)) = some (some (.agg #[str [], .int .i64 0, .slice none 0 0, .slice none 0 0, .slice none 0 0, .int .i64 0]), 6, 104) := by kernel_rfl
theorem runS_u (keep : Bool) (f : Nat) (log : List (Bs × Int)) (env : List SC) (opens : Nat) (st : List SF) : runS keep f log (.leaf 117) env opens st = some (117, log) := by cases f <;> simp [runS]
theorem runS_end {keep : Bool} {c : UInt8} (hc : c ≠ 117) (f : Nat) (log : List (Bs × Int)) (env : List SC) (opens : Nat) : runS keep f log (.leaf c) env opens [] = if f = 0 then none else some (c, log ++ [(c :: pthS keep log opens, (opens : Int))]) := by cases f <;> simp [runS, hc]

theorem cells1' {m : Nat → Prop} {w w' : World} {a : Addr} {u : Value} (hb : But m w w') (ha : w.cell? a = some u) (na : ¬ m a.block) : w'.cell? a = some u := (hb.cell (World.block_lt_of_cell? w _ ha) na).trans ha
theorem cells1 {m : Nat → Prop} {w w' : World} {a : Addr} {u : Value} (hb : But m w w') (ha : w.cell? a = some u) (na : ¬ m a.block) : w'.cell? a = some u := (hb.cell (World.block_lt_of_cell? w _ ha) na).trans ha

set_option maxRecDepth 100000 in
set_option maxHeartbeats 4000000 in
theorem l4Go_any (keep : Bool) (HM : MakeSaid keep) (HP : PathSaid keep) (R : Option (UInt8 × List (Bs × Int))) (most ra : Nat) (b : Bd) (env : List SC) (opens : Nat) (log : List (Bs × Int)) (mv pt : Value) (v : Int) (a2 : Option Addr) (n2 c2 : Nat) (a3 : Option Addr) (n3 c3 : Nat) (ev : Value) (w : World)
    (h : RS keep most ra log mv pt w) (pl : GoPl keep R most b env opens [] log) (rb : Reps (fun i => ¬ MBk ra mv pt i) w (encN b) [str (atomOf b), .int .i64 v, .slice a2 n2 c2, .slice a3 n3 c3])
    (re : Rep (fun i => ¬ MBk ra mv pt i) w (.sl 60 9 env.length (encSCs env)) ev) (hmost : most ≤ 100000) :
    Calls Tryz.prog 86 #[.pointer (some ⟨ra, 0, none⟩), .agg #[str (atomOf b), .int .i64 v, .slice a2 n2 c2, .slice a3 n3 c3], ev, .int .i64 (opens : Nat)] w (GoPost keep R most ra mv pt w) := by
  have HMM := Lib.hid HM; have HPP := Lib.hid HP
  have hst := go_start (opens := opens) h rb re
  have HST := Lib.hid (And.intro pl hst)
  clear HM HP h pl rb re hst
  generalize hat0 : atomOf b = s0 at *
  go_enter Tryz.func86, Tryz.ntmps86
  go_wp2_with fail
  generalize hB : w.heap.size = B at *
  go_loopw [2, 3, 9] (fun e o s wr => GoRel keep R most ra mv pt w B e o s wr) (fun _ _ _ wr => leftG most ra wr)
  case atStart => exact ⟨b, env, opens, [], log, mv, pt, v, a2, n2, c2, a3, n3, c3, [], rfl, HST.out.1, HST.out.2⟩
  case round =>
    clear HST hat0
    obtain ⟨b, env, opens, st, log, mv2, pt2, v, a2, n2, c2, a3, n3, c3, cells, rfl, hpl, hat⟩ := hrel
    have HPL := Lib.hid hpl; have HAT := Lib.hid hat
    have hlm := leftG_eq hat.rs
    have hlt := lt_of_heap hat.box.blk
    have b0 : wr.cell? ⟨B, 0, none⟩ = some (str (atomOf b)) := by simp [World.cell?, hat.box.blk]
    have b1 : wr.cell? ⟨B, 1, none⟩ = some (.int .i64 v) := by simp [World.cell?, hat.box.blk]
    have hbd := hat.rs.bad
    have HX := Lib.hid hlm; clear hlm hpl hat
    by_cases hbad : most < log.length
    · rw [decide_eq_true hbad] at hbd
      have HBAD := Lib.hid hbad; clear hbad
      go_wp2_with fail
      go_ret
      have hR : R = none := by
        rcases HPL.out.goes with ⟨h1, _⟩ | ⟨_, _, h2⟩
        · have := HBAD.out; omega
        · exact h2
      exact ⟨mv2, pt2, log, [117], rfl, HAT.out.but, HAT.out.rs, HAT.out.new, fun _ => HBAD.out, fun c l h => by rw [hR] at h; simp at h⟩
    · rw [decide_eq_false hbad] at hbd
      have hle : log.length ≤ most := by omega
      have HBAD := Lib.hid hbad; clear hbad
      cases b with
      | leaf c =>
        by_cases h117 : c = 117
        · subst h117
          have hR : R = some (117, log) := by
            rcases HPL.out.goes with ⟨_, h1⟩ | ⟨h1, _, _⟩
            · rw [h1, runS_u]
            · omega
          have HR := Lib.hid hR; clear hR
          have b0' : wr.cell? ⟨B, 0, none⟩ = some (.string ⟨#[117]⟩) := b0
          clear b0
          go_wp2_with fail
          go_ret
          refine ⟨mv2, pt2, log, [117], rfl, HAT.out.but, HAT.out.rs, HAT.out.new, fun h => by rw [HR.out] at h; simp at h, fun c l h => ?_⟩
          rw [HR.out] at h
          simp only [Option.some.injEq, Prod.mk.injEq] at h
          obtain ⟨rfl, rfl⟩ := h
          exact ⟨rfl, rfl, hle⟩
        · have hbk := HAT.out.box.blk
          obtain ⟨S, hS⟩ : ∃ S, S = atomOf (.leaf c) := ⟨_, rfl⟩
          have hS1 : S = [c] := hS
          rw [← hS] at b0
          have e117 : (S == [117]) = false := by rw [beq_eq_false_iff_ne, hS1]; simpa using h117
          have ene : (S != []) = true := by rw [bne_iff_ne, hS1]; simp
          have ene2 : (!S.isEmpty) = true := by rw [hS1]; rfl
          obtain ⟨P, hP⟩ : ∃ P, P = pthS keep log opens := ⟨_, rfl⟩
          have hpl := pthS_length keep HPL.out.lok opens
          rw [← hP] at hpl
          have hadd := fun w0 => add_str (P := Tryz.prog) S P (by rw [hS1]; simp; omega) w0
          have hsl : (S ++ P).length ≤ 1000000 := by rw [hS1]; simp; omega
          have hop : ∃ q p, log[opens]? = some (q, p) ∧ 1 ≤ q.length ∧ q.length ≤ 1000000 := by
            have h := HPL.out.opn
            obtain ⟨x, hx⟩ : ∃ x, log[opens]? = some x := ⟨log[opens], by simp [h]⟩
            obtain ⟨q, p⟩ := x
            have := HPL.out.lok opens q p hx
            exact ⟨q, p, hx, this.1, by omega⟩
          have CP := Lib.hid (HPP.out most ra log mv2 pt2 opens wr.drew HAT.out.rs.drew hle hmost hop)
          rw [← hP] at CP
          have CM := Lib.hid (HMM.out most ra log mv2 pt2 (S ++ P) (opens : Int) wr.drew HAT.out.rs.drew hle hmost hsl)
          have nB2 : ¬ MBk ra mv2 pt2 B := HAT.out.bB.2
          have HS := Lib.hid (And.intro hS1 (And.intro hP h117)); clear hS hS1 hP h117 hsl hop hbk
          go_wp2_with fail
          go_region_held3 (fun w' => w'.cell? ⟨B, 0, none⟩ = some (str S))
            (first
              | exact b0
              | exact cells1 hb1 b0 nB2
              | go_keep)
            (first
              | (go_at_call 85; refine CM.out.mono ?_; rintro en w1 ⟨mv3, pt3, rfl, hb1', hr1, hn1⟩; have hb1 := but_ud hb1'; clear hb1')
              | (go_at_call 110; refine CP.out.mono ?_; rintro en w5 ⟨rfl, e5⟩; subst e5))
          have d0 := cells1 hb1 b0 nB2
          have HMV := Lib.hid (And.intro hb1 (And.intro hr1 hn1)); clear hb1 hr1 hn1 b0 b1 hbd CP CM hadd
          obtain ⟨sa, sc, es⟩ := HAT.out.own.slice
          subst es
          have hlen1 : (log ++ [(S ++ P, (opens : Int))]).length = log.length + 1 := by simp
          cases st with
          | nil =>
            have hR : R = if most - log.length = 0 then none else some (c, log ++ [(c :: pthS keep log opens, (opens : Int))]) := by
              rcases HPL.out.goes with ⟨_, h1⟩ | ⟨h1, _, _⟩
              · rw [h1, runS_end HS.out.2.2]
              · omega
            have HR := Lib.hid hR; have HL1 := Lib.hid hlen1; clear hR hlen1
            rw [List.length_nil]
            go_wp2_with fail
            go_ret
            have hlog : S ++ P = c :: pthS keep log opens := by rw [HS.out.1, HS.out.2.1]; rfl
            refine ⟨mv3, pt3, _, S, rfl, HAT.out.but.trans' HMV.out.1 fun i hi hh => ?_, HMV.out.2.1, fun i hi => ?_, fun h => ?_, fun c' l h => ?_⟩
            · rcases HAT.out.new i hh with h | h
              · exact h
              · omega
            · rcases HMV.out.2.2 i hi with h | h
              · exact HAT.out.new i h
              · exact .inr (by rw [hB]; exact Nat.le_trans (Nat.le_of_lt hlt) h)
            · rw [HR.out] at h
              split at h
              · rw [HL1.out]; omega
              · simp at h
            · rw [HR.out] at h
              split at h
              · simp at h
              · simp only [Option.some.injEq, Prod.mk.injEq] at h
                obtain ⟨rfl, rfl⟩ := h
                refine ⟨HS.out.1, by rw [hlog], by rw [HL1.out]; omega⟩
          | cons x st =>
            obtain ⟨g, gc, bv, ta2, tc2, yv, ea, ec, cells1, tl, es, hcap, k0, k1, k2, k3, k4, k5, hcl, hl1, hr1, ry, re⟩ := top_at HAT.out.own HAT.out.rf
            simp only [List.length_cons, Value.slice.injEq, true_and] at es
            obtain ⟨rfl, rfl⟩ := es
            have hk : ∃ k : Nat, k < 2 ∧ (k = 1 ↔ c = 102) := by
              by_cases h : c = 102
              · exact ⟨1, by omega, by simp [h]⟩
              · exact ⟨0, by omega, by simp [h]⟩
            obtain ⟨k, hk2, hkc⟩ := hk
            obtain ⟨pb, po, pc, nv, na2, nc2, na3, nc3, e, hpF, hpl2, m0, m1, m2, m3, hrn⟩ := pair_at ry k hk2
            subst e
            have hgs := HAT.out.sB g rfl
            have q0 := cells1' HMV.out.1 k0 hgs.2.2
            have q1 := cells1' HMV.out.1 k1 hgs.2.2
            have q2 := cells1' HMV.out.1 k2 hgs.2.2
            have q3 := cells1' HMV.out.1 k3 hgs.2.2
            have q4 := cells1' HMV.out.1 k4 hgs.2.2
            have q5 := cells1' HMV.out.1 k5 hgs.2.2
            have hpM : ¬ MBk ra mv2 pt2 pb := fun h => hpF (.inl h)
            have p0 := cells1' HMV.out.1 m0 hpM
            have p1 := cells1' HMV.out.1 m1 hpM
            have p2 := cells1' HMV.out.1 m2 hpM
            have p3 := cells1' HMV.out.1 m3 hpM
            generalize hnx : (if k = 1 then x.no else x.yes) = nx at *
            have HF := Lib.hid (And.intro hcl (And.intro hl1 (And.intro hr1 (And.intro re (And.intro hrn (And.intro hnx (And.intro hkc hcap)))))))
            have hstl := HPL.out.stl
            rw [List.length_cons] at hstl ⊢
            clear hcl hl1 hr1 ry re hrn hnx hkc hcap k0 k1 k2 k3 k4 k5 m0 m1 m2 m3
            have hsc : (st.length : Int) ≤ (sc : Int) := by have := HF.out.2.2.2.2.2.2.2; omega
            have hzB1 : B < w1.heap.size := World.block_lt_of_cell? w1 _ d0
            have hzpb : pb < w1.heap.size := World.block_lt_of_cell? w1 _ p0
            rcases (by omega : k = 0 ∨ k = 1) with rfl | rfl
            · have hd : (S == [102]) = false := by
                rw [beq_eq_false_iff_ne, HS.out.1]; have := HF.out.2.2.2.2.2.2.1; simpa using this
              simp only [Nat.zero_mul, Nat.add_zero] at p0 p1 p2 p3
              go_upto_region 15 with (fail)
              obtain ⟨W2, hW2⟩ : ∃ W2, w1.alloc (.cells #[str [], .int .i64 bv, .slice ta2 x.ss.length tc2, .slice (some ⟨pb, po, none⟩) 2 pc, .slice ea x.env.length ec, .int .i64 (x.opens : Nat)] 112) = W2 := ⟨_, rfl⟩
              have t3 : W2.cell? ⟨w1.heap.size, 3, none⟩ = some (.slice (some ⟨pb, po, none⟩) 2 pc) := by rw [← hW2]; simp
              have t4 : W2.cell? ⟨w1.heap.size, 4, none⟩ = some (.slice ea x.env.length ec) := by rw [← hW2]; simp
              have t5 : W2.cell? ⟨w1.heap.size, 5, none⟩ = some (.int .i64 (x.opens : Nat)) := by rw [← hW2]; simp
              have r0 : W2.cell? ⟨pb, po, none⟩ = some (str (atomOf nx)) := by rw [← hW2]; exact cell_alloc p0
              have r1 : W2.cell? ⟨pb, po + 1, none⟩ = some (.int .i64 nv) := by rw [← hW2]; exact cell_alloc p1
              have r2 : W2.cell? ⟨pb, po + 2, none⟩ = some (.slice na2 (kidsOf nx).length nc2) := by rw [← hW2]; exact cell_alloc p2
              have r3 : W2.cell? ⟨pb, po + 3, none⟩ = some (.slice na3 (yesOf nx).length nc3) := by rw [← hW2]; exact cell_alloc p3
              have hB2 : W2.heap[B]? = some (.cells #[str (atomOf (.leaf c)), .int .i64 v, .slice a2 n2 c2, .slice a3 n3 c3] 51 (0, 0)) := by
                rw [← hW2]; exact heap_past (by rw [HMV.out.1.block B hlt nB2]; exact HAT.out.box.blk)
              have hzT : W2.heap.size = w1.heap.size + 1 := by rw [← hW2]; exact size_alloc _ _
              have hbT : Below w1.heap.size w1 W2 := by rw [← hW2]; exact (Below.refl _ _).alloc (Nat.le_refl _) _
              have u0 : W2.cell? ⟨B, 0, none⟩ = some (str (atomOf (.leaf c))) := by simp [World.cell?, hB2]
              have u1 : W2.cell? ⟨B, 1, none⟩ = some (.int .i64 v) := by simp [World.cell?, hB2]
              have u2 : W2.cell? ⟨B, 2, none⟩ = some (.slice a2 n2 c2) := by simp [World.cell?, hB2]
              have u3 : W2.cell? ⟨B, 3, none⟩ = some (.slice a3 n3 c3) := by simp [World.cell?, hB2]
              have f0 : W2.frozen? ⟨B, 0, none⟩ = false := by simp [World.frozen?, hB2]
              have f1 : W2.frozen? ⟨B, 1, none⟩ = false := by simp [World.frozen?, hB2]
              have f2 : W2.frozen? ⟨B, 2, none⟩ = false := by simp [World.frozen?, hB2]
              have f3 : W2.frozen? ⟨B, 3, none⟩ = false := by simp [World.frozen?, hB2]
              rw [hW2]
              have HW2 := Lib.hid (And.intro hW2 (And.intro hB2 (And.intro hzT hbT))); clear hW2 hB2 hzT hbT d0 q0 q1 q2 q3 q4 q5 p0 p1 p2 p3
              go_upto_region 16 with (fail)
              obtain ⟨W, hW⟩ : ∃ W, boxPut B (str (atomOf nx)) (.int .i64 nv) (.slice na2 (kidsOf nx).length nc2) (.slice na3 (yesOf nx).length nc3) W2 = W := ⟨_, rfl⟩
              have hBT : w1.heap.size ≠ B := by omega
              have hbW : But (fun i => i = B) W2 W := by rw [← hW]; exact boxPut_but (m := fun i => i = B) (But.refl _ _) rfl _ _ _ _
              have t4' := cells1' hbW t4 hBT
              have t5' := cells1' hbW t5 hBT
              have hWu := hW
              unfold boxPut at hWu
              rw [hWu]
              have hlog : S ++ P = c :: pthS keep log opens := by rw [HS.out.1, HS.out.2.1]; rfl
              have hrs1 : RS keep most ra (log ++ [(c :: pthS keep log opens, (opens : Int))]) mv3 pt3 w1 := by have := HMV.out.2.1; rw [hlog] at this; exact this
              have hpl3 := gopl_back HPL.out HS.out.2.2 hle
              have hif : (if c = 102 then x.no else x.yes) = nx := by
                rw [← HF.out.2.2.2.2.2.1]
                by_cases h : c = 102
                · rw [if_pos h, if_pos (HF.out.2.2.2.2.2.2.1.2 h)]
                · rw [if_neg h, if_neg (fun e => h (HF.out.2.2.2.2.2.2.1.1 e))]
              rw [hif] at hpl3
              have hz1 := HMV.out.1.size
              have hzw : wr.heap.size ≤ w1.heap.size := hz1
              have keepF : ∀ (i : Nat) (o : Obj), ¬ Chg ra mv2 pt2 B (.slice (some ⟨g, 0, none⟩) (st.length + 1) sc) i → wr.heap[i]? = some o → (¬ Chg ra mv2 pt2 B (.slice (some ⟨g, 0, none⟩) (st.length + 1) sc) i ∧ i < wr.heap.size) ∧ W2.heap[i]? = some o := by
                intro i o hi ho
                have h1 := lt_of_heap ho
                have h2 : w1.heap[i]? = some o := by rw [HMV.out.1.block i h1 (fun h => hi (.inl h))]; exact ho
                exact ⟨⟨hi, h1⟩, by rw [HW2.out.2.2.2.block i (lt_of_heap h2)]; exact h2⟩
              have hown : Own W2 112 6 (.slice (some ⟨g, 0, none⟩) st.length sc) st.length cells1 := by
                have hs := HAT.out.own.short (m := st.length) (by simp) (by simp)
                rw [HF.out.1, ← HF.out.2.1, List.take_left] at hs
                refine hs.keep fun g' o hg' ho => ?_
                have e : g' = g := by simpa [Value.ownBlock] using hg'.symm
                subst e
                have h2 : w1.heap[g']? = some o := by rw [HMV.out.1.block g' (lt_of_heap ho) hgs.2.2]; exact ho
                rw [HW2.out.2.2.2.block g' (lt_of_heap h2)]; exact h2
              have hbC : But (Chg ra mv2 pt2 B (.slice (some ⟨g, 0, none⟩) (st.length + 1) sc)) wr W2 := (HMV.out.1.weak fun i _ hi => .inl hi).trans' (But.ofBelow (m := fun _ => False) HW2.out.2.2.2) (fun _ _ h => h.elim)
              have hF6 : ∀ i, (¬ Chg ra mv2 pt2 B (.slice (some ⟨g, 0, none⟩) (st.length + 1) sc) i ∧ i < wr.heap.size) → i < W2.heap.size → ¬ Chg ra mv3 pt3 B (.slice (some ⟨g, 0, none⟩) st.length sc) i := by
                rintro i ⟨h1, h2⟩ _ (h | h | h)
                · rcases HMV.out.2.2 i h with h' | h'
                  · exact h1 (.inl h')
                  · have h3 : wr.heap.size ≤ i := h'
                    omega
                · exact h1 (.inr (.inl h))
                · exact h1 (.inr (.inr h))
              have hnew := goat_next (opens' := x.opens) (b' := nx) HAT.out hbC (But.ofBelow HW2.out.2.2.2) hrs1 hzw HMV.out.2.2 HW2.out.2.1 hown (fun g' h' => .inl h') hF6 ((Rep.keep keepF).2 _ _ HF.out.2.2.2.2.1) ((Rep.keep keepF).1 _ _ HF.out.2.2.2.1) ((Rep.keep keepF).2 _ _ HF.out.2.2.1)
              rw [hW] at hnew
              have HNEW := Lib.hid (And.intro hpl3 hnew)
              clear hpl3 hnew hrs1 keepF hown hbC hF6 hif hlog hWu hW hbW t3 t4 t5 r0 r1 r2 r3 u0 u1 u2 u3 f0 f1 f2 f3
              go_wp2_with fail
              go_roundw
              case rel => exact ⟨_, _, _, _, _, _, _, _, _, _, _, _, _, _, _, rfl, HNEW.out.1, HNEW.out.2⟩
              case measure =>
                rw [HX.out]
                have h := leftG_eq HNEW.out.2.rs
                have hl : (log ++ [(c :: pthS keep log opens, (opens : Int))]).length = log.length + 1 := by simp
                refine Nat.lt_of_le_of_lt (Nat.le_of_eq h) ?_
                rw [hl]; omega
            · have hd : (S == [102]) = true := by
                rw [beq_iff_eq, HS.out.1]; have := HF.out.2.2.2.2.2.2.1; simpa using this
              simp only [Nat.one_mul, Nat.add_assoc, Nat.reduceAdd] at p0 p1 p2 p3
              go_upto_region 15 with (fail)
              obtain ⟨W2, hW2⟩ : ∃ W2, w1.alloc (.cells #[str [], .int .i64 bv, .slice ta2 x.ss.length tc2, .slice (some ⟨pb, po, none⟩) 2 pc, .slice ea x.env.length ec, .int .i64 (x.opens : Nat)] 112) = W2 := ⟨_, rfl⟩
              have t3 : W2.cell? ⟨w1.heap.size, 3, none⟩ = some (.slice (some ⟨pb, po, none⟩) 2 pc) := by rw [← hW2]; simp
              have t4 : W2.cell? ⟨w1.heap.size, 4, none⟩ = some (.slice ea x.env.length ec) := by rw [← hW2]; simp
              have t5 : W2.cell? ⟨w1.heap.size, 5, none⟩ = some (.int .i64 (x.opens : Nat)) := by rw [← hW2]; simp
              have r0 : W2.cell? ⟨pb, po + 4, none⟩ = some (str (atomOf nx)) := by rw [← hW2]; exact cell_alloc p0
              have r1 : W2.cell? ⟨pb, po + 5, none⟩ = some (.int .i64 nv) := by rw [← hW2]; exact cell_alloc p1
              have r2 : W2.cell? ⟨pb, po + 6, none⟩ = some (.slice na2 (kidsOf nx).length nc2) := by rw [← hW2]; exact cell_alloc p2
              have r3 : W2.cell? ⟨pb, po + 7, none⟩ = some (.slice na3 (yesOf nx).length nc3) := by rw [← hW2]; exact cell_alloc p3
              have hB2 : W2.heap[B]? = some (.cells #[str (atomOf (.leaf c)), .int .i64 v, .slice a2 n2 c2, .slice a3 n3 c3] 51 (0, 0)) := by
                rw [← hW2]; exact heap_past (by rw [HMV.out.1.block B hlt nB2]; exact HAT.out.box.blk)
              have hzT : W2.heap.size = w1.heap.size + 1 := by rw [← hW2]; exact size_alloc _ _
              have hbT : Below w1.heap.size w1 W2 := by rw [← hW2]; exact (Below.refl _ _).alloc (Nat.le_refl _) _
              have u0 : W2.cell? ⟨B, 0, none⟩ = some (str (atomOf (.leaf c))) := by simp [World.cell?, hB2]
              have u1 : W2.cell? ⟨B, 1, none⟩ = some (.int .i64 v) := by simp [World.cell?, hB2]
              have u2 : W2.cell? ⟨B, 2, none⟩ = some (.slice a2 n2 c2) := by simp [World.cell?, hB2]
              have u3 : W2.cell? ⟨B, 3, none⟩ = some (.slice a3 n3 c3) := by simp [World.cell?, hB2]
              have f0 : W2.frozen? ⟨B, 0, none⟩ = false := by simp [World.frozen?, hB2]
              have f1 : W2.frozen? ⟨B, 1, none⟩ = false := by simp [World.frozen?, hB2]
              have f2 : W2.frozen? ⟨B, 2, none⟩ = false := by simp [World.frozen?, hB2]
              have f3 : W2.frozen? ⟨B, 3, none⟩ = false := by simp [World.frozen?, hB2]
              rw [hW2]
              have HW2 := Lib.hid (And.intro hW2 (And.intro hB2 (And.intro hzT hbT))); clear hW2 hB2 hzT hbT d0 q0 q1 q2 q3 q4 q5 p0 p1 p2 p3
              go_upto_region 16 with (fail)
              obtain ⟨W, hW⟩ : ∃ W, boxPut B (str (atomOf nx)) (.int .i64 nv) (.slice na2 (kidsOf nx).length nc2) (.slice na3 (yesOf nx).length nc3) W2 = W := ⟨_, rfl⟩
              have hBT : w1.heap.size ≠ B := by omega
              have hbW : But (fun i => i = B) W2 W := by rw [← hW]; exact boxPut_but (m := fun i => i = B) (But.refl _ _) rfl _ _ _ _
              have t4' := cells1' hbW t4 hBT
              have t5' := cells1' hbW t5 hBT
              have hWu := hW
              unfold boxPut at hWu
              rw [hWu]
              have hlog : S ++ P = c :: pthS keep log opens := by rw [HS.out.1, HS.out.2.1]; rfl
              have hrs1 : RS keep most ra (log ++ [(c :: pthS keep log opens, (opens : Int))]) mv3 pt3 w1 := by have := HMV.out.2.1; rw [hlog] at this; exact this
              have hpl3 := gopl_back HPL.out HS.out.2.2 hle
              have hif : (if c = 102 then x.no else x.yes) = nx := by
                rw [← HF.out.2.2.2.2.2.1]
                by_cases h : c = 102
                · rw [if_pos h, if_pos (HF.out.2.2.2.2.2.2.1.2 h)]
                · rw [if_neg h, if_neg (fun e => h (HF.out.2.2.2.2.2.2.1.1 e))]
              rw [hif] at hpl3
              have hz1 := HMV.out.1.size
              have hzw : wr.heap.size ≤ w1.heap.size := hz1
              have keepF : ∀ (i : Nat) (o : Obj), ¬ Chg ra mv2 pt2 B (.slice (some ⟨g, 0, none⟩) (st.length + 1) sc) i → wr.heap[i]? = some o → (¬ Chg ra mv2 pt2 B (.slice (some ⟨g, 0, none⟩) (st.length + 1) sc) i ∧ i < wr.heap.size) ∧ W2.heap[i]? = some o := by
                intro i o hi ho
                have h1 := lt_of_heap ho
                have h2 : w1.heap[i]? = some o := by rw [HMV.out.1.block i h1 (fun h => hi (.inl h))]; exact ho
                exact ⟨⟨hi, h1⟩, by rw [HW2.out.2.2.2.block i (lt_of_heap h2)]; exact h2⟩
              have hown : Own W2 112 6 (.slice (some ⟨g, 0, none⟩) st.length sc) st.length cells1 := by
                have hs := HAT.out.own.short (m := st.length) (by simp) (by simp)
                rw [HF.out.1, ← HF.out.2.1, List.take_left] at hs
                refine hs.keep fun g' o hg' ho => ?_
                have e : g' = g := by simpa [Value.ownBlock] using hg'.symm
                subst e
                have h2 : w1.heap[g']? = some o := by rw [HMV.out.1.block g' (lt_of_heap ho) hgs.2.2]; exact ho
                rw [HW2.out.2.2.2.block g' (lt_of_heap h2)]; exact h2
              have hbC : But (Chg ra mv2 pt2 B (.slice (some ⟨g, 0, none⟩) (st.length + 1) sc)) wr W2 := (HMV.out.1.weak fun i _ hi => .inl hi).trans' (But.ofBelow (m := fun _ => False) HW2.out.2.2.2) (fun _ _ h => h.elim)
              have hF6 : ∀ i, (¬ Chg ra mv2 pt2 B (.slice (some ⟨g, 0, none⟩) (st.length + 1) sc) i ∧ i < wr.heap.size) → i < W2.heap.size → ¬ Chg ra mv3 pt3 B (.slice (some ⟨g, 0, none⟩) st.length sc) i := by
                rintro i ⟨h1, h2⟩ _ (h | h | h)
                · rcases HMV.out.2.2 i h with h' | h'
                  · exact h1 (.inl h')
                  · have h3 : wr.heap.size ≤ i := h'
                    omega
                · exact h1 (.inr (.inl h))
                · exact h1 (.inr (.inr h))
              have hnew := goat_next (opens' := x.opens) (b' := nx) HAT.out hbC (But.ofBelow HW2.out.2.2.2) hrs1 hzw HMV.out.2.2 HW2.out.2.1 hown (fun g' h' => .inl h') hF6 ((Rep.keep keepF).2 _ _ HF.out.2.2.2.2.1) ((Rep.keep keepF).1 _ _ HF.out.2.2.2.1) ((Rep.keep keepF).2 _ _ HF.out.2.2.1)
              rw [hW] at hnew
              have HNEW := Lib.hid (And.intro hpl3 hnew)
              clear hpl3 hnew hrs1 keepF hown hbC hF6 hif hlog hWu hW hbW t3 t4 t5 r0 r1 r2 r3 u0 u1 u2 u3 f0 f1 f2 f3
              go_wp2_with fail
              go_roundw
              case rel => exact ⟨_, _, _, _, _, _, _, _, _, _, _, _, _, _, _, rfl, HNEW.out.1, HNEW.out.2⟩
              case measure =>
                rw [HX.out]
                have h := leftG_eq HNEW.out.2.rs
                have hl : (log ++ [(c :: pthS keep log opens, (opens : Int))]).length = log.length + 1 := by simp
                refine Nat.lt_of_le_of_lt (Nat.le_of_eq h) ?_
                rw [hl]; omega
      | ask v' ss y n =>
        obtain ⟨e, hev, hoke, hsl, hfs⟩ := ask_find HPL.out.oks HPL.out.fit
        obtain ⟨e1, ⟨_, _, e2⟩, ⟨_, _, e3⟩, hkids, hyn⟩ := askbox HAT.out.box.rep
        simp only [Value.int.injEq, true_and] at e1
        subst e1
        simp only [Value.slice.injEq] at e2 e3
        obtain ⟨rfl, rfl, rfl⟩ := e2
        obtain ⟨rfl, rfl, rfl⟩ := e3
        obtain ⟨eb, eo, ecap, bv, ba2, bc2, ba3, bc3, ta, tc, ea, ec, eev, hFe, hle2, k0, k1, k2, k3, k4, k5, k6, k7, k8, hrb, hrt, hre⟩ := boundR_at HAT.out.re hev
        subst eev
        have hvl := (List.getElem?_eq_some_iff.1 hev).1
        have hvl' : (v' : Int) < (env.length : Int) := by omega
        have hokn := okNs_at _ HPL.out.oke _ _ hev
        have hbg : e.begun < log.length ∧ e.arg ≤ 15 ∧ e.env.length ≤ 16 * log.length := by obtain ⟨_, _, _, _, _⟩ := e; rw [okN] at hokn; exact ⟨hokn.2.2.2.1, hokn.2.2.2.2, hokn.2.2.1⟩
        have hss : ss.length ≤ 15 := by have := HPL.out.nb; rw [nB] at this; exact this.1
        have b2 : wr.cell? ⟨B, 2, none⟩ = some (.slice a2 ss.length c2) := by simp [World.cell?, HAT.out.box.blk]
        have b3 : wr.cell? ⟨B, 3, none⟩ = some (.slice a3 2 c3) := by simp [World.cell?, HAT.out.box.blk]
        have hbx := HAT.out.box.blk
        have nB2 : ¬ MBk ra mv2 pt2 B := HAT.out.bB.2
        have hltM : ∀ i, MBk ra mv2 pt2 i → i < wr.heap.size := fun i hi => HAT.out.rs.lt hi
        have hZ := Lib.hid (And.intro hev (And.intro hsl (And.intro hkids (And.intro hrb (And.intro hrt (And.intro hre (And.intro hbx hltM)))))))
        clear hev hsl hkids hrb hrt hre hbx hltM hyn hoke hfs hokn
        have b0' : wr.cell? ⟨B, 0, none⟩ = some (str []) := b0
        clear b0
        go_upto_region 19 with (fail)
        obtain ⟨W, hW⟩ : ∃ W, wr.alloc (.cells #[.int .i64 (-1), str (atomOf e.body), .int .i64 bv, .slice ba2 (kidsOf e.body).length bc2, .slice ba3 (yesOf e.body).length bc3, .slice ta e.kind.args.length tc, .slice ea e.env.length ec, .int .i64 (e.begun : Nat), .int .i64 (e.arg : Nat)] 60) = W := ⟨_, rfl⟩
        rw [hW]
        have hbW : Below wr.heap.size wr W := by rw [← hW]; exact (Below.refl _ _).alloc (Nat.le_refl _) _
        have hzW : W.heap.size = wr.heap.size + 1 := by rw [← hW]; exact size_alloc _ _
        have hQ : W.heap[wr.heap.size]? = some (.cells #[.int .i64 (-1), str (atomOf e.body), .int .i64 bv, .slice ba2 (kidsOf e.body).length bc2, .slice ba3 (yesOf e.body).length bc3, .slice ta e.kind.args.length tc, .slice ea e.env.length ec, .int .i64 (e.begun : Nat), .int .i64 (e.arg : Nat)] 60 (0, 0)) := by rw [← hW]; exact heap_new _ _
        have q7 : W.cell? ⟨wr.heap.size, 7, none⟩ = some (.int .i64 (e.begun : Nat)) := by simp [World.cell?, hQ]
        have q8 : W.cell? ⟨wr.heap.size, 8, none⟩ = some (.int .i64 (e.arg : Nat)) := by simp [World.cell?, hQ]
        have hrW := HAT.out.rs.below hbW
        obtain ⟨P, hP⟩ : ∃ P, P = pthS keep log e.begun := ⟨_, rfl⟩
        obtain ⟨D, hD⟩ : ∃ D, D = dec e.arg := ⟨_, rfl⟩
        have hpl := pthS_length keep HPL.out.lok e.begun
        rw [← hP] at hpl
        have hdl : D.length ≤ 2 := by rw [hD]; exact dec_length 1 _ (by omega)
        obtain ⟨O, hO⟩ : ∃ O, O = [113] ++ P := ⟨_, rfl⟩
        have hol : O.length = P.length + 1 := by rw [hO]; simp
        have hadd1 := fun w0 => add_str (P := Tryz.prog) [113] P (by simp; omega) w0
        rw [← hO] at hadd1
        have hadd2 := fun w0 => add_str (P := Tryz.prog) O D (by omega) w0
        have hsl2 : (O ++ D).length ≤ 1000000 := by simp; omega
        have hop : ∃ q p, log[e.begun]? = some (q, p) ∧ 1 ≤ q.length ∧ q.length ≤ 1000000 := by
          obtain ⟨x, hx⟩ : ∃ x, log[e.begun]? = some x := ⟨log[e.begun], by simp [hbg.1]⟩
          obtain ⟨q, p⟩ := x
          have := HPL.out.lok e.begun q p hx
          exact ⟨q, p, hx, this.1, by omega⟩
        have CP := Lib.hid (fun (wz : World) (hz : RS keep most ra log mv2 pt2 wz) => HPP.out most ra log mv2 pt2 e.begun wz hz hle hmost hop)
        rw [← hP] at CP
        have CD := Lib.hid (fun wz => l6Dec_any e.arg (by omega) wz)
        rw [← hD] at CD
        have CM := Lib.hid (fun (wz : World) (hz : RS keep most ra log mv2 pt2 wz) => HMM.out most ra log mv2 pt2 (O ++ D) (e.begun : Int) wz hz hle hmost hsl2)
        have hrWd := hrW.drew
        have nQ : ¬ MBk ra mv2 pt2 wr.heap.size := fun h => Nat.lt_irrefl _ (hZ.out.2.2.2.2.2.2.2 _ h)
        have HS := Lib.hid (And.intro hP (And.intro hD (And.intro hO (And.intro hbW (And.intro hzW (And.intro hQ hrW))))))
        have hrWh := Lib.hid hrWd
        clear hP hD hO hbW hzW hQ hrW hW hrWd hop hsl2 k0 k1 k2 k3 k4 k5 k6 k7 k8
        go_region_held3 (fun w' => w'.cell? ⟨wr.heap.size, 7, none⟩ = some (.int .i64 (e.begun : Nat)) ∧ w'.cell? ⟨wr.heap.size, 8, none⟩ = some (.int .i64 (e.arg : Nat)))
          (first
            | exact ⟨q7, q8⟩
            | exact ⟨cells1' hb1 q7 nQ, cells1' hb1 q8 nQ⟩
            | exact ⟨cells1' hb1 r7 nQ, cells1' hb1 r8 nQ⟩
            | exact ⟨r7, r8⟩
            | go_keep)
          (first
            | (go_at_call 85; refine (CM.out _ hr5.out).mono ?_; rintro en w1 ⟨mv3, pt3, rfl, hb1, hr1, hn1⟩)
            | (go_at_call 110; refine (CP.out _ hr5.out).mono ?_; rintro en w6 ⟨rfl, e5⟩; subst e5)
            | (go_at_call 110; refine (CP.out _ hrWh.out).mono ?_; rintro en w6 ⟨rfl, e5⟩; subst e5)
            | (go_at_call 90; refine (CD.out _).mono ?_; rintro en w5 ⟨rfl, hb5'⟩; have hb5 := below_ud hb5'; clear hb5'; have hr5 := Lib.hid (HS.out.2.2.2.2.2.2.below hb5); have r7 := cells1' (But.ofBelow (m := fun _ => False) hb5) q7 (fun h => h); have r8 := cells1' (But.ofBelow (m := fun _ => False) hb5) q8 (fun h => h)))
        obtain ⟨sta, stc, es⟩ := HAT.out.own.slice
        subst es
        have hstl := HPL.out.stl
        have hz5 := hb5.size
        have hz1 := hb1.size
        have hzW := HS.out.2.2.2.2.1
        have hbC1 : But (Chg ra mv2 pt2 B (.slice sta st.length stc)) wr w1 := ((But.ofBelow HS.out.2.2.2.1).trans (But.ofBelow hb5)).trans' hb1 fun i _ hi => .inl hi
        have hbM1 : But (MBk ra mv2 pt2) wr w1 := ((But.ofBelow HS.out.2.2.2.1).trans (But.ofBelow hb5)).trans hb1
        have hQ1 : w1.heap[wr.heap.size]? = some (.cells #[.int .i64 (-1), str (atomOf e.body), .int .i64 bv, .slice ba2 (kidsOf e.body).length bc2, .slice ba3 (yesOf e.body).length bc3, .slice ta e.kind.args.length tc, .slice ea e.env.length ec, .int .i64 (e.begun : Nat), .int .i64 (e.arg : Nat)] 60 (0, 0)) := by
          rw [hb1.block _ (by omega) nQ, hb5.block _ (by omega)]; exact HS.out.2.2.2.2.2.1
        have hBx1 : w1.heap[B]? = some (.cells #[str [], .int .i64 (v' : Nat), .slice a2 ss.length c2, .slice a3 2 c3] 51 (0, 0)) := by
          rw [hbM1.block B hlt nB2]; exact hZ.out.2.2.2.2.2.2.1
        have hO1 : Own w1 112 6 (.slice sta st.length stc) st.length cells :=
          HAT.out.own.keep fun g o hg ho => by rw [hbM1.block g (lt_of_heap ho) (HAT.out.sB g hg).2.2]; exact ho
        have d0 : w1.cell? ⟨B, 0, none⟩ = some (str []) := by simp [World.cell?, hBx1]
        have d1 : w1.cell? ⟨B, 1, none⟩ = some (.int .i64 (v' : Nat)) := by simp [World.cell?, hBx1]
        have d2 : w1.cell? ⟨B, 2, none⟩ = some (.slice a2 ss.length c2) := by simp [World.cell?, hBx1]
        have d3 : w1.cell? ⟨B, 3, none⟩ = some (.slice a3 2 c3) := by simp [World.cell?, hBx1]
        have hn1' : ∀ i, MBk ra mv3 pt3 i → MBk ra mv2 pt2 i ∨ wr.heap.size ≤ i := fun i hi => by
          rcases hn1 i hi with h | h
          · exact .inl h
          · exact .inr (by omega)
        have H1 := Lib.hid (And.intro hbC1 (And.intro hbM1 (And.intro hQ1 (And.intro hBx1 (And.intro hO1 (And.intro hr1 hn1'))))))
        have hzw1 : wr.heap.size < w1.heap.size := by omega
        clear hbC1 hbM1 hQ1 hBx1 hO1 hr1 hn1 hn1' hb1 hb5 hr5 hrWh q7 q8 r7 r8 hz5 hz1 hzW hadd1 hadd2 b0' b1 b2 b3 hbd CP CD CM
        go_wp2_with (at_builtin; refine wpList_append_gen rfl _ _ 63 rfl 112 (.agg #[str [], .int .i64 0, .slice none 0 0, .slice none 0 0, .slice none 0 0, .int .i64 0]) 6 104 Tryz.underlying63 Tryz.infoFS rfl (by decide) (.slice sta st.length stc) st.length cells rfl ?c1 _ 1 [str [], .int .i64 (v' : Nat), .slice a2 ss.length c2, .slice a3 2 c3, .slice (some ⟨eb, eo, none⟩) env.length ecap, .int .i64 (opens : Nat)] rfl ?c2 ?c3 ?c4 ?_)
        case c1 => exact H1.out.2.2.2.2.1.alloc _
        case c2 => exact SrcSl.litk #[str [], .int .i64 (v' : Nat), .slice a2 ss.length c2, .slice a3 2 c3, .slice (some ⟨eb, eo, none⟩) env.length ecap, .int .i64 (opens : Nat)] rfl (by simp [str, Value.oneCell']) _ (by simp)
        case c3 => unfold maxLen; omega
        case c4 => omega
        intro a' c' w2 ho2 hb2 hg2
        have hz2 := hb2.size
        rw [size_alloc] at hz2
        have hg2' : ∀ g, (Value.slice a' (st.length + 1) c').ownBlock = some g → (Value.slice sta st.length stc).ownBlock = some g ∨ w1.heap.size ≤ g := by
          intro g hg
          rcases hg2 g hg with h | h
          · exact .inl h
          · have : g = w1.heap.size + 1 := by simpa using h
            exact .inr (by omega)
        have hbC2 : But (Chg ra mv2 pt2 B (.slice sta st.length stc)) wr w2 := (H1.out.1.alloc _).trans' hb2 fun i _ hi => .inr (.inr hi)
        have hw12 : But (fun b => (Value.slice sta st.length stc).ownBlock = some b) w1 w2 := ((But.refl _ w1).alloc _).trans hb2
        have nSB : ¬ (Value.slice sta st.length stc).ownBlock = some B := fun h => (HAT.out.sB _ h).2.1 rfl
        have nSQ : ¬ (Value.slice sta st.length stc).ownBlock = some wr.heap.size := fun h => Nat.lt_irrefl _ (HAT.out.own.lt h)
        have hQ2 := (hw12.block wr.heap.size hzw1 nSQ).trans H1.out.2.2.1
        have hBx2 := (hw12.block B (by omega) nSB).trans H1.out.2.2.2.1
        have q5 : w2.cell? ⟨wr.heap.size, 5, none⟩ = some (.slice ta e.kind.args.length tc) := by simp [World.cell?, hQ2]
        have q6 : w2.cell? ⟨wr.heap.size, 6, none⟩ = some (.slice ea e.env.length ec) := by simp [World.cell?, hQ2]
        have b2 : w2.cell? ⟨B, 2, none⟩ = some (.slice a2 ss.length c2) := by simp [World.cell?, hBx2]
        have keepF : ∀ (i : Nat) (o : Obj), ¬ Chg ra mv2 pt2 B (.slice sta st.length stc) i → wr.heap[i]? = some o → (¬ Chg ra mv2 pt2 B (.slice sta st.length stc) i ∧ i < wr.heap.size) ∧ w2.heap[i]? = some o := fun i o hi ho =>
          ⟨⟨hi, lt_of_heap ho⟩, by rw [hbC2.block i (lt_of_heap ho) hi]; exact ho⟩
        have C := l4HandR_any (fun i => ¬ Chg ra mv2 pt2 B (.slice sta st.length stc) i ∧ i < wr.heap.size) e.env env ss e.kind log.length (.slice ea e.env.length ec) (.slice a2 ss.length c2) (.slice ta e.kind.args.length tc) (.slice (some ⟨eb, eo, none⟩) env.length ecap) w2
          ((Rep.keep keepF).1 _ _ hZ.out.2.2.2.2.2.1) ((Rep.keep keepF).1 _ _ hZ.out.2.2.1) ((Rep.keep keepF).1 _ _ hZ.out.2.2.2.2.1) ((Rep.keep keepF).1 _ _ HAT.out.re) (by omega) hZ.out.2.1 (by omega)
        have CH := Lib.hid C
        have H2 := Lib.hid (And.intro hbC2 (And.intro hw12 (And.intro hQ2 (And.intro hBx2 (And.intro keepF (And.intro ho2 hg2'))))))
        clear C hbC2 hw12 hQ2 hBx2 keepF ho2 hg2' hb2 hg2 nSB nSQ d0 d1 d2 d3
        go_wp2_with fail
        refine CH.out.mono ?_
        rintro en w3 ⟨ha, hc, rfl, hb3, hr3⟩
        have hz3 := hb3.size
        have hQ3 := (hb3.block wr.heap.size (by omega)).trans H2.out.2.2.1
        have hBx3 := (hb3.block B (by omega)).trans H2.out.2.2.2.1
        have p1 : w3.cell? ⟨wr.heap.size, 1, none⟩ = some (str (atomOf e.body)) := by simp [World.cell?, hQ3]
        have p2 : w3.cell? ⟨wr.heap.size, 2, none⟩ = some (.int .i64 bv) := by simp [World.cell?, hQ3]
        have p3 : w3.cell? ⟨wr.heap.size, 3, none⟩ = some (.slice ba2 (kidsOf e.body).length bc2) := by simp [World.cell?, hQ3]
        have p4 : w3.cell? ⟨wr.heap.size, 4, none⟩ = some (.slice ba3 (yesOf e.body).length bc3) := by simp [World.cell?, hQ3]
        have u0 : w3.cell? ⟨B, 0, none⟩ = some (str []) := by simp [World.cell?, hBx3]
        have u1 : w3.cell? ⟨B, 1, none⟩ = some (.int .i64 (v' : Nat)) := by simp [World.cell?, hBx3]
        have u2 : w3.cell? ⟨B, 2, none⟩ = some (.slice a2 ss.length c2) := by simp [World.cell?, hBx3]
        have u3 : w3.cell? ⟨B, 3, none⟩ = some (.slice a3 2 c3) := by simp [World.cell?, hBx3]
        have f0 : w3.frozen? ⟨B, 0, none⟩ = false := by simp [World.frozen?, hBx3]
        have f1 : w3.frozen? ⟨B, 1, none⟩ = false := by simp [World.frozen?, hBx3]
        have f2 : w3.frozen? ⟨B, 2, none⟩ = false := by simp [World.frozen?, hBx3]
        have f3 : w3.frozen? ⟨B, 3, none⟩ = false := by simp [World.frozen?, hBx3]
        have H3 := Lib.hid (And.intro hb3 (And.intro hr3 hBx3)); clear hb3 hr3 hQ3 hBx3 q5 q6 b2
        go_upto_region 23 with (fail)
        obtain ⟨W4, hW4⟩ : ∃ W4, boxPut B (str (atomOf e.body)) (.int .i64 bv) (.slice ba2 (kidsOf e.body).length bc2) (.slice ba3 (yesOf e.body).length bc3) w3 = W4 := ⟨_, rfl⟩
        have hWu := hW4
        unfold boxPut at hWu
        rw [hWu]
        have hlog : O ++ D = 113 :: (pthS keep log e.begun ++ dec e.arg) := by rw [HS.out.2.2.1, HS.out.1, HS.out.2.1]; rfl
        have hrs1 : RS keep most ra (log ++ [(113 :: (pthS keep log e.begun ++ dec e.arg), (e.begun : Int))]) mv3 pt3 w1 := by have := H1.out.2.2.2.2.2.1; rw [hlog] at this; exact this
        have hpl3 := gopl_ask HPL.out hle hZ.out.1
        have hb23 : Below w2.heap.size w2 w3 := H3.out.1
        have k1 : But (Chg ra mv2 pt2 B (.slice sta st.length stc)) wr w3 := H2.out.1.trans (But.ofBelow hb23)
        have k2 : But (fun b => (Value.slice sta st.length stc).ownBlock = some b) w1 w3 := H2.out.2.1.trans (But.ofBelow hb23)
        have k5 := H2.out.2.2.2.2.2.1.keep (w' := w3) fun g o hg ho => by rw [hb23.block g (lt_of_heap ho)]; exact ho
        have hF6 : ∀ i, ((¬ Chg ra mv2 pt2 B (.slice sta st.length stc) i ∧ i < wr.heap.size) ∨ w2.heap.size ≤ i) → i < w3.heap.size → ¬ Chg ra mv3 pt3 B (.slice a' (st.length + 1) c') i := by
          intro i hi _ h
          have hm := fun hm : MBk ra mv3 pt3 i => H1.out.2.2.2.2.2.1.lt hm
          rcases hi with ⟨h1, h2⟩ | h1
          · rcases h with h | h | h
            · rcases H1.out.2.2.2.2.2.2 i h with h' | h'
              · exact h1 (.inl h')
              · omega
            · exact h1 (.inr (.inl h))
            · rcases H2.out.2.2.2.2.2.2 i h with h' | h'
              · exact h1 (.inr (.inr h'))
              · omega
          · rcases h with h | h | h
            · have := hm h; omega
            · omega
            · have := H2.out.2.2.2.2.2.1.lt h; omega
        have keep3 : ∀ (i : Nat) (o : Obj), ¬ Chg ra mv2 pt2 B (.slice sta st.length stc) i → wr.heap[i]? = some o → ((¬ Chg ra mv2 pt2 B (.slice sta st.length stc) i ∧ i < wr.heap.size) ∨ w2.heap.size ≤ i) ∧ w3.heap[i]? = some o := fun i o hi ho => by
          obtain ⟨h1, h2⟩ := H2.out.2.2.2.2.1 i o hi ho
          exact ⟨.inl h1, by rw [hb23.block i (lt_of_heap h2)]; exact h2⟩
        have hrf : Reps (fun i => (¬ Chg ra mv2 pt2 B (.slice sta st.length stc) i ∧ i < wr.heap.size) ∨ w2.heap.size ≤ i) w3 (encSFs (⟨v', ss, y, n, env, opens⟩ :: st : List SF).reverse) (cells ++ [str [], .int .i64 (v' : Nat), .slice a2 ss.length c2, .slice a3 2 c3, .slice (some ⟨eb, eo, none⟩) env.length ecap, .int .i64 (opens : Nat)]) := by
          rw [List.reverse_cons, encSFs_append]
          refine Reps.append ((Rep.keep keep3).2 _ _ HAT.out.rf) ?_
          simp only [encSFs, List.append_nil]
          rw [encSF]
          exact Reps.append ((Rep.keep keep3).2 _ _ HAT.out.box.rep) (Reps_cons.2 ⟨_, _, rfl, (Rep.keep keep3).1 _ _ HAT.out.re, Reps_cons.2 ⟨_, _, rfl, Rep_val.2 rfl, Reps_nil.2 rfl⟩⟩)
        have hre3 : Rep (fun i => (¬ Chg ra mv2 pt2 B (.slice sta st.length stc) i ∧ i < wr.heap.size) ∨ w2.heap.size ≤ i) w3 (.sl 60 9 (e.env ++ ownS env log.length 0 e.kind.args ss).length (encSCs (e.env ++ ownS env log.length 0 e.kind.args ss))) (.slice ha (e.env.length + (ownS env log.length 0 e.kind.args ss).length) hc) := by
          rw [List.length_append]; exact H3.out.2.1
        have hnew := goat_next (opens' := log.length) (b' := e.body) (st' := ⟨v', ss, y, n, env, opens⟩ :: st) HAT.out k1 k2 hrs1 (by omega) H1.out.2.2.2.2.2.2 H3.out.2.2 k5 H2.out.2.2.2.2.2.2 hF6 ((Rep.keep keep3).2 _ _ hZ.out.2.2.2.1) hre3 hrf
        rw [hW4] at hnew
        have HNEW := Lib.hid (And.intro hpl3 hnew)
        clear hpl3 hnew hrs1 hb23 k1 k2 k5 hF6 keep3 hrf hre3 hlog hWu hW4 u0 u1 u2 u3 f0 f1 f2 f3 p1 p2 p3 p4
        go_wp2_with fail
        go_roundw
        case rel => exact ⟨_, _, _, _, _, _, _, _, _, _, _, _, _, _, _, rfl, HNEW.out.1, HNEW.out.2⟩
        case measure =>
          rw [HX.out]
          have h := leftG_eq HNEW.out.2.rs
          have hl : (log ++ [(113 :: (pthS keep log e.begun ++ dec e.arg), (e.begun : Int))]).length = log.length + 1 := by simp
          refine Nat.lt_of_le_of_lt (Nat.le_of_eq h) ?_
          rw [hl]; omega

end Go.Proofs.YtibnnbdpfkgfhaaGreatDoor

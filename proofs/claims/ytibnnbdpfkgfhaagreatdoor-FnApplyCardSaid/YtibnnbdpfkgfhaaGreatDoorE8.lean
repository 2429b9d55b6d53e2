/- The walk of impl's machine. -/
import Derived.Test.YtibnnbdpfkgfhaaGreatDoorE7
namespace Go.Proofs.YtibnnbdpfkgfhaaGreatDoor
open Go.RowKit

set_option maxRecDepth 100000 in
set_option maxHeartbeats 4000000 in
theorem run_any (keeps : Bool) (most ma : Nat) (mv pt : Value) (b : Bd) (ar : List Bd) (ts : List Ty) (bv : Value) (aa : Option Addr) (ac : Nat) (w : World) (h : MS keeps most ma [] mv pt w) (hg : Glob w) (hgt : GlobT w)
    (hng : ∀ i, MBk ma mv pt i → NotG i ∧ i ≠ 0) (rb : Rep (fun i => ¬ MBk ma mv pt i) w (encB b) bv) (ra : Rep (fun i => ¬ MBk ma mv pt i) w (.sl 69 1 ar.length (encBs ar)) (.slice aa ar.length ac))
    (fa : fitBs (ts.map Ty.args) ar) (fb : fitB ts b) (nb : nB b) (na : nBs ar) (hl : ar.length ≤ 15) (h1 : 1 ≤ most) (hmost : most ≤ 100000) :
    Calls Tryz.prog 83 #[.pointer (some ⟨ma, 0, none⟩), bv, .slice aa ar.length ac] w (RunPost (runAll most b ar) keeps most ma mv pt w) := by
  have hm : most ≤ 16777216 := by omega
  have H := Lib.hid h; have HR := Lib.hid (And.intro rb ra); have HG := Lib.hid (And.intro hg hgt); have HN := Lib.hid hng
  have HP := Lib.hid (And.intro fa (And.intro fb (And.intro nb na)))
  clear h rb ra hg hgt hng fa fb nb na
  generalize hRR : runAll most b ar = R
  have HRR := Lib.hid hRR; clear hRR
  go_enter Tryz.func83, Tryz.ntmps83
  go_wp2_with fail
  refine (moveS_any keeps most ma [] mv pt [113] (-1) w H.out HG.out.2 hm (Nat.zero_le _)).mono ?_
  intro en w1 hw1
  unfold MovedS at hw1
  rw [if_neg (by simp; omega), List.length_nil] at hw1
  obtain ⟨mv1, pt1, rfl, hb1, hms1, hn1⟩ := hw1
  obtain ⟨aa', ac', us, e, hus, hua⟩ := subs_open HR.out.2
  simp only [Value.slice.injEq, true_and] at e
  obtain ⟨rfl, rfl⟩ := e
  have hbp : But (MBk ma mv pt) w (w1.alloc (.cells #[.int .i64 ((0 : Nat) : Int), str []] 179)) := hb1.alloc _
  have hg2 := glob_but HG.out HN.out hbp
  have H1 := Lib.hid (And.intro hb1 (And.intro hms1 hn1)); clear hb1 hms1 hn1
  have HU := Lib.hid (And.intro hus hua); clear hus hua
  have HB2 := Lib.hid hbp; have HG2 := Lib.hid hg2; clear hbp hg2
  go_wp2_with fail
  refine (places_any ar.length 0 [] _ HG2.out.1 (by omega) (by simp)).mono ?_
  rintro en w3 ⟨pa, pc, rfl, ho3, hb3, hf3⟩
  have HO3 := Lib.hid (And.intro ho3 (And.intro hb3 hf3)); clear ho3 hb3 hf3
  go_wp2_with fail
  have hua3 : ∀ k, k < ar.length → ∃ b o u, aa = some ⟨b, o, none⟩ ∧ us[k]? = some (.pointer (some ⟨u, 0, none⟩)) ∧ w3.cell? ⟨b, o + k, none⟩ = some (.pointer (some ⟨u, 0, none⟩)) := by
    intro k hk
    obtain ⟨b, o, u, e, hu, hF, hc⟩ := HU.out.2 k hk
    have hlt := World.block_lt_of_cell? w _ hc
    refine ⟨b, o, u, e, hu, ?_⟩
    rw [HO3.out.2.1.cell (p := ⟨b, o + k, none⟩) (Nat.lt_of_lt_of_le hlt HB2.out.size), HB2.out.cell (p := ⟨b, o + k, none⟩) hlt hF]; exact hc
  refine (entries_any ar.length 0 [] us aa ac none 0 0 pa pc w3 (by omega) hua3 HO3.out.1).mono ?_
  rintro en w4 ⟨ea, ec, rfl, ho4, hb4, hf4⟩
  have hlt1 : ∀ i, MBk ma mv1 pt1 i → i < w1.heap.size := fun i hi => MBk.lt H1.out.2.1 hi
  have hat := run_start (b := b) (bv := bv) rfl H1.out.1 H1.out.2.1 H1.out.2.2 HO3.out.2.1 hb4 ho4 hf4 HR.out.1 HU.out.1 hlt1
  have hpl : RunPl R most b (ownFrom [] 0 [] 0 ar) 0 [] [] [([113], -1)] := by
    refine ⟨h1, ?_, ⟨ts, env0_fit ar ts 0 HP.out.1, HP.out.2.1⟩, HP.out.2.2.1, ?_, ?_, by simp, by simp, by simp⟩
    · rw [← HRR.out]; rfl
    · exact ownFrom_ok (by rw [okCs]; trivial) (by simp) (by simp) ar 0 (by omega) HP.out.2.2.2
    · rw [ownFrom_length]; simp; omega
  have HAT := Lib.hid (And.intro hpl hat)
  clear hpl hat hb4 ho4 hf4 hlt1 hua3 H1 HU HB2 HG2 HO3 HP HR
  generalize w1.heap.size = B at *
  go_wp2_with fail
  go_loopw [1, 11, 12] (fun x e s wr => RunRel R keeps most ma mv pt w B x e s wr) (fun _ _ _ wr => leftM most ma wr)
  case atStart => exact ⟨_, _, _, _, _, _, _, _, _, HAT.out.1, HAT.out.2⟩
  case round =>
    clear HAT
    obtain ⟨b, env, begun, path, st, log, mv2, pt2, cells, hpl, hra⟩ := hrel
    have HPL := Lib.hid hpl; have HRA := Lib.hid hra
    have hgw := Lib.hid (glob_but HG.out HN.out hra.but)
    have hlm := leftM_eq hra.ms
    clear hpl hra
    cases b with
    | leaf c =>
      obtain ⟨bb, sl, e, hFb, hc, _⟩ := leaf_open HRA.out.rb
      subst e
      have c1 : wr.cell? ⟨bb, 0, none⟩ = some (str [c]) := by simp [World.cell?, hc]
      have HIL := Lib.hid HRA.out.rb
      clear hc
      by_cases h117 : c = 117
      · subst h117
        have hR : R = some (117, log) := by rw [HPL.out.goes, runM_u]; simp [asInts]
        have HR := Lib.hid hR; clear hR
        go_wp2_with fail
        go_ret2
        refine ⟨HRA.out.but, fun h => (by rw [HR.out] at h; simp at h), fun c' log' h => ?_⟩
        rw [HR.out] at h
        simp only [Option.some.injEq, Prod.mk.injEq] at h
        obtain ⟨rfl, rfl⟩ := h
        exact ⟨rfl, _, _, HRA.out.ms, HRA.out.new⟩
      · generalize hS : [c] = S at *
        have hne : (S == [117]) = false := by rw [beq_eq_false_iff_ne, ← hS]; simpa using h117
        have hbg : wr.cell? ⟨B, 0, none⟩ = some (.int .i64 (begun : Nat)) := by simp [World.cell?, HRA.out.beg]
        have hbp : wr.cell? ⟨B, 1, none⟩ = some (str path) := by simp [World.cell?, HRA.out.beg]
        have hadd := fun w0 => add_str (P := Tryz.prog) S path (by rw [← hS]; have := HPL.out.lpath; have := HPL.out.le; simp; omega) w0
        have HS := Lib.hid hS; clear hS
        have H117 := Lib.hid h117; clear h117
        go_wp2_with fail
        refine (isList_leaf _ _ c _ HIL.out).mono ?_
        rintro en w' ⟨rfl, e⟩
        obtain rfl : wr = w' := e.symm
        go_wp2_with fail
        have nB1 : ¬ MBk ma mv2 pt2 bb := fun h => hFb (.inl h)
        have nB2 : ¬ MBk ma mv2 pt2 B := HRA.out.bB.2
        by_cases hout : log.length = most
        · have HO := Lib.hid hout; clear hout
          go_region_held3 (fun w' => w'.cell? ⟨bb, 0, none⟩ = some (str S) ∧ w'.cell? ⟨B, 1, none⟩ = some (str path) ∧ w'.cell? ⟨B, 0, none⟩ = some (.int .i64 (begun : Nat)))
            (first
              | exact ⟨c1, hbp, hbg⟩
              | exact cells3 (But.ofBelow (m := fun _ => False) hb1) c1 hbp hbg (fun h => h) (fun h => h) (fun h => h)
              | go_keep)
            (first
              | (go_at_call 106; refine (moveS_any keeps most ma log mv2 pt2 (S ++ path) (begun : Int) _ HRA.out.ms.drew hgw.out.2.drew hm HPL.out.le).mono ?_; intro en w1 hw1; unfold MovedS at hw1; rw [if_pos HO.out] at hw1; obtain ⟨te, pe, rfl, hb1'⟩ := hw1; have hb1 := below_ud hb1'; clear hb1'))
          go_wp2_with fail
          go_ret2
          have hR : R = none := by rw [HPL.out.goes, HO.out, Nat.sub_self, runM_out H117.out]; rfl
          exact ⟨HRA.out.but.trans (But.ofBelow hb1), fun _ => ⟨te, pe, rfl⟩, fun c' log' h => by rw [hR] at h; simp at h⟩
        · have HO := Lib.hid hout; clear hout
          go_region_held3 (fun w' => w'.cell? ⟨bb, 0, none⟩ = some (str S) ∧ w'.cell? ⟨B, 1, none⟩ = some (str path) ∧ w'.cell? ⟨B, 0, none⟩ = some (.int .i64 (begun : Nat)))
            (first
              | exact ⟨c1, hbp, hbg⟩
              | exact cells3 hb1 c1 hbp hbg nB1 nB2 nB2
              | go_keep)
            (first
              | (go_at_call 106; refine (moveS_any keeps most ma log mv2 pt2 (S ++ path) (begun : Int) _ HRA.out.ms.drew hgw.out.2.drew hm HPL.out.le).mono ?_; intro en w1 hw1; unfold MovedS at hw1; rw [if_neg HO.out] at hw1; obtain ⟨mv3, pt3, rfl, hb1', hms1, hn1⟩ := hw1; have hb1 := but_ud hb1'; clear hb1'))
          obtain ⟨d1, d2, d3⟩ := cells3 hb1 c1 hbp hbg nB1 nB2 nB2
          have HM := Lib.hid (And.intro hb1 (And.intro hms1 hn1)); clear hb1 hms1 hn1 c1 hbp hbg
          obtain ⟨sa, sc, es⟩ := HRA.out.own.slice
          subst es
          have HX := Lib.hid hlm; clear hlm
          cases st with
          | nil =>
            have hR : R = some (c, log ++ [(c :: path, (begun : Int))]) := by
              obtain ⟨d, hd⟩ : ∃ d, most - log.length = d + 1 := ⟨most - log.length - 1, by have := HPL.out.le; have := HO.out; omega⟩
              rw [HPL.out.goes, hd, runM_end H117.out]; rfl
            have HR := Lib.hid hR; clear hR
            rw [List.length_nil]
            go_wp2_with fail
            go_ret2
            refine ⟨HRA.out.but.trans' HM.out.1 fun i hi hh => ?_, fun h => (by rw [HR.out] at h; simp at h), fun c' log' h => ?_⟩
            · rcases HRA.out.new i hh with h | h
              · exact h
              · omega
            · rw [HR.out] at h
              simp only [Option.some.injEq, Prod.mk.injEq] at h
              obtain ⟨rfl, rfl⟩ := h
              refine ⟨by rw [HS.out]; rfl, mv3, pt3, ?_, fun i hi => ?_⟩
              · have := HM.out.2.1; rw [← HS.out] at this; exact this
              · rcases HM.out.2.2 i hi with h | h
                · exact HRA.out.new i h
                · exact .inr (Nat.le_trans HRA.out.but.size h)
          | cons f st =>
            obtain ⟨g, gc, yv, nv, fe, cells1, es, hcap, k0, k1, k2, k3, k4, hcl, hl1, hr1, ry, rn, re⟩ := frame_top HRA.out.own HRA.out.rs
            simp only [List.length_cons, Value.slice.injEq, true_and] at es
            obtain ⟨rfl, rfl⟩ := es
            obtain ⟨ya, e⟩ := encB_ptr ry
            subst e
            obtain ⟨na, e⟩ := encB_ptr rn
            subst e
            obtain ⟨fa, fc, e⟩ : ∃ a c, fe = .slice a f.env.length c := by
              have h := re; rw [Rep_sl] at h; obtain ⟨_, a, c, e, _⟩ := h; exact ⟨a, c, e⟩
            subst e
            have hgs := HRA.out.sB g rfl
            have q0 := (HM.out.1.cell (World.block_lt_of_cell? wr _ k0) hgs.2.2).trans k0
            have q1 := (HM.out.1.cell (World.block_lt_of_cell? wr _ k1) hgs.2.2).trans k1
            have q2 := (HM.out.1.cell (World.block_lt_of_cell? wr _ k2) hgs.2.2).trans k2
            have q3 := (HM.out.1.cell (World.block_lt_of_cell? wr _ k3) hgs.2.2).trans k3
            have q4 := (HM.out.1.cell (World.block_lt_of_cell? wr _ k4) hgs.2.2).trans k4
            have HF := Lib.hid (And.intro hcl (And.intro hl1 (And.intro hr1 (And.intro ry (And.intro rn re)))))
            have hstl := HPL.out.stl
            rw [List.length_cons] at hstl ⊢
            have HC := Lib.hid hcap
            have hle := HPL.out.le
            clear hcl hl1 hr1 ry rn re k0 k1 k2 k3 k4 hcap
            have hsc : (st.length : Int) ≤ (sc : Int) := by have := HC.out; omega
            have hzB := lt_of_heap HRA.out.beg
            have hz1 := HM.out.1.size
            have hzbb : bb < w1.heap.size := World.block_lt_of_cell? w1 _ d1
            have hzB1 : B < w1.heap.size := World.block_lt_of_cell? w1 _ d2
            by_cases h116 : c = 116
            · have hd : (S == [116]) = true := by rw [beq_iff_eq, ← HS.out, h116]
              have H116 := Lib.hid h116; clear h116
              go_upto_region 29 with (fail)
              obtain ⟨W2, hW2⟩ : ∃ W2, w1.alloc (.cells #[.pointer (some ⟨ya, 0, none⟩), .pointer (some ⟨na, 0, none⟩), .slice fa f.env.length fc, .int .i64 (f.begun : Nat), str f.path] 186) = W2 := ⟨_, rfl⟩
              have r2 : W2.cell? ⟨w1.heap.size, 2, none⟩ = some (.slice fa f.env.length fc) := by rw [← hW2]; simp
              have r3 : W2.cell? ⟨w1.heap.size, 3, none⟩ = some (.int .i64 (f.begun : Nat)) := by rw [← hW2]; simp
              have r4 : W2.cell? ⟨w1.heap.size, 4, none⟩ = some (str f.path) := by rw [← hW2]; simp
              have t0 : W2.cell? ⟨B, 0, none⟩ = some (.int .i64 (begun : Nat)) := by rw [← hW2]; exact cell_alloc d3
              have t1 : W2.cell? ⟨B, 1, none⟩ = some (str path) := by rw [← hW2]; exact cell_alloc d2
              have hB2 : W2.heap[B]? = some (.cells #[.int .i64 (begun : Nat), str path] 179 (0, 0)) := by rw [← hW2]; exact heap_past (by rw [HM.out.1.block B hzB nB2]; exact HRA.out.beg)
              have u0 : W2.frozen? ⟨B, 0, none⟩ = false := by simp [World.frozen?, hB2]
              have u1 : W2.frozen? ⟨B, 1, none⟩ = false := by simp [World.frozen?, hB2]
              rw [hW2]
              have HW2 := Lib.hid hW2; clear hW2 hB2 d1 d2 d3 q0 q1 q2 q3 q4
              have hBP : B ≠ w1.heap.size := by omega
              clear hadd hne
              go_region
              have hms3 : MS keeps most ma (log ++ [(c :: path, (begun : Int))]) mv3 pt3 w1 := by have := HM.out.2.1; rw [← HS.out] at this; exact this
              have hnew := runat_back (W := (W2.setCell ⟨B, 0, none⟩ (.int .i64 (f.begun : Nat))).setCell ⟨B, 1, none⟩ (str f.path)) (nb := f.yes) HRA.out HF.out.1 HF.out.2.1 HF.out.2.2.1 HF.out.2.2.2.1 HF.out.2.2.2.2.2 HM.out.1 hms3 HM.out.2.2 (by rw [← HW2.out])
              have hpl3 := runpl_back HPL.out H117.out HO.out
              rw [if_pos H116.out] at hpl3
              have HNEW := Lib.hid (And.intro hpl3 hnew); clear hpl3 hnew hms3
              go_roundw
              case rel => (repeat apply Exists.intro); exact ⟨⟨_, _, _, _, _, _, _, _, _, HNEW.out.1, HNEW.out.2⟩, rfl⟩
              case measure =>
                rw [HX.out]
                have h := leftM_eq HNEW.out.2.ms
                have hl : (log ++ [(c :: path, (begun : Int))]).length = log.length + 1 := by simp
                have := HPL.out.le; have := HO.out
                refine Nat.lt_of_le_of_lt (Nat.le_of_eq h) ?_
                rw [hl]; omega
            · have hd : (S == [116]) = false := by rw [beq_eq_false_iff_ne, ← HS.out]; simpa using h116
              have H116 := Lib.hid h116; clear h116
              go_upto_region 29 with (fail)
              obtain ⟨W2, hW2⟩ : ∃ W2, w1.alloc (.cells #[.pointer (some ⟨ya, 0, none⟩), .pointer (some ⟨na, 0, none⟩), .slice fa f.env.length fc, .int .i64 (f.begun : Nat), str f.path] 186) = W2 := ⟨_, rfl⟩
              have r2 : W2.cell? ⟨w1.heap.size, 2, none⟩ = some (.slice fa f.env.length fc) := by rw [← hW2]; simp
              have r3 : W2.cell? ⟨w1.heap.size, 3, none⟩ = some (.int .i64 (f.begun : Nat)) := by rw [← hW2]; simp
              have r4 : W2.cell? ⟨w1.heap.size, 4, none⟩ = some (str f.path) := by rw [← hW2]; simp
              have t0 : W2.cell? ⟨B, 0, none⟩ = some (.int .i64 (begun : Nat)) := by rw [← hW2]; exact cell_alloc d3
              have t1 : W2.cell? ⟨B, 1, none⟩ = some (str path) := by rw [← hW2]; exact cell_alloc d2
              have hB2 : W2.heap[B]? = some (.cells #[.int .i64 (begun : Nat), str path] 179 (0, 0)) := by rw [← hW2]; exact heap_past (by rw [HM.out.1.block B hzB nB2]; exact HRA.out.beg)
              have u0 : W2.frozen? ⟨B, 0, none⟩ = false := by simp [World.frozen?, hB2]
              have u1 : W2.frozen? ⟨B, 1, none⟩ = false := by simp [World.frozen?, hB2]
              rw [hW2]
              have HW2 := Lib.hid hW2; clear hW2 hB2 d1 d2 d3 q0 q1 q2 q3 q4
              have hBP : B ≠ w1.heap.size := by omega
              clear hadd hne
              go_region
              have hms3 : MS keeps most ma (log ++ [(c :: path, (begun : Int))]) mv3 pt3 w1 := by have := HM.out.2.1; rw [← HS.out] at this; exact this
              have hnew := runat_back (W := (W2.setCell ⟨B, 0, none⟩ (.int .i64 (f.begun : Nat))).setCell ⟨B, 1, none⟩ (str f.path)) (nb := f.no) HRA.out HF.out.1 HF.out.2.1 HF.out.2.2.1 HF.out.2.2.2.2.1 HF.out.2.2.2.2.2 HM.out.1 hms3 HM.out.2.2 (by rw [← HW2.out])
              have hpl3 := runpl_back HPL.out H117.out HO.out
              rw [if_neg H116.out] at hpl3
              have HNEW := Lib.hid (And.intro hpl3 hnew); clear hpl3 hnew hms3
              go_roundw
              case rel => (repeat apply Exists.intro); exact ⟨⟨_, _, _, _, _, _, _, _, _, HNEW.out.1, HNEW.out.2⟩, rfl⟩
              case measure =>
                rw [HX.out]
                have h := leftM_eq HNEW.out.2.ms
                have hl : (log ++ [(c :: path, (begun : Int))]).length = log.length + 1 := by simp
                have := HPL.out.le; have := HO.out
                refine Nat.lt_of_le_of_lt (Nat.le_of_eq h) ?_
                rw [hl]; omega
    | ask v ss y n =>
      obtain ⟨bb, sl, yv, nv, e, hFb, hc, hsl, hy, hnn⟩ := ask_open HRA.out.rb
      subst e
      obtain ⟨sa, sc, us, e, hus, hua⟩ := subs_open hsl
      subst e
      obtain ⟨ya, e⟩ := encB_ptr hy
      subst e
      obtain ⟨na, e⟩ := encB_ptr hnn
      subst e
      obtain ⟨hand, ef, bf⟩ := HPL.out.fit
      obtain ⟨e, hev, _⟩ := ask_next bf ef log.length
      obtain ⟨gb, go, gc, ub, ea', ec', eg, hFg, hgl, k0, k1, k2, k3, hkb, hke⟩ := env_at HRA.out.re hev
      subst eg
      have c0 : wr.cell? ⟨bb, 0, none⟩ = some (str []) := by simp [World.cell?, hc]
      have c1 : wr.cell? ⟨bb, 1, none⟩ = some (.int .i64 v) := by simp [World.cell?, hc]
      have hvl : v < env.length := (List.getElem?_eq_some_iff.1 hev).1
      have hvl' : (v : Int) < (env.length : Int) := by omega
      have hoke := okCs_at _ HPL.out.oke _ _ hev
      have hpl : e.path.length ≤ 2 * log.length ∧ e.env.length ≤ 16 * log.length := by obtain ⟨_, _, _, _⟩ := e; rw [okC] at hoke; exact ⟨hoke.2.2.2, hoke.2.2.1⟩
      have hss : ss.length ≤ 15 := by have := HPL.out.nb; rw [nB] at this; exact this.1
      have hle := HPL.out.le
      have hadd := fun w0 => add_str (P := Tryz.prog) [113] e.path (by simp; omega) w0
      obtain ⟨S, hS⟩ : ∃ S, S = [113] ++ e.path := ⟨_, rfl⟩
      rw [← hS] at hadd
      have HS := Lib.hid hS; clear hS
      have HIL := Lib.hid HRA.out.rb
      have HZ := Lib.hid (And.intro hc (And.intro hus (And.intro hua (And.intro hy (And.intro hnn (And.intro hev (And.intro hkb hke)))))))
      have hzB := lt_of_heap HRA.out.beg
      have hzb := lt_of_heap hc
      clear hc hus hua hy hnn hev hkb hke hsl bf ef hoke
      have nB1 : ¬ MBk ma mv2 pt2 bb := fun h => hFb (.inl h)
      have nB2 : ¬ MBk ma mv2 pt2 B := HRA.out.bB.2
      have hltM : ∀ i, MBk ma mv2 pt2 i → i < wr.heap.size := fun i hi => MBk.lt HRA.out.ms hi
      have HLT := Lib.hid hltM; clear hltM
      have HX := Lib.hid hlm; clear hlm
      go_wp2_with fail
      refine (isList_ask _ _ v ss y n _ HIL.out).mono ?_
      rintro en w' ⟨rfl, e0⟩
      obtain rfl : wr = w' := e0.symm
      go_upto_region 8 with (fail)
      obtain ⟨W, hW⟩ : ∃ W, wr.alloc (.cells #[.pointer (some ⟨ub, 0, none⟩), .slice ea' e.env.length ec', .int .i64 (e.begun : Nat), str e.path] 190) = W := ⟨_, rfl⟩
      have htri : Tri bb B wr.heap.size v (.slice sa ss.length sc) (.pointer (some ⟨ya, 0, none⟩)) (.pointer (some ⟨na, 0, none⟩)) begun path (.pointer (some ⟨ub, 0, none⟩)) (.slice ea' e.env.length ec') (.int .i64 (e.begun : Nat)) (str e.path) W := by
        rw [← hW]; exact ⟨heap_past HZ.out.1, heap_past HRA.out.beg, heap_new _ _⟩
      have hbW : Below wr.heap.size wr W := by rw [← hW]; exact (Below.refl _ _).alloc (Nat.le_refl _) _
      have hzW : W.heap.size = wr.heap.size + 1 := by rw [← hW]; exact size_alloc _ _
      have hmW := HRA.out.ms.below hbW
      have hgW : Glob W ∧ GlobT W := ⟨hgw.out.1.below hbW, hgw.out.2.but (m := fun _ => False) (But.ofBelow hbW) (fun h => h)⟩
      rw [hW]
      obtain ⟨t2, t3, t4, g0, g1, p0, p1, p2, p3, _, _, zP, zB, zb⟩ := htri.cells
      have HT := Lib.hid htri; have HW := Lib.hid (And.intro hbW (And.intro hmW (And.intro hgW (And.intro hzW hW)))); clear htri hbW hmW hgW hzW hW c0 c1 k0 k1 k2 k3
      have nP : ¬ MBk ma mv2 pt2 wr.heap.size := fun h => Nat.lt_irrefl _ (HLT.out _ h)
      by_cases hout : log.length = most
      · have HO := Lib.hid hout; clear hout
        go_wp2_with fail
        refine (moveS_any keeps most ma log mv2 pt2 S (e.begun : Int) W HW.out.2.1 HW.out.2.2.1.2 hm HPL.out.le).mono ?_
        intro en w1 hw1
        unfold MovedS at hw1
        rw [if_pos HO.out] at hw1
        obtain ⟨te, pe, rfl, hb1⟩ := hw1
        go_wp2_with fail
        go_ret2
        have hR : R = none := by rw [HPL.out.goes, HO.out, Nat.sub_self, runM_out2]; rfl
        exact ⟨(HRA.out.but.trans (But.ofBelow HW.out.1)).trans (But.ofBelow hb1), fun _ => ⟨te, pe, rfl⟩, fun c' log' h => by rw [hR] at h; simp at h⟩
      · have HO := Lib.hid hout; clear hout
        go_wp2_with fail
        refine (moveS_any keeps most ma log mv2 pt2 S (e.begun : Int) W HW.out.2.1 HW.out.2.2.1.2 hm HPL.out.le).mono ?_
        intro en w1 hw1
        unfold MovedS at hw1
        rw [if_neg HO.out] at hw1
        obtain ⟨mv3, pt3, rfl, hb1, hms1, hn1⟩ := hw1
        have htri1 := HT.out.but hb1 nB1 nB2 nP
        clear t2 t3 t4 g0 g1 p0 p1 p2 p3 zP zB zb
        obtain ⟨t2, t3, t4, g0, g1, p0, p1, p2, p3, _, _, zP, zB, zb⟩ := htri1.cells
        obtain ⟨sta, stc, es⟩ := HRA.out.own.slice
        subst es
        have hstl := HPL.out.stl
        have hO1 : Own w1 186 5 (.slice sta st.length stc) st.length cells := by
          refine HRA.out.own.keep fun g o hg ho => ?_
          rw [hb1.block g (by have := HW.out.2.2.2.1; have := lt_of_heap ho; omega) (HRA.out.sB g hg).2.2, HW.out.1.block g (lt_of_heap ho)]; exact ho
        have HM := Lib.hid (And.intro hb1 (And.intro hms1 hn1)); have HT1 := Lib.hid htri1; have HO1 := Lib.hid hO1
        clear hb1 hms1 hn1 htri1 hO1
        have hlit : SrcSl 5 (.slice (some ⟨w1.heap.size, 0, none⟩) 1 1) 1 [.pointer (some ⟨ya, 0, none⟩), .pointer (some ⟨na, 0, none⟩), .slice (some ⟨gb, go, none⟩) env.length gc, .int .i64 (begun : Nat), str path] (w1.alloc (.cells #[.pointer (some ⟨ya, 0, none⟩), .pointer (some ⟨na, 0, none⟩), .slice (some ⟨gb, go, none⟩) env.length gc, .int .i64 (begun : Nat), str path] 186)).drew :=
          (SrcSl.litk #[.pointer (some ⟨ya, 0, none⟩), .pointer (some ⟨na, 0, none⟩), .slice (some ⟨gb, go, none⟩) env.length gc, .int .i64 (begun : Nat), str path] rfl (by simp [str, Value.oneCell']) _ rfl).drew
        have htri1d := Tri.drew (HT1.out.below ((Below.refl _ w1).alloc (Nat.le_refl _) (.cells #[.pointer (some ⟨ya, 0, none⟩), .pointer (some ⟨na, 0, none⟩), .slice (some ⟨gb, go, none⟩) env.length gc, .int .i64 (begun : Nat), str path] 186)))
        have HT1d := Lib.hid htri1d; clear htri1d
        have nS1 : ¬ (Value.slice sta st.length stc).ownBlock = some bb := fun h => hFb (.inr (.inr h))
        have nS2 : ¬ (Value.slice sta st.length stc).ownBlock = some B := fun h => (HRA.out.sB _ h).2.1 rfl
        have nS3 : ¬ (Value.slice sta st.length stc).ownBlock = some wr.heap.size := fun h => Nat.lt_irrefl _ (HRA.out.own.lt h)
        have hmax : st.length + 1 ≤ maxLen := by unfold maxLen; omega
        have hby : (st.length + 1) * 64 ≤ 140737488355328 := by omega
        have h05 : 0 < 5 := by omega
        have HL := Lib.hid hlit; clear hlit
        go_wp2_with fail
        go_region_held3 (fun w' => w'.cell? ⟨bb, 3, none⟩ = some (.pointer (some ⟨ya, 0, none⟩)) ∧ w'.cell? ⟨bb, 4, none⟩ = some (.pointer (some ⟨na, 0, none⟩)) ∧ w'.cell? ⟨B, 0, none⟩ = some (.int .i64 (begun : Nat)) ∧ w'.cell? ⟨B, 1, none⟩ = some (str path))
          (first
            | exact ⟨t3, t4, g0, g1⟩
            | exact ⟨t3', t4', g0', g1'⟩
            | go_keep)
          (first
            | (refine step_append_gen (by rfl) _ _ _ (by rfl) 186 (.agg #[.pointer none, .pointer none, .slice none 0 0, .int .i64 0, str []]) 5 64 Tryz.underlying184 Tryz.infoFr rfl h05 (.slice sta st.length stc) st.length cells (by rfl) (HO1.out.alloc _).drew _ 1 [.pointer (some ⟨ya, 0, none⟩), .pointer (some ⟨na, 0, none⟩), .slice (some ⟨gb, go, none⟩) env.length gc, .int .i64 (begun : Nat), str path] (by rfl) HL.out hmax hby ?_; intro a' c' w2 ho2 hb2 hg2; have htri2 := HT1d.out.but hb2 nS1 nS2 nS3; obtain ⟨t2', t3', t4', g0', g1', p0', p1', p2', p3', _, _, zP', zB', zb'⟩ := htri2.cells))
        have hbC2 : But (Chg ma mv2 pt2 B (.slice sta st.length stc)) wr w2 :=
          (((((But.ofBelow (m := Chg ma mv2 pt2 B (.slice sta st.length stc)) HW.out.1).trans' HM.out.1 (fun i _ hi => .inl hi)).alloc _).drew).trans' hb2 fun i _ hi => .inr (.inr hi))
        have hw12 : But (fun b => (Value.slice sta st.length stc).ownBlock = some b) w1 w2 := (((But.refl _ w1).alloc _).drew).trans hb2
        have hg2' : ∀ g, (Value.slice a' (st.length + 1) c').ownBlock = some g → (Value.slice sta st.length stc).ownBlock = some g ∨ w1.heap.size ≤ g := by
          intro g hg
          rcases hg2 g hg with h | h
          · exact .inl h
          · have : g = w1.heap.size + 1 := by rw [h]; exact size_alloc _ _
            exact .inr (by omega)
        have hzw : w1.heap.size ≤ w2.heap.size := hw12.size
        have hgl2 : Glob w2 :=
          (glob_but (w' := w1) HW.out.2.2.1 (fun i hi => notg_new HG.out HN.out (HRA.out.new i hi)) HM.out.1).1.but hw12 fun i hi => (notg_new HG.out HN.out (.inr (HRA.out.sB i hi).1)).1
        have hus2 : SubsAt w2.drew ss.length us sa := fun k hk => by
          obtain ⟨b, o, u, e, hu, hF, hc⟩ := HZ.out.2.2.1 k hk
          exact ⟨b, o, u, e, hu, (hbC2.cell (p := ⟨b, o + k, none⟩) (World.block_lt_of_cell? wr _ hc) hF).trans hc⟩
        have HC2 := Lib.hid (And.intro hbC2 (And.intro hw12 (And.intro ho2 hg2'))); have HT2 := Lib.hid (Tri.drew htri2); have HU2 := Lib.hid hus2
        have HGL := Lib.hid (show Glob w2.drew from hgl2.but (m := fun _ => False) (But.refl _ _).drew (fun _ h => h.elim))
        clear hbC2 hw12 ho2 hg2' htri2 hus2 hgl2 hb2 hg2 t2 t3 t4 g0 g1 p0 p1 p2 p3 zP zB zb
        have hs16 : ss.length ≤ 16 := by omega
        have hp1m : e.path.length ≤ 1000000 := by omega
        go_wp2_with fail
        go_region_held3 (fun w' => w'.cell? ⟨bb, 2, none⟩ = some (.slice sa ss.length sc) ∧ w'.cell? ⟨wr.heap.size, 3, none⟩ = some (str e.path))
          (first
            | exact ⟨t2', p3'⟩
            | exact ⟨x2, x3⟩
            | exact ⟨y2, y3⟩
            | go_keep)
          (first
            | (go_at_call 108; refine (places_any ss.length log.length e.path _ HGL.out hs16 hp1m).mono ?_; rintro en w3 ⟨pa3, pc3, rfl, ho3, hb3, hf3⟩; have htri3 := HT2.out.below hb3; obtain ⟨x2, _, _, _, _, _, _, _, x3, _⟩ := htri3.cells)
            | (go_at_call 107; refine (entries_any ss.length log.length e.path us sa sc (some ⟨gb, go, none⟩) env.length gc pa3 pc3 _ hs16 (HU2.out.below hb3) ho3).mono ?_; rintro en w4 ⟨ea4, ec4, rfl, ho4, hb4, hf4⟩; have htri4 := htri3.below hb4; obtain ⟨y2, _, _, _, _, _, _, _, y3, _⟩ := htri4.cells))
        have hke4 : Rep (fun i => ¬ Chg ma mv2 pt2 B (.slice sta st.length stc) i ∧ i < wr.heap.size) w4 (.sl 190 4 e.env.length (encCs e.env)) (.slice ea' e.env.length ec') :=
          (Rep.keep fun b o hf ho => ⟨⟨hf, lt_of_heap ho⟩, by
            have h2 : w2.heap[b]? = some o := by rw [HC2.out.1.block b (lt_of_heap ho) hf]; exact ho
            have h3 : w3.heap[b]? = some o := by rw [hb3.block b (lt_of_heap h2)]; exact h2
            rw [hb4.block b (lt_of_heap h3)]; exact h3⟩).1 _ _ HZ.out.2.2.2.2.2.2.2
        obtain ⟨news, hnews, hsrcn⟩ := SrcSl.ofRep hke4 (oneCell_encCs _)
        have hsrce := SrcSl.ofOwn ho4 (ents_one (oneCell_encBs _ _ HZ.out.2.1) rfl _ _ _)
        have hz3 := hb3.size
        have hz4 := hb4.size
        have HN4 := Lib.hid (And.intro hnews (And.intro hsrcn hsrce)); have H4 := Lib.hid (And.intro ho4 (And.intro hb4 (And.intro hf4 (And.intro hb3 htri4))))
        clear hnews hsrcn hsrce ho4 hb4 hf4 htri4 htri3 ho3 hf3 hb3 hke4 t2' t3' t4' g0' g1' p0' p1' p2' p3' x2 x3 y2 y3
        obtain ⟨t2, t3, t4, g0, g1, p0, p1, p2, p3, _, _, zP, zB, zb⟩ := H4.out.2.2.2.2.cells
        have hel := hpl.2
        go_wp2_with (at_builtin; refine wpList_append_gen rfl _ _ 180 rfl 190 (.agg #[.pointer none, .slice none 0 0, .int .i64 0, str []]) 4 56 Tryz.underlying180 Tryz.infoEn rfl (by decide) (.slice none 0 0) 0 [] rfl ?c1 _ e.env.length news rfl ?c2 ?c3 ?c4 ?_)
        case c1 => exact World.ownsRow_nil _ _ _ _
        case c2 => exact HN4.out.2.1
        case c3 => unfold maxLen; omega
        case c4 => omega
        intro a5 c5 w5 ho5 hb5 hg5
        have hb5' : Below w4.heap.size w4 w5 := hb5.toBelow (Nat.le_refl _) fun i _ h => by simp [Value.ownBlock] at h
        have hg5' : ∀ g, (Value.slice a5 e.env.length c5).ownBlock = some g → g = w4.heap.size := by
          intro g hg
          rcases hg5 g hg with h | h
          · simp [Value.ownBlock] at h
          · exact h
        have H5 := Lib.hid (And.intro ho5 (And.intro hb5' hg5')); clear ho5 hb5 hg5 hb5' hg5'
        go_wp2_with (at_builtin; refine wpList_append_gen rfl _ _ 180 rfl 190 (.agg #[.pointer none, .slice none 0 0, .int .i64 0, str []]) 4 56 Tryz.underlying180 Tryz.infoEn rfl (by decide) (.slice a5 e.env.length c5) e.env.length news rfl ?d1 _ ss.length (ents us (.slice (some ⟨gb, go, none⟩) env.length gc) log.length e.path ss.length) rfl ?d2 ?d3 ?d4 ?_)
        case d1 => exact H5.out.1
        case d2 => exact SrcSl.below H5.out.2.1 HN4.out.2.2
        case d3 => unfold maxLen; omega
        case d4 => omega
        intro a6 c6 w6 ho6 hb6 hg6
        have hz5 := H5.out.2.1.size
        have hz6 := hb6.size
        have hb56 : Below w4.heap.size w5 w6 := hb6.toBelow H5.out.2.1.size fun i hi h => by have := H5.out.2.2 i h; omega
        have hb46 : Below w4.heap.size w4 w6 := H5.out.2.1.trans hb56
        have htri6 := H4.out.2.2.2.2.below hb46
        have hb26 : Below w2.heap.size w2 w6 := by
          have h23 : Below w2.heap.size w2 w3 := below_ud H4.out.2.2.2.1
          exact (h23.trans (H4.out.2.1.mono h23.size)).trans (hb46.mono (by have := h23.size; have := H4.out.2.1.size; omega))
        have hzz : w2.heap.size ≤ w4.heap.size := Nat.le_trans (show w2.drew.heap.size ≤ w3.heap.size from hz3) hz4
        have hge : ∀ g, (Value.slice a6 (e.env.length + ss.length) c6).ownBlock = some g → w4.heap.size ≤ g := by
          intro g hg
          rcases hg6 g hg with h | h
          · have := H5.out.2.2 g h; omega
          · omega
        have H6 := Lib.hid (And.intro ho6 (And.intro hb46 (And.intro hb26 (And.intro htri6 (And.intro hge (And.intro hzz hzw))))))
        clear ho6 hb6 hg6 hb56 hb46 hb26 hge htri6 t2 t3 t4 g0 g1 p0 p1 p2 p3 zP zB zb
        obtain ⟨t2, t3, t4, g0, g1, p0, p1, p2, p3, fB0, fB1, zP, zB, zb⟩ := H6.out.2.2.2.1.cells
        have hBP : B ≠ wr.heap.size := by omega
        clear t2 t3 t4 p1 p2 hadd hz3 hz4 hz5 hz6 hzz hzw
        go_upto_region 14 with (fail)
        go_region
        have hms3 : MS keeps most ma (log ++ [(113 :: e.path, (e.begun : Int))]) mv3 pt3 w1 := by have := HM.out.2.1; rw [HS.out] at this; exact this
        have k1 : But (Chg ma mv2 pt2 B (.slice sta st.length stc)) wr w6 := HC2.out.1.trans (But.ofBelow H6.out.2.2.1)
        have k2 : But (fun b => (Value.slice sta st.length stc).ownBlock = some b) w1 w6 := HC2.out.2.1.trans (But.ofBelow H6.out.2.2.1)
        have k3 : ∀ i, MBk ma mv3 pt3 i → MBk ma mv2 pt2 i ∨ wr.heap.size ≤ i := fun i hi => by
          rcases HM.out.2.2 i hi with h | h
          · exact .inl h
          · have := HW.out.2.2.2.1; exact .inr (by omega)
        have k4 : wr.heap.size ≤ w1.heap.size := by have := HM.out.1.size; have := HW.out.2.2.2.1; omega
        have k5 := HC2.out.2.2.1.keep (w' := w6) fun g o hg ho => by rw [H6.out.2.2.1.block g (lt_of_heap ho)]; exact ho
        have k6 : ∀ g, (Value.slice a6 (e.env.length + ss.length) c6).ownBlock = some g → w1.heap.size ≤ g ∧ (Value.slice a' (st.length + 1) c').ownBlock ≠ some g := fun g hg => by
          have h1 := H6.out.2.2.2.2.1 g hg
          have h2 := H6.out.2.2.2.2.2.1
          have h3 := H6.out.2.2.2.2.2.2
          refine ⟨by omega, fun hs => ?_⟩
          have := HC2.out.2.2.1.lt hs
          omega
        have hnew := runat_ask (W := (w6.setCell ⟨B, 0, none⟩ (.int .i64 (log.length : Nat))).setCell ⟨B, 1, none⟩ (str e.path)) (w1 := w1) (w6 := w6) (w4 := w4) HRA.out HZ.out.2.2.2.1 HZ.out.2.2.2.2.1 HZ.out.2.2.2.2.2.2.1 HN4.out.1 H6.out.2.1 HZ.out.2.1
          k1 k2 hms3 k3 k4 H6.out.2.2.2.1.g k5 HC2.out.2.2.2 H6.out.1 k6 rfl
        have hpl3 := runpl_ask HPL.out HO.out HZ.out.2.2.2.2.2.1
        have HNEW := Lib.hid (And.intro hpl3 hnew); clear hpl3 hnew hms3
        go_roundw
        case rel => (repeat apply Exists.intro); exact ⟨⟨_, _, _, _, _, _, _, _, _, HNEW.out.1, HNEW.out.2⟩, rfl⟩
        case measure =>
          rw [HX.out]
          have h := leftM_eq HNEW.out.2.ms
          have hl : (log ++ [(113 :: e.path, (e.begun : Int))]).length = log.length + 1 := by simp
          have := HPL.out.le; have := HO.out
          refine Nat.lt_of_le_of_lt (Nat.le_of_eq h) ?_
          rw [hl]; omega

end Go.Proofs.YtibnnbdpfkgfhaaGreatDoor

/- The walks of the reference's l4Start and RunResult. -/
import Derived.Test.YtibnnbdpfkgfhaaGreatDoorS22
namespace Go.Proofs.YtibnnbdpfkgfhaaGreatDoor
open Go.RowKit

/-- What the reference's runs give. -/
def specRun (keep : Bool) (most : Nat) (s text : Bs) (xs : List Bs) : Option (UInt8 × List (Bs × Int)) := (specStrat s text).bind fun b =>
  if xs.length = (specType s).1.args.length then (readAll (specType s).1.args xs).bind fun bs => runS keep (most - 1) [([113], -1)] b (ownS [] 0 0 (specType s).1.args bs) 0 [] else none

def StartPost (keep : Bool) (most : Nat) (s text : Bs) (xs : List Bs) (w : World) (en : Ending) (w' : World) : Prop :=
  ∃ ra o ok, en = .returned (.tuple #[.pointer (some ⟨ra, 0, none⟩), str o, .bool ok]) ∧ Below w.heap.size w w' ∧ (specRun keep most s text xs = none → ok = false) ∧
    (∀ c log, specRun keep most s text xs = some (c, log) → ok = true ∧ o = [c] ∧ ∃ mv pt, RS keep most ra log mv pt w' ∧ (∀ i, MBk ra mv pt i → w.heap.size ≤ i))

theorem rep_empty {F : Nat → Prop} {w : World} {T : TypeId} {sz : Nat} (g c : Nat) : Rep F w (.sl T sz 0 []) (.slice (some ⟨g, 0, none⟩) 0 c) := by
  rw [Rep_sl]
  exact ⟨by simp, _, c, rfl, Nat.zero_le _, fun h => by simp at h, .inl rfl⟩

theorem readAll_wf : ∀ (ts : List Ty) (xs : List Bs) (bs : List Bd), ts.length = xs.length → (∀ t ∈ ts, atomsT t ≤ 15) → readAll ts xs = some bs → wfBs bs
  | [], [], bs, _, _, h => by simp [readAll] at h; subst h; simp [wfBs]
  | [], x :: xs, bs, hl, _, h => by simp at hl
  | t :: ts, [], bs, hl, _, h => by simp at hl
  | t :: ts, x :: xs, bs, hl, ht, h => by
    simp only [readAll, Option.bind_eq_some_iff, Option.map_eq_some_iff] at h
    obtain ⟨b, h1, bs', h2, rfl⟩ := h
    rw [wfBs]
    exact ⟨(rdStrat_good (ht t (by simp)) h1).1.wf, readAll_wf ts xs bs' (by simpa using hl) (fun a ha => ht a (by simp [ha])) h2⟩
theorem length_len {n : Nat} {ts : List Ty} (h : n = ts.length) (h15 : ts.length ≤ 15) : n ≤ 16 := by omega
theorem hand_own {M : Nat → Prop} {B : Nat} {n0 : Nat} {own : List SC} {w w' : World} {a : Option Addr} {c : Nat} (hM : ∀ i, B ≤ i → ¬ M i) (_ : B ≤ B) (hw : B ≤ w.heap.size)
    (h : Rep (fun i => (¬ M i ∧ i < n0) ∨ w.heap.size ≤ i) w' (.sl 60 9 (([] : List SC).length + own.length) (encSCs ([] ++ own))) (.slice a (([] : List SC).length + own.length) c)) : Rep (fun i => ¬ M i) w' (.sl 60 9 own.length (encSCs own)) (.slice a own.length c) := by
  rw [List.nil_append, List.length_nil, Nat.zero_add] at h
  exact (Rep.keep fun i o hi ho => ⟨by rcases hi with h | h; exact h.1; exact hM i (by omega), ho⟩).1 _ _ h
theorem but_drewN {m : Nat → Prop} {a b : World} (h : But m a b) (n : Nat) : But m a (b.drewN n) := ⟨h.os, h.tape, h.output, h.size, h.block⟩
/-- What holds ahead of the machine's first round. -/
theorem gopl_start {keep : Bool} {most : Nat} {s text : Bs} {xs : List Bs} {b : Bd} {bs : List Bd} (hg : Good (specType s).1 b) (hl : xs.length = (specType s).1.args.length) (hr : readAll (specType s).1.args xs = some bs) (h1 : 1 ≤ most)
    (hR : specRun keep most s text xs = runS keep (most - 1) [([113], -1)] b (ownS [] 0 0 (specType s).1.args bs) 0 []) :
    GoPl keep (specRun keep most s text xs) most b (ownS [] 0 0 (specType s).1.args bs) 0 [] [([113], -1)] ∧ bs.length = (specType s).1.args.length ∧ bs.length ≤ 15 := by
  have hbl := readAll_length _ _ _ hl.symm hr
  have h15a : ∀ x ∈ (specType s).1.args, atomsT x ≤ 15 := fun x hx => by have := hg.atoms; have hm := atomsT_mk (specType s).1; have := mem_atomsTs hx; omega
  obtain ⟨hfa, hna⟩ := readAll_good _ _ _ hl.symm h15a hr
  have hnb := nB_of_fit b _ hg.fit h15a
  have hwf := readAll_wf _ _ _ hl.symm h15a hr
  have hal := length_le_atomsTs (specType s).1.args
  have hm := atomsT_mk (specType s).1
  have ha := hg.atoms
  have hl15 : bs.length ≤ 15 := by omega
  have hfh : fitBs (hands (([] : List SC).map SC.kind) (specType s).1.args) bs := by simpa [hands] using hfa
  obtain ⟨k1, k2⟩ := ownS_ok (env := []) (by rw [okSs]; trivial) 0 (specType s).1.args bs 0 hfh hwf
  have hol := ownS_length [] 0 (specType s).1.args bs 0 (by omega)
  refine ⟨⟨.inl ⟨by simp; omega, hR⟩, hg.wf, k1, by rw [k2]; exact hg.fit, hnb, ?_, by rw [hol]; simp; omega, by simp, by simp, by simp, ?_⟩, by omega, hl15⟩
  · exact ownS_okN (n := 1) (m := 0) (env := []) (by rw [okNs]; trivial) (by simp) (by omega) _ _ 0 (by omega) hna
  · intro i q p hi
    rcases i with _ | i
    · simp at hi; obtain ⟨rfl, rfl⟩ := hi; simp
    · simp at hi

set_option maxRecDepth 100000 in
set_option maxHeartbeats 4000000 in
theorem l4Start_any (keep : Bool) (HM : MakeSaid keep) (HP : PathSaid keep) (most : Nat) (s text : Bs) (xs : List Bs) (a : Option Addr) (c : Nat) (w : World) (hx : StrsAt w a xs) (hs : Lim s.length) (ht : Lim text.length) (hxs : ∀ x ∈ xs, Lim x.length) (hxl : Lim xs.length) (h1 : 1 ≤ most) (hmost : most ≤ 100000) :
    Calls Tryz.prog 60 #[str s, str text, .slice a xs.length c, .int .i64 (most : Nat), .bool keep] w (StartPost keep most s text xs w) := by
  have HX := Lib.hid (And.intro hx (And.intro hxs (And.intro hxl (And.intro HM HP)))); clear hx hxs hxl HM HP
  go_enter Tryz.func60, Tryz.ntmps60
  go_wp2_with fail
  refine (l3Strategy_any s text hs ht w).mono ?_
  rintro en w1 ⟨ta, tc, s', v', a2, n2, c2, a3, n3, c3, rfl, hb1, hrt, hrs⟩
  have H1 := Lib.hid (And.intro hb1 (And.intro hrt hrs)); clear hb1 hrt hrs
  cases hq : specStrat s text with
  | none =>
    have hR : specRun keep most s text xs = none := by unfold specRun; rw [hq]; rfl
    have HR := Lib.hid hR; clear hR hq
    simp only [Option.isSome_none]
    go_wp2_with fail
    go_ret3
    refine ⟨_, [], false, rfl, ?_, fun _ => rfl, fun c log h => by rw [HR.out] at h; simp at h⟩
    (repeat' (first | with_reducible exact H1.out.1 | refine Below.alloc ?_ ?_ _))
    all_goals ((try simp only [size_alloc]); have := H1.out.1.size; omega)
  | some b =>
    have hg := specStrat_good hq
    have HQ := Lib.hid (And.intro hq hg.1); clear hq hg
    simp only [Option.isSome_some]
    go_upto_region 5 with (fail)
    obtain ⟨W, hW⟩ : ∃ W, ((((w1.alloc (.cells #[.slice ta (specType s).1.args.length tc] 46)).alloc (.cells #[str s', .int .i64 v', .slice a2 n2 c2, .slice a3 n3 c3] 51)).alloc (.cells #[] 9)).alloc (.cells #[] 3)).alloc (.cells #[.slice (some ⟨w1.heap.size + 2, 0, none⟩) 0 0, .slice (some ⟨w1.heap.size + 3, 0, none⟩) 0 0, .int .i64 0, .int .i64 (most : Nat), .bool keep, .bool false] 150) = W := ⟨_, rfl⟩
    have hbW : Below w1.heap.size w1 W := by
      rw [← hW]
      exact (((((Below.refl _ _).alloc (Nat.le_refl _) _).alloc (by simp) _).alloc (by simp; omega) _).alloc (by simp; omega) _).alloc (by simp; omega) _
    have hzW : W.heap.size = w1.heap.size + 5 := by rw [← hW]; simp
    have hWT : W.heap[w1.heap.size]? = some (.cells #[.slice ta (specType s).1.args.length tc] 46 (0, 0)) := by
      rw [← hW]; exact heap_past (heap_past (heap_past (heap_past (heap_new _ _))))
    have hWN : W.heap[w1.heap.size + 1]? = some (.cells #[str s', .int .i64 v', .slice a2 n2 c2, .slice a3 n3 c3] 51 (0, 0)) := by
      rw [← hW]; exact heap_past (heap_past (heap_past (heap_new2 _ _ _)))
    have hWR : W.heap[w1.heap.size + 4]? = some (.cells #[.slice (some ⟨w1.heap.size + 2, 0, none⟩) 0 0, .slice (some ⟨w1.heap.size + 3, 0, none⟩) 0 0, .int .i64 0, .int .i64 (most : Nat), .bool keep, .bool false] 150 (0, 0)) := by
      rw [← hW]
      exact heap_newE (by simp)
    have hrs0 : RS keep most (w1.heap.size + 4) [] (.slice (some ⟨w1.heap.size + 2, 0, none⟩) 0 0) (.slice (some ⟨w1.heap.size + 3, 0, none⟩) 0 0) W := by
      refine ⟨?_, ⟨_, _, _, _, _, _, rfl, rfl⟩, fun _ _ => ⟨?_, ?_⟩, fun g hg => ?_⟩
      · rw [hWR, decide_eq_false (by simp)]; rfl
      · rw [← hW]
        exact (((Own.litAt #[] 0 (w1.heap.size + 2) (by simp) (by decide) rfl).alloc _).alloc _)
      · rw [← hW]
        exact ((Own.litAt #[] 0 (w1.heap.size + 3) (by simp) (by decide) rfl).alloc _)
      · simp [Value.ownBlock] at hg
        omega
    have hxW : StrsAt W a xs := HX.out.1.below (H1.out.1.trans (hbW.mono H1.out.1.size))
    have hrt : Rep (fun i => i < w1.heap.size ∧ w.heap.size ≤ i) W (encS (specType s).1) (.slice ta (specType s).1.args.length tc) :=
      (Rep.keep fun i o hi ho => ⟨⟨lt_of_heap ho, hi⟩, by rw [hbW.block i (lt_of_heap ho)]; exact ho⟩).1 _ _ H1.out.2.1
    have t0 : W.cell? ⟨w1.heap.size, 0, none⟩ = some (.slice ta (specType s).1.args.length tc) := by simp [World.cell?, hWT]
    rw [hW]
    have HW := Lib.hid (And.intro hbW (And.intro hzW (And.intro hWT (And.intro hWN (And.intro hrs0 (And.intro hxW hrt)))))); clear hbW hzW hWT hWN hWR hrs0 hxW hrt hW
    have CA := Lib.hid (l4Args_any _ (specType s).1 _ xs a c W HW.out.2.2.2.2.2.2 HQ.out.2.atoms HW.out.2.2.2.2.2.1 HX.out.2.1 HX.out.2.2.1)
    go_wp2_with fail
    refine CA.out.mono ?_
    rintro en w2 ⟨la, ln, lc, rfl, hb2, hy2⟩
    have HY := Lib.hid (And.intro hb2 hy2); clear hb2 hy2
    cases hv : (decide (xs.length = (specType s).1.args.length) && (readAll (specType s).1.args xs).isSome) with
    | false =>
      have hR : specRun keep most s text xs = none := by
        unfold specRun; rw [HQ.out.1]; simp only [Option.bind_some]
        by_cases hl : xs.length = (specType s).1.args.length
        · rw [if_pos hl]
          rw [decide_eq_true hl, Bool.true_and] at hv
          cases hr : readAll (specType s).1.args xs with
          | none => rfl
          | some y => rw [hr] at hv; simp at hv
        · rw [if_neg hl]
      have HR := Lib.hid hR; clear hR hv
      go_wp2_with fail
      go_ret3
      refine ⟨_, [], false, rfl, ?_, fun _ => rfl, fun c log h => by rw [HR.out] at h; simp at h⟩
      have h1 := H1.out.1.trans (HW.out.1.mono H1.out.1.size)
      exact h1.trans (HY.out.1.mono h1.size)
    | true =>
      rw [Bool.and_eq_true, decide_eq_true_eq] at hv
      obtain ⟨hl, hsome⟩ := hv
      obtain ⟨bs, hbs⟩ := Option.isSome_iff_exists.1 hsome
      obtain ⟨hln, hrl⟩ := HY.out.2 bs hl hbs
      subst hln
      have hR : specRun keep most s text xs = runS keep (most - 1) [([113], -1)] b (ownS [] 0 0 (specType s).1.args bs) 0 [] := by
        unfold specRun; rw [HQ.out.1]; simp only [Option.bind_some]; rw [if_pos hl, hbs]; rfl
      have HR := Lib.hid (And.intro hR (And.intro hl (And.intro hbs hrl))); clear hR hl hbs hrl hsome
      have hrs2 := HW.out.2.2.2.2.1.below HY.out.1
      have CM := Lib.hid (HX.out.2.2.2.1 most (w1.heap.size + 4) [] _ _ [113] (-1) w2 hrs2 (Nat.zero_le _) hmost (by simp))
      clear hrs2
      go_wp2_with fail
      refine CM.out.mono ?_
      rintro en w3 ⟨mv3, pt3, rfl, hb3, hr3, hn3⟩
      obtain ⟨hpl, hbsl, hbs15⟩ := gopl_start (keep := keep) (most := most) HQ.out.2 HR.out.2.1 HR.out.2.2.1 h1 HR.out.1
      have h1z := HW.out.2.1
      have hz2 := HY.out.1.size
      have hz3 := hb3.size
      have hne : ∀ i, i < w1.heap.size + 2 → ¬ MBk (w1.heap.size + 4) (.slice (some ⟨w1.heap.size + 2, 0, none⟩) 0 0) (.slice (some ⟨w1.heap.size + 3, 0, none⟩) 0 0) i := by
        rintro i hi (h | h | h)
        · omega
        · simp [Value.ownBlock] at h; omega
        · simp [Value.ownBlock] at h; omega
      have key : ∀ (i : Nat) (o : Obj), i < w1.heap.size + 2 → W.heap[i]? = some o → w3.heap[i]? = some o := by
        intro i o hi ho
        have h2 : w2.heap[i]? = some o := by rw [HY.out.1.block i (lt_of_heap ho)]; exact ho
        rw [hb3.block i (lt_of_heap h2) (hne i hi)]; exact h2
      have hT3 := key _ _ (by omega) HW.out.2.2.1
      have hN3 := key _ _ (by omega) HW.out.2.2.2.1
      have hr3 : RS keep most (w1.heap.size + 1 + 1 + 1 + 1) [([113], -1)] mv3 pt3 w3 := hr3
      have hnM : ∀ i, w1.heap.size ≤ i ∨ i < w1.heap.size → i < w2.heap.size → ¬ (w1.heap.size + 2 ≤ i ∧ i ≤ w1.heap.size + 4) → ¬ MBk (w1.heap.size + 1 + 1 + 1 + 1) mv3 pt3 i := by
        intro i _ hi hn h
        rcases hn3 i h with h | h
        · rcases h with h | h | h
          · omega
          · simp [Value.ownBlock] at h; omega
          · simp [Value.ownBlock] at h; omega
        · omega
      have t0 : w3.cell? ⟨w1.heap.size, 0, none⟩ = some (.slice ta (specType s).1.args.length tc) := by simp [World.cell?, hT3]
      have n0 : w3.cell? ⟨w1.heap.size + 1, 0, none⟩ = some (str s') := by simp [World.cell?, hN3]
      have n1 : w3.cell? ⟨w1.heap.size + 1, 1, none⟩ = some (.int .i64 v') := by simp [World.cell?, hN3]
      have n2' : w3.cell? ⟨w1.heap.size + 1, 2, none⟩ = some (.slice a2 n2 c2) := by simp [World.cell?, hN3]
      have n3' : w3.cell? ⟨w1.heap.size + 1, 3, none⟩ = some (.slice a3 n3 c3) := by simp [World.cell?, hN3]
      have hlist : Rep (fun i => ¬ MBk (w1.heap.size + 1 + 1 + 1 + 1) mv3 pt3 i ∧ i < w3.heap.size) w3 (.sl 51 4 bs.length (encNs bs)) (.slice la bs.length lc) :=
        (Rep.keep fun i o hi ho => by
          have hi : W.heap.size ≤ i := hi
          have hlt := lt_of_heap ho
          exact ⟨⟨hnM i (.inl (by omega)) hlt (by omega), by omega⟩, by
            rw [hb3.block i hlt (by
              rintro (h | h | h)
              · omega
              · simp [Value.ownBlock] at h; omega
              · simp [Value.ownBlock] at h; omega)]
            exact ho⟩).1 _ _ HR.out.2.2.2
      have old : ∀ (i : Nat) (o : Obj), i < w1.heap.size → w1.heap[i]? = some o → (¬ MBk (w1.heap.size + 1 + 1 + 1 + 1) mv3 pt3 i ∧ i < w3.heap.size) ∧ w3.heap[i]? = some o := by
        intro i o hi ho
        have hW2 : W.heap[i]? = some o := by rw [HW.out.1.block i hi]; exact ho
        exact ⟨⟨hnM i (.inr hi) (by omega) (by omega), by omega⟩, key i o (by omega) hW2⟩
      have htype : Rep (fun i => ¬ MBk (w1.heap.size + 1 + 1 + 1 + 1) mv3 pt3 i ∧ i < w3.heap.size) w3 (encS (specType s).1) (.slice ta (specType s).1.args.length tc) :=
        (Rep.keep fun i o hi ho => old i o (lt_of_heap ho) ho).1 _ _ H1.out.2.1
      have hnode : Reps (fun i => ¬ MBk (w1.heap.size + 1 + 1 + 1 + 1) mv3 pt3 i ∧ i < w3.heap.size) w3 (encN b) [str s', .int .i64 v', .slice a2 n2 c2, .slice a3 n3 c3] :=
        (Rep.keep fun i o hi ho => old i o (lt_of_heap ho) ho).2 _ _ (H1.out.2.2 b HQ.out.1)
      obtain ⟨_, _, _, _, _, he0, _⟩ := encN_open hnode
      simp only [List.cons.injEq] at he0
      obtain rfl : s' = atomOf b := str_inj he0.1
      have CH : Hid (∀ wz : World, Below w3.heap.size w3 wz → ∀ g1 k1 g2 k2 : Nat, Calls Tryz.prog 66 #[.slice (some ⟨g1, 0, none⟩) 0 k1, .slice la bs.length lc, .agg #[.slice ta (specType s).1.args.length tc], .slice (some ⟨g2, 0, none⟩) 0 k2, .int .i64 0] wz (HandSPost (fun i => ¬ MBk (w1.heap.size + 1 + 1 + 1 + 1) mv3 pt3 i ∧ i < w3.heap.size) [] (ownS [] 0 0 (specType s).1.args bs) wz)) := Lib.hid (fun (wz : World) (hz : Below w3.heap.size w3 wz) (g1 k1 g2 k2 : Nat) => l4HandR_any (fun i => ¬ MBk (w1.heap.size + 1 + 1 + 1 + 1) mv3 pt3 i ∧ i < w3.heap.size) [] [] bs (specType s).1 0 (.slice (some ⟨g1, 0, none⟩) 0 k1) (.slice la bs.length lc) (.slice ta (specType s).1.args.length tc) (.slice (some ⟨g2, 0, none⟩) 0 k2) wz
        (rep_empty g1 k1) (Rep.below hz (fun _ h => h) hlist) (Rep.below hz (fun _ h => h) htype) (rep_empty g2 k2) (by simp) hbsl (by omega))
      have CG : Hid (∀ wz : World, Below w3.heap.size w3 wz → ∀ ev : Value, Rep (fun i => ¬ MBk (w1.heap.size + 1 + 1 + 1 + 1) mv3 pt3 i) wz (.sl 60 9 (ownS [] 0 0 (specType s).1.args bs).length (encSCs (ownS [] 0 0 (specType s).1.args bs))) ev → Calls Tryz.prog 86 #[.pointer (some ⟨w1.heap.size + 1 + 1 + 1 + 1, 0, none⟩), .agg #[str (atomOf b), .int .i64 v', .slice a2 n2 c2, .slice a3 n3 c3], ev, .int .i64 0] wz (GoPost keep (specRun keep most s text xs) most (w1.heap.size + 1 + 1 + 1 + 1) mv3 pt3 wz)) := Lib.hid (fun (wz : World) (hz : Below w3.heap.size w3 wz) (ev : Value) (he : Rep (fun i => ¬ MBk (w1.heap.size + 1 + 1 + 1 + 1) mv3 pt3 i) wz (.sl 60 9 (ownS [] 0 0 (specType s).1.args bs).length (encSCs (ownS [] 0 0 (specType s).1.args bs))) ev) =>
        l4Go_any keep HX.out.2.2.2.1 HX.out.2.2.2.2 (specRun keep most s text xs) most (w1.heap.size + 1 + 1 + 1 + 1) b (ownS [] 0 0 (specType s).1.args bs) 0 [([113], -1)] mv3 pt3 v' a2 n2 c2 a3 n3 c3 ev wz (hr3.below hz) hpl (Reps.below hz (fun _ h => h.1) hnode) he hmost)
      have hkeep : ∀ wz : World, Below w3.heap.size w3 wz → wz.cell? ⟨w1.heap.size, 0, none⟩ = some (.slice ta (specType s).1.args.length tc) ∧ wz.cell? ⟨w1.heap.size + 1, 0, none⟩ = some (str (atomOf b)) ∧ wz.cell? ⟨w1.heap.size + 1, 1, none⟩ = some (.int .i64 v') ∧ wz.cell? ⟨w1.heap.size + 1, 2, none⟩ = some (.slice a2 n2 c2) ∧ wz.cell? ⟨w1.heap.size + 1, 3, none⟩ = some (.slice a3 n3 c3) :=
        fun wz hz => ⟨(hz.cell (p := ⟨w1.heap.size, 0, none⟩) (by simp only; omega)).trans t0, (hz.cell (p := ⟨w1.heap.size + 1, 0, none⟩) (by simp only; omega)).trans n0, (hz.cell (p := ⟨w1.heap.size + 1, 1, none⟩) (by simp only; omega)).trans n1, (hz.cell (p := ⟨w1.heap.size + 1, 2, none⟩) (by simp only; omega)).trans n2', (hz.cell (p := ⟨w1.heap.size + 1, 3, none⟩) (by simp only; omega)).trans n3'⟩
      have hkeep2 : ∀ w5 w6 : World, Below w3.heap.size w3 w5 → But (MBk (w1.heap.size + 1 + 1 + 1 + 1) mv3 pt3) w5 w6 → w6.cell? ⟨w1.heap.size, 0, none⟩ = some (.slice ta (specType s).1.args.length tc) ∧ w6.cell? ⟨w1.heap.size + 1, 0, none⟩ = some (str (atomOf b)) ∧ w6.cell? ⟨w1.heap.size + 1, 1, none⟩ = some (.int .i64 v') ∧ w6.cell? ⟨w1.heap.size + 1, 2, none⟩ = some (.slice a2 n2 c2) ∧ w6.cell? ⟨w1.heap.size + 1, 3, none⟩ = some (.slice a3 n3 c3) := by
        intro w5 w6 h5 h6
        obtain ⟨k0, k1, k2, k3, k4⟩ := hkeep w5 h5
        have m0 : ¬ MBk (w1.heap.size + 1 + 1 + 1 + 1) mv3 pt3 w1.heap.size := hnM _ (.inl (Nat.le_refl _)) (by omega) (by omega)
        have m1 : ¬ MBk (w1.heap.size + 1 + 1 + 1 + 1) mv3 pt3 (w1.heap.size + 1) := hnM _ (.inl (by omega)) (by omega) (by omega)
        exact ⟨cells1' h6 k0 m0, cells1' h6 k1 m1, cells1' h6 k2 m1, cells1' h6 k3 m1, cells1' h6 k4 m1⟩
      have hnew : ∀ i, w3.heap.size ≤ i → ¬ MBk (w1.heap.size + 1 + 1 + 1 + 1) mv3 pt3 i := fun i hi h => by have := hr3.lt h; omega
      have K1 := Lib.hid hkeep; have K2 := Lib.hid hkeep2; have HN := Lib.hid (And.intro hnew (And.intro hbsl hbs15))
      have hol := ownS_length [] 0 (specType s).1.args bs 0 hbsl.symm
      have HOL := Lib.hid hol
      have B0 : Below w3.heap.size w3 ((w3.alloc (.cells #[] 60)).alloc (.cells #[] 60)).drew := (((Below.refl _ _).alloc (Nat.le_refl _) _).alloc (by rw [size_alloc]; omega) _).drew
      have hnw : ∀ i, MBk (w1.heap.size + 1 + 1 + 1 + 1) mv3 pt3 i → w.heap.size ≤ i := by
        intro i h
        have hz1 := H1.out.1.size
        rcases hn3 i h with h | h
        · rcases h with h | h | h
          · omega
          · simp [Value.ownBlock] at h; omega
          · simp [Value.ownBlock] at h; omega
        · omega
      have hB3 : Below w.heap.size w w3 := by
        have hz1 := H1.out.1.size
        have h1 := H1.out.1.trans (HW.out.1.mono hz1)
        refine (h1.trans (HY.out.1.mono h1.size)).trans (hb3.toBelow (by omega) fun i hi h => hne i (by omega) h)
      have HE := Lib.hid (And.intro hnw hB3); clear hnw hB3
      have H3 := Lib.hid (And.intro hb3 (And.intro hr3 (And.intro hn3 (And.intro hpl B0))))
      clear hkeep hkeep2 hnew hbsl hbs15 hol hpl hb3 hr3 hn3 hlist htype hnode old key hT3 hN3 hnM hne B0 he0
      go_wp2_with fail
      go_region_held3 (fun wz => wz.cell? ⟨w1.heap.size, 0, none⟩ = some (.slice ta (specType s).1.args.length tc) ∧ wz.cell? ⟨w1.heap.size + 1, 0, none⟩ = some (str (atomOf b)) ∧ wz.cell? ⟨w1.heap.size + 1, 1, none⟩ = some (.int .i64 v') ∧ wz.cell? ⟨w1.heap.size + 1, 2, none⟩ = some (.slice a2 n2 c2) ∧ wz.cell? ⟨w1.heap.size + 1, 3, none⟩ = some (.slice a3 n3 c3))
        (first
          | with_reducible exact k6
          | with_reducible exact k4
          | with_reducible exact ⟨t0, n0, n1, n2', n3'⟩
          | go_keep)
        (first
          | (go_at_call 86; (with_reducible refine (CG.out w4 b4 _ he4).mono ?_); rintro en w6 ⟨mv6, pt6, log6, o6, rfl, hb6, hr6, hn6, h6n, h6s⟩; have k6 := K2.out w4 w6 b4 hb6; have HF := Lib.hid (And.intro b4 (And.intro hb6 (And.intro hr6 (And.intro hn6 (And.intro h6n h6s))))); clear hb6 hr6 hn6 h6n h6s)
          | (go_at_call 66; (with_reducible refine (CH.out _ H3.out.2.2.2.2 _ _ _ _).mono ?_); rintro en w4 ⟨a4, c4, rfl, hb4, hr4⟩; have b4 := H3.out.2.2.2.2.trans (hb4.mono H3.out.2.2.2.2.size); have k4 := K1.out w4 b4; have he4 := hand_own HN.out.1 (Nat.le_refl _) H3.out.2.2.2.2.size hr4; clear hb4 hr4))
      all_goals
        have hbd := HF.out.2.2.1.bad
        go_wp2_with fail
        go_quiet (fail)
        go_wp2_with fail
        go_ret3
        refine ⟨_, o6, _, rfl, ?_, fun h => ?_, fun c log h => ?_⟩
        · have h4 := HE.out.2.trans (HF.out.1.mono HE.out.2.size)
          exact h4.trans ((but_drewN HF.out.2.1 _).toBelow h4.size fun i hi h => by have := HE.out.1 i h; omega)
        · have := HF.out.2.2.2.2.1 h
          simpa using this
        · obtain ⟨e1, rfl, e3⟩ := HF.out.2.2.2.2.2 c log h
          refine ⟨by simpa using e3, e1, mv6, pt6, HF.out.2.2.1.but (m := fun _ => False) (but_drewN (But.refl _ _) _) (fun _ _ h => h), fun i hi => ?_⟩
          rcases HF.out.2.2.2.1 i hi with h | h
          · exact HE.out.1 i h
          · have := HF.out.1.size; have := HE.out.2.size; omega

end Go.Proofs.YtibnnbdpfkgfhaaGreatDoor

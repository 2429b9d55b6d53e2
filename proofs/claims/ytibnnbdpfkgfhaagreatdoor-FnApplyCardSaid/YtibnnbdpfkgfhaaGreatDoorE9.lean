/- The walks of impl's runOf and RunResult. -/
import Derived.Test.YtibnnbdpfkgfhaaGreatDoorE8
import Derived.Test.YtibnnbdpfkgfhaaGreatDoorP14
import Derived.Test.YtibnnbdpfkgfhaaGreatDoorS15
namespace Go.Proofs.YtibnnbdpfkgfhaaGreatDoor
open Go.RowKit

theorem mem_atomsTs {ts : List Ty} {t : Ty} (h : t ∈ ts) : 1 + atomsT t ≤ atomsTs ts := by
  induction ts with
  | nil => simp at h
  | cons x xs ih =>
    rcases List.mem_cons.1 h with rfl | h
    · simp [atomsTs]
    · have := ih h; simp [atomsTs]; omega

mutual
theorem nB_of_fit : ∀ (b : Bd) (hand : List Ty), fitB hand b → (∀ t ∈ hand, atomsT t ≤ 15) → nB b
  | .leaf c, hand, _, _ => by rw [nB]; trivial
  | .ask v ss y n, hand, h, hh => by
    rw [fitB] at h
    obtain ⟨t, ht, h1, h2, h3⟩ := h
    have ht15 := hh t (List.mem_of_getElem? ht)
    have hl := fitBs_length _ _ h1
    rw [hands_length] at hl
    have hm := atomsT_mk t
    have hl2 := length_le_atomsTs t.args
    rw [nB]
    exact ⟨by omega, nBs_of_fit ss t.args hand h1 hh (fun a ha => by have := mem_atomsTs ha; omega), nB_of_fit y hand h2 hh, nB_of_fit n hand h3 hh⟩
theorem nBs_of_fit : ∀ (bs : List Bd) (ts hand : List Ty), fitBs (hands hand ts) bs → (∀ t ∈ hand, atomsT t ≤ 15) → (∀ a ∈ ts, atomsT a ≤ 15) → nBs bs
  | [], ts, hand, _, _, _ => by rw [nBs]; trivial
  | b :: bs, ts, hand, h, hh, ht => by
    rw [fitBs] at h
    obtain ⟨h', hs', e, h1, h2⟩ := h
    cases ts with
    | nil => simp [hands] at e
    | cons t ts =>
      simp only [hands, List.map_cons, List.cons.injEq] at e
      obtain ⟨rfl, rfl⟩ := e
      rw [nBs]
      refine ⟨nB_of_fit b _ h1 fun x hx => ?_, nBs_of_fit bs ts hand h2 hh fun a ha => ht a (by simp [ha])⟩
      rcases List.mem_append.1 hx with hx | hx
      · exact hh x hx
      · have h15 := ht t (by simp)
        have hm := atomsT_mk t
        have := mem_atomsTs hx; omega
end

/-- Strategies of types, read one by one. -/
def readAll : List Ty → List Bs → Option (List Bd)
  | t :: ts, x :: xs => (rdStrat t x).bind fun b => (readAll ts xs).map fun bs => b :: bs
  | _, _ => some []
theorem readAll_length : ∀ (ts : List Ty) (xs : List Bs) (bs : List Bd), ts.length = xs.length → readAll ts xs = some bs → bs.length = xs.length
  | [], [], bs, _, h => by simp [readAll] at h; subst h; rfl
  | [], x :: xs, bs, hl, h => by simp at hl
  | t :: ts, [], bs, hl, h => by simp at hl
  | t :: ts, x :: xs, bs, hl, h => by
    simp only [readAll, Option.bind_eq_some_iff, Option.map_eq_some_iff] at h
    obtain ⟨b, _, bs', h2, rfl⟩ := h
    simp [readAll_length ts xs bs' (by simpa using hl) h2]
theorem readAll_good : ∀ (ts : List Ty) (xs : List Bs) (bs : List Bd), ts.length = xs.length → (∀ t ∈ ts, atomsT t ≤ 15) → readAll ts xs = some bs → fitBs (ts.map Ty.args) bs ∧ nBs bs
  | [], [], bs, _, _, h => by simp [readAll] at h; subst h; simp [fitBs, nBs]
  | [], x :: xs, bs, hl, _, h => by simp at hl
  | t :: ts, [], bs, hl, _, h => by simp at hl
  | t :: ts, x :: xs, bs, hl, ht, h => by
    simp only [readAll, Option.bind_eq_some_iff, Option.map_eq_some_iff] at h
    obtain ⟨b, h1, bs', h2, rfl⟩ := h
    have hg := (rdStrat_good (ht t (by simp)) h1).1
    obtain ⟨k1, k2⟩ := readAll_good ts xs bs' (by simpa using hl) (fun a ha => ht a (by simp [ha])) h2
    refine ⟨⟨_, _, rfl, hg.fit, k1⟩, ?_⟩
    rw [nBs]
    exact ⟨nB_of_fit b _ hg.fit fun a ha => by have h15 := ht t (by simp); have hm := atomsT_mk t; have := mem_atomsTs ha; omega, k2⟩
theorem readAll_snoc : ∀ (ts : List Ty) (xs : List Bs) (t : Ty) (x : Bs), ts.length = xs.length → readAll (ts ++ [t]) (xs ++ [x]) = (readAll ts xs).bind fun bs => (rdStrat t x).map fun b => bs ++ [b]
  | [], [], t, x, _ => by simp only [List.nil_append, readAll, Option.bind_some]; cases rdStrat t x <;> rfl
  | [], _ :: xs, t, x, hl => by simp at hl
  | _ :: ts, [], t, x, hl => by simp at hl
  | t' :: ts, x' :: xs, t, x, hl => by
    simp only [List.cons_append, readAll]
    cases rdStrat t' x' with
    | none => rfl
    | some b =>
      simp only [Option.bind_some, readAll_snoc ts xs t x (by simpa using hl)]
      cases readAll ts xs with
      | none => rfl
      | some bs =>
        simp only [Option.bind_some, Option.map_some]
        cases rdStrat t x <;> rfl
theorem readAll_none : ∀ (ts : List Ty) (xs : List Bs) (k : Nat), readAll (ts.take k) (xs.take k) = none → readAll ts xs = none
  | [], xs, k, h => by cases xs <;> simp [readAll] at h
  | t :: ts, [], k, h => by cases k <;> simp [readAll] at h
  | t :: ts, x :: xs, 0, h => by simp [readAll] at h
  | t :: ts, x :: xs, k + 1, h => by
    simp only [List.take_succ_cons, readAll] at h ⊢
    cases hq : rdStrat t x with
    | none => rfl
    | some b =>
      rw [hq] at h
      simp only [Option.bind_some] at h ⊢
      cases hr : readAll (ts.take k) (xs.take k) with
      | none => rw [readAll_none ts xs k hr]; rfl
      | some bs => rw [hr] at h; simp at h

theorem two_store {w : World} {P : Nat} {u v : Value} {T : TypeId} (h : w.heap[P]? = some (.cells #[u, v] T (0, 0))) (u0 u1 : Value) :
    ∃ W, W = (w.setCell ⟨P, 0, none⟩ u0).setCell ⟨P, 1, none⟩ u1 ∧ W.cell? ⟨P, 0, none⟩ = some u0 ∧ W.cell? ⟨P, 1, none⟩ = some u1 ∧ (∀ B w0, Below B w0 w → B ≤ P → Below B w0 W) ∧ (∀ i x, i ≠ P → w.heap[i]? = some x → W.heap[i]? = some x) := by
  have hc : ((w.setCell ⟨P, 0, none⟩ u0).setCell ⟨P, 1, none⟩ u1).heap[P]? = some (.cells #[u0, u1] T (0, 0)) := by rw [setCell_at (setCell_at h)]; rfl
  refine ⟨_, rfl, by simp only [World.cell?, hc]; rfl, by simp only [World.cell?, hc]; rfl, fun B w0 hb hB => ?_, fun i x hi hx => ?_⟩
  · exact ((hb.setCell (p := ⟨P, 0, none⟩) hB _).setCell (p := ⟨P, 1, none⟩) hB _)
  · rw [Below.heap_setCell _ _ _ _ (by simpa using hi), Below.heap_setCell _ _ _ _ (by simpa using hi)]; exact hx
theorem two_cells {w : World} {P : Nat} {u v : Value} {T : TypeId} (h : w.heap[P]? = some (.cells #[u, v] T (0, 0))) : w.cell? ⟨P, 0, none⟩ = some u ∧ w.cell? ⟨P, 1, none⟩ = some v ∧ w.frozen? ⟨P, 0, none⟩ = false ∧ w.frozen? ⟨P, 1, none⟩ = false ∧ P < w.heap.size :=
  ⟨by simp [World.cell?, h], by simp [World.cell?, h], by simp [World.frozen?, h], by simp [World.frozen?, h], lt_of_heap h⟩

theorem MS.slices {keeps : Bool} {most ma : Nat} {log : List (Bs × Int)} {mv pt : Value} {w : World} (h : MS keeps most ma log mv pt w) : ∃ a n k a' n' k', mv = .slice a n k ∧ pt = .slice a' n' k' := by
  cases keeps with
  | true =>
    obtain ⟨a, c, e⟩ := (h.rows rfl).1.slice
    obtain ⟨a', c', e'⟩ := (h.rows rfl).2.slice
    exact ⟨_, _, _, _, _, _, e, e'⟩
  | false => exact ⟨_, _, _, _, _, _, (h.nil rfl).1, (h.nil rfl).2⟩

/-- What impl's runs give: the result, and all moves. -/
def implRun (most : Nat) (s text : Bs) (xs : List Bs) : Option (UInt8 × List (Bs × Int)) := (rdTS s text).bind fun x => if x.1.args.length = xs.length then (readAll x.1.args xs).bind fun bs => runAll most x.2 bs else none

/-- What a run leaves. -/
def OfPost (keeps : Bool) (most : Nat) (s text : Bs) (xs : List Bs) (w : World) (en : Ending) (w' : World) : Prop :=
  Below w.heap.size w w' ∧ (implRun most s text xs = none → en = .returned (.tuple #[.agg #[.slice none 0 0, .slice none 0 0], str [], .bool false])) ∧
    (∀ c log, implRun most s text xs = some (c, log) → ∃ ma a n k a' n' k', en = .returned (.tuple #[.agg #[.slice a n k, .slice a' n' k'], str [c], .bool true]) ∧ MS keeps most ma log (.slice a n k) (.slice a' n' k') w' ∧ (∀ i, MBk ma (.slice a n k) (.slice a' n' k') i → w.heap.size ≤ i))

set_option maxRecDepth 100000 in
set_option maxHeartbeats 4000000 in
theorem runOf_any (keeps : Bool) (most : Nat) (s text : Bs) (xs : List Bs) (a : Option Addr) (c : Nat) (w : World) (hg : Glob w) (hgt : GlobT w) (hx : StrsAt w a xs) (hs : Lim s.length) (ht : Lim text.length) (hxs : ∀ x ∈ xs, Lim x.length) (hxl : Lim xs.length) (h1 : 1 ≤ most) (hmost : most ≤ 100000) :
    Calls Tryz.prog 59 #[str s, str text, .slice a xs.length c, .int .i64 (most : Nat), .bool keeps] w (OfPost keeps most s text xs w) := by
  have hxl' := hxl.le
  have HX := Lib.hid (And.intro hx (And.intro hxs hgt)); clear hx hxs hgt hxl
  go_enter Tryz.func59, Tryz.ntmps59
  go_wp2_with fail
  have hbA : Below w.heap.size w (w.alloc (.cells #[.slice none 0 0, .slice none 0 0] 98)) := (Below.refl _ _).alloc (Nat.le_refl _) _
  refine (strategy_any s text _ (hg.below hbA) hs ht).mono ?_
  rintro en w1 ⟨kv, bv, rfl, hb1, hn1, hy1⟩
  have hz1 := hb1.size
  rw [size_alloc] at hz1
  have h10 : w1.heap[w.heap.size]? = some (.cells #[.slice none 0 0, .slice none 0 0] 98 (0, 0)) := by
    rw [hb1.block _ (by rw [size_alloc]; omega)]; exact heap_new _ _
  have hb01 : Below w.heap.size w w1 := hbA.trans (hb1.mono hbA.size)
  cases hq : rdTS s text with
  | none =>
    obtain rfl := hn1 hq
    have hR : implRun most s text xs = none := by unfold implRun; rw [hq]; rfl
    have HR := Lib.hid hR; clear hq hn1 hy1 hR
    obtain ⟨d0, d1, f0, f1, _⟩ := two_cells h10
    have H10 := Lib.hid (And.intro h10 hb01); clear h10 hb01
    go_wp2_with fail
    obtain ⟨W, hW, s0, s1, hbW, _⟩ := two_store H10.out.1 (.slice none 0 0) (.slice none 0 0)
    rw [← hW]
    refine bodyPost_ret (v := .tuple #[.agg #[.slice none 0 0, .slice none 0 0], str [], .bool false]) (by simp [results, Tryz.results59, go_sem, s0, s1]) rfl ?_
    exact ⟨hbW _ _ H10.out.2 (Nat.le_refl _), fun _ => rfl, fun c' log' h => by rw [HR.out] at h; simp at h⟩
  | some x =>
    obtain ⟨t, b⟩ := x
    obtain ⟨hk, hbr⟩ := hy1 _ _ hq
    obtain ⟨ba, e⟩ := encB_ptr hbr
    subst e
    obtain ⟨ak, sk, e, hFk, hck, hsk⟩ := encK_open hk
    subst e
    obtain ⟨ka, kc, e, _, hkl, hka⟩ := Rep_sl1_open hsk
    subst e
    have ck : w1.cell? ⟨ak, 0, none⟩ = some (.slice ka t.args.length kc) := by simp [World.cell?, hck]
    have hg15 : atomsT t ≤ 15 := by
      have := hq; unfold rdTS at this
      simp only [Option.bind_eq_bind, Option.bind_eq_some_iff] at this
      obtain ⟨t', h1, b', _, h3⟩ := this
      simp at h3; rw [← h3.1]; exact rdKind_le h1
    have hta : t.args.length ≤ 15 := by have := atomsT_mk t; have := length_le_atomsTs t.args; omega
    have hfb : fitB t.args b := by
      have := hq; rw [rdTS_eq, Option.map_eq_some_iff] at this
      obtain ⟨b', h1, h2⟩ := this
      simp at h2; rw [← h2.1, ← h2.2]; exact specStrat_fit h1
    have HQ := Lib.hid (And.intro hq (And.intro hg15 hfb))
    have HK := Lib.hid (And.intro hck hka); have HBR := Lib.hid hbr
    clear hq hn1 hy1 hk hbr hck hsk hkl hka hg15 hfb hFk
    obtain ⟨d0, d1, f0, f1, _⟩ := two_cells h10
    have H10 := Lib.hid (And.intro h10 hb01); clear h10 hb01 hbA hb1
    by_cases hlen : xs.length = t.args.length
    rotate_left
    · have hd : ((xs.length : Int) != (t.args.length : Int)) = true := by rw [bne_iff_ne]; omega
      have hR : implRun most s text xs = none := by unfold implRun; rw [HQ.out.1]; simp only [Option.bind_some]; rw [if_neg (fun h => hlen h.symm)]
      have HR := Lib.hid hR; clear hR hlen
      go_wp2_with fail
      obtain ⟨W, hW, s0, s1, hbW, _⟩ := two_store H10.out.1 (.slice none 0 0) (.slice none 0 0)
      rw [← hW]
      refine bodyPost_ret (v := .tuple #[.agg #[.slice none 0 0, .slice none 0 0], str [], .bool false]) (by simp [results, Tryz.results59, go_sem, s0, s1]) rfl ?_
      exact ⟨hbW _ _ H10.out.2 (Nat.le_refl _), fun _ => rfl, fun c' log' h => by rw [HR.out] at h; simp at h⟩
    · have hd : ((xs.length : Int) != (t.args.length : Int)) = false := by rw [hlen]; simp
      have HL := Lib.hid hlen; clear hlen
      go_wp2_with fail
      go_loopw [15, 43] (fun l i wr => ∃ (k : Nat) (a' : Option Addr) (c' : Nat) (us : List Value) (bs : List Bd), k ≤ xs.length ∧ i = .int .i64 k ∧ l = .slice a' k c' ∧ Own wr 69 1 (.slice a' k c') k us ∧ Reps (fun i => (Value.slice a' k c').ownBlock ≠ some i) wr (encBs bs) us ∧ readAll (t.args.take k) (xs.take k) = some bs ∧ Below w1.heap.size w1 wr ∧ (∀ g, (Value.slice a' k c').ownBlock = some g → w1.heap.size ≤ g)) (fun _ i _ => xs.length - (intOf i).toNat)
      case atStart => exact ⟨0, none, 0, [], [], Nat.zero_le _, rfl, rfl, World.ownsRow_nil _ _ _ _, by rw [encBs]; exact Reps_nil.2 rfl, by simp [readAll], Below.refl _ _, fun g h => by simp [Value.ownBlock] at h⟩
      case round =>
        obtain ⟨k, a', c', us, bs, hk, rfl, rfl, ho, hr, hrd, hb, hf⟩ := hrel
        have HO := Lib.hid (And.intro ho (And.intro hr (And.intro hrd hf))); clear ho hr hrd hf
        have hbw : Below w.heap.size w wr := H10.out.2.trans (hb.mono H10.out.2.size)
        have hgr := hg.below hbw
        have h10r : wr.heap[w.heap.size]? = some (.cells #[.slice none 0 0, .slice none 0 0] 98 (0, 0)) := by rw [hb.block _ (lt_of_heap H10.out.1)]; exact H10.out.1
        clear d0 d1 f0 f1
        obtain ⟨d0, d1, f0, f1, _⟩ := two_cells h10r
        have HB := Lib.hid (And.intro hb (And.intro hbw h10r)); clear hb hbw h10r
        by_cases hlt : k < xs.length
        · obtain ⟨x, hkx⟩ : ∃ x, xs[k]? = some x := ⟨xs[k], by simp [hlt]⟩
          obtain ⟨bs1, os1, es1, hcs1⟩ := HX.out.1.below HB.out.2.1 k x hkx
          subst es1
          have hlx := HX.out.2.1 x (List.mem_of_getElem? hkx)
          have hkt : k < t.args.length := by have := HL.out; omega
          obtain ⟨bk, ok, uk, dk, eka, _, hbk, hdk, hck2, hrk⟩ := HK.out.2 k hkt
          subst eka
          rw [encKs_at, Option.map_eq_some_iff] at hdk
          obtain ⟨tk, htk, rfl⟩ := hdk
          obtain ⟨uka, _, euk, _⟩ := encK_open hrk
          subst euk
          have hck3 : wr.cell? ⟨bk, ok + k, none⟩ = some (.pointer (some ⟨uka, 0, none⟩)) := by rw [HB.out.1.cell hbk]; exact hck2
          have hrk3 := Rep.below (F' := fun _ => True) HB.out.1 (fun _ _ => trivial) hrk
          have ckr : wr.cell? ⟨ak, 0, none⟩ = some (.slice (some ⟨bk, ok, none⟩) t.args.length kc) := by rw [HB.out.1.cell (World.block_lt_of_cell? w1 _ ck)]; exact ck
          have h15k : atomsT tk ≤ 15 := by have := HQ.out.2.1; have hm := atomsT_mk t; have := mem_atomsTs (List.mem_of_getElem? htk); omega
          have hkt' : (k : Int) < (t.args.length : Int) := by omega
          have hlt' : (k : Int) < (xs.length : Int) := by omega
          have HS := Lib.hid (And.intro hkx htk); clear hkx htk hck2 hrk
          go_wp2_with fail
          refine (readStrategy_any _ tk x _ wr hgr hrk3 h15k hlx).mono ?_
          rintro en w2 ⟨v, rfl, hb2, hn2, hy2⟩
          have hstep : readAll (t.args.take (k + 1)) (xs.take (k + 1)) = (rdStrat tk x).map fun b => bs ++ [b] := by
            have h1 : t.args.take (k + 1) = t.args.take k ++ [tk] := by rw [List.take_add_one, HS.out.2]; rfl
            have h2 : xs.take (k + 1) = xs.take k ++ [x] := by rw [List.take_add_one, HS.out.1]; rfl
            rw [h1, h2, readAll_snoc _ _ _ _ (by rw [List.length_take, List.length_take]; omega), HO.out.2.2.1]; rfl
          have HST := Lib.hid hstep; clear hstep
          have h10s : w2.heap[w.heap.size]? = some (.cells #[.slice none 0 0, .slice none 0 0] 98 (0, 0)) := by rw [hb2.block _ (lt_of_heap HB.out.2.2)]; exact HB.out.2.2
          clear d0 d1 f0 f1
          obtain ⟨d0, d1, f0, f1, _⟩ := two_cells h10s
          have HB2 := Lib.hid (And.intro hb2 h10s); clear hb2 h10s
          cases hqk : rdStrat tk x with
          | none =>
            obtain rfl := hn2 hqk
            have hR : implRun most s text xs = none := by
              unfold implRun; rw [HQ.out.1]; simp only [Option.bind_some]; rw [if_pos HL.out.symm, readAll_none _ _ (k + 1) (by rw [HST.out, hqk]; rfl)]; rfl
            have HR := Lib.hid hR; clear hR hqk hn2 hy2
            go_wp2_with fail
            obtain ⟨W, hW, s0, s1, hbW, _⟩ := two_store HB2.out.2 (.slice none 0 0) (.slice none 0 0)
            rw [← hW]
            refine bodyPost_ret (v := .tuple #[.agg #[.slice none 0 0, .slice none 0 0], str [], .bool false]) (by simp [results, Tryz.results59, go_sem, s0, s1]) rfl ?_
            exact ⟨hbW _ _ (HB.out.2.1.trans (HB2.out.1.mono HB.out.2.1.size)) (Nat.le_refl _), fun _ => rfl, fun c' log' h => by rw [HR.out] at h; simp at h⟩
          | some bk2 =>
            have hrv := hy2 _ hqk
            obtain ⟨bv2, ev⟩ := encB_ptr hrv
            subst ev
            have HRV := Lib.hid (And.intro hrv hqk); clear hrv hqk hn2 hy2
            go_wp2_with (at_builtin; refine wpList_append_gen rfl _ _ 131 rfl 69 (.pointer none) 1 8 Tryz.underlying131 Tryz.infoB rfl (by decide) (.slice a' k c') k us rfl ?c1 _ 1 [.pointer (some ⟨bv2, 0, none⟩)] rfl ?c2 ?c3 ?c4 ?_)
            case c1 => exact (HO.out.1.keep fun g o _ ho => by rw [HB2.out.1.block g (lt_of_heap ho)]; exact ho).alloc _
            case c2 => exact SrcSl.litk #[.pointer (some ⟨bv2, 0, none⟩)] rfl (by simp [Value.oneCell']) _ (by simp)
            case c3 => unfold maxLen; omega
            case c4 => omega
            intro a7 c7 w7 ho7 hb7 hg7
            have hz1r := HB.out.1.size
            have hzr2 := HB2.out.1.size
            have hrow : ∀ g, (Value.slice a' k c').ownBlock = some g → g < wr.heap.size := fun g hg => HO.out.1.lt hg
            have hb17 : Below w1.heap.size w1 w7 := by
              have h1 : Below w1.heap.size w1 w2 := HB.out.1.trans (HB2.out.1.mono hz1r)
              refine (h1.alloc h1.size _).trans (hb7.toBelow (by rw [size_alloc]; have := h1.size; omega) fun i hi e => ?_)
              have := HO.out.2.2.2 i e; omega
            have hg7' : ∀ g, (Value.slice a7 (k + 1) c7).ownBlock = some g → (Value.slice a' k c').ownBlock = some g ∨ g = w2.heap.size + 1 := by
              intro g hg
              rcases hg7 g hg with h | h
              · exact .inl h
              · exact .inr (by simpa using h)
            have hr7 : Reps (fun i => (Value.slice a7 (k + 1) c7).ownBlock ≠ some i) w7 (encBs (bs ++ [bk2])) (us ++ [.pointer (some ⟨bv2, 0, none⟩)]) := by
              rw [encBs_append]
              refine Reps.append ?_ ?_
              · refine (Rep.keep fun b o hf ho => ⟨fun e => ?_, ?_⟩).2 _ _ HO.out.2.1
                · have := lt_of_heap ho
                  rcases hg7' b e with h | h
                  · exact hf h
                  · omega
                · have h2 : w2.heap[b]? = some o := by rw [HB2.out.1.block b (lt_of_heap ho)]; exact ho
                  rw [hb7.block b (by rw [size_alloc]; have := lt_of_heap h2; omega) hf]; exact heap_past h2
              · rw [encBs, encBs]
                refine Reps.one ((Rep.keep fun b o hf ho => ⟨fun e => ?_, ?_⟩).1 _ _ HRV.out.1)
                · have := lt_of_heap ho
                  rcases hg7' b e with h | h
                  · have := hrow b h; omega
                  · omega
                · rw [hb7.block b (by rw [size_alloc]; have := lt_of_heap ho; omega) (fun e => by have := hrow b e; omega)]; exact heap_past ho
            have hf7 : ∀ g, (Value.slice a7 (k + 1) c7).ownBlock = some g → w1.heap.size ≤ g := by
              intro g hg
              rcases hg7' g hg with h | h
              · exact HO.out.2.2.2 g h
              · omega
            have hrd7 : readAll (t.args.take (k + 1)) (xs.take (k + 1)) = some (bs ++ [bk2]) := by rw [HST.out, HRV.out.2]; rfl
            have H7 := Lib.hid (And.intro ho7 (And.intro hr7 (And.intro hrd7 (And.intro hb17 hf7)))); clear ho7 hr7 hrd7 hb17 hf7 hb7 hg7 hg7'
            go_wp2_with fail
            go_roundw
            case rel => exact ⟨k + 1, a7, c7, _, _, by omega, by go_num, rfl, H7.out.1, H7.out.2.1, H7.out.2.2.1, H7.out.2.2.2.1, H7.out.2.2.2.2⟩
            case measure => simp [intOf]; omega
        · obtain rfl : k = xs.length := by omega
          have hrd := HO.out.2.2.1
          rw [List.take_of_length_le (by rw [HL.out]; exact Nat.le_refl _), List.take_length] at hrd
          have hbl := readAll_length _ _ _ HL.out.symm hrd
          have h15a : ∀ x ∈ t.args, atomsT x ≤ 15 := fun x hx => by have := HQ.out.2.1; have hm := atomsT_mk t; have := mem_atomsTs hx; omega
          obtain ⟨hfa, hna⟩ := readAll_good _ _ _ HL.out.symm h15a hrd
          have hnb := nB_of_fit b _ HQ.out.2.2 h15a
          obtain ⟨W, hW⟩ : ∃ W, wr.alloc (.cells #[.slice none 0 0, .slice none 0 0, .int .i64 (most : Nat), .int .i64 0, .bool keeps] 146) = W := ⟨_, rfl⟩
          have hbW : Below wr.heap.size wr W := by rw [← hW]; exact (Below.refl _ _).alloc (Nat.le_refl _) _
          have hzW : W.heap.size = wr.heap.size + 1 := by rw [← hW]; exact size_alloc _ _
          have hnil : ∀ i, MBk wr.heap.size (.slice none 0 0) (.slice none 0 0) i → i = wr.heap.size := by
            rintro i (h | h | h)
            · exact h
            · simp [Value.ownBlock] at h
            · simp [Value.ownBlock] at h
          have hms : MS keeps most wr.heap.size [] (.slice none 0 0) (.slice none 0 0) W := by
            refine ⟨by rw [← hW]; exact heap_new _ _, fun _ => ⟨World.ownsRow_nil _ _ _ _, World.ownsRow_nil _ _ _ _⟩, fun _ => ⟨rfl, rfl⟩, by simp [Value.ownBlock], by simp [Value.ownBlock]⟩
          have hgtW : GlobT W := HX.out.2.2.but (m := fun _ => False) (But.ofBelow (HB.out.2.1.trans (hbW.mono HB.out.2.1.size))) (fun h => h)
          have hng : ∀ i, MBk wr.heap.size (.slice none 0 0) (.slice none 0 0) i → NotG i ∧ i ≠ 0 := fun i hi => notg_new (ma := wr.heap.size) (mv := .slice none 0 0) (pt := .slice none 0 0) (w := w) ⟨hg, HX.out.2.2⟩ (fun j hj => by
            have h1 := hnil j hj
            have h2 := HB.out.2.1.size
            refine ⟨hg.new (by omega), ?_⟩
            obtain ⟨te, pe, h3⟩ := HX.out.2.2
            have h4 : 0 < w.heap.size := World.block_lt_of_cell? w _ h3
            omega) (.inl hi)
          have hrb : Rep (fun i => ¬ MBk wr.heap.size (.slice none 0 0) (.slice none 0 0) i) W (encB b) (.pointer (some ⟨ba, 0, none⟩)) :=
            (Rep.keep fun i o _ ho => ⟨fun h => by have := hnil i h; have := lt_of_heap ho; have := HB.out.1.size; omega, by
              have h2 : wr.heap[i]? = some o := by rw [HB.out.1.block i (lt_of_heap ho)]; exact ho
              rw [hbW.block i (lt_of_heap h2)]; exact h2⟩).1 _ _ HBR.out
          have hra : Rep (fun i => ¬ MBk wr.heap.size (.slice none 0 0) (.slice none 0 0) i) W (.sl 69 1 bs.length (encBs bs)) (.slice a' bs.length c') := by
            have h0 : Rep (fun _ => True) wr (.sl 69 1 xs.length (encBs bs)) (.slice a' xs.length c') :=
              HO.out.1.rep (fun _ _ => trivial) ((Rep.keep fun _ _ _ ho => ⟨trivial, ho⟩).2 _ _ HO.out.2.1)
            rw [hbl]
            exact (Rep.keep fun i o _ ho => ⟨fun h => by have := hnil i h; have := lt_of_heap ho; omega, by rw [hbW.block i (lt_of_heap ho)]; exact ho⟩).1 _ _ h0
          have C := run_any keeps most wr.heap.size (.slice none 0 0) (.slice none 0 0) b bs t.args (.pointer (some ⟨ba, 0, none⟩)) a' c' W hms (hgr.below hbW) hgtW hng hrb hra hfa HQ.out.2.2 hnb hna (by have := HL.out; omega) h1 hmost
          rw [hbl] at C
          have hR : implRun most s text xs = runAll most b bs := by unfold implRun; rw [HQ.out.1]; simp only [Option.bind_some]; rw [if_pos HL.out.symm, hrd]; rfl
          have CC := Lib.hid C; have HR := Lib.hid hR; have HW := Lib.hid (And.intro hW (And.intro hbW (And.intro hzW hnil)))
          clear C hR hW hbW hzW hnil hms hgtW hng hrb hra hfa hna hnb hrd hbl h15a
          have hlt0 : ¬ (xs.length : Int) < (xs.length : Int) := by omega
          go_wp2_with fail
          rw [HW.out.1]
          refine CC.out.mono ?_
          rintro en w3 ⟨hb3, hn3, hy3⟩
          have h10w : w3.heap[w.heap.size]? = some (.cells #[.slice none 0 0, .slice none 0 0] 98 (0, 0)) := by
            have hlt := lt_of_heap HB.out.2.2
            rw [hb3.block _ (by have := HW.out.2.2.1; omega) (fun h => by have := HW.out.2.2.2 _ h; omega), HW.out.2.1.block _ hlt]; exact HB.out.2.2
          clear d0 d1 f0 f1
          obtain ⟨d0, d1, f0, f1, _⟩ := two_cells h10w
          have hbw3 : Below w.heap.size w w3 := by
            have h1 := HB.out.2.1.size
            have h2 := HW.out.2.2.1
            exact (HB.out.2.1.trans (HW.out.2.1.mono h1)).trans (hb3.toBelow (by omega) fun i hi h => by have := HW.out.2.2.2 i h; omega)
          have HB3 := Lib.hid (And.intro h10w (And.intro hbw3 hb3)); clear h10w hbw3 hb3
          cases hR : runAll most b bs with
          | none =>
            obtain ⟨te, pe, rfl⟩ := hn3 hR
            have HRR := Lib.hid (HR.out.trans hR); clear hR hn3 hy3
            go_wp2_with fail
            obtain ⟨W', hW', s0, s1, hbW', _⟩ := two_store HB3.out.1 (.slice none 0 0) (.slice none 0 0)
            rw [← hW']
            refine bodyPost_ret (v := .tuple #[.agg #[.slice none 0 0, .slice none 0 0], str [], .bool false]) (by simp [results, Tryz.results59, go_sem, s0, s1]) rfl ?_
            exact ⟨hbW' _ _ HB3.out.2.1 (Nat.le_refl _), fun _ => rfl, fun c' log' h => by rw [HRR.out] at h; simp at h⟩
          | some x =>
            obtain ⟨cc, log⟩ := x
            obtain ⟨rfl, mv, pt, hms, hnew⟩ := hy3 _ _ hR
            have HRR := Lib.hid (HR.out.trans hR); clear hR hn3 hy3
            obtain ⟨a1, n1, k1, a2, n2, k2, rfl, rfl⟩ := hms.slices
            obtain ⟨m0, m1, _⟩ := mcells hms.blk
            have HMS := Lib.hid (And.intro hms hnew); clear hms hnew
            go_wp2_with fail
            obtain ⟨W', hW', s0, s1, hbW', hkW'⟩ := two_store HB3.out.1 (.slice a1 n1 k1) (.slice a2 n2 k2)
            rw [← hW']
            refine bodyPost_ret (v := .tuple #[.agg #[.slice a1 n1 k1, .slice a2 n2 k2], str [cc], .bool true]) (by simp [results, Tryz.results59, go_sem, s0, s1]) rfl ?_
            have hge : ∀ i, MBk wr.heap.size (.slice a1 n1 k1) (.slice a2 n2 k2) i → wr.heap.size ≤ i := fun i hi => by
              rcases HMS.out.2 i hi with h | h
              · have := HW.out.2.2.2 i h; omega
              · have := HW.out.2.2.1; omega
            have hlt := lt_of_heap HB.out.2.2
            refine ⟨hbW' _ _ HB3.out.2.1 (Nat.le_refl _), fun h => by rw [HRR.out] at h; simp at h, fun c' log' h => ?_⟩
            rw [HRR.out] at h
            simp only [Option.some.injEq, Prod.mk.injEq] at h
            obtain ⟨rfl, rfl⟩ := h
            refine ⟨wr.heap.size, a1, n1, k1, a2, n2, k2, rfl, ?_, fun i hi => by have := hge i hi; omega⟩
            have hbut : But (fun i => i = w.heap.size) w3 W' := by
              rw [hW']
              exact ((But.refl (fun i => i = w.heap.size) w3).setCell (p := ⟨w.heap.size, 0, none⟩) (.inl rfl) _).setCell (p := ⟨w.heap.size, 1, none⟩) (.inl rfl) _
            exact HMS.out.1.but hbut fun i hi e => by have := hge i hi; omega

end Go.Proofs.YtibnnbdpfkgfhaaGreatDoor

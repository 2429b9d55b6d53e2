/- RunOf, both sides; the law's words on plays. -/
import Derived.Test.YtmkgoacclgoidaaDoorS26
namespace Go.Proofs.YtmkgoacclgoidaaDoor
open Go.RowKit

/-- A play in memory: its rows. -/
def PlayAt (w : World) (log : List (Bs × Int)) (mv pt : Value) : Prop := Own w 9 1 mv log.length (logM log) ∧ Own w 3 1 pt log.length (logP log)
theorem PlayAt.below {w w' : World} {log : List (Bs × Int)} {mv pt : Value} (h : PlayAt w log mv pt) (hb : Below w.heap.size w w') : PlayAt w' log mv pt :=
  ⟨h.1.keep fun g o hg ho => by rw [hb.block g (lt_of_heap ho)]; exact ho, h.2.keep fun g o hg ho => by rw [hb.block g (lt_of_heap ho)]; exact ho⟩
theorem PlayAt.but {w w' : World} {log : List (Bs × Int)} {mv pt : Value} {m : Nat → Prop} (h : PlayAt w log mv pt) (hb : But m w w') (hm : ∀ g, mv.ownBlock = some g ∨ pt.ownBlock = some g → ¬ m g) : PlayAt w' log mv pt :=
  ⟨h.1.keep fun g o hg ho => by rw [hb.block g (lt_of_heap ho) (hm g (.inl hg))]; exact ho, h.2.keep fun g o hg ho => by rw [hb.block g (lt_of_heap ho) (hm g (.inr hg))]; exact ho⟩
theorem Own.unlike {w : World} {e e' : TypeId} {v v' : Value} {n n' : Nat} {xs ys : List Value} (h : Own w e 1 v n xs) (h' : Own w e' 1 v' n' ys) (he : e ≠ e') {g : Nat} (hg : v.ownBlock = some g) : v'.ownBlock ≠ some g := by
  intro hg'
  rcases h.2 with ⟨rfl, _⟩ | ⟨b, cap, cur, rfl, _, hb, _⟩
  · simp [Value.ownBlock] at hg
  · rcases h'.2 with ⟨rfl, _⟩ | ⟨b', cap', cur', rfl, _, hb', _⟩
    · simp [Value.ownBlock] at hg'
    · simp [Value.ownBlock] at hg hg'
      subst hg; subst hg'
      rw [hb] at hb'
      simp at hb'
      exact he hb'.2

def logOf (R : Option (UInt8 × List (Bs × Int))) : List (Bs × Int) := (R.map (·.2)).getD []
def RunOfPost (R : Option (UInt8 × List (Bs × Int))) (w : World) (en : Ending) (w' : World) : Prop :=
  ∃ mv pt, en = .returned (.tuple #[.agg #[mv, pt], str (resOf R).1, .bool (resOf R).2]) ∧ Below w.heap.size w w' ∧ PlayAt w' (logOf R) mv pt ∧ (∀ g, mv.ownBlock = some g ∨ pt.ownBlock = some g → w.heap.size ≤ g)
theorem playAt_nil (w : World) : PlayAt w [] (.slice none 0 0) (.slice none 0 0) := ⟨World.ownsRow_nil w 0 _ 1, World.ownsRow_nil w 0 _ 1⟩

theorem runS_len (keep : Bool) (f : Nat) : ∀ (log : List (Bs × Int)) (b : Bd) (env : List SC) (opens : Nat) (st : List SF) (c : UInt8) (log' : List (Bs × Int)), runS keep f log b env opens st = some (c, log') → log'.length ≤ log.length + f := by
  induction f with
  | zero =>
    intro log b env opens st c log' h
    cases b with
    | leaf x =>
      rw [runS.eq_def] at h
      simp only at h
      split at h
      · simp at h; obtain ⟨_, rfl⟩ := h; omega
      · simp at h
    | ask v ss y n => rw [runS.eq_def] at h; simp at h
  | succ f ih =>
    intro log b env opens st c log' h
    cases b with
    | leaf x =>
      rw [runS.eq_def] at h
      simp only at h
      split at h
      · simp at h; obtain ⟨_, rfl⟩ := h; omega
      · cases st with
        | nil => simp at h; obtain ⟨_, rfl⟩ := h; simp
        | cons fr st =>
          have := ih _ _ _ _ _ _ _ h
          simp at this; omega
    | ask v ss y n =>
      rw [runS.eq_def] at h
      simp only at h
      cases he : env[v]? with
      | none => rw [he] at h; simp at h
      | some e =>
        rw [he] at h
        have := ih _ _ _ _ _ _ _ h
        simp at this; omega
theorem specRun_len {keep : Bool} {most : Nat} (h1 : 1 ≤ most) {s text : Bs} {xs : List Bs} {c : UInt8} {log : List (Bs × Int)} (h : specRun keep most s text xs = some (c, log)) : log.length ≤ most := by
  unfold specRun at h
  rw [Option.bind_eq_some_iff] at h
  obtain ⟨b, _, h⟩ := h
  split at h
  · rw [Option.bind_eq_some_iff] at h
    obtain ⟨bs, _, h⟩ := h
    have := runS_len _ _ _ _ _ _ _ _ _ h
    simp at this; omega
  · simp at h

set_option maxRecDepth 100000 in
set_option maxHeartbeats 2000000 in
theorem specRunOf_any (s text : Bs) (xs : List Bs) (a : Option Addr) (c : Nat) (w : World) (hx : StrsAt w a xs) (hs : Lim s.length) (ht : Lim text.length) (hxs : ∀ x ∈ xs, Lim x.length) (hxl : Lim xs.length) :
    Calls Tryd.prog 12 #[str s, str text, .slice a xs.length c] w (RunOfPost (specRun true 60 s text xs) w) := by
  have C := fun w0 h => Lib.hid (l4Start_any true make_some path_some 60 s text xs a c w0 h hs ht hxs hxl (by omega) (by omega))
  have hlen := fun c log => Lib.hid (@specRun_len true 60 (by omega) s text xs c log)
  have HL := Lib.hid hlen; clear hlen
  have C1 := C _ (hx.below (show Below w.heap.size w (w.alloc (.cells #[.slice none 0 0, .slice none 0 0] 31)) from (Below.refl _ _).alloc (Nat.le_refl _) _))
  clear hx hxs hxl C
  generalize hR : specRun true 60 s text xs = R at *
  have HR := Lib.hid hR; clear hR
  have h6 : (w.alloc (.cells #[.slice none 0 0, .slice none 0 0] 31)).heap[w.heap.size]? = some (.cells #[.slice none 0 0, .slice none 0 0] 31 (0, 0)) := heap_new _ _
  have H6 := Lib.hid h6; clear h6
  go_enter Tryd.func12, Tryd.ntmps12
  go_wp2_with fail
  refine C1.out.mono ?_
  rintro en w1 ⟨ra, o, ok, rfl, hb, hn, hy⟩
  rw [HR.out] at hn hy
  clear C1
  rw [size_alloc] at hb hy
  have hb1 : Below w.heap.size w w1 := ((Below.refl _ _).alloc (Nat.le_refl _) _).trans (hb.mono (by omega))
  have h61 : w1.heap[w.heap.size]? = some (.cells #[.slice none 0 0, .slice none 0 0] 31 (0, 0)) := by rw [hb.block _ (by omega)]; exact H6.out
  cases R with
  | none =>
    obtain rfl := hn rfl
    obtain ⟨c0, c1, f0, f1⟩ := cells2 h61
    have hst := setc_at (o := 1) (u := .slice none 0 0) (setc_at (o := 0) (u := .slice none 0 0) h61)
    obtain ⟨d0, d1, _, _⟩ := cells2 hst
    have HB := Lib.hid (And.intro hb1 hst); clear hn hy hb hb1 hst h61
    go_wp2_with fail
    refine bodyPost_ret (v := .tuple #[.agg #[.slice none 0 0, .slice none 0 0], str [], .bool false]) (by simp [results, Tryd.results12, go_sem, d0, d1]) rfl ?_
    exact ⟨_, _, rfl, (HB.out.1.setCell (p := ⟨w.heap.size, 0, none⟩) (Nat.le_refl _) _).setCell (p := ⟨w.heap.size, 1, none⟩) (Nat.le_refl _) _, playAt_nil _, fun g hg => by simp [Value.ownBlock] at hg⟩
  | some x =>
    obtain ⟨rfl, rfl, mv, pt, hrs, hge⟩ := hy x.1 x.2 rfl
    have hl := (HL.out x.1 x.2).out rfl
    obtain ⟨a1, n1, k1, a2, n2, k2, rfl, rfl⟩ := hrs.sls
    obtain ⟨r1, r2⟩ := hrs.rows rfl hl
    have hblk := hrs.blk
    have q0 : w1.cell? ⟨ra, 0, none⟩ = some (.slice a1 n1 k1) := by simp [World.cell?, hblk]
    have q1 : w1.cell? ⟨ra, 1, none⟩ = some (.slice a2 n2 k2) := by simp [World.cell?, hblk]
    have hra : w.heap.size + 1 ≤ ra := hge ra (.inl rfl)
    obtain ⟨c0, c1, f0, f1⟩ := cells2 h61
    have hst := setc_at (o := 1) (u := .slice a2 n2 k2) (setc_at (o := 0) (u := .slice a1 n1 k1) h61)
    obtain ⟨d0, d1, _, _⟩ := cells2 hst
    have keep : ∀ {e : TypeId} {v : Value} {n : Nat} {zs : List Value}, Own w1 e 1 v n zs → (∀ g, v.ownBlock = some g → w.heap.size + 1 ≤ g) → Own ((w1.setCell ⟨w.heap.size, 0, none⟩ (.slice a1 n1 k1)).setCell ⟨w.heap.size, 1, none⟩ (.slice a2 n2 k2)) e 1 v n zs := fun ho hf =>
      ho.keep fun g o hg hh => by
        have := hf g hg
        rw [Below.heap_setCell _ _ _ _ (by show g ≠ w.heap.size; omega), Below.heap_setCell _ _ _ _ (by show g ≠ w.heap.size; omega)]; exact hh
    have HB := Lib.hid (And.intro hb1 (And.intro (keep r1 fun g hg => hge g (.inr (.inl hg))) (And.intro (keep r2 fun g hg => hge g (.inr (.inr hg))) hge))); clear hn hy hb hb1 hst h61 keep r1 r2 hblk hrs hge
    go_wp2_with fail
    refine bodyPost_ret (v := .tuple #[.agg #[.slice a1 n1 k1, .slice a2 n2 k2], str [x.1], .bool true]) (by simp [results, Tryd.results12, go_sem, d0, d1]) rfl ?_
    refine ⟨_, _, rfl, (HB.out.1.setCell (p := ⟨w.heap.size, 0, none⟩) (Nat.le_refl _) _).setCell (p := ⟨w.heap.size, 1, none⟩) (Nat.le_refl _) _, ⟨HB.out.2.1, HB.out.2.2.1⟩, fun g hg => ?_⟩
    have h := HB.out.2.2.2
    rcases hg with hg | hg
    · have := h g (.inr (.inl hg)); omega
    · have := h g (.inr (.inr hg)); omega

set_option maxRecDepth 100000 in
set_option maxHeartbeats 2000000 in
theorem implRunOf_any (s text : Bs) (xs : List Bs) (a : Option Addr) (c : Nat) (w : World) (hg : Glob w) (hgt : GlobT w) (hx : StrsAt w a xs) (hs : Lim s.length) (ht : Lim text.length) (hxs : ∀ x ∈ xs, Lim x.length) (hxl : Lim xs.length) :
    Calls Tryd.prog 13 #[str s, str text, .slice a xs.length c] w (RunOfPost (implRun 60 s text xs) w) := by
  have hbA : Below w.heap.size w (w.alloc (.cells #[.slice none 0 0, .slice none 0 0] 31)) := (Below.refl _ _).alloc (Nat.le_refl _) _
  have C1 := Lib.hid (runOf_any true 60 s text xs a c _ (hg.below hbA) (hgt.but (m := fun _ => False) (But.ofBelow hbA) (fun h => h)) (hx.below hbA) hs ht hxs hxl (by omega) (by omega))
  clear hx hxs hxl hg hgt hbA
  generalize hR : implRun 60 s text xs = R at *
  have HR := Lib.hid hR; clear hR
  have h6 : (w.alloc (.cells #[.slice none 0 0, .slice none 0 0] 31)).heap[w.heap.size]? = some (.cells #[.slice none 0 0, .slice none 0 0] 31 (0, 0)) := heap_new _ _
  have H6 := Lib.hid h6; clear h6
  go_enter Tryd.func13, Tryd.ntmps13
  go_wp2_with fail
  refine C1.out.mono ?_
  rintro en w1 ⟨hb, hn, hy⟩
  rw [HR.out] at hn hy
  clear C1
  rw [size_alloc] at hb hy
  have hb1 : Below w.heap.size w w1 := ((Below.refl _ _).alloc (Nat.le_refl _) _).trans (hb.mono (by omega))
  have h61 : w1.heap[w.heap.size]? = some (.cells #[.slice none 0 0, .slice none 0 0] 31 (0, 0)) := by rw [hb.block _ (by omega)]; exact H6.out
  cases R with
  | none =>
    obtain rfl := hn rfl
    obtain ⟨c0, c1, f0, f1⟩ := cells2 h61
    have hst := setc_at (o := 1) (u := .slice none 0 0) (setc_at (o := 0) (u := .slice none 0 0) h61)
    obtain ⟨d0, d1, _, _⟩ := cells2 hst
    have HB := Lib.hid (And.intro hb1 hst); clear hn hy hb hb1 hst h61
    go_wp2_with fail
    refine bodyPost_ret (v := .tuple #[.agg #[.slice none 0 0, .slice none 0 0], str [], .bool false]) (by simp [results, Tryd.results13, go_sem, d0, d1]) rfl ?_
    exact ⟨_, _, rfl, (HB.out.1.setCell (p := ⟨w.heap.size, 0, none⟩) (Nat.le_refl _) _).setCell (p := ⟨w.heap.size, 1, none⟩) (Nat.le_refl _) _, playAt_nil _, fun g hg => by simp [Value.ownBlock] at hg⟩
  | some x =>
    obtain ⟨ma, a1, n1, k1, a2, n2, k2, rfl, hms, hge⟩ := hy x.1 x.2 rfl
    obtain ⟨r1, r2⟩ := hms.rows rfl
    obtain ⟨c0, c1, f0, f1⟩ := cells2 h61
    have hst := setc_at (o := 1) (u := .slice a2 n2 k2) (setc_at (o := 0) (u := .slice a1 n1 k1) h61)
    obtain ⟨d0, d1, _, _⟩ := cells2 hst
    have keep : ∀ {e : TypeId} {v : Value} {n : Nat} {zs : List Value}, Own w1 e 1 v n zs → (∀ g, v.ownBlock = some g → w.heap.size + 1 ≤ g) → Own ((w1.setCell ⟨w.heap.size, 0, none⟩ (.slice a1 n1 k1)).setCell ⟨w.heap.size, 1, none⟩ (.slice a2 n2 k2)) e 1 v n zs := fun ho hf =>
      ho.keep fun g o hg hh => by
        have := hf g hg
        rw [Below.heap_setCell _ _ _ _ (by show g ≠ w.heap.size; omega), Below.heap_setCell _ _ _ _ (by show g ≠ w.heap.size; omega)]; exact hh
    have HB := Lib.hid (And.intro hb1 (And.intro (keep r1 fun g hg => hge g (.inr (.inl hg))) (And.intro (keep r2 fun g hg => hge g (.inr (.inr hg))) hge))); clear hn hy hb hb1 hst h61 keep r1 r2 hms hge
    go_wp2_with fail
    refine bodyPost_ret (v := .tuple #[.agg #[.slice a1 n1 k1, .slice a2 n2 k2], str [x.1], .bool true]) (by simp [results, Tryd.results13, go_sem, d0, d1]) rfl ?_
    refine ⟨_, _, rfl, (HB.out.1.setCell (p := ⟨w.heap.size, 0, none⟩) (Nat.le_refl _) _).setCell (p := ⟨w.heap.size, 1, none⟩) (Nat.le_refl _) _, ⟨HB.out.2.1, HB.out.2.2.1⟩, fun g hg => ?_⟩
    have h := HB.out.2.2.2
    rcases hg with hg | hg
    · have := h g (.inr (.inl hg)); omega
    · have := h g (.inr (.inr hg)); omega

set_option maxHeartbeats 2000000 in
theorem eqPlay_any (log : List (Bs × Int)) (mv pt mv' pt' : Value) (w : World) (h : PlayAt w log mv pt) (h' : PlayAt w log mv' pt') (hl : log.length ≤ 100000) :
    Calls Tryd.prog 14 #[.agg #[mv, pt], .agg #[mv', pt']] w fun en w' => en = .returned (.bool true) ∧ Below w.heap.size w w' := by
  obtain ⟨a1, c1, rfl⟩ := h.1.slice
  obtain ⟨a2, c2, rfl⟩ := h.2.slice
  obtain ⟨a1', c1', rfl⟩ := h'.1.slice
  obtain ⟨a2', c2', rfl⟩ := h'.2.slice
  have H := Lib.hid (And.intro h h'); clear h h'
  have C1 : Hid (∀ w0, Below w.heap.size w w0 → Calls Tryd.prog 11 #[.slice a1 log.length c1, .slice a1' log.length c1'] w0 fun en w' => en = .returned (.bool true) ∧ Below w0.heap.size w0 w') := by
    show ∀ w0, _ → _
    intro w0 hb
    have k1 := (H.out.1.below hb).1
    have k2 := (H.out.2.below hb).1
    have e : logM log = (log.map (·.1)).map str := by simp [logM]
    rw [e] at k1 k2
    have := eqStringS_any a1 a1' c1 c1' (log.map (·.1)) w0 k1.strs k2.strs (by simp; omega)
    rwa [List.length_map] at this
  have C2 : Hid (∀ w0, Below w.heap.size w w0 → Calls Tryd.prog 27 #[.slice a2 log.length c2, .slice a2' log.length c2'] w0 fun en w' => en = .returned (.bool true) ∧ Below w0.heap.size w0 w') := by
    show ∀ w0, _ → _
    intro w0 hb
    have k1 := (H.out.1.below hb).2
    have k2 := (H.out.2.below hb).2
    have e : logP log = (log.map (·.2)).map (Value.int .i64) := by simp [logP]
    rw [e] at k1 k2
    exact eqIntS_any a2 a2' log.length c2 c2' (log.map (·.2)) w0 k1 k2 (by omega)
  clear H
  go_enter Tryd.func14, Tryd.ntmps14
  go_wp2_with fail
  have hb0 : Below w.heap.size w ((w.alloc (.cells #[.slice a1 log.length c1, .slice a2 log.length c2] 31)).alloc (.cells #[.slice a1' log.length c1', .slice a2' log.length c2'] 31)) := ((Below.refl _ _).alloc (Nat.le_refl _) _).alloc (by rw [size_alloc]; omega) _
  (with_reducible refine (C1.out _ hb0).mono ?_)
  rintro en w1 ⟨rfl, hb1⟩
  have hbb := hb0.trans (hb1.mono hb0.size)
  have d1 : w1.cell? ⟨w.heap.size, 1, none⟩ = some (.slice a2 log.length c2) := by rw [hb1.cell (by simp; omega)]; simp
  have d2 : w1.cell? ⟨w.heap.size + 1, 1, none⟩ = some (.slice a2' log.length c2') := by rw [hb1.cell (by simp)]; simp
  have HB := Lib.hid hbb; clear hbb hb1 hb0
  go_wp2_with fail
  (with_reducible refine (C2.out _ HB.out).mono ?_)
  rintro en w2 ⟨rfl, hb2⟩
  have HB2 := Lib.hid (HB.out.trans (hb2.mono HB.out.size)); clear hb2
  go_wp2_with fail
  go_ret
  exact ⟨rfl, HB2.out⟩

/-- A play that bears marks. -/
def MarkAt (w : World) (n k : Nat) (mv pt : Value) : Prop := Own w 9 1 mv n (marksS k n) ∧ Own w 3 1 pt n (marksI (k + n) n)
theorem MarkAt.below {w w' : World} {n k : Nat} {mv pt : Value} (h : MarkAt w n k mv pt) (hb : Below w.heap.size w w') : MarkAt w' n k mv pt :=
  ⟨h.1.keep fun g o hg ho => by rw [hb.block g (lt_of_heap ho)]; exact ho, h.2.keep fun g o hg ho => by rw [hb.block g (lt_of_heap ho)]; exact ho⟩

def MarkedPlay (n k : Nat) (mv pt : Value) (w : World) (en : Ending) (w' : World) : Prop :=
  en = .returned (.int .i64 ((k + n + n : Nat) : Int)) ∧ But (fun b => mv.ownBlock = some b ∨ pt.ownBlock = some b) w w' ∧ MarkAt w' n k mv pt

set_option maxHeartbeats 2000000 in
theorem markPlay_any (k : Nat) (log : List (Bs × Int)) (mv pt : Value) (w : World) (h : PlayAt w log mv pt) (h1 : 1 ≤ k) (hk : k + log.length + log.length ≤ 100000000) :
    Calls Tryd.prog 16 #[.agg #[mv, pt], .int .i64 (k : Nat)] w (MarkedPlay log.length k mv pt w) := by
  have hun : ∀ g, mv.ownBlock = some g → pt.ownBlock ≠ some g := fun g hg => h.1.unlike h.2 (by decide) hg
  obtain ⟨a1, c1, rfl⟩ := h.1.slice
  obtain ⟨a2, c2, rfl⟩ := h.2.slice
  have HUN := Lib.hid hun; clear hun
  have H := Lib.hid h; clear h
  generalize hn : log.length = n at *
  have HN := Lib.hid hn; clear hn
  have hb0 : Below w.heap.size w (w.alloc (.cells #[.slice a1 n c1, .slice a2 n c2] 31)) := (Below.refl _ _).alloc (Nat.le_refl _) _
  have o1 : Own (w.alloc (.cells #[.slice a1 n c1, .slice a2 n c2] 31)) 9 1 (.slice a1 n c1) n (logM log) := by
    have := H.out.1; rw [HN.out] at this; exact this.alloc _
  have o2 : Own w 3 1 (.slice a2 n c2) n (logP log) := by have := H.out.2; rwa [HN.out] at this
  have C1 := Lib.hid (markStringS_any k n a1 c1 _ _ o1 h1 (by omega))
  have O2 := Lib.hid o2; have HB0 := Lib.hid hb0
  have lt1 : ∀ g, (Value.slice a1 n c1).ownBlock = some g → g < w.heap.size := fun g hg => by have := H.out.1; rw [HN.out] at this; exact this.lt hg
  have LT1 := Lib.hid lt1
  clear o1 o2 hb0 lt1
  go_enter Tryd.func16, Tryd.ntmps16
  go_wp2_with fail
  (with_reducible refine C1.out.mono ?_)
  rintro en w1 ⟨rfl, hb1, ho1⟩
  have hsz := hb1.size
  rw [size_alloc] at hsz
  have d1 : w1.cell? ⟨w.heap.size, 1, none⟩ = some (.slice a2 n c2) := by
    rw [hb1.cell (by rw [size_alloc]; show w.heap.size < _; omega) (fun e => by have := LT1.out _ e; simp at this)]; simp
  have o2 : Own w1 3 1 (.slice a2 n c2) n (logP log) := O2.out.keep fun g o hg ho => by
    have hlt := lt_of_heap ho
    rw [hb1.block g (by rw [size_alloc]; omega) (fun e => HUN.out g e hg), Below.heap_alloc _ _ _ hlt]; exact ho
  have C2 := Lib.hid (markIntS_any (k + n) n a2 c2 _ w1 o2 (by omega))
  rw [Int.natCast_add] at C2
  have H1 := Lib.hid (And.intro hb1 ho1); clear hb1 ho1 o2 C1
  go_wp2_with fail
  (with_reducible refine C2.out.mono ?_)
  rintro en w2 ⟨rfl, hb2, ho2⟩
  have hbF : But (fun b => (Value.slice a1 n c1).ownBlock = some b ∨ (Value.slice a2 n c2).ownBlock = some b) w w2 :=
    ((But.ofBelow HB0.out).trans (H1.out.1.weak fun i _ h => .inl h)).trans' hb2 fun i _ h => .inr h
  have ho1 : Own w2 9 1 (.slice a1 n c1) n (marksS k n) := H1.out.2.keep fun g o hg ho => by
    rw [hb2.block g (lt_of_heap ho) (fun e => HUN.out g hg e)]; exact ho
  have HF := Lib.hid (And.intro hbF (And.intro ho1 ho2)); clear hbF ho1 ho2 hb2 C2
  go_wp2_with fail
  go_ret
  refine ⟨?_, HF.out.1, HF.out.2.1, HF.out.2.2⟩
  show Ending.returned (Value.int .i64 ((k : Int) + (n : Int) + (n : Int))) = _
  rw [Int.natCast_add, Int.natCast_add]

set_option maxHeartbeats 2000000 in
theorem heldPlay_any (k n : Nat) (mv pt : Value) (w : World) (h : MarkAt w n k mv pt) (h1 : 1 ≤ k) (hk : k + n + n ≤ 100000000) :
    Calls Tryd.prog 17 #[.agg #[mv, pt], .int .i64 (k : Nat)] w fun en w' => en = .returned (.int .i64 ((k + n + n : Nat) : Int)) ∧ Below w.heap.size w w' := by
  obtain ⟨a1, c1, rfl⟩ := h.1.slice
  obtain ⟨a2, c2, rfl⟩ := h.2.slice
  have H := Lib.hid h; clear h
  have hb0 : Below w.heap.size w (w.alloc (.cells #[.slice a1 n c1, .slice a2 n c2] 31)) := (Below.refl _ _).alloc (Nat.le_refl _) _
  have C1 := Lib.hid (heldStringS_any k n a1 c1 _ (H.out.1.alloc (.cells #[.slice a1 n c1, .slice a2 n c2] 31)) h1 (by omega))
  have HB0 := Lib.hid hb0; clear hb0
  have hp1 : ¬ (k : Int) + (n : Int) < 0 := by omega
  have hp2 : ¬ (k : Int) + (n : Int) + (n : Int) < 0 := by omega
  go_enter Tryd.func17, Tryd.ntmps17
  go_wp2_with fail
  (with_reducible refine C1.out.mono ?_)
  rintro en w1 ⟨rfl, hb1⟩
  have hsz := hb1.size
  rw [size_alloc] at hsz
  have d1 : w1.cell? ⟨w.heap.size, 1, none⟩ = some (.slice a2 n c2) := by rw [hb1.cell (by simp)]; simp
  have hb2 := HB0.out.trans (hb1.mono HB0.out.size)
  have C2 := Lib.hid (heldIntS_any (k + n) n a2 c2 w1 (H.out.below hb2).2 (by omega))
  rw [Int.natCast_add] at C2
  have HB2 := Lib.hid hb2; clear hb1 hb2 C1
  go_wp2_with fail
  (with_reducible refine C2.out.mono ?_)
  rintro en w2 ⟨rfl, hb3⟩
  have HB3 := Lib.hid (HB2.out.trans (hb3.mono HB2.out.size)); clear hb3 C2
  go_wp2_with fail
  go_ret
  refine ⟨?_, HB3.out⟩
  show Ending.returned (Value.int .i64 ((k : Int) + (n : Int) + (n : Int))) = _
  rw [Int.natCast_add, Int.natCast_add]

set_option maxRecDepth 100000 in
set_option maxHeartbeats 2000000 in
theorem toStringS_own (a : Option Addr) (c : Nat) (xs : List Bs) (w : World) (h : StrsAt w a xs) (hx : xs.length ≤ 16777216) :
    Calls Tryd.prog 9 #[.slice a xs.length c] w fun en w' => ∃ c', en = .returned (.slice (some ⟨w.heap.size, 0, none⟩) xs.length c') ∧ Own w' 9 1 (.slice (some ⟨w.heap.size, 0, none⟩) xs.length c') xs.length (xs.map str) ∧ Below w.heap.size w w' := by
  have H := Lib.hid h; clear h
  obtain ⟨X, hX, hmk⟩ : ∃ X : Array Value, X.size = xs.length ∧ (Instr.makeSlice 22 (.int .i64 (xs.length : Int)) (.int .i64 (xs.length : Int))).run Tryd.prog w = .ok (.slice (some ⟨w.heap.size, 0, none⟩) xs.length xs.length) (w.alloc (.cells X 9)) := by
    obtain ⟨i, hi, hz, hsize, hby⟩ := info_parts Tryd.infoStr
    have hr := run_makeSlice (P := Tryd.prog) w 22 9 i _ Tryd.underlying22 hi hz .i64 .i64 (xs.length : Int) (xs.length : Int) (by omega) (by omega) (by rw [hsize]; simp; omega) (by rw [hby]; omega) (by omega)
    simp only [Int.toNat_natCast] at hr
    exact ⟨_, by rw [size_madeCells, hsize, Nat.mul_one], hr⟩
  have HX := Lib.hid hX; clear hX
  go_enter Tryd.func9, Tryd.ntmps9
  go_wp2_with fail
  go_loopw [4] (fun i wr => ∃ k : Nat, k ≤ xs.length ∧ i = .int .i64 k ∧ Below w.heap.size w wr ∧ Made w.heap.size xs k wr) (fun i _ => xs.length - (intOf i).toNat)
  case atStart => exact ⟨0, Nat.zero_le _, rfl, (Below.refl _ _).alloc (Nat.le_refl _) _, X, heap_new _ _, HX.out, fun j s h => by omega⟩
  case round =>
    clear hmk
    obtain ⟨k, hk, rfl, hb, hm⟩ := hrel
    by_cases hlt : k < xs.length
    · obtain ⟨s, hks⟩ : ∃ s, xs[k]? = some s := ⟨xs[k], by simp [hlt]⟩
      obtain ⟨b, o, e, hc⟩ := H.out.below hb k s hks
      subst e
      obtain ⟨⟨u, hu⟩, hf⟩ := hm.cell hlt
      have HP := Lib.hid (hm.put hks); have HB := Lib.hid hb
      clear hks hm hb
      have hlt' : (k : Int) < (xs.length : Int) := by omega
      go_wp2_with fail
      go_roundw
      case rel => exact ⟨k + 1, by omega, by go_num, HB.out.setCell (p := ⟨w.heap.size, k, none⟩) (Nat.le_refl _) _, HP.out⟩
      case measure => simp [intOf]; omega
    · obtain rfl : k = xs.length := by omega
      go_wp2_with fail
      go_ret
      refine ⟨_, rfl, ?_, hb⟩
      obtain ⟨Y, hY, hsz, hj⟩ := hm
      refine ⟨by simp, .inr ⟨w.heap.size, _, Y, rfl, Nat.zero_le _, hY, Nat.le_refl _, by unfold maxLen; omega, by omega, ?_⟩⟩
      rw [Nat.mul_one, List.take_of_length_le (by simp [hsz])]
      apply List.ext_getElem?
      intro j
      rw [Array.getElem?_toList, List.getElem?_map]
      cases hx : xs[j]? with
      | none =>
        have := List.getElem?_eq_none_iff.1 hx
        simp; omega
      | some s => exact hj j s (List.getElem?_eq_some_iff.1 hx).1 hx

end Go.Proofs.YtmkgoacclgoidaaDoor

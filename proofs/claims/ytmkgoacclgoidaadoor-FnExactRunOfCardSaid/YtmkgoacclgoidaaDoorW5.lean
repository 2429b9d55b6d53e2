/- The walks of impl's reader of bodies. -/
import Derived.Test.YtmkgoacclgoidaaDoorW4
import Derived.Deep.RegionHeld3
namespace Go.Proofs.YtmkgoacclgoidaaDoor
open Go.RowKit

/-- What the reader of bodies leaves. -/
def BPost (sr : Nat) (w : World) (o : Option (Bd × Bs × Nat)) (en : Ending) (w' : World) : Prop :=
  ∃ (v : Value) (r' : Bs) (left' : Int), en = .returned v ∧ But (fun x => x = sr) w w' ∧ Scan sr [.int .i64 left'] 150 r' w' ∧ (o = none → v = .pointer none) ∧
    (∀ b rest left2, o = some (b, rest, left2) → r' = rest ∧ left' = (left2 : Nat) ∧ Rep (w.heap.size ≤ ·) w' (encB b) v)

theorem encB_ptr {F : Nat → Prop} {w : World} {b : Bd} {v : Value} (h : Rep F w (encB b) v) : ∃ a, v = .pointer (some ⟨a, 0, none⟩) := by
  cases b with
  | leaf c => rw [encB, Rep_ptr] at h; obtain ⟨a, c, h, _⟩ := h; exact ⟨a, h⟩
  | ask v ss y n => rw [encB, Rep_ptr] at h; obtain ⟨a, c, h, _⟩ := h; exact ⟨a, h⟩

theorem BPost.no {sr : Nat} {w : World} {o : Option (Bd × Bs × Nat)} {w' : World} {r : Bs} {left : Int} (ho : o = none) (hb : But (fun x => x = sr) w w') (hs : Scan sr [.int .i64 left] 150 r w') :
    BPost sr w o (.returned (.pointer none)) w' :=
  ⟨_, r, left, rfl, hb, hs, fun _ => rfl, fun _ _ _ h => by rw [ho] at h; simp at h⟩
theorem BPost.yes {sr : Nat} {w : World} {o : Option (Bd × Bs × Nat)} {w' : World} {r : Bs} {left : Nat} {b : Bd} {v : Value} (ho : o = some (b, r, left)) (hb : But (fun x => x = sr) w w') (hs : Scan sr [.int .i64 left] 150 r w')
    (hv : Rep (w.heap.size ≤ ·) w' (encB b) v) : BPost sr w o (.returned v) w' :=
  ⟨_, r, left, rfl, hb, hs, fun h => by rw [ho] at h; simp at h, fun _ _ _ h => by rw [ho] at h; simp at h; obtain ⟨rfl, rfl, rfl⟩ := h; exact ⟨rfl, rfl, hv⟩⟩

/-- Levels that may be at hand. -/
def HandOk (d : Nat) (levels : List Ty) : Prop := (∀ t ∈ levels, atomsT t ≤ 15) ∧ levels.length + 15 * d ≤ 10000

def BodySaid (d : Nat) : Prop := ∀ (sr left : Nat) (levels : List Ty) (l : Bs) (lv : Value) (F : Nat → Prop) (w : World), Glob w → NotG sr →
  Scan sr [.int .i64 left] 150 l w → left ≤ 1000 → Lim l.length → HandOk d levels →
  Rep F w (.sl 64 1 levels.length (encKs levels)) lv → (∀ b, F b → b ≠ sr) →
  Calls Tryd.prog 77 #[.pointer (some ⟨sr, 0, none⟩), lv, .int .i64 d] w (BPost sr w (rdB d levels left l))

theorem encKs_append (a b : List Ty) : encKs (a ++ b) = encKs a ++ encKs b := by
  induction a with
  | nil => rfl
  | cons t ts ih => simp [encKs, ih]

/-- What can be appended can be appended behind a change elsewhere. -/
theorem srcSl_but {F : Nat → Prop} {m : Nat → Prop} {w w' : World} {e : TypeId} {sz n : Nat} {cs : List DV} {v : Value} {news : List Value} (hb : But m w w') (hF : ∀ b, F b → ¬ m b) (h : Rep F w (.sl e sz n cs) v) (hs : SrcSl sz v n news w) : SrcSl sz v n news w' := by
  rw [Rep_sl] at h
  obtain ⟨hl, a, cap, rfl, hn, hz, h⟩ := h
  obtain ⟨h1, h2, h3⟩ := hs
  refine ⟨h1, h2, ?_⟩
  rcases h with rfl | ⟨b, o, c, fr, rfl, hb', hc, hr⟩
  · have : news = [] := List.eq_nil_of_length_eq_zero (by simpa using h1)
    subst this
    rcases h3 with ⟨a', c', e', _⟩ | h3
    · exact .inl ⟨a', c', e', by simp⟩
    · exact .inr h3
  · rcases h3 with ⟨a', c', e', h3⟩ | ⟨h3, _⟩
    · simp at e'
      obtain ⟨e1, e2⟩ := e'
      subst e1
      refine .inl ⟨_, cap, rfl, fun j u hj => ?_⟩
      have := h3 j u hj
      rw [hb.cell (World.block_lt_of_cell? w _ this) ?_]
      · exact this
      · unfold Addr.add; split <;> exact hF b hb'
    · simp at h3

/-- What the call of the body asks for, behind Concat. -/
theorem part_pre {F : Nat → Prop} {sr : Nat} {left : Int} {levels more : List Ty} {r1 : Bs} {xs1 xs2 : List Value} {ac : Option Addr} {kc : Nat} {w w1 wx wc : World} (hg : Glob w) (hn : NotG sr) (hsr : sr < w.heap.size)
    (hb1 : But (fun x => x = sr) w w1) (hs1 : Scan sr [.int .i64 left] 150 r1 w1)
    (hF : ∀ b, F b → b ≠ sr) (G1 : Reps F w1 (encKs levels) xs1) (G2 : Reps F w1 (encKs more) xs2)
    (hx : Below w1.heap.size w1 wx) (hoc : Own wc 64 1 (.slice ac (levels.length + more.length) kc) (levels.length + more.length) (xs1 ++ xs2))
    (hbc : Below wx.heap.size wx wc) (hfc : ∀ g, (Value.slice ac (levels.length + more.length) kc).ownBlock = some g → wx.heap.size ≤ g) :
    Below w1.heap.size w1 wc ∧ Glob wc ∧ Scan sr [.int .i64 left] 150 r1 wc ∧
      Rep (fun b => b ≠ sr) wc (.sl 64 1 (levels ++ more).length (encKs (levels ++ more))) (.slice ac (levels.length + more.length) kc) := by
  have z1 := hb1.size
  have hb : Below w1.heap.size w1 wc := hx.trans (hbc.mono hx.size)
  refine ⟨hb, (hg.but hb1 fun i e => by subst e; exact hn).below hb, (hb.block sr (by omega)).trans hs1, ?_⟩
  rw [List.length_append, encKs_append]
  refine hoc.rep (fun g h => ?_) (Reps.append (G1.below hb hF) (G2.below hb hF))
  have := hfc g h; have := hx.size; omega

set_option maxRecDepth 100000 in
set_option maxHeartbeats 1000000 in
theorem part_any (d : Nat) (ih : BodySaid d) (sr left : Nat) (levels more : List Ty) (l : Bs) (lv mv : Value) (F : Nat → Prop) (w : World) (b1 b2 b3 : Nat) (hg : Glob w) (hn : NotG sr)
    (hs : Scan sr [.int .i64 left] 150 l w) (hl : left ≤ 1000) (hr : Lim l.length) (hh : HandOk d (levels ++ more)) (hd : d ≤ 1000)
    (hlv : Rep F w (.sl 64 1 levels.length (encKs levels)) lv) (hmv : Rep F w (.sl 64 1 more.length (encKs more)) mv) (hF : ∀ b, F b → b ≠ sr)
    (c1 : w.cell? ⟨b1, 0, none⟩ = some (.pointer (some ⟨sr, 0, none⟩))) (c2 : w.cell? ⟨b2, 0, none⟩ = some lv) (c3 : w.cell? ⟨b3, 0, none⟩ = some (.int .i64 ((d : Int) + 1)))
    (n1 : b1 ≠ sr) (n2 : b2 ≠ sr) (n3 : b3 ≠ sr) :
    Calls Tryd.prog 98 #[mv, .pointer (some ⟨b1, 0, none⟩), .pointer (some ⟨b2, 0, none⟩), .pointer (some ⟨b3, 0, none⟩)] w (BPost sr w (rdPart (rdB d) (levels ++ more) left l)) := by
  have IH := Lib.hid ih; clear ih
  have HF := Lib.hid hF; clear hF
  have l1 := World.block_lt_of_cell? w _ c1
  have l2 := World.block_lt_of_cell? w _ c2
  have l3 := World.block_lt_of_cell? w _ c3
  go_enter Tryd.func98, Tryd.ntmps98
  go_wp2_with fail
  rcases cut_cases [32] l with h1 | ⟨r1, h1⟩
  · refine (take_no hs h1).mono ?_
    rintro en w1 ⟨rfl, hb1, hs1⟩
    go_wp2_with fail
    go_ret
    exact BPost.no (by simp [rdPart, h1.out]) hb1 hs1
  · refine (take_yes hs h1).mono ?_
    rintro en w1 ⟨rfl, hb1, hs1⟩
    have d1 : w1.cell? ⟨b1, 0, none⟩ = some (.pointer (some ⟨sr, 0, none⟩)) := by rw [hb1.cell l1 n1]; exact c1
    have d2 : w1.cell? ⟨b2, 0, none⟩ = some lv := by rw [hb1.cell l2 n2]; exact c2
    have d3 : w1.cell? ⟨b3, 0, none⟩ = some (.int .i64 ((d : Int) + 1)) := by rw [hb1.cell l3 n3]; exact c3
    obtain ⟨xs1, hx1, g1⟩ := SrcSl.ofRep hlv (oneCell_encKs _)
    obtain ⟨xs2, hx2, g2⟩ := SrcSl.ofRep hmv (oneCell_encKs _)
    have lim : levels.length + more.length ≤ 10000 := by have := hh.2; simp at this; omega
    have hsr := scan_lt hs
    have z1 := hb1.size
    have hF' := HF.out
    have G1 := Lib.hid (Reps.but hb1 (fun b hb => ⟨HF.out b hb, hb⟩) hx1)
    have G2 := Lib.hid (Reps.but hb1 (fun b hb => ⟨HF.out b hb, hb⟩) hx2)
    have W1 : SrcSl 1 lv levels.length xs1 w1 := srcSl_but hb1 hF' hlv g1
    have W2 : SrcSl 1 mv more.length xs2 w1 := srcSl_but hb1 hF' hmv g2
    clear hF' hx1 hx2 g1 g2 c1 c2 c3
    obtain ⟨a1, k1, rfl⟩ := W1.slice
    obtain ⟨a2, k2, rfl⟩ := W2.slice
    have l1' : b1 < w1.heap.size := by omega
    have l2' : b2 < w1.heap.size := by omega
    have l3' : b3 < w1.heap.size := by omega
    go_wp2_with fail
    have HW := Lib.hid (IntWalk.i64_in (d : Int) (by omega))
    go_region_held3 (fun w' => w'.cell? ⟨b1, 0, none⟩ = some (.pointer (some ⟨sr, 0, none⟩)) ∧ w'.cell? ⟨b2, 0, none⟩ = some (.slice a1 levels.length k1) ∧ w'.cell? ⟨b3, 0, none⟩ = some (.int .i64 ((d : Int) + 1)))
      (first
        | exact ⟨(hbg.cell l1' n1).trans d1, (hbg.cell l2' n2).trans d2, (hbg.cell l3' n3).trans d3⟩
        | exact ⟨(hbb.cell l1').trans d1, (hbb.cell l2').trans d2, (hbb.cell l3').trans d3⟩
        | go_keep)
      (first
        | (go_at_call 99; refine (concatK_any w1.heap.size levels.length more.length (.slice a1 levels.length k1) (.slice a2 more.length k2) xs1 xs2 _ (by simp) (by simp) (W1.keep fun _ _ h => by simpa using cell_alloc h) (W2.keep fun _ _ h => by simpa using cell_alloc h) (show _ ≤ _ by omega) (show _ ≤ _ by omega) (show _ ≤ _ by omega)).mono ?_; rintro en wc ⟨ac, kc, rfl, hoc, hbc, hfc⟩; obtain ⟨hbb, hgc, hsc, hrc⟩ := part_pre hg hn hsr hb1 hs1 HF.out G1.out G2.out (((Below.refl w1.heap.size w1).alloc (Nat.le_refl _) _).drew) hoc hbc hfc)
        | (go_at_call 77
           rw [HW.out]
           refine (IH.out sr left (levels ++ more) r1 _ (fun b => b ≠ sr) wc hgc hn hsc hl (hr.mono h1.le) hh hrc (fun b h => h)).mono ?_
           rintro en wf ⟨v, r', left', rfl, hbf, hsf, hnf, hyf⟩; have hbg := (But.ofBelow (m := fun x => x = sr) hbb).trans hbf))
    go_wp2_with fail
    go_ret
    refine ⟨v, r', left', rfl, hb1.trans hbg, hsf, fun h => hnf ?_, fun b rest left2 h => ?_⟩
    · simpa [rdPart, h1.out] using h
    · obtain ⟨e1, e2, e3⟩ := hyf b rest left2 (by simpa [rdPart, h1.out] using h)
      exact ⟨e1, e2, (Rep.keep fun b o h ho => ⟨by have := h; have := hbb.size; omega, ho⟩).1 _ _ e3⟩

theorem Scan.cell1 {sc : Nat} {c : List Value} {e : TypeId} {r : Bs} {u : Value} {w : World} (h : Scan sc (u :: c) e r w) : w.cell? ⟨sc, 1, none⟩ = some u := by
  simp [World.cell?, Scan] at *; simp [h]
theorem Scan.put1 {sc : Nat} {c : List Value} {e : TypeId} {r : Bs} {u u' : Value} {w : World} (h : Scan sc (u :: c) e r w) : Scan sc (u' :: c) e r (w.setCell ⟨sc, 1, none⟩ u') := by
  unfold Scan at *
  have hlt := lt_of_heap h
  have h' : w.heap[sc] = .cells (str r :: u :: c).toArray e (0, 0) := by simpa [Array.getElem?_eq_getElem hlt] using h
  show (w.heap.modify sc _)[sc]? = _
  rw [Array.getElem?_eq_getElem (by simpa using hlt), Array.getElem_modify_self, h']
  simp

/-- The boxes of what the closure captured. -/
def Boxes (B sr : Nat) (lv : Value) (d : Nat) (w : World) : Prop :=
  w.cell? ⟨B, 0, none⟩ = some (.pointer (some ⟨sr, 0, none⟩)) ∧ w.cell? ⟨B + 1, 0, none⟩ = some lv ∧ w.cell? ⟨B + 1 + 1, 0, none⟩ = some (.int .i64 (d : Int))
theorem Boxes.but {B sr : Nat} {lv : Value} {d : Nat} {m : Nat → Prop} {w w' : World} (h : Boxes B sr lv d w) (hb : But m w w') (hm : ∀ i, m i → i ≠ B ∧ i ≠ B + 1 ∧ i ≠ B + 1 + 1) : Boxes B sr lv d w' := by
  obtain ⟨h1, h2, h3⟩ := h
  refine ⟨?_, ?_, ?_⟩
  · rw [hb.cell (World.block_lt_of_cell? w _ h1) (fun e => (hm _ e).1 rfl)]; exact h1
  · rw [hb.cell (World.block_lt_of_cell? w _ h2) (fun e => (hm _ e).2.1 rfl)]; exact h2
  · rw [hb.cell (World.block_lt_of_cell? w _ h3) (fun e => (hm _ e).2.2 rfl)]; exact h3

/-- The new body, while its parts are read. -/
def NewB (ob v : Nat) (slv y n : Value) (w : World) : Prop := w.heap[ob]? = some (.cells #[str [], .int .i64 v, slv, y, n] 118 (0, 0))
theorem NewB.cells {ob v : Nat} {slv y n : Value} {w : World} (h : NewB ob v slv y n w) : w.cell? ⟨ob, 2, none⟩ = some slv ∧ w.cell? ⟨ob, 3, none⟩ = some y ∧ w.cell? ⟨ob, 4, none⟩ = some n ∧ ob < w.heap.size ∧ (∀ o, w.frozen? ⟨ob, o, none⟩ = false) := by
  have hl := lt_of_heap h
  unfold NewB at h
  exact ⟨by simp [World.cell?, h], by simp [World.cell?, h], by simp [World.cell?, h], hl, fun o => by simp [World.frozen?, h]⟩
theorem setCell_at {w : World} {b o : Nat} {c : Array Value} {e : TypeId} {u : Value} (h : w.heap[b]? = some (.cells c e (0, 0))) : (w.setCell ⟨b, o, none⟩ u).heap[b]? = some (.cells (c.setIfInBounds o u) e (0, 0)) := by
  have hlt := lt_of_heap h
  have h' : w.heap[b] = .cells c e (0, 0) := by simpa [Array.getElem?_eq_getElem hlt] using h
  show (w.heap.modify b _)[b]? = _
  rw [Array.getElem?_eq_getElem (by simpa using hlt), Array.getElem_modify_self, h']
  simp
theorem NewB.put2 {ob v : Nat} {slv y n u : Value} {w : World} (h : NewB ob v slv y n w) : NewB ob v u y n (w.setCell ⟨ob, 2, none⟩ u) := by
  unfold NewB; rw [setCell_at h]; rfl
theorem NewB.put3 {ob v : Nat} {slv y n u : Value} {w : World} (h : NewB ob v slv y n w) : NewB ob v slv u n (w.setCell ⟨ob, 3, none⟩ u) := by
  unfold NewB; rw [setCell_at h]; rfl
theorem NewB.put4 {ob v : Nat} {slv y n u : Value} {w : World} (h : NewB ob v slv y n w) : NewB ob v slv y u (w.setCell ⟨ob, 4, none⟩ u) := by
  unfold NewB; rw [setCell_at h]; rfl

/-- What holds at each round of the loop over the arguments. 'Z': the heap's size when the loop began. -/
def BodyRel (sr B ob Z v d : Nat) (lv : Value) (levels ts : List Ty) (left0 : Nat) (r0 : Bs) (w : World) (rd : Rd) (k : Nat) (wr : World) : Prop :=
  ∃ bs lk leftk slv vs, rdParts rd (hands levels (ts.take k)) left0 r0 = some (bs, lk, leftk) ∧ But (fun x => x = sr) w wr ∧ Scan sr [.int .i64 (leftk : Nat)] 150 lk wr ∧
    NewB ob v slv (.pointer none) (.pointer none) wr ∧ Own wr 65 1 slv k vs ∧ (∀ g, slv.ownBlock = some g → Z ≤ g) ∧ Reps (fun b => Z ≤ b ∧ slv.ownBlock ≠ some b) wr (encBs bs) vs ∧ Boxes B sr lv (d + 1) wr ∧ Z ≤ wr.heap.size

theorem encBs_append (a b : List Bd) : encBs (a ++ b) = encBs a ++ encBs b := by
  induction a with
  | nil => rfl
  | cons t ts ih => simp [encBs, ih]
theorem encBs_length (a : List Bd) : (encBs a).length = a.length := by
  induction a with
  | nil => rfl
  | cons t ts ih => simp [encBs, ih]

theorem Tryd.infoB : (Tryd.prog.info? 65).map (fun i => (i.zero, i.size, i.bytes)) = some (some (.pointer none), 1, 8) := by kernel_rfl

theorem leaf_end {sr left : Nat} {x : UInt8} {r : Bs} {w w2 : World} {o : Option (Bd × Bs × Nat)} {u : Value} (hw : u = str [x]) (hm : o = some (.leaf x, r, left)) (hb : But (fun x => x = sr) w w2) (hs : Scan sr [.int .i64 (left : Nat)] 150 r w2) :
    BPost sr w o (.returned (.pointer (some ⟨w2.heap.size, 0, none⟩))) (w2.alloc (.cells #[u, .int .i64 0, .slice none 0 0, .pointer none, .pointer none] 118)) := by
  refine BPost.yes hm (hb.alloc _) (hs.alloc _) ?_
  rw [encB, Rep_ptr]
  refine ⟨_, _, rfl, hb.size, heap_new _ _, ?_⟩
  subst hw
  refine Reps_cons.2 ⟨_, _, rfl, Rep_val.2 rfl, Reps_cons.2 ⟨_, _, rfl, Rep_val.2 rfl, Reps_cons.2 ⟨_, _, rfl, ?_, Reps_cons.2 ⟨_, _, rfl, Rep_val.2 rfl, Reps_cons.2 ⟨_, _, rfl, Rep_val.2 rfl, Reps_nil.2 rfl⟩⟩⟩⟩⟩
  exact Rep_sl.2 ⟨rfl, none, 0, rfl, Nat.le_refl _, fun _ => rfl, .inl rfl⟩

theorem HandOk.next {d : Nat} {levels : List Ty} {v : Nat} {t a : Ty} (h : HandOk (d + 1) levels) (hv : levels[v]? = some t) (ha : a ∈ t.args) : HandOk d (levels ++ a.args) := by
  have ht := h.1 t (List.mem_of_getElem? hv)
  have hle : ∀ ts : List Ty, ∀ a ∈ ts, 1 + atomsT a ≤ atomsTs ts := by
    intro ts
    induction ts with
    | nil => simp
    | cons x xs ih =>
      intro a ha
      rcases List.mem_cons.1 ha with rfl | ha
      · simp [atomsTs]
      · have := ih a ha; simp [atomsTs]; omega
  have hlen : ∀ ts : List Ty, ts.length ≤ atomsTs ts := by
    intro ts
    induction ts with
    | nil => simp
    | cons x xs ih => simp [atomsTs]; omega
  have h1 := hle _ a ha
  have h2 := atomsT_mk t
  have h3 := atomsT_mk a
  refine ⟨fun x hx => ?_, ?_⟩
  · rcases List.mem_append.1 hx with hx | hx
    · exact h.1 x hx
    · have := hle _ x hx; omega
  · have := hlen a.args; have := h.2; simp; omega
theorem HandOk.same {d : Nat} {levels : List Ty} (h : HandOk (d + 1) levels) : HandOk d (levels ++ []) := by
  refine ⟨fun x hx => h.1 x (by simpa using hx), ?_⟩
  have := h.2; simp; omega

theorem BodyRel.next {sr B ob Z v d : Nat} {lv : Value} {levels ts : List Ty} {left0 : Nat} {r0 : Bs} {w : World} {rd : Rd} {k : Nat} {wr w1 w2 : World} {t : Ty} {bs : List Bd} {lk : Bs} {leftk : Nat} {slv : Value} {vs : List Value}
    {b : Bd} {rest : Bs} {left2 : Nat} {vb : Value} {o : Obj} {a' : Option Addr} {c' : Nat}
    (ht : ts[k]? = some t) (hp : rdParts rd (hands levels (ts.take k)) left0 r0 = some (bs, lk, leftk)) (hb : But (fun x => x = sr) w wr)
    (hnb : NewB ob v slv (.pointer none) (.pointer none) wr) (hZ : ∀ g, slv.ownBlock = some g → Z ≤ g) (hown : Own wr 65 1 slv k vs) (hr : Reps (fun b => Z ≤ b ∧ slv.ownBlock ≠ some b) wr (encBs bs) vs) (hx : Boxes B sr lv (d + 1) wr)
    (hz : Z ≤ wr.heap.size) (hq : rdPart rd (levels ++ t.args) leftk lk = some (b, rest, left2))
    (hb1 : But (fun x => x = sr) wr w1) (hs1 : Scan sr [.int .i64 (left2 : Nat)] 150 rest w1) (hv : Rep (wr.heap.size ≤ ·) w1 (encB b) vb)
    (hown' : Own w2 65 1 (.slice a' (k + 1) c') (k + 1) (vs ++ [vb])) (hb2 : But (fun b => slv.ownBlock = some b) (w1.alloc o) w2) (hg : ∀ g, (Value.slice a' (k + 1) c').ownBlock = some g → slv.ownBlock = some g ∨ g = (w1.alloc o).heap.size)
    (hsr : sr < w.heap.size) (hB : w.heap.size ≤ B) (hob : B + 1 + 1 < ob) (hobZ : ob < Z) :
    BodyRel sr B ob Z v d lv levels ts left0 r0 w rd (k + 1) (w2.setCell ⟨ob, 2, none⟩ (.slice a' (k + 1) c')) := by
  have z1 := hb1.size; have z2 := hb2.size; have zw := hb.size
  rw [size_alloc] at hg z2
  have hlt : ∀ g, slv.ownBlock = some g → g < wr.heap.size := fun g h => hown.lt h
  have hnsr : ∀ g, slv.ownBlock = some g → Z ≤ g := hZ
  -- what stays, from w1 on
  have keep : ∀ i x, w1.heap[i]? = some x → slv.ownBlock ≠ some i → i ≠ ob → (w2.setCell ⟨ob, 2, none⟩ (.slice a' (k + 1) c')).heap[i]? = some x := by
    intro i x hi hne ho
    rw [Below.heap_setCell _ _ _ _ (by simpa using ho), hb2.block i (by rw [size_alloc]; have := lt_of_heap hi; omega) hne]
    exact heap_past hi
  have hnb1 : NewB ob v slv (.pointer none) (.pointer none) w1 := (hb1.block ob (lt_of_heap hnb) (by omega)).trans hnb
  have hnb2 : NewB ob v slv (.pointer none) (.pointer none) w2 := by
    unfold NewB; rw [hb2.block ob (by rw [size_alloc]; have := lt_of_heap hnb1; omega) (fun e => by have := hZ ob e; omega)]
    exact heap_past hnb1
  have hx1 := hx.but hb1 (fun i e => by subst e; omega)
  refine ⟨bs ++ [b], rest, left2, _, vs ++ [vb], ?_, ?_, ?_, hnb2.put2, ?_, ?_, ?_, ?_, ?_⟩
  · rw [hands_next ht hp, hq]; rfl
  · refine ((hb.trans hb1).trans' ((But.refl (fun b => slv.ownBlock = some b) w1).alloc o |>.trans hb2) fun i hi e => ?_).setCell (p := ⟨ob, 2, none⟩) (.inr (by simp; omega)) _
    have := hZ i e; omega
  · exact keep sr _ hs1 (fun e => by have := hZ sr e; omega) (by omega)
  · refine hown'.keep fun g x hg' hx' => ?_
    rw [Below.heap_setCell _ _ _ _ (by
      rcases hg g hg' with h | h
      · have := hZ g h; simp; omega
      · simp; omega)]
    exact hx'
  · intro g h
    rcases hg g h with h | h
    · exact hZ g h
    · omega
  · rw [encBs_append]
    refine Reps.append ?_ (Reps.one ?_)
    · refine (Rep.keep fun i x hi hx' => ⟨⟨hi.1, fun e => ?_⟩, ?_⟩).2 _ _ hr
      · have hne : i ≠ sr := by omega
        exact keep i x (by rw [hb1.block i (lt_of_heap hx') hne]; exact hx') hi.2 (by omega)
      · rcases hg i e with h | h
        · exact hi.2 h
        · have := lt_of_heap hx'; omega
    · refine (Rep.keep fun i x hi hx' => ⟨⟨by have := hi; omega, fun e => ?_⟩, ?_⟩).1 _ _ hv
      · exact keep i x hx' (fun e => by have := hlt i e; have := hi; omega) (by have := hi; omega)
      · rcases hg i e with h | h
        · have := hlt i h; have := hi; omega
        · have := lt_of_heap hx'; omega
  · obtain ⟨y1, y2, y3⟩ := hx1
    have ck : ∀ i u, w1.cell? ⟨i, 0, none⟩ = some u → slv.ownBlock ≠ some i → i ≠ ob → (w2.setCell ⟨ob, 2, none⟩ (.slice a' (k + 1) c')).cell? ⟨i, 0, none⟩ = some u := by
      intro i u hi hne ho
      rw [World.cell?_of_block (w := w1) (a := ⟨i, 0, none⟩) ?_]; exact hi
      have hl := World.block_lt_of_cell? w1 _ hi
      obtain ⟨x, hx'⟩ : ∃ x, w1.heap[i]? = some x := ⟨w1.heap[i], by simp at hl; simp [hl]⟩
      show (w2.setCell ⟨ob, 2, none⟩ (.slice a' (k + 1) c')).heap[i]? = w1.heap[i]?
      rw [keep i x hx' hne ho, hx']
    exact ⟨ck _ _ y1 (fun e => by have := hZ _ e; omega) (by omega), ck _ _ y2 (fun e => by have := hZ _ e; omega) (by omega), ck _ _ y3 (fun e => by have := hZ _ e; omega) (by omega)⟩
  · simp only [World.setCell]; simp; omega

end Go.Proofs.YtmkgoacclgoidaaDoor

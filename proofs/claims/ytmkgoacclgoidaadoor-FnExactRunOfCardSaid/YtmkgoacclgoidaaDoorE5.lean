/- The walk of impl's move, whether a play is kept or not. -/
import Derived.Test.YtmkgoacclgoidaaDoorE4
import Derived.Deep.Cut
namespace Go.Proofs.YtmkgoacclgoidaaDoor
open Go.RowKit

def logM (log : List (Bs × Int)) : List Value := log.map fun x => str x.1
def logP (log : List (Bs × Int)) : List Value := log.map fun x => Value.int .i64 x.2
theorem logM_snoc (log : List (Bs × Int)) (s : Bs) (p : Int) : logM (log ++ [(s, p)]) = logM log ++ [str s] := by simp [logM]
theorem logP_snoc (log : List (Bs × Int)) (s : Bs) (p : Int) : logP (log ++ [(s, p)]) = logP log ++ [.int .i64 p] := by simp [logP]

/-- The machine's block, and the rows of its play. -/
structure MS (keeps : Bool) (most ma : Nat) (log : List (Bs × Int)) (mv pt : Value) (w : World) : Prop where
  blk : w.heap[ma]? = some (.cells #[mv, pt, .int .i64 (most : Nat), .int .i64 (log.length : Nat), .bool keeps] 101 (0, 0))
  rows : keeps = true → Own w 9 1 mv log.length (logM log) ∧ Own w 3 1 pt log.length (logP log)
  nil : keeps = false → mv = .slice none 0 0 ∧ pt = .slice none 0 0
  neM : ∀ g, mv.ownBlock = some g → g ≠ ma ∧ pt.ownBlock ≠ some g
  neP : ∀ g, pt.ownBlock = some g → g ≠ ma

/-- The machine's own blocks. -/
def MBk (ma : Nat) (mv pt : Value) (b : Nat) : Prop := b = ma ∨ mv.ownBlock = some b ∨ pt.ownBlock = some b

theorem MS.but {keeps : Bool} {most ma : Nat} {log : List (Bs × Int)} {mv pt : Value} {m : Nat → Prop} {w w' : World} (h : MS keeps most ma log mv pt w) (hb : But m w w') (hm : ∀ b, MBk ma mv pt b → ¬ m b) : MS keeps most ma log mv pt w' :=
  ⟨by rw [hb.block ma (lt_of_heap h.blk) (hm ma (.inl rfl))]; exact h.blk,
   fun hk => ⟨(h.rows hk).1.keep fun g o hg ho => by rw [hb.block g (lt_of_heap ho) (hm g (.inr (.inl hg)))]; exact ho, (h.rows hk).2.keep fun g o hg ho => by rw [hb.block g (lt_of_heap ho) (hm g (.inr (.inr hg)))]; exact ho⟩,
   h.nil, h.neM, h.neP⟩
theorem MS.below {keeps : Bool} {most ma : Nat} {log : List (Bs × Int)} {mv pt : Value} {w w' : World} (h : MS keeps most ma log mv pt w) (hb : Below w.heap.size w w') : MS keeps most ma log mv pt w' :=
  h.but (m := fun _ => False) (But.ofBelow hb) fun _ _ h => h
theorem MBk.lt {keeps : Bool} {most ma : Nat} {log : List (Bs × Int)} {mv pt : Value} {w : World} (h : MS keeps most ma log mv pt w) {b : Nat} (hb : MBk ma mv pt b) : b < w.heap.size := by
  rcases hb with rfl | hb | hb
  · exact lt_of_heap h.blk
  · cases keeps with
    | true => exact (h.rows rfl).1.lt hb
    | false => rw [(h.nil rfl).1] at hb; simp [Value.ownBlock] at hb
  · cases keeps with
    | true => exact (h.rows rfl).2.lt hb
    | false => rw [(h.nil rfl).2] at hb; simp [Value.ownBlock] at hb

/-- What a move leaves. -/
def MovedS (keeps : Bool) (most ma : Nat) (log : List (Bs × Int)) (mv pt : Value) (s : Bs) (p : Int) (w : World) (en : Ending) (w' : World) : Prop :=
  if log.length = most then ∃ te pe, en = .returned (.tuple #[.int .i64 0, .iface te pe]) ∧ Below w.heap.size w w'
  else ∃ mv' pt', en = .returned (.tuple #[.int .i64 (log.length : Nat), .nilIface]) ∧ But (MBk ma mv pt) w w' ∧ MS keeps most ma (log ++ [(s, p)]) mv' pt' w' ∧ (∀ b, MBk ma mv' pt' b → MBk ma mv pt b ∨ w.heap.size ≤ b)

theorem Tryd.infoInt : (Tryd.prog.info? 3).map (fun i => (i.zero, i.size, i.bytes)) = some (some (.int .i64 0), 1, 8) := by kernel_rfl
theorem Tryd.infoStr0 : (Tryd.prog.info? 9).map (fun i => (i.zero, i.size, i.bytes)) = some (some (str []), 1, 16) := by kernel_rfl

set_option maxRecDepth 100000 in
set_option maxHeartbeats 2000000 in
theorem moveS_none (most ma : Nat) (log : List (Bs × Int)) (mv pt : Value) (s : Bs) (p : Int) (w : World) (h : MS false most ma log mv pt w) (hg : GlobT w) (hm : most ≤ 16777216) (hmm : log.length ≤ most) :
    Calls Tryd.prog 78 #[.pointer (some ⟨ma, 0, none⟩), str s, .int .i64 p] w (MovedS false most ma log mv pt s p w) := by
  obtain ⟨e1, e2⟩ := h.nil rfl
  subst e1; subst e2
  refine (move_any ma most log.length s p w h.blk hg hm hmm).mono ?_
  intro en w' hw
  unfold Moved at hw; unfold MovedS
  split at hw
  · rename_i he; rw [if_pos he]; exact hw
  · rename_i he; rw [if_neg he]
    obtain ⟨h1, h2, h3⟩ := hw
    refine ⟨.slice none 0 0, .slice none 0 0, h1, h2.weak fun i _ hi => .inl hi, ⟨?_, by simp, fun _ => ⟨rfl, rfl⟩, by simp [Value.ownBlock], by simp [Value.ownBlock]⟩, fun b hb => .inl hb⟩
    have : (log ++ [(s, p)]).length = log.length + 1 := by simp
    rw [this]; exact h3

theorem mcells {ma most n : Nat} {mv pt : Value} {w : World} {k : Bool} (h : w.heap[ma]? = some (.cells #[mv, pt, .int .i64 (most : Nat), .int .i64 (n : Nat), .bool k] 101 (0, 0))) :
    w.cell? ⟨ma, 0, none⟩ = some mv ∧ w.cell? ⟨ma, 1, none⟩ = some pt ∧ w.cell? ⟨ma, 2, none⟩ = some (.int .i64 (most : Nat)) ∧ w.cell? ⟨ma, 3, none⟩ = some (.int .i64 (n : Nat)) ∧ w.cell? ⟨ma, 4, none⟩ = some (.bool k) ∧ (∀ o, w.frozen? ⟨ma, o, none⟩ = false) :=
  ⟨by simp [World.cell?, h], by simp [World.cell?, h], by simp [World.cell?, h], by simp [World.cell?, h], by simp [World.cell?, h], fun o => by simp [World.frozen?, h]⟩

set_option maxRecDepth 100000 in
set_option maxHeartbeats 4000000 in
theorem moveS_keep (most ma : Nat) (log : List (Bs × Int)) (mv pt : Value) (s : Bs) (p : Int) (w : World) (h : MS true most ma log mv pt w) (hg : GlobT w) (hm : most ≤ 16777216) (hmm : log.length ≤ most) :
    Calls Tryd.prog 78 #[.pointer (some ⟨ma, 0, none⟩), str s, .int .i64 p] w (MovedS true most ma log mv pt s p w) := by
  obtain ⟨c0, c1, c2, c3, c4, cf⟩ := mcells h.blk
  have f3 := cf 3; clear cf
  obtain ⟨te, pe, hgl⟩ := hg
  have H := Lib.hid h; clear h
  generalize hL : log.length = n at *
  have HL := Lib.hid hL; clear hL
  by_cases he : n = most
  · have hd : ((n : Int) == (most : Int)) = true := by rw [beq_iff_eq]; omega
    have HE := Lib.hid he; clear he
    go_enter Tryd.func78, Tryd.ntmps78
    go_wp2_with fail
    go_quiet (fail)
    go_wp2_with fail
    go_quiet (fail)
    go_wp2_with fail
    refine bodyPost_ret (v := .tuple #[.int .i64 0, .iface te pe]) (by simp [results, Tryd.results78, go_sem]) rfl ?_
    unfold MovedS
    rw [if_pos (HL.out.trans HE.out)]
    exact ⟨te, pe, rfl, by first | exact below_dN (Below.refl _ _) _ | exact below_dN (below_dN (Below.refl _ _) _) _⟩
  · have hd : ((n : Int) == (most : Int)) = false := by rw [beq_eq_false_iff_ne]; omega
    have HE := Lib.hid he; clear he
    have hw : IntKind.i64.wrap ((n : Int) + 1) = (n : Int) + 1 := by
      rw [show (n : Int) + 1 = ((n + 1 : Nat) : Int) from by omega]; exact wrap_nat _ (by omega)
    obtain ⟨am, cm, em⟩ := (H.out.rows rfl).1.slice
    obtain ⟨ap, cp, ep⟩ := (H.out.rows rfl).2.slice
    rw [HL.out] at em ep
    subst em; subst ep
    go_enter Tryd.func78, Tryd.ntmps78
    go_wp2_with fail
    go_quiet (fail)
    have hblk : (w.drewN nq).heap[ma]? = some (.cells #[.slice am n cm, .slice ap n cp, .int .i64 (most : Nat), .int .i64 (log.length : Nat), .bool true] 101 (0, 0)) := H.out.blk
    have hd3 : (w.drewN nq).cell? ⟨ma, 3, none⟩ = some (.int .i64 (n : Nat)) := c3
    have hdf : (w.drewN nq).frozen? ⟨ma, 3, none⟩ = false := f3
    obtain ⟨W, hW⟩ : ∃ W, (w.drewN nq).setCell ⟨ma, 3, none⟩ (.int .i64 ((n : Int) + 1)) = W := ⟨_, rfl⟩
    have hblkW : W.heap[ma]? = some (.cells #[.slice am n cm, .slice ap n cp, .int .i64 (most : Nat), .int .i64 ((n + 1 : Nat) : Int), .bool true] 101 (0, 0)) := by
      rw [← hW, setCell_at hblk]; rfl
    have hbW : But (· = ma) w W := by rw [← hW]; exact But.setCell (m := (· = ma)) (p := ⟨ma, 3, none⟩) (below_dN_but' (But.refl _ _) _) (.inl rfl) _
    obtain ⟨d0, d1, d2, d3, d4, df⟩ := mcells hblkW
    have df0 := df 0; clear df
    have HW := Lib.hid hW; have HB := Lib.hid hblkW; have HBW := Lib.hid hbW
    clear hW hblkW hbW hblk
    clear c0 c1 c2 c3 c4 f3
    go_upto_region 4 with (fail)
    rw [HW.out]
    go_wp2_with (at_builtin; refine wpList_append_gen rfl _ _ 22 rfl 9 (str []) 1 16 Tryd.underlying22 Tryd.infoStr0 rfl (by decide) (.slice am n cm) n (logM log) rfl ?c1 _ 1 [str s] rfl ?c2 ?c3 ?c4 ?_)
    case c1 =>
      have h0 := (H.out.rows rfl).1
      rw [HL.out] at h0
      exact (h0.keep fun g o hg ho => by rw [HBW.out.block g (lt_of_heap ho) (H.out.neM g hg).1]; exact ho).alloc _
    case c2 => exact SrcSl.litk #[str s] rfl (by simp [str, Value.oneCell']) _ (by simp)
    case c3 => unfold maxLen; omega
    case c4 => omega
    intro a' c' w7 ho7 hb7 hg7
    have hlt : ma < W.heap.size := lt_of_heap HB.out
    have hblk7 : w7.heap[ma]? = some (.cells #[.slice am n cm, .slice ap n cp, .int .i64 (most : Nat), .int .i64 ((n + 1 : Nat) : Int), .bool true] 101 (0, 0)) := by
      rw [hb7.block ma (by rw [size_alloc]; omega) (fun e => (H.out.neM ma e).1 rfl), Below.heap_alloc _ _ _ hlt]; exact HB.out
    have hblk8 : (w7.setCell ⟨ma, 0, none⟩ (.slice a' (n + 1) c')).heap[ma]? = some (.cells #[.slice a' (n + 1) c', .slice ap n cp, .int .i64 (most : Nat), .int .i64 ((n + 1 : Nat) : Int), .bool true] 101 (0, 0)) := by
      rw [setCell_at hblk7]; rfl
    obtain ⟨b0, b1, b2, b3, b4, bf⟩ := mcells hblk7
    have bf0 := bf 0; clear bf
    obtain ⟨g0, g1, g2, g3, g4, gf⟩ := mcells hblk8
    have gf1 := gf 1; clear gf
    have hW1 : But (MBk ma (.slice am n cm) (.slice ap n cp)) w (w7.setCell ⟨ma, 0, none⟩ (.slice a' (n + 1) c')) := by
      refine But.setCell (p := ⟨ma, 0, none⟩) ?_ (.inl (.inl rfl)) _
      have h1 : But (MBk ma (.slice am n cm) (.slice ap n cp)) w (W.alloc (.cells #[str s] 9)) := (HBW.out.weak fun i _ hi => .inl hi).alloc _
      exact h1.trans' hb7 fun i _ hi => .inr (.inl hi)
    have hz : W.heap.size + 1 ≤ w7.heap.size := by have := hb7.size; rwa [size_alloc] at this
    have hO1 : Own (w7.setCell ⟨ma, 0, none⟩ (.slice a' (n + 1) c')) 9 1 (.slice a' (n + 1) c') (n + 1) (logM log ++ [str s]) := by
      refine ho7.keep fun g o hg ho => ?_
      rw [Below.heap_setCell _ _ _ _ (by
        intro e
        have e : g = ma := by simpa using e
        subst e
        rcases hg7 g hg with h | h
        · exact (H.out.neM g h).1 rfl
        · have : g = W.heap.size + 1 := by simpa using h
          omega)]; exact ho
    have hO2 : Own (w7.setCell ⟨ma, 0, none⟩ (.slice a' (n + 1) c')) 3 1 (.slice ap n cp) n (logP log) := by
      have h0 := (H.out.rows rfl).2
      rw [HL.out] at h0
      refine h0.keep fun g o hg ho => ?_
      have hne : g ≠ ma := H.out.neP g hg
      have h2 : W.heap[g]? = some o := by rw [HBW.out.block g (lt_of_heap ho) hne]; exact ho
      rw [Below.heap_setCell _ _ _ _ (by simpa using hne), hb7.block g (by rw [size_alloc]; have := lt_of_heap h2; omega) (fun e => (H.out.neM g e).2 hg), Below.heap_alloc _ _ _ (lt_of_heap h2)]; exact h2
    have hG1 : ∀ g, (Value.slice a' (n + 1) c').ownBlock = some g → (Value.slice am n cm).ownBlock = some g ∨ w.heap.size ≤ g := by
      intro g hg
      rcases hg7 g hg with h | h
      · exact .inl h
      · have : g = W.heap.size + 1 := by simpa using h
        have := HBW.out.size; exact .inr (by omega)
    obtain ⟨V, hV⟩ : ∃ V, w7.setCell ⟨ma, 0, none⟩ (.slice a' (n + 1) c') = V := ⟨_, rfl⟩
    rw [hV] at hblk8 g0 g1 g2 g3 g4 gf1 hW1 hO1 hO2
    have HV := Lib.hid hV; have HV1 := Lib.hid hblk8; have HV2 := Lib.hid hW1; have HV3 := Lib.hid hO1; have HV4 := Lib.hid hO2; have HG := Lib.hid hG1
    clear hV hblk8 hW1 hO1 hO2 hG1 ho7 hb7 hg7 hblk7
    clear d0 d1 d2 d3 d4 df0
    go_upto_region 6 with (fail)
    rw [HV.out]
    go_wp2_with (at_builtin; refine wpList_append_gen rfl _ _ 29 rfl 3 (.int .i64 0) 1 8 Tryd.underlying29 Tryd.infoInt rfl (by decide) (.slice ap n cp) n (logP log) rfl ?e1 _ 1 [.int .i64 p] rfl ?e2 ?e3 ?e4 ?_)
    case e1 => exact HV4.out.alloc _
    case e2 => exact SrcSl.litk #[.int .i64 p] rfl (by simp [Value.oneCell']) _ (by simp)
    case e3 => unfold maxLen; omega
    case e4 => omega
    intro a2 c2 w9 ho9 hb9 hg9
    have hltV : ma < V.heap.size := lt_of_heap HV1.out
    have hblk9 : w9.heap[ma]? = some (.cells #[.slice a' (n + 1) c', .slice ap n cp, .int .i64 (most : Nat), .int .i64 ((n + 1 : Nat) : Int), .bool true] 101 (0, 0)) := by
      rw [hb9.block ma (by rw [size_alloc]; omega) (fun e => H.out.neP ma e rfl), Below.heap_alloc _ _ _ hltV]; exact HV1.out
    have hblk10 : (w9.setCell ⟨ma, 1, none⟩ (.slice a2 (n + 1) c2)).heap[ma]? = some (.cells #[.slice a' (n + 1) c', .slice a2 (n + 1) c2, .int .i64 (most : Nat), .int .i64 ((n + 1 : Nat) : Int), .bool true] 101 (0, 0)) := by
      rw [setCell_at hblk9]; rfl
    obtain ⟨u0, u1, u2, u3, u4, uf⟩ := mcells hblk9
    have uf1 := uf 1; clear uf
    obtain ⟨v0, v1, v2, v3, v4, vf⟩ := mcells hblk10
    clear vf
    have hbF : But (MBk ma (.slice am n cm) (.slice ap n cp)) w (w9.setCell ⟨ma, 1, none⟩ (.slice a2 (n + 1) c2)) := by
      refine But.setCell (p := ⟨ma, 1, none⟩) ?_ (.inl (.inl rfl)) _
      exact (HV2.out.alloc _).trans' hb9 fun i _ hi => .inr (.inr hi)
    have hzw : w.heap.size ≤ W.heap.size := HBW.out.size
    have hzV : w.heap.size ≤ V.heap.size := HV2.out.size
    have hlM : ∀ g, (Value.slice a' (n + 1) c').ownBlock = some g → g < V.heap.size := fun g hg => HV3.out.lt hg
    have hneM : ∀ g, (Value.slice a' (n + 1) c').ownBlock = some g → g ≠ ma ∧ (Value.slice ap n cp).ownBlock ≠ some g := by
      intro g hg
      rcases HG.out g hg with h | h
      · exact H.out.neM g h
      · refine ⟨?_, fun e => ?_⟩
        · have := lt_of_heap H.out.blk; omega
        · have := (H.out.rows rfl).2.lt e; omega
    have hgP : ∀ g, (Value.slice a2 (n + 1) c2).ownBlock = some g → (Value.slice ap n cp).ownBlock = some g ∨ g = V.heap.size + 1 := by
      intro g hg
      rcases hg9 g hg with h | h
      · exact .inl h
      · exact .inr (by simpa using h)
    have hOM : Own (w9.setCell ⟨ma, 1, none⟩ (.slice a2 (n + 1) c2)) 9 1 (.slice a' (n + 1) c') (n + 1) (logM log ++ [str s]) := by
      refine HV3.out.keep fun g o hg ho => ?_
      obtain ⟨k1, k2⟩ := hneM g hg
      have := hlM g hg
      rw [Below.heap_setCell _ _ _ _ (by simpa using k1), hb9.block g (by rw [size_alloc]; omega) k2, Below.heap_alloc _ _ _ this]; exact ho
    have hOP : Own (w9.setCell ⟨ma, 1, none⟩ (.slice a2 (n + 1) c2)) 3 1 (.slice a2 (n + 1) c2) (n + 1) (logP log ++ [.int .i64 p]) := by
      refine ho9.keep fun g o hg ho => ?_
      rw [Below.heap_setCell _ _ _ _ (by
        intro e
        have e : g = ma := by simpa using e
        subst e
        rcases hgP g hg with h | h
        · exact H.out.neP g h rfl
        · omega)]; exact ho
    have hMS : MS true most ma (log ++ [(s, p)]) (.slice a' (n + 1) c') (.slice a2 (n + 1) c2) (w9.setCell ⟨ma, 1, none⟩ (.slice a2 (n + 1) c2)) := by
      have hlen : (log ++ [(s, p)]).length = n + 1 := by rw [List.length_append, HL.out]; rfl
      refine ⟨by rw [hlen]; exact hblk10, fun _ => ⟨by rw [hlen, logM_snoc]; exact hOM, by rw [hlen, logP_snoc]; exact hOP⟩, fun h => (Bool.noConfusion h), fun g hg => ⟨(hneM g hg).1, fun e => ?_⟩, fun g hg => ?_⟩
      · rcases hgP g e with h | h
        · exact (hneM g hg).2 h
        · have := hlM g hg; omega
      · rcases hgP g hg with h | h
        · exact H.out.neP g h
        · omega
    have hnew : ∀ b, MBk ma (.slice a' (n + 1) c') (.slice a2 (n + 1) c2) b → MBk ma (.slice am n cm) (.slice ap n cp) b ∨ w.heap.size ≤ b := by
      rintro b (h | h | h)
      · exact .inl (.inl h)
      · rcases HG.out b h with h | h
        · exact .inl (.inr (.inl h))
        · exact .inr h
      · rcases hgP b h with h | h
        · exact .inl (.inr (.inr h))
        · exact .inr (by omega)
    have HF := Lib.hid (And.intro hbF (And.intro hMS hnew)); clear hbF hMS hnew hOM hOP hgP hneM hlM hblk10 hblk9 ho9 hb9 hg9
    clear g0 g1 g2 g3 g4 gf1
    go_wp2_with fail
    refine bodyPost_ret (v := .tuple #[.int .i64 (n : Nat), .nilIface]) (by simp [results, Tryd.results78, go_sem]) rfl ?_
    unfold MovedS
    rw [if_neg (fun e => HE.out (HL.out.symm.trans e)), HL.out]
    exact ⟨_, _, rfl, HF.out.1, HF.out.2.1, HF.out.2.2⟩

theorem moveS_any (keeps : Bool) (most ma : Nat) (log : List (Bs × Int)) (mv pt : Value) (s : Bs) (p : Int) (w : World) (h : MS keeps most ma log mv pt w) (hg : GlobT w) (hm : most ≤ 16777216) (hmm : log.length ≤ most) :
    Calls Tryd.prog 78 #[.pointer (some ⟨ma, 0, none⟩), str s, .int .i64 p] w (MovedS keeps most ma log mv pt s p w) := by
  cases keeps with
  | true => exact moveS_keep most ma log mv pt s p w h hg hm hmm
  | false => exact moveS_none most ma log mv pt s p w h hg hm hmm

end Go.Proofs.YtmkgoacclgoidaaDoor

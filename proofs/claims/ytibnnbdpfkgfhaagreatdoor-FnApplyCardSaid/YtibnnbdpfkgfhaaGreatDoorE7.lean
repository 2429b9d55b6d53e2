import Derived.Test.YtibnnbdpfkgfhaaGreatDoorE4
import Derived.Deep.Cut
import Derived.StillTailTactics
import Derived.Deep.RegionHeld3
import Derived.BigRegion
import Derived.Outline

/- The walk of impl's move, whether a play is kept or not. -/
namespace Go.Proofs.YtibnnbdpfkgfhaaGreatDoor
open Go.RowKit

def logM (log : List (Bs × Int)) : List Value := log.map fun x => str x.1
def logP (log : List (Bs × Int)) : List Value := log.map fun x => Value.int .i64 x.2
theorem logM_snoc (log : List (Bs × Int)) (s : Bs) (p : Int) : logM (log ++ [(s, p)]) = logM log ++ [str s] := by simp [logM]
theorem logP_snoc (log : List (Bs × Int)) (s : Bs) (p : Int) : logP (log ++ [(s, p)]) = logP log ++ [.int .i64 p] := by simp [logP]

/-- The machine's block, and the rows of its play. -/
structure MS (keeps : Bool) (most ma : Nat) (log : List (Bs × Int)) (mv pt : Value) (w : World) : Prop where
  blk : w.heap[ma]? = some (.cells #[mv, pt, .int .i64 (most : Nat), .int .i64 (log.length : Nat), .bool keeps] 146 (0, 0))
  rows : keeps = true → Own w 9 1 mv log.length (logM log) ∧ Own w 3 1 pt log.length (logP log)
  nil : keeps = false → mv = .slice none 0 0 ∧ pt = .slice none 0 0
  neM : ∀ g, mv.ownBlock = some g → g ≠ ma ∧ pt.ownBlock ≠ some g
  neP : ∀ g, pt.ownBlock = some g → g ≠ ma

/-- The machine's own blocks. -/
def MBk (ma : Nat) (mv pt : Value) (b : Nat) : Prop := b = ma ∨ mv.ownBlock = some b ∨ pt.ownBlock = some b

theorem MS.but {keeps : Bool} {most ma : Nat} {log : List (Bs × Int)} {mv pt : Value} {m : Nat → Prop} {w w' : World} (h : MS keeps most ma log mv pt w) (hb : But m w w') (hm : ∀ b, MBk ma mv pt b → ¬ m b) : MS keeps most ma log mv pt w' :=
  ⟨by rw [hb.block ma (lt_of_heap h.blk) (hm ma (.inl rfl))]; exact h.blk,
   fun hk => ⟨(h.rows hk).1.keep fun g o hg ho => by rw [hb.block g (lt_of_heap ho) (hm g (.inr (.inl hg)))]; exact ho, (h.rows hk).2.keep fun g o hg ho => by rw [hb.block g (lt_of_heap ho) (hm g (.inr (.inr hg)))]; exact ho⟩,
   h.nil, h.neM, h.neP⟩
theorem MS.below {keeps : Bool} {most ma : Nat} {log : List (Bs × Int)} {mv pt : Value} {w w' : World} (h : MS keeps most ma log mv pt w) (hb : Below w.heap.size w w') : MS keeps most ma log mv pt w' :=
  h.but (m := fun _ => False) (But.ofBelow hb) fun _ _ h => h
theorem MBk.lt {keeps : Bool} {most ma : Nat} {log : List (Bs × Int)} {mv pt : Value} {w : World} (h : MS keeps most ma log mv pt w) {b : Nat} (hb : MBk ma mv pt b) : b < w.heap.size := by
  rcases hb with rfl | hb | hb
  · exact lt_of_heap h.blk
  · cases keeps with
    | true => exact (h.rows rfl).1.lt hb
    | false => rw [(h.nil rfl).1] at hb; simp [Value.ownBlock] at hb
  · cases keeps with
    | true => exact (h.rows rfl).2.lt hb
    | false => rw [(h.nil rfl).2] at hb; simp [Value.ownBlock] at hb

/-- What a move leaves. -/
def MovedS (keeps : Bool) (most ma : Nat) (log : List (Bs × Int)) (mv pt : Value) (s : Bs) (p : Int) (w : World) (en : Ending) (w' : World) : Prop :=
  if log.length = most then ∃ te pe, en = .returned (.tuple #[.int .i64 0, .iface te pe]) ∧ Below w.heap.size w w'
  else ∃ mv' pt', en = .returned (.tuple #[.int .i64 (log.length : Nat), .nilIface]) ∧ But (MBk ma mv pt) w w' ∧ MS keeps most ma (log ++ [(s, p)]) mv' pt' w' ∧ (∀ b, MBk ma mv' pt' b → MBk ma mv pt b ∨ w.heap.size ≤ b)

theorem Tryz.infoInt : (Tryz.prog.info? 3).map (fun i => (i.zero, i.size, i.bytes)) = some (some (.int .i64 0), 1, 8) := by kernel_rfl
theorem Tryz.infoStr0 : (Tryz.prog.info? 9).map (fun i => (i.zero, i.size, i.bytes)) = some (some (str []), 1, 16) := by kernel_rfl

set_option maxRecDepth 100000 in
set_option maxHeartbeats 2000000 in
theorem moveS_none (most ma : Nat) (log : List (Bs × Int)) (mv pt : Value) (s : Bs) (p : Int) (w : World) (h : MS false most ma log mv pt w) (hg : GlobT w) (hm : most ≤ 16777216) (hmm : log.length ≤ most) :
    Calls Tryz.prog 106 #[.pointer (some ⟨ma, 0, none⟩), str s, .int .i64 p] w (MovedS false most ma log mv pt s p w) := by
  obtain ⟨e1, e2⟩ := h.nil rfl
  subst e1; subst e2
  refine (move_any ma most log.length s p w h.blk hg hm hmm).mono ?_
  intro en w' hw
  unfold Moved at hw; unfold MovedS
  split at hw
  · rename_i he; rw [if_pos he]; exact hw
  · rename_i he; rw [if_neg he]
    obtain ⟨h1, h2, h3⟩ := hw
    refine ⟨.slice none 0 0, .slice none 0 0, h1, h2.weak fun i _ hi => .inl hi, ⟨?_, by simp, fun _ => ⟨rfl, rfl⟩, by simp [Value.ownBlock], by simp [Value.ownBlock]⟩, fun b hb => .inl hb⟩
    have : (log ++ [(s, p)]).length = log.length + 1 := by simp
    rw [this]; exact h3

theorem mcells {ma most n : Nat} {mv pt : Value} {w : World} {k : Bool} (h : w.heap[ma]? = some (.cells #[mv, pt, .int .i64 (most : Nat), .int .i64 (n : Nat), .bool k] 146 (0, 0))) :
    w.cell? ⟨ma, 0, none⟩ = some mv ∧ w.cell? ⟨ma, 1, none⟩ = some pt ∧ w.cell? ⟨ma, 2, none⟩ = some (.int .i64 (most : Nat)) ∧ w.cell? ⟨ma, 3, none⟩ = some (.int .i64 (n : Nat)) ∧ w.cell? ⟨ma, 4, none⟩ = some (.bool k) ∧ (∀ o, w.frozen? ⟨ma, o, none⟩ = false) :=
  ⟨by simp [World.cell?, h], by simp [World.cell?, h], by simp [World.cell?, h], by simp [World.cell?, h], by simp [World.cell?, h], fun o => by simp [World.frozen?, h]⟩

set_option maxRecDepth 100000 in
set_option maxHeartbeats 4000000 in
theorem moveS_keep (most ma : Nat) (log : List (Bs × Int)) (mv pt : Value) (s : Bs) (p : Int) (w : World) (h : MS true most ma log mv pt w) (hg : GlobT w) (hm : most ≤ 16777216) (hmm : log.length ≤ most) :
    Calls Tryz.prog 106 #[.pointer (some ⟨ma, 0, none⟩), str s, .int .i64 p] w (MovedS true most ma log mv pt s p w) := by
  obtain ⟨c0, c1, c2, c3, c4, cf⟩ := mcells h.blk
  have f3 := cf 3; clear cf
  obtain ⟨te, pe, hgl⟩ := hg
  have H := Lib.hid h; clear h
  generalize hL : log.length = n at *
  have HL := Lib.hid hL; clear hL
  by_cases he : n = most
  · have hd : ((n : Int) == (most : Int)) = true := by rw [beq_iff_eq]; omega
    have HE := Lib.hid he; clear he
    go_enter Tryz.func106, Tryz.ntmps106
    go_wp2_with fail
    go_quiet (fail)
    go_wp2_with fail
    go_quiet (fail)
    go_wp2_with fail
    refine bodyPost_ret (v := .tuple #[.int .i64 0, .iface te pe]) (by simp [results, Tryz.results106, go_sem]) rfl ?_
    unfold MovedS
    rw [if_pos (HL.out.trans HE.out)]
    exact ⟨te, pe, rfl, by first | exact below_dN (Below.refl _ _) _ | exact below_dN (below_dN (Below.refl _ _) _) _⟩
  · have hd : ((n : Int) == (most : Int)) = false := by rw [beq_eq_false_iff_ne]; omega
    have HE := Lib.hid he; clear he
    have hw : IntKind.i64.wrap ((n : Int) + 1) = (n : Int) + 1 := by
      rw [show (n : Int) + 1 = ((n + 1 : Nat) : Int) from by omega]; exact wrap_nat _ (by omega)
    obtain ⟨am, cm, em⟩ := (H.out.rows rfl).1.slice
    obtain ⟨ap, cp, ep⟩ := (H.out.rows rfl).2.slice
    rw [HL.out] at em ep
    subst em; subst ep
    go_enter Tryz.func106, Tryz.ntmps106
    go_wp2_with fail
    go_quiet (fail)
    have hblk : (w.drewN nq).heap[ma]? = some (.cells #[.slice am n cm, .slice ap n cp, .int .i64 (most : Nat), .int .i64 (log.length : Nat), .bool true] 146 (0, 0)) := H.out.blk
    have hd3 : (w.drewN nq).cell? ⟨ma, 3, none⟩ = some (.int .i64 (n : Nat)) := c3
    have hdf : (w.drewN nq).frozen? ⟨ma, 3, none⟩ = false := f3
    obtain ⟨W, hW⟩ : ∃ W, (w.drewN nq).setCell ⟨ma, 3, none⟩ (.int .i64 ((n : Int) + 1)) = W := ⟨_, rfl⟩
    have hblkW : W.heap[ma]? = some (.cells #[.slice am n cm, .slice ap n cp, .int .i64 (most : Nat), .int .i64 ((n + 1 : Nat) : Int), .bool true] 146 (0, 0)) := by
      rw [← hW, setCell_at hblk]; rfl
    have hbW : But (· = ma) w W := by rw [← hW]; exact But.setCell (m := (· = ma)) (p := ⟨ma, 3, none⟩) (below_dN_but' (But.refl _ _) _) (.inl rfl) _
    obtain ⟨d0, d1, d2, d3, d4, df⟩ := mcells hblkW
    have df0 := df 0; clear df
    have HW := Lib.hid hW; have HB := Lib.hid hblkW; have HBW := Lib.hid hbW
    clear hW hblkW hbW hblk
    clear c0 c1 c2 c3 c4 f3
    go_upto_region 4 with (fail)
    rw [HW.out]
    go_wp2_with (at_builtin; refine wpList_append_gen rfl _ _ 33 rfl 9 (str []) 1 16 Tryz.underlying33 Tryz.infoStr0 rfl (by decide) (.slice am n cm) n (logM log) rfl ?c1 _ 1 [str s] rfl ?c2 ?c3 ?c4 ?_)
    case c1 =>
      have h0 := (H.out.rows rfl).1
      rw [HL.out] at h0
      exact (h0.keep fun g o hg ho => by rw [HBW.out.block g (lt_of_heap ho) (H.out.neM g hg).1]; exact ho).alloc _
    case c2 => exact SrcSl.litk #[str s] rfl (by simp [str, Value.oneCell']) _ (by simp)
    case c3 => unfold maxLen; omega
    case c4 => omega
    intro a' c' w7 ho7 hb7 hg7
    have hlt : ma < W.heap.size := lt_of_heap HB.out
    have hblk7 : w7.heap[ma]? = some (.cells #[.slice am n cm, .slice ap n cp, .int .i64 (most : Nat), .int .i64 ((n + 1 : Nat) : Int), .bool true] 146 (0, 0)) := by
      rw [hb7.block ma (by rw [size_alloc]; omega) (fun e => (H.out.neM ma e).1 rfl), Below.heap_alloc _ _ _ hlt]; exact HB.out
    have hblk8 : (w7.setCell ⟨ma, 0, none⟩ (.slice a' (n + 1) c')).heap[ma]? = some (.cells #[.slice a' (n + 1) c', .slice ap n cp, .int .i64 (most : Nat), .int .i64 ((n + 1 : Nat) : Int), .bool true] 146 (0, 0)) := by
      rw [setCell_at hblk7]; rfl
    obtain ⟨b0, b1, b2, b3, b4, bf⟩ := mcells hblk7
    have bf0 := bf 0; clear bf
    obtain ⟨g0, g1, g2, g3, g4, gf⟩ := mcells hblk8
    have gf1 := gf 1; clear gf
    have hW1 : But (MBk ma (.slice am n cm) (.slice ap n cp)) w (w7.setCell ⟨ma, 0, none⟩ (.slice a' (n + 1) c')) := by
      refine But.setCell (p := ⟨ma, 0, none⟩) ?_ (.inl (.inl rfl)) _
      have h1 : But (MBk ma (.slice am n cm) (.slice ap n cp)) w (W.alloc (.cells #[str s] 9)) := (HBW.out.weak fun i _ hi => .inl hi).alloc _
      exact h1.trans' hb7 fun i _ hi => .inr (.inl hi)
    have hz : W.heap.size + 1 ≤ w7.heap.size := by have := hb7.size; rwa [size_alloc] at this
    have hO1 : Own (w7.setCell ⟨ma, 0, none⟩ (.slice a' (n + 1) c')) 9 1 (.slice a' (n + 1) c') (n + 1) (logM log ++ [str s]) := by
      refine ho7.keep fun g o hg ho => ?_
      rw [Below.heap_setCell _ _ _ _ (by
        intro e
        have e : g = ma := by simpa using e
        subst e
        rcases hg7 g hg with h | h
        · exact (H.out.neM g h).1 rfl
        · have : g = W.heap.size + 1 := by simpa using h
          omega)]; exact ho
    have hO2 : Own (w7.setCell ⟨ma, 0, none⟩ (.slice a' (n + 1) c')) 3 1 (.slice ap n cp) n (logP log) := by
      have h0 := (H.out.rows rfl).2
      rw [HL.out] at h0
      refine h0.keep fun g o hg ho => ?_
      have hne : g ≠ ma := H.out.neP g hg
      have h2 : W.heap[g]? = some o := by rw [HBW.out.block g (lt_of_heap ho) hne]; exact ho
      rw [Below.heap_setCell _ _ _ _ (by simpa using hne), hb7.block g (by rw [size_alloc]; have := lt_of_heap h2; omega) (fun e => (H.out.neM g e).2 hg), Below.heap_alloc _ _ _ (lt_of_heap h2)]; exact h2
    have hG1 : ∀ g, (Value.slice a' (n + 1) c').ownBlock = some g → (Value.slice am n cm).ownBlock = some g ∨ w.heap.size ≤ g := by
      intro g hg
      rcases hg7 g hg with h | h
      · exact .inl h
      · have : g = W.heap.size + 1 := by simpa using h
        have := HBW.out.size; exact .inr (by omega)
    obtain ⟨V, hV⟩ : ∃ V, w7.setCell ⟨ma, 0, none⟩ (.slice a' (n + 1) c') = V := ⟨_, rfl⟩
    rw [hV] at hblk8 g0 g1 g2 g3 g4 gf1 hW1 hO1 hO2
    have HV := Lib.hid hV; have HV1 := Lib.hid hblk8; have HV2 := Lib.hid hW1; have HV3 := Lib.hid hO1; have HV4 := Lib.hid hO2; have HG := Lib.hid hG1
    clear hV hblk8 hW1 hO1 hO2 hG1 ho7 hb7 hg7 hblk7
    clear d0 d1 d2 d3 d4 df0
    go_upto_region 6 with (fail)
    rw [HV.out]
    go_wp2_with (at_builtin; refine wpList_append_gen rfl _ _ 96 rfl 3 (.int .i64 0) 1 8 Tryz.underlying96 Tryz.infoInt rfl (by decide) (.slice ap n cp) n (logP log) rfl ?e1 _ 1 [.int .i64 p] rfl ?e2 ?e3 ?e4 ?_)
    case e1 => exact HV4.out.alloc _
    case e2 => exact SrcSl.litk #[.int .i64 p] rfl (by simp [Value.oneCell']) _ (by simp)
    case e3 => unfold maxLen; omega
    case e4 => omega
    intro a2 c2 w9 ho9 hb9 hg9
    have hltV : ma < V.heap.size := lt_of_heap HV1.out
    have hblk9 : w9.heap[ma]? = some (.cells #[.slice a' (n + 1) c', .slice ap n cp, .int .i64 (most : Nat), .int .i64 ((n + 1 : Nat) : Int), .bool true] 146 (0, 0)) := by
      rw [hb9.block ma (by rw [size_alloc]; omega) (fun e => H.out.neP ma e rfl), Below.heap_alloc _ _ _ hltV]; exact HV1.out
    have hblk10 : (w9.setCell ⟨ma, 1, none⟩ (.slice a2 (n + 1) c2)).heap[ma]? = some (.cells #[.slice a' (n + 1) c', .slice a2 (n + 1) c2, .int .i64 (most : Nat), .int .i64 ((n + 1 : Nat) : Int), .bool true] 146 (0, 0)) := by
      rw [setCell_at hblk9]; rfl
    obtain ⟨u0, u1, u2, u3, u4, uf⟩ := mcells hblk9
    have uf1 := uf 1; clear uf
    obtain ⟨v0, v1, v2, v3, v4, vf⟩ := mcells hblk10
    clear vf
    have hbF : But (MBk ma (.slice am n cm) (.slice ap n cp)) w (w9.setCell ⟨ma, 1, none⟩ (.slice a2 (n + 1) c2)) := by
      refine But.setCell (p := ⟨ma, 1, none⟩) ?_ (.inl (.inl rfl)) _
      exact (HV2.out.alloc _).trans' hb9 fun i _ hi => .inr (.inr hi)
    have hzw : w.heap.size ≤ W.heap.size := HBW.out.size
    have hzV : w.heap.size ≤ V.heap.size := HV2.out.size
    have hlM : ∀ g, (Value.slice a' (n + 1) c').ownBlock = some g → g < V.heap.size := fun g hg => HV3.out.lt hg
    have hneM : ∀ g, (Value.slice a' (n + 1) c').ownBlock = some g → g ≠ ma ∧ (Value.slice ap n cp).ownBlock ≠ some g := by
      intro g hg
      rcases HG.out g hg with h | h
      · exact H.out.neM g h
      · refine ⟨?_, fun e => ?_⟩
        · have := lt_of_heap H.out.blk; omega
        · have := (H.out.rows rfl).2.lt e; omega
    have hgP : ∀ g, (Value.slice a2 (n + 1) c2).ownBlock = some g → (Value.slice ap n cp).ownBlock = some g ∨ g = V.heap.size + 1 := by
      intro g hg
      rcases hg9 g hg with h | h
      · exact .inl h
      · exact .inr (by simpa using h)
    have hOM : Own (w9.setCell ⟨ma, 1, none⟩ (.slice a2 (n + 1) c2)) 9 1 (.slice a' (n + 1) c') (n + 1) (logM log ++ [str s]) := by
      refine HV3.out.keep fun g o hg ho => ?_
      obtain ⟨k1, k2⟩ := hneM g hg
      have := hlM g hg
      rw [Below.heap_setCell _ _ _ _ (by simpa using k1), hb9.block g (by rw [size_alloc]; omega) k2, Below.heap_alloc _ _ _ this]; exact ho
    have hOP : Own (w9.setCell ⟨ma, 1, none⟩ (.slice a2 (n + 1) c2)) 3 1 (.slice a2 (n + 1) c2) (n + 1) (logP log ++ [.int .i64 p]) := by
      refine ho9.keep fun g o hg ho => ?_
      rw [Below.heap_setCell _ _ _ _ (by
        intro e
        have e : g = ma := by simpa using e
        subst e
        rcases hgP g hg with h | h
        · exact H.out.neP g h rfl
        · omega)]; exact ho
    have hMS : MS true most ma (log ++ [(s, p)]) (.slice a' (n + 1) c') (.slice a2 (n + 1) c2) (w9.setCell ⟨ma, 1, none⟩ (.slice a2 (n + 1) c2)) := by
      have hlen : (log ++ [(s, p)]).length = n + 1 := by rw [List.length_append, HL.out]; rfl
      refine ⟨by rw [hlen]; exact hblk10, fun _ => ⟨by rw [hlen, logM_snoc]; exact hOM, by rw [hlen, logP_snoc]; exact hOP⟩, fun h => (Bool.noConfusion h), fun g hg => ⟨(hneM g hg).1, fun e => ?_⟩, fun g hg => ?_⟩
      · rcases hgP g e with h | h
        · exact (hneM g hg).2 h
        · have := hlM g hg; omega
      · rcases hgP g hg with h | h
        · exact H.out.neP g h
        · omega
    have hnew : ∀ b, MBk ma (.slice a' (n + 1) c') (.slice a2 (n + 1) c2) b → MBk ma (.slice am n cm) (.slice ap n cp) b ∨ w.heap.size ≤ b := by
      rintro b (h | h | h)
      · exact .inl (.inl h)
      · rcases HG.out b h with h | h
        · exact .inl (.inr (.inl h))
        · exact .inr h
      · rcases hgP b h with h | h
        · exact .inl (.inr (.inr h))
        · exact .inr (by omega)
    have HF := Lib.hid (And.intro hbF (And.intro hMS hnew)); clear hbF hMS hnew hOM hOP hgP hneM hlM hblk10 hblk9 ho9 hb9 hg9
    clear g0 g1 g2 g3 g4 gf1
    go_wp2_with fail
    refine bodyPost_ret (v := .tuple #[.int .i64 (n : Nat), .nilIface]) (by simp [results, Tryz.results106, go_sem]) rfl ?_
    unfold MovedS
    rw [if_neg (fun e => HE.out (HL.out.symm.trans e)), HL.out]
    exact ⟨_, _, rfl, HF.out.1, HF.out.2.1, HF.out.2.2⟩

theorem moveS_any (keeps : Bool) (most ma : Nat) (log : List (Bs × Int)) (mv pt : Value) (s : Bs) (p : Int) (w : World) (h : MS keeps most ma log mv pt w) (hg : GlobT w) (hm : most ≤ 16777216) (hmm : log.length ≤ most) :
    Calls Tryz.prog 106 #[.pointer (some ⟨ma, 0, none⟩), str s, .int .i64 p] w (MovedS keeps most ma log mv pt s p w) := by
  cases keeps with
  | true => exact moveS_keep most ma log mv pt s p w h hg hm hmm
  | false => exact moveS_none most ma log mv pt s p w h hg hm hmm

end Go.Proofs.YtibnnbdpfkgfhaaGreatDoor

/- impl's machine: what holds at each round of its loop; what a round leaves. -/
namespace Go.Proofs.YtibnnbdpfkgfhaaGreatDoor
open Go.RowKit

def encFr (f : Fr) : List DV := [encB f.yes, encB f.no, .sl 190 4 f.env.length (encCs f.env), .val (.int .i64 (f.begun : Nat)), .val (str f.path)]
def encFrs : List Fr → List DV
  | [] => []
  | f :: fs => encFr f ++ encFrs fs
theorem encFrs_append : ∀ (xs ys : List Fr), encFrs (xs ++ ys) = encFrs xs ++ encFrs ys
  | [], ys => by simp [encFrs]
  | x :: xs, ys => by simp [encFrs, encFrs_append xs ys]
theorem encFrs_length : ∀ fs : List Fr, (encFrs fs).length = fs.length * 5
  | [] => by simp [encFrs]
  | f :: fs => by rw [encFrs, List.length_append, encFrs_length fs]; simp [encFr]; omega

mutual
/-- No question has many parts. -/
def nB : Bd → Prop
  | .leaf _ => True
  | .ask _ ss y n => ss.length ≤ 15 ∧ nBs ss ∧ nB y ∧ nB n
def nBs : List Bd → Prop
  | [] => True
  | b :: bs => nB b ∧ nBs bs
end
mutual
/-- What stands for a level is not great. -/
def okC (n : Nat) : Clo → Prop
  | .mk b e _ p => nB b ∧ okCs n e ∧ e.length ≤ 16 * n ∧ p.length ≤ 2 * n
def okCs (n : Nat) : List Clo → Prop
  | [] => True
  | c :: cs => okC n c ∧ okCs n cs
end
mutual
theorem okC_mono {n m : Nat} (h : n ≤ m) : ∀ c, okC n c → okC m c
  | .mk b e _ p, k => by
    rw [okC] at *
    exact ⟨k.1, okCs_mono h e k.2.1, by have := k.2.2.1; omega, by have := k.2.2.2; omega⟩
theorem okCs_mono {n m : Nat} (h : n ≤ m) : ∀ cs, okCs n cs → okCs m cs
  | [], k => by rw [okCs] at *; trivial
  | c :: cs, k => by rw [okCs] at *; exact ⟨okC_mono h c k.1, okCs_mono h cs k.2⟩
end
theorem okCs_at {n : Nat} : ∀ (cs : List Clo), okCs n cs → ∀ (i : Nat) (c : Clo), cs[i]? = some c → okC n c
  | [], _, i, c, h => by simp at h
  | x :: cs, k, i, c, h => by
    rw [okCs] at k
    cases i with
    | zero => simp at h; subst h; exact k.1
    | succ i => exact okCs_at cs k.2 i c (by simpa using h)
theorem okCs_append {n : Nat} : ∀ (xs ys : List Clo), okCs n xs → okCs n ys → okCs n (xs ++ ys)
  | [], ys, _, h => h
  | x :: xs, ys, h, k => by rw [okCs] at h; exact ⟨h.1, okCs_append xs ys h.2 k⟩
theorem nBs_at : ∀ (bs : List Bd), nBs bs → ∀ (i : Nat) (b : Bd), bs[i]? = some b → nB b
  | [], _, i, c, h => by simp at h
  | x :: cs, k, i, c, h => by
    rw [nBs] at k
    cases i with
    | zero => simp at h; subst h; exact k.1
    | succ i => exact nBs_at cs k.2 i c (by simpa using h)
theorem ownFrom_ok {n m : Nat} {env : List Clo} {p : Bs} (he : okCs n env) (hl : env.length ≤ 16 * n) (hp : p.length + 2 ≤ 2 * n) : ∀ (ss : List Bd) (i : Nat), i + ss.length ≤ 100 → nBs ss → okCs n (ownFrom env m p i ss)
  | [], i, _, _ => by rw [ownFrom, okCs]; trivial
  | s :: ss, i, hi, h => by
    rw [nBs] at h
    simp only [List.length_cons] at hi
    rw [ownFrom, okCs]
    refine ⟨?_, ownFrom_ok he hl hp ss (i + 1) (by omega) h.2⟩
    rw [okC]
    refine ⟨h.1, he, hl, ?_⟩
    have := dec_length 1 i (by omega)
    simp only [List.length_append]; omega

/-- The blocks that a round may change. -/
def Chg (ma : Nat) (mv pt : Value) (B : Nat) (sv : Value) (i : Nat) : Prop := MBk ma mv pt i ∨ i = B ∨ sv.ownBlock = some i

theorem rep_next {Ch Ch' : Nat → Prop} {w w' : World} (hb : But Ch w w') (hn : ∀ i, Ch' i → Ch i ∨ w.heap.size ≤ i) {d : DV} {v : Value} (h : Rep (fun i => ¬ Ch i) w d v) : Rep (fun i => ¬ Ch' i) w' d v :=
  (Rep.keep fun b o hf ho => ⟨fun e => by
    rcases hn b e with h | h
    · exact hf h
    · have := lt_of_heap ho; omega, by rw [hb.block b (lt_of_heap ho) hf]; exact ho⟩).1 d v h
theorem reps_next {Ch Ch' : Nat → Prop} {w w' : World} (hb : But Ch w w') (hn : ∀ i, Ch' i → Ch i ∨ w.heap.size ≤ i) {d : List DV} {v : List Value} (h : Reps (fun i => ¬ Ch i) w d v) : Reps (fun i => ¬ Ch' i) w' d v :=
  (Rep.keep fun b o hf ho => ⟨fun e => by
    rcases hn b e with h | h
    · exact hf h
    · have := lt_of_heap ho; omega, by rw [hb.block b (lt_of_heap ho) hf]; exact ho⟩).2 d v h

/-- What goes on is not great and fits. -/
structure FrOk (n : Nat) (f : Fr) : Prop where
  fit : frFit f
  yes : nB f.yes
  no : nB f.no
  env : okCs n f.env
  len : f.env.length ≤ 16 * n
  path : f.path.length ≤ 2 * n
theorem FrOk.mono {n m : Nat} {f : Fr} (h : FrOk n f) (k : n ≤ m) : FrOk m f := ⟨h.fit, h.yes, h.no, okCs_mono k _ h.env, by have := h.len; omega, by have := h.path; omega⟩

def asInts (xs : List (Bs × Nat)) : List (Bs × Int) := xs.map fun y => (y.1, (y.2 : Int))

/-- What holds at each round: of the words. -/
structure RunPl (R : Option (UInt8 × List (Bs × Int))) (most : Nat) (b : Bd) (env : List Clo) (begun : Nat) (path : Bs) (st : List Fr) (log : List (Bs × Int)) : Prop where
  le : log.length ≤ most
  goes : R = (runM (most - log.length) log.length b env begun path st).map fun x => (x.1, log ++ asInts x.2)
  fit : ∃ hand, envFit env hand ∧ fitB hand b
  nb : nB b
  oke : okCs log.length env
  len : env.length ≤ 16 * log.length
  lpath : path.length ≤ 2 * log.length
  frs : ∀ f ∈ st, FrOk log.length f
  stl : st.length ≤ log.length
/-- What holds at each round: of memory. -/
structure RunAt (keeps : Bool) (most ma : Nat) (mv0 pt0 : Value) (w : World) (B : Nat) (b : Bd) (env : List Clo) (begun : Nat) (path : Bs) (st : List Fr) (log : List (Bs × Int)) (mv pt : Value) (bv ev sv : Value) (cells : List Value) (wr : World) : Prop where
  ms : MS keeps most ma log mv pt wr
  rb : Rep (fun i => ¬ Chg ma mv pt B sv i) wr (encB b) bv
  re : Rep (fun i => ¬ Chg ma mv pt B sv i) wr (.sl 190 4 env.length (encCs env)) ev
  own : Own wr 186 5 sv st.length cells
  rs : Reps (fun i => ¬ Chg ma mv pt B sv i) wr (encFrs st.reverse) cells
  beg : wr.heap[B]? = some (.cells #[.int .i64 (begun : Nat), str path] 179 (0, 0))
  but : But (MBk ma mv0 pt0) w wr
  new : ∀ i, MBk ma mv pt i → MBk ma mv0 pt0 i ∨ w.heap.size ≤ i
  bB : w.heap.size ≤ B ∧ ¬ MBk ma mv pt B
  sB : ∀ g, sv.ownBlock = some g → w.heap.size ≤ g ∧ g ≠ B ∧ ¬ MBk ma mv pt g

theorem runpl_back {R : Option (UInt8 × List (Bs × Int))} {most : Nat} {c : UInt8} {env : List Clo} {begun : Nat} {path : Bs} {f : Fr} {st : List Fr} {log : List (Bs × Int)} (h : RunPl R most (.leaf c) env begun path (f :: st) log) (hc : c ≠ 117) (hm : log.length ≠ most) :
    RunPl R most (if c = 116 then f.yes else f.no) f.env f.begun f.path st (log ++ [(c :: path, (begun : Int))]) := by
  obtain ⟨hle, hgo, hfit, hnb, henv, hlen, hpath, hfrs, hstl⟩ := h
  have hl : (log ++ [(c :: path, (begun : Int))]).length = log.length + 1 := by simp
  have k := hfrs f (by simp)
  obtain ⟨hand, k1, k2, k3⟩ := k.fit
  refine ⟨by rw [hl]; omega, ?_, ⟨hand, k1, by split <;> assumption⟩, by { split; exact k.yes; exact k.no }, by rw [hl]; exact okCs_mono (by omega) _ k.env, by rw [hl]; have := k.len; omega, by rw [hl]; have := k.path; omega, fun g hg => by rw [hl]; exact (hfrs g (by simp [hg])).mono (by omega), by rw [hl]; simp at hstl; omega⟩
  rw [hgo, hl]
  obtain ⟨d, hd⟩ : ∃ d, most - log.length = d + 1 := ⟨most - log.length - 1, by omega⟩
  rw [hd, runM_back hc, show most - (log.length + 1) = d from by omega, Option.map_map]
  congr 1
  funext x
  simp [asInts]
theorem runpl_ask {R : Option (UInt8 × List (Bs × Int))} {most : Nat} {v : Nat} {ss : List Bd} {y n : Bd} {env : List Clo} {begun : Nat} {path : Bs} {st : List Fr} {log : List (Bs × Int)} (h : RunPl R most (.ask v ss y n) env begun path st log) (hm : log.length ≠ most) {e : Clo} (he : env[v]? = some e) :
    RunPl R most e.body (e.env ++ ownFrom env log.length e.path 0 ss) log.length e.path (⟨y, n, env, begun, path⟩ :: st) (log ++ [(113 :: e.path, (e.begun : Int))]) := by
  obtain ⟨hle, hgo, hfit, hnb, henv, hlen, hpath, hfrs, hstl⟩ := h
  have hl : (log ++ [(113 :: e.path, (e.begun : Int))]).length = log.length + 1 := by simp
  obtain ⟨hand, k1, k2⟩ := hfit
  obtain ⟨e', he', hand', j1, j2⟩ := ask_next k2 k1 log.length
  rw [he] at he'; simp at he'; subst he'
  have hke := okCs_at _ henv _ _ he
  rw [nB] at hnb
  obtain ⟨eb, ee, eg, ep⟩ := e
  rw [okC] at hke
  simp only [Clo.body, Clo.env, Clo.begun, Clo.path] at *
  refine ⟨by rw [hl]; omega, ?_, ⟨hand', j1, j2⟩, hke.1, ?_, ?_, ?_, ?_, ?_⟩
  · rw [hgo, hl]
    obtain ⟨d, hd⟩ : ∃ d, most - log.length = d + 1 := ⟨most - log.length - 1, by omega⟩
    rw [hd, runM_ask _ _ _ _ _ _ _ _ _ _ he, show most - (log.length + 1) = d from by omega, Option.map_map]
    simp only [Clo.body, Clo.env, Clo.begun, Clo.path]
    congr 1
    funext x
    simp [asInts]
  · rw [hl]
    exact okCs_append _ _ (okCs_mono (by omega) _ hke.2.1) (ownFrom_ok (okCs_mono (by omega) _ henv) (by omega) (by have := hke.2.2.2; omega) ss 0 (by omega) hnb.2.1)
  · rw [hl, List.length_append, ownFrom_length]; have := hke.2.2.1; omega
  · rw [hl]; have := hke.2.2.2; omega
  · intro f hf
    rw [hl]
    rcases List.mem_cons.1 hf with rfl | hf
    · exact ⟨frame_next k2 k1 begun path, hnb.2.2.1, hnb.2.2.2, okCs_mono (by omega) _ henv, by simp only; omega, by simp only; omega⟩
    · exact (hfrs f hf).mono (by omega)
  · rw [hl]; simp only [List.length_cons]; omega

end Go.Proofs.YtibnnbdpfkgfhaaGreatDoor

/- impl's machine: lemmas of memory. -/
namespace Go.Proofs.YtibnnbdpfkgfhaaGreatDoor
open Go.RowKit

/-- What a run leaves. -/
def RunPost (R : Option (UInt8 × List (Bs × Int))) (keeps : Bool) (most ma : Nat) (mv pt : Value) (w : World) (en : Ending) (w' : World) : Prop :=
  But (MBk ma mv pt) w w' ∧ (R = none → ∃ te pe, en = .returned (.tuple #[str [], .iface te pe])) ∧
    (∀ c log, R = some (c, log) → en = .returned (.tuple #[str [c], .nilIface]) ∧ ∃ mv' pt', MS keeps most ma log mv' pt' w' ∧ (∀ i, MBk ma mv' pt' i → MBk ma mv pt i ∨ w.heap.size ≤ i))

/-- What holds at each round. -/
def RunRel (R : Option (UInt8 × List (Bs × Int))) (keeps : Bool) (most ma : Nat) (mv0 pt0 : Value) (w : World) (B : Nat) (bv ev sv : Value) (wr : World) : Prop :=
  ∃ b env begun path st log mv pt cells, RunPl R most b env begun path st log ∧ RunAt keeps most ma mv0 pt0 w B b env begun path st log mv pt bv ev sv cells wr

/-- How many moves are left, off the machine's block. -/
def leftM (most ma : Nat) (wr : World) : Nat := match wr.heap[ma]? with
  | some (.cells c _ _) => most - (intOf (c.getD 3 (.int .i64 0))).toNat
  | _ => 0
theorem leftM_eq {keeps : Bool} {most ma : Nat} {log : List (Bs × Int)} {mv pt : Value} {w : World} (h : MS keeps most ma log mv pt w) : leftM most ma w = most - log.length := by
  unfold leftM
  rw [h.blk]
  simp [intOf]

theorem env0_fit : ∀ (ar : List Bd) (ts : List Ty) (i : Nat), fitBs (ts.map Ty.args) ar → envFit (ownFrom [] 0 [] i ar) ts
  | [], ts, i, h => by
    rw [fitBs] at h
    have : ts = [] := by simpa using h
    subst this; simp [ownFrom, envFit]
  | a :: ar, ts, i, h => by
    rw [fitBs] at h
    obtain ⟨h', hs', e, h1, h2⟩ := h
    cases ts with
    | nil => simp at e
    | cons t ts =>
      simp only [List.map_cons, List.cons.injEq] at e
      obtain ⟨rfl, rfl⟩ := e
      rw [ownFrom, envFit]
      refine ⟨t, ts, rfl, ?_, env0_fit ar ts (i + 1) h2⟩
      rw [cloFit]
      exact ⟨[], by rw [envFit], by simpa using h1⟩

/-- A slice of bodies, opened whole. -/
theorem subs_open {F : Nat → Prop} {w : World} {ss : List Bd} {v : Value} (h : Rep F w (.sl 69 1 ss.length (encBs ss)) v) :
    ∃ a c us, v = .slice a ss.length c ∧ Reps F w (encBs ss) us ∧ ∀ k, k < ss.length → ∃ b o u, a = some ⟨b, o, none⟩ ∧ us[k]? = some (.pointer (some ⟨u, 0, none⟩)) ∧ F b ∧ w.cell? ⟨b, o + k, none⟩ = some (.pointer (some ⟨u, 0, none⟩)) := by
  rw [Rep_sl] at h
  obtain ⟨hl, a, cap, rfl, hn, hz, h⟩ := h
  rcases h with h0 | ⟨b, o, c, fr, rfl, hb, hc, hr⟩
  · have : ss = [] := List.eq_nil_of_length_eq_zero h0
    subst this
    exact ⟨a, cap, [], rfl, by rw [encBs]; exact Reps_nil.2 rfl, fun k hk => by simp at hk⟩
  · refine ⟨_, cap, _, rfl, hr, fun k hk => ?_⟩
    obtain ⟨u, hu, hru⟩ := hr.at (i := k) (d := encB ss[k]) (by rw [encBs_at, List.getElem?_eq_getElem hk]; rfl)
    obtain ⟨ub, rfl⟩ := encB_ptr hru
    refine ⟨b, o, ub, rfl, hu, hb, ?_⟩
    rw [Nat.mul_one, List.getElem?_take, if_pos hk, List.getElem?_drop] at hu
    simp only [World.cell?, hc]; simpa using hu
theorem glob_but {ma : Nat} {mv pt : Value} {w w' : World} (hg : Glob w ∧ GlobT w) (hn : ∀ i, MBk ma mv pt i → NotG i ∧ i ≠ 0) (hb : But (MBk ma mv pt) w w') : Glob w' ∧ GlobT w' :=
  ⟨hg.1.but hb fun i hi => (hn i hi).1, hg.2.but hb fun e => (hn _ e).2 rfl⟩

theorem notg_new {ma : Nat} {mv pt : Value} {w : World} (hg : Glob w ∧ GlobT w) (hn : ∀ i, MBk ma mv pt i → NotG i ∧ i ≠ 0) {i : Nat} (hi : MBk ma mv pt i ∨ w.heap.size ≤ i) : NotG i ∧ i ≠ 0 := by
  rcases hi with hi | hi
  · exact hn i hi
  · refine ⟨hg.1.new hi, ?_⟩
    obtain ⟨te, pe, h⟩ := hg.2
    have h2 : 0 < w.heap.size := World.block_lt_of_cell? w _ h
    omega

theorem run_start {keeps : Bool} {most ma : Nat} {mv pt mv1 pt1 : Value} {w w1 w3 w4 : World} {O : Obj} {b : Bd} {ar : List Bd} {bv : Value} {us : List Value} {ea : Option Addr} {ec : Nat}
    (hO : O = .cells #[.int .i64 ((0 : Nat) : Int), str []] 179)
    (hb1 : But (MBk ma mv pt) w w1) (hms1 : MS keeps most ma [([113], -1)] mv1 pt1 w1) (hn1 : ∀ b, MBk ma mv1 pt1 b → MBk ma mv pt b ∨ w.heap.size ≤ b)
    (hb3 : Below (w1.alloc O).heap.size (w1.alloc O) w3) (hb4 : Below w3.heap.size w3 w4) (ho4 : Own w4 190 4 (.slice ea ar.length ec) ar.length (ents us (.slice none 0 0) 0 [] ar.length))
    (hf4 : ∀ g, (Value.slice ea ar.length ec).ownBlock = some g → w3.heap.size ≤ g) (rb : Rep (fun i => ¬ MBk ma mv pt i) w (encB b) bv) (hus : Reps (fun i => ¬ MBk ma mv pt i) w (encBs ar) us) (hma : ∀ i, MBk ma mv1 pt1 i → i < w1.heap.size) :
    RunAt keeps most ma mv pt w w1.heap.size b (ownFrom [] 0 [] 0 ar) 0 [] [] [([113], -1)] mv1 pt1 bv (.slice ea ar.length ec) (.slice none 0 0) [] w4 := by
  have hz3 : w1.heap.size + 1 ≤ w3.heap.size := by have := hb3.size; rwa [size_alloc] at this
  have hbt : But (MBk ma mv pt) w w4 := ((hb1.alloc O).trans (But.ofBelow hb3)).trans (But.ofBelow hb4)
  have hb14 : Below w1.heap.size w1 w4 := (((Below.refl w1.heap.size w1).alloc (Nat.le_refl _) O).trans (hb3.mono (by rw [size_alloc]; omega))).trans (hb4.mono (by omega))
  have hw1 := hb1.size
  have hn : ∀ i, Chg ma mv1 pt1 w1.heap.size (.slice none 0 0) i → MBk ma mv pt i ∨ w.heap.size ≤ i := by
    rintro i (h | h | h)
    · exact hn1 i h
    · exact .inr (by omega)
    · simp [Value.ownBlock] at h
  have hev : Rep (fun i => ¬ Chg ma mv1 pt1 w1.heap.size (.slice none 0 0) i) w4 (.sl 190 4 ([] : List Clo).length (encCs [])) (.slice none 0 0) := Rep_sl.2 ⟨rfl, none, 0, rfl, Nat.le_refl _, fun _ => rfl, .inl rfl⟩
  have hents := ents_rep (env := []) (m := 0) (p := []) (reps_next hbt hn hus) hev ar.length (Nat.le_refl _)
  have htk : (ownFrom [] 0 [] 0 ar).take ar.length = ownFrom [] 0 [] 0 ar := List.take_of_length_le (by rw [ownFrom_length]; exact Nat.le_refl _)
  rw [htk] at hents
  refine ⟨hms1.but (But.ofBelow (m := fun _ => False) hb14) (fun _ _ h => h), rep_next hbt hn rb, ?_, World.ownsRow_nil _ _ _ _, Reps_nil.2 rfl, ?_, hbt, hn1, ⟨by omega, fun h => ?_⟩, fun g h => by simp [Value.ownBlock] at h⟩
  · rw [ownFrom_length]
    refine ho4.rep (fun g hg => ?_) hents
    have h3 := hf4 g hg
    rintro (h | h | h)
    · have := hma g h; omega
    · omega
    · simp [Value.ownBlock] at h
  · subst hO
    rw [hb4.block _ (by omega), hb3.block _ (by rw [size_alloc]; omega)]
    exact heap_new _ _
  · have := hma _ h; omega

theorem MS.drew {keeps : Bool} {most ma : Nat} {log : List (Bs × Int)} {mv pt : Value} {w : World} (h : MS keeps most ma log mv pt w) : MS keeps most ma log mv pt w.drew := h.but (m := fun _ => False) (But.refl _ _).drew fun _ _ h => h
theorem GlobT.drew {w : World} (h : GlobT w) : GlobT w.drew := h
theorem below_ud {w w' : World} (h : Below w.drew.heap.size w.drew w') : Below w.heap.size w w' := ⟨h.os, h.tape, h.output, h.size, h.block⟩
theorem but_ud {m : Nat → Prop} {w w' : World} (h : But m w.drew w') : But m w w' := ⟨h.os, h.tape, h.output, h.size, h.block⟩
/-- The cells that a move leaves. -/
theorem cells3 {m : Nat → Prop} {w w' : World} {a b c : Addr} {u v x : Value} (hb : But m w w') (ha : w.cell? a = some u) (hbb : w.cell? b = some v) (hc : w.cell? c = some x) (na : ¬ m a.block) (nb : ¬ m b.block) (nc : ¬ m c.block) :
    w'.cell? a = some u ∧ w'.cell? b = some v ∧ w'.cell? c = some x :=
  ⟨(hb.cell (World.block_lt_of_cell? w _ ha) na).trans ha, (hb.cell (World.block_lt_of_cell? w _ hbb) nb).trans hbb, (hb.cell (World.block_lt_of_cell? w _ hc) nc).trans hc⟩

/-- The top of the stack. -/
theorem frame_top {F : Nat → Prop} {wr : World} {sv : Value} {f : Fr} {st : List Fr} {cells : List Value} (ho : Own wr 186 5 sv (st.length + 1) cells) (hr : Reps F wr (encFrs (f :: st).reverse) cells) :
    ∃ g c yv nv ev cells1, sv = .slice (some ⟨g, 0, none⟩) (st.length + 1) c ∧ st.length + 1 ≤ c ∧ wr.cell? ⟨g, st.length * 5, none⟩ = some yv ∧ wr.cell? ⟨g, st.length * 5 + 1, none⟩ = some nv ∧ wr.cell? ⟨g, st.length * 5 + 2, none⟩ = some ev ∧
      wr.cell? ⟨g, st.length * 5 + 3, none⟩ = some (.int .i64 (f.begun : Nat)) ∧ wr.cell? ⟨g, st.length * 5 + 4, none⟩ = some (str f.path) ∧ cells = cells1 ++ [yv, nv, ev, .int .i64 (f.begun : Nat), str f.path] ∧ cells1.length = st.length * 5 ∧
      Reps F wr (encFrs st.reverse) cells1 ∧ Rep F wr (encB f.yes) yv ∧ Rep F wr (encB f.no) nv ∧ Rep F wr (.sl 190 4 f.env.length (encCs f.env)) ev := by
  rw [List.reverse_cons, encFrs_append] at hr
  have hs := hr.split
  rw [encFrs_length, List.length_reverse] at hs
  obtain ⟨h1, h2⟩ := hs
  simp only [encFrs, encFr, List.append_nil, Reps_cons, Reps_nil, Rep_val] at h2
  obtain ⟨yv, _, e1, k1, nv, _, rfl, k2, ev, _, rfl, k3, _, _, rfl, rfl, _, _, rfl, rfl, rfl⟩ := h2
  have hcl : cells = cells.take (st.length * 5) ++ [yv, nv, ev, .int .i64 (f.begun : Nat), str f.path] := by rw [← e1, List.take_append_drop]
  have hl : (cells.take (st.length * 5)).length = st.length * 5 := by
    have := ho.1; rw [List.length_take]; omega
  have at5 : ∀ (j : Nat) (u : Value), [yv, nv, ev, .int .i64 (f.begun : Nat), str f.path][j]? = some u → cells[st.length * 5 + j]? = some u := by
    intro j u hj
    rw [hcl, List.getElem?_append_right (by omega), hl, Nat.add_sub_cancel_left]; exact hj
  obtain ⟨g, c, es, hc0⟩ := ho.at (at5 0 yv rfl)
  subst es
  have get : ∀ (j : Nat) (u : Value), [yv, nv, ev, .int .i64 (f.begun : Nat), str f.path][j]? = some u → wr.cell? ⟨g, st.length * 5 + j, none⟩ = some u := by
    intro j u hj
    obtain ⟨g', c', es, hc⟩ := ho.at (at5 j u hj)
    simp only [Value.slice.injEq, Option.some.injEq, Addr.mk.injEq, and_true, true_and] at es
    obtain ⟨rfl, rfl⟩ := es
    exact hc
  have hcap : st.length + 1 ≤ c := by
    rcases ho.2 with ⟨e, _⟩ | ⟨g', cap, cur, e, _, _, hnc, _⟩
    · simp at e
    · simp only [Value.slice.injEq, true_and] at e
      rw [e.2]; exact hnc
  exact ⟨g, c, yv, nv, ev, _, rfl, hcap, get 0 _ rfl, get 1 _ rfl, get 2 _ rfl, get 3 _ rfl, get 4 _ rfl, hcl, hl, h1, k1, k2, k3⟩

theorem heap_push (w : World) (o : Obj) {i : Nat} (h : i < w.heap.size) : (w.alloc o).heap[i]? = w.heap[i]? := Below.heap_alloc _ _ _ h
theorem runat_back {keeps : Bool} {most ma : Nat} {mv pt : Value} {w : World} {B : Nat} {b0 nb : Bd} {env : List Clo} {begun : Nat} {path : Bs} {f : Fr} {st : List Fr} {log log' : List (Bs × Int)} {mv2 pt2 mv3 pt3 bv ev : Value} {g sc : Nat} {cells cells1 : List Value} {wr w1 : World} {O : Obj} {nv fe : Value} {tl : List Value}
    (h : RunAt keeps most ma mv pt w B b0 env begun path (f :: st) log mv2 pt2 bv ev (.slice (some ⟨g, 0, none⟩) (st.length + 1) sc) cells wr)
    (hcl : cells = cells1 ++ tl) (hl1 : cells1.length = st.length * 5)
    (hr1 : Reps (fun i => ¬ Chg ma mv2 pt2 B (.slice (some ⟨g, 0, none⟩) (st.length + 1) sc) i) wr (encFrs st.reverse) cells1)
    (rn : Rep (fun i => ¬ Chg ma mv2 pt2 B (.slice (some ⟨g, 0, none⟩) (st.length + 1) sc) i) wr (encB nb) nv)
    (re : Rep (fun i => ¬ Chg ma mv2 pt2 B (.slice (some ⟨g, 0, none⟩) (st.length + 1) sc) i) wr (.sl 190 4 f.env.length (encCs f.env)) fe)
    (hb1 : But (MBk ma mv2 pt2) wr w1) (hms : MS keeps most ma log' mv3 pt3 w1) (hn : ∀ b, MBk ma mv3 pt3 b → MBk ma mv2 pt2 b ∨ wr.heap.size ≤ b) {W : World}
    (hW : W = ((w1.alloc O).setCell ⟨B, 0, none⟩ (.int .i64 (f.begun : Nat))).setCell ⟨B, 1, none⟩ (str f.path)) :
    RunAt keeps most ma mv pt w B nb f.env f.begun f.path st log' mv3 pt3 nv fe (.slice (some ⟨g, 0, none⟩) st.length sc) cells1 W.drew := by
  subst hW
  have hzB := lt_of_heap h.beg
  have hz1 := hb1.size
  have hgs := h.sB g rfl
  have hb2 : But (Chg ma mv2 pt2 B (.slice (some ⟨g, 0, none⟩) (st.length + 1) sc)) wr (((w1.alloc O).setCell ⟨B, 0, none⟩ (.int .i64 (f.begun : Nat))).setCell ⟨B, 1, none⟩ (str f.path)).drew :=
    (((hb1.weak fun i _ hi => .inl hi).alloc O).setCell (p := ⟨B, 0, none⟩) (.inl (.inr (.inl rfl))) _ |>.setCell (p := ⟨B, 1, none⟩) (.inl (.inr (.inl rfl))) _).drew
  have hn3 : ∀ i, MBk ma mv3 pt3 i → i ≠ B := by
    rintro i hi rfl
    rcases hn _ hi with h' | h'
    · exact h.bB.2 h'
    · omega
  have hch : ∀ i, Chg ma mv3 pt3 B (.slice (some ⟨g, 0, none⟩) st.length sc) i → Chg ma mv2 pt2 B (.slice (some ⟨g, 0, none⟩) (st.length + 1) sc) i ∨ wr.heap.size ≤ i := by
    rintro i (hi | hi | hi)
    · rcases hn i hi with h' | h'
      · exact .inl (.inl h')
      · exact .inr h'
    · exact .inl (.inr (.inl hi))
    · exact .inl (.inr (.inr hi))
  have hbl : w1.heap[B]? = some (.cells #[.int .i64 (begun : Nat), str path] 179 (0, 0)) := by rw [hb1.block B hzB h.bB.2]; exact h.beg
  have hbl2 : (w1.alloc O).heap[B]? = some (.cells #[.int .i64 (begun : Nat), str path] 179 (0, 0)) := heap_past hbl
  have hzw := h.but.size
  refine ⟨?_, rep_next hb2 hch rn, rep_next hb2 hch re, ?_, reps_next hb2 hch hr1, ?_, ?_, ?_, ⟨h.bB.1, fun hi => hn3 _ hi rfl⟩, fun g' hg' => ?_⟩
  · refine hms.but (m := fun i => i = B) ?_ fun b hb e => hn3 b hb e
    exact (((But.refl (fun i => i = B) w1).alloc O).setCell (p := ⟨B, 0, none⟩) (.inl rfl) _ |>.setCell (p := ⟨B, 1, none⟩) (.inl rfl) _).drew
  · have hs := h.own.short (m := st.length) (by simp) (by simp)
    rw [hcl, ← hl1, List.take_left] at hs
    refine (hs.keep fun g' o hg' ho => ?_)
    have e : g' = g := by simpa [Value.ownBlock] using hg'.symm
    subst e
    have hlt := lt_of_heap ho
    show (((w1.alloc O).setCell ⟨B, 0, none⟩ (.int .i64 (f.begun : Nat))).setCell ⟨B, 1, none⟩ (str f.path)).heap[g']? = _
    rw [Below.heap_setCell _ _ _ _ hgs.2.1, Below.heap_setCell _ _ _ _ hgs.2.1, heap_push _ _ (by omega), hb1.block g' hlt hgs.2.2]
    exact ho
  · show (((w1.alloc O).setCell ⟨B, 0, none⟩ (.int .i64 (f.begun : Nat))).setCell ⟨B, 1, none⟩ (str f.path)).heap[B]? = _
    rw [setCell_at (setCell_at hbl2)]; rfl
  · refine h.but.trans' hb2 fun i hi hh => ?_
    rcases hh with hh | hh | hh
    · rcases h.new i hh with h' | h'
      · exact h'
      · omega
    · subst hh; have := h.bB.1; omega
    · have := (h.sB i hh).1; omega
  · intro i hi
    rcases hn i hi with h' | h'
    · exact h.new i h'
    · exact .inr (by omega)
  · have e : g' = g := by simpa [Value.ownBlock] using hg'.symm
    subst e
    refine ⟨hgs.1, hgs.2.1, fun hi => ?_⟩
    rcases hn _ hi with h' | h'
    · exact hgs.2.2 h'
    · have := h.own.lt (g := g') rfl; omega

/-- The machine's result, with all moves. -/
def runAll (most : Nat) (b : Bd) (ar : List Bd) : Option (UInt8 × List (Bs × Int)) := (runM (most - 1) 1 b (ownFrom [] 0 [] 0 ar) 0 [] []).map fun x => (x.1, [([113], -1)] ++ asInts x.2)

/-- What stands for a level, found. -/
theorem env_at {F : Nat → Prop} {w : World} {env : List Clo} {ev : Value} (h : Rep F w (.sl 190 4 env.length (encCs env)) ev) {v : Nat} {c : Clo} (hc : env[v]? = some c) :
    ∃ b o cap u ea ec, ev = .slice (some ⟨b, o, none⟩) env.length cap ∧ F b ∧ b < w.heap.size ∧ w.cell? ⟨b, o + v * 4, none⟩ = some (.pointer (some ⟨u, 0, none⟩)) ∧ w.cell? ⟨b, o + v * 4 + 1, none⟩ = some (.slice ea c.env.length ec) ∧
      w.cell? ⟨b, o + v * 4 + 2, none⟩ = some (.int .i64 (c.begun : Nat)) ∧ w.cell? ⟨b, o + v * 4 + 3, none⟩ = some (str c.path) ∧ Rep F w (encB c.body) (.pointer (some ⟨u, 0, none⟩)) ∧ Rep F w (.sl 190 4 c.env.length (encCs c.env)) (.slice ea c.env.length ec) := by
  have hv := (List.getElem?_eq_some_iff.1 hc).1
  rw [Rep_sl] at h
  obtain ⟨hl, a, cap, rfl, hn, hz, h⟩ := h
  rcases h with h0 | ⟨b, o, cs, fr, rfl, hb, hcs, hr⟩
  · omega
  have hsplit : encCs env = encCs (env.take v) ++ (encC c ++ encCs (env.drop (v + 1))) := by
    have e : env = env.take v ++ c :: env.drop (v + 1) := by
      have : env[v] = c := (List.getElem?_eq_some_iff.1 hc).2
      rw [← this, List.getElem_cons_drop, List.take_append_drop]
    conv => lhs; rw [e]
    rw [encCs_append, encCs]
  rw [hsplit] at hr
  have h2 := hr.split.2
  rw [encCs_length, List.length_take, Nat.min_eq_left (by omega)] at h2
  have h3 := h2.split.1
  rw [encC_length] at h3
  obtain ⟨cb, ce, cg, cp⟩ := c
  simp only [encC, Reps_cons, Reps_nil, Rep_val] at h3
  obtain ⟨x0, _, e1, k1, x1, _, rfl, k2, _, _, rfl, rfl, _, _, rfl, rfl, rfl⟩ := h3
  obtain ⟨u, rfl⟩ := encB_ptr k1
  obtain ⟨ea, ec, rfl⟩ : ∃ a c, x1 = .slice a ce.length c := by
    have h := k2; rw [Rep_sl] at h; obtain ⟨_, a, c, e, _⟩ := h; exact ⟨a, c, e⟩
  have get : ∀ (j : Nat) (u' : Value), j < 4 → [.pointer (some ⟨u, 0, none⟩), .slice ea ce.length ec, .int .i64 (cg : Nat), str cp][j]? = some u' → w.cell? ⟨b, o + v * 4 + j, none⟩ = some u' := by
    intro j u' hj h
    rw [← e1, List.getElem?_take, if_pos hj, List.getElem?_drop, List.getElem?_take, if_pos (by omega), List.getElem?_drop] at h
    simp only [World.cell?, hcs]
    simpa [Nat.add_assoc] using h
  exact ⟨b, o, cap, u, ea, ec, rfl, hb, lt_of_heap hcs, get 0 _ (by omega) rfl, get 1 _ (by omega) rfl, get 2 _ (by omega) rfl, get 3 _ (by omega) rfl, k1, k2⟩

/-- Three blocks that stay. -/
structure Tri (bb B P : Nat) (v : Nat) (sl yv nv : Value) (begun : Nat) (path : Bs) (q0 q1 q2 q3 : Value) (w : World) : Prop where
  b : w.heap[bb]? = some (.cells #[str [], .int .i64 v, sl, yv, nv] 133 (0, 0))
  g : w.heap[B]? = some (.cells #[.int .i64 (begun : Nat), str path] 179 (0, 0))
  p : w.heap[P]? = some (.cells #[q0, q1, q2, q3] 190 (0, 0))
theorem Tri.but {bb B P v : Nat} {sl yv nv : Value} {begun : Nat} {path : Bs} {q0 q1 q2 q3 : Value} {w w' : World} {m : Nat → Prop} (h : Tri bb B P v sl yv nv begun path q0 q1 q2 q3 w) (hb : But m w w') (n1 : ¬ m bb) (n2 : ¬ m B) (n3 : ¬ m P) : Tri bb B P v sl yv nv begun path q0 q1 q2 q3 w' :=
  ⟨by rw [hb.block _ (lt_of_heap h.b) n1]; exact h.b, by rw [hb.block _ (lt_of_heap h.g) n2]; exact h.g, by rw [hb.block _ (lt_of_heap h.p) n3]; exact h.p⟩
theorem Tri.below {bb B P v : Nat} {sl yv nv : Value} {begun : Nat} {path : Bs} {q0 q1 q2 q3 : Value} {w w' : World} (h : Tri bb B P v sl yv nv begun path q0 q1 q2 q3 w) (hb : Below w.heap.size w w') : Tri bb B P v sl yv nv begun path q0 q1 q2 q3 w' :=
  h.but (m := fun _ => False) (But.ofBelow hb) (fun h => h) (fun h => h) (fun h => h)
theorem Tri.drew {bb B P v : Nat} {sl yv nv : Value} {begun : Nat} {path : Bs} {q0 q1 q2 q3 : Value} {w : World} (h : Tri bb B P v sl yv nv begun path q0 q1 q2 q3 w) : Tri bb B P v sl yv nv begun path q0 q1 q2 q3 w.drew := ⟨h.b, h.g, h.p⟩
theorem Tri.cells {bb B P v : Nat} {sl yv nv : Value} {begun : Nat} {path : Bs} {q0 q1 q2 q3 : Value} {w : World} (h : Tri bb B P v sl yv nv begun path q0 q1 q2 q3 w) :
    w.cell? ⟨bb, 2, none⟩ = some sl ∧ w.cell? ⟨bb, 3, none⟩ = some yv ∧ w.cell? ⟨bb, 4, none⟩ = some nv ∧ w.cell? ⟨B, 0, none⟩ = some (.int .i64 (begun : Nat)) ∧ w.cell? ⟨B, 1, none⟩ = some (str path) ∧
      w.cell? ⟨P, 0, none⟩ = some q0 ∧ w.cell? ⟨P, 1, none⟩ = some q1 ∧ w.cell? ⟨P, 2, none⟩ = some q2 ∧ w.cell? ⟨P, 3, none⟩ = some q3 ∧ w.frozen? ⟨B, 0, none⟩ = false ∧ w.frozen? ⟨B, 1, none⟩ = false ∧ P < w.heap.size ∧ B < w.heap.size ∧ bb < w.heap.size :=
  ⟨by simp [World.cell?, h.b], by simp [World.cell?, h.b], by simp [World.cell?, h.b], by simp [World.cell?, h.g], by simp [World.cell?, h.g], by simp [World.cell?, h.p], by simp [World.cell?, h.p], by simp [World.cell?, h.p], by simp [World.cell?, h.p], by simp [World.frozen?, h.g], by simp [World.frozen?, h.g], lt_of_heap h.p, lt_of_heap h.g, lt_of_heap h.b⟩

theorem SrcSl.ofOwn {w : World} {e : TypeId} {sz n : Nat} {v : Value} {xs : List Value} (h : Own w e sz v n xs) (hc : ∀ u ∈ xs, u.oneCell' = true) : SrcSl sz v n xs w := by
  refine ⟨h.1, hc, ?_⟩
  rcases h.2 with ⟨rfl, rfl⟩ | ⟨g, cap, cur, rfl, _, hg, _, _, _, ht⟩
  · exact .inr ⟨rfl, rfl⟩
  · refine .inl ⟨_, cap, rfl, fun j u hj => ?_⟩
    obtain ⟨g', c', e', hc'⟩ := h.at hj
    simp only [Value.slice.injEq, Option.some.injEq, Addr.mk.injEq, and_true, true_and] at e'
    obtain ⟨rfl, rfl⟩ := e'
    unfold Addr.add
    split
    · subst j; exact hc'
    · simpa using hc'
theorem ents_one {us : List Value} (hu : ∀ u ∈ us, u.oneCell' = true) {ev : Value} (he : ev.oneCell' = true) (m : Nat) (p : Bs) : ∀ n, ∀ u ∈ ents us ev m p n, u.oneCell' = true := by
  intro n
  induction n with
  | zero => simp [ents]
  | succ n ih =>
    intro u hu'
    rw [ents] at hu'
    rcases List.mem_append.1 hu' with h | h
    · exact ih u h
    · simp only [List.mem_cons, List.not_mem_nil, or_false] at h
      rcases h with rfl | rfl | rfl | rfl
      · rw [List.getD_eq_getElem?_getD]
        cases hq : us[n]? with
        | none => rfl
        | some x => exact hu x (List.mem_of_getElem? hq)
      · exact he
      · rfl
      · rfl
theorem oneCell_encCs {F : Nat → Prop} {w : World} : ∀ (cs : List Clo) (us : List Value), Reps F w (encCs cs) us → ∀ u ∈ us, u.oneCell' = true
  | [], us, h, u, hu => by rw [encCs, Reps_nil] at h; subst h; simp at hu
  | .mk b e g p :: cs, us, h, u, hu => by
    simp only [encCs, encC, List.cons_append, List.nil_append, Reps_cons, Rep_val] at h
    obtain ⟨x0, _, rfl, k1, x1, _, rfl, k2, _, _, rfl, rfl, _, us', rfl, rfl, k3⟩ := h
    simp only [List.mem_cons] at hu
    rcases hu with rfl | rfl | rfl | rfl | hu
    · obtain ⟨a, rfl⟩ := encB_ptr k1; rfl
    · rw [Rep_sl] at k2; obtain ⟨_, a, c, rfl, _⟩ := k2; rfl
    · rfl
    · rfl
    · exact oneCell_encCs cs us' k3 u hu
def SubsAt (w : World) (n : Nat) (us : List Value) (sa : Option Addr) : Prop := ∀ k, k < n → ∃ b o u, sa = some ⟨b, o, none⟩ ∧ us[k]? = some (.pointer (some ⟨u, 0, none⟩)) ∧ w.cell? ⟨b, o + k, none⟩ = some (.pointer (some ⟨u, 0, none⟩))
theorem SubsAt.below {w w' : World} {n : Nat} {us : List Value} {sa : Option Addr} (h : SubsAt w n us sa) (hb : Below w.heap.size w w') : SubsAt w' n us sa := fun k hk => by
  obtain ⟨b, o, u, e, hu, hc⟩ := h k hk
  exact ⟨b, o, u, e, hu, (hb.cell (World.block_lt_of_cell? w _ hc)).trans hc⟩

theorem runat_ask {keeps : Bool} {most ma : Nat} {mv pt : Value} {w : World} {B : Nat} {v : Nat} {ss : List Bd} {y n : Bd} {env : List Clo} {begun : Nat} {path : Bs} {st : List Fr} {log log' : List (Bs × Int)} {mv2 pt2 mv3 pt3 bv ev sv sv' ev' yv nv ubv : Value} {cells us news : List Value} {wr w1 w6 : World} {e : Clo}
    (h : RunAt keeps most ma mv pt w B (.ask v ss y n) env begun path st log mv2 pt2 bv ev sv cells wr)
    (hy : Rep (fun i => ¬ Chg ma mv2 pt2 B sv i) wr (encB y) yv) (hnn : Rep (fun i => ¬ Chg ma mv2 pt2 B sv i) wr (encB n) nv) (hkb : Rep (fun i => ¬ Chg ma mv2 pt2 B sv i) wr (encB e.body) ubv)
    {w4 : World} (hnews : Reps (fun i => ¬ Chg ma mv2 pt2 B sv i ∧ i < wr.heap.size) w4 (encCs e.env) news) (hb46 : Below w4.heap.size w4 w6) (hus : Reps (fun i => ¬ Chg ma mv2 pt2 B sv i) wr (encBs ss) us)
    (hbC : But (Chg ma mv2 pt2 B sv) wr w6) (hw1 : But (fun b => sv.ownBlock = some b) w1 w6) (hms : MS keeps most ma log' mv3 pt3 w1)
    (hn : ∀ i, MBk ma mv3 pt3 i → MBk ma mv2 pt2 i ∨ wr.heap.size ≤ i) (hz : wr.heap.size ≤ w1.heap.size) (hB6 : w6.heap[B]? = some (.cells #[.int .i64 (begun : Nat), str path] 179 (0, 0)))
    (hos : Own w6 186 5 sv' (st.length + 1) (cells ++ [yv, nv, ev, .int .i64 (begun : Nat), str path])) (hgs : ∀ g, sv'.ownBlock = some g → sv.ownBlock = some g ∨ w1.heap.size ≤ g)
    (hoe : Own w6 190 4 ev' (e.env.length + ss.length) (news ++ ents us ev log.length e.path ss.length)) (hge : ∀ g, ev'.ownBlock = some g → w1.heap.size ≤ g ∧ sv'.ownBlock ≠ some g) {W : World}
    (hW : W = (w6.setCell ⟨B, 0, none⟩ (.int .i64 (log.length : Nat))).setCell ⟨B, 1, none⟩ (str e.path)) :
    RunAt keeps most ma mv pt w B e.body (e.env ++ ownFrom env log.length e.path 0 ss) log.length e.path (⟨y, n, env, begun, path⟩ :: st) log' mv3 pt3 ubv ev' sv' (cells ++ [yv, nv, ev, .int .i64 (begun : Nat), str path]) W.drew := by
  subst hW
  have hzB := lt_of_heap h.beg
  have hltM : ∀ i, MBk ma mv3 pt3 i → i < w1.heap.size := fun i hi => MBk.lt hms hi
  have hsl : ∀ g, sv.ownBlock = some g → g < wr.heap.size := fun g hg => h.own.lt hg
  have hb2 : But (Chg ma mv2 pt2 B sv) wr ((w6.setCell ⟨B, 0, none⟩ (.int .i64 (log.length : Nat))).setCell ⟨B, 1, none⟩ (str e.path)).drew :=
    ((hbC.setCell (p := ⟨B, 0, none⟩) (.inl (.inr (.inl rfl))) _).setCell (p := ⟨B, 1, none⟩) (.inl (.inr (.inl rfl))) _).drew
  have hn3 : ∀ i, MBk ma mv3 pt3 i → i ≠ B := by
    rintro i hi rfl
    rcases hn _ hi with h' | h'
    · exact h.bB.2 h'
    · omega
  have hns : ∀ i, MBk ma mv3 pt3 i → sv.ownBlock ≠ some i := by
    intro i hi hs
    rcases hn _ hi with h' | h'
    · exact (h.sB i hs).2.2 h'
    · have := hsl i hs; omega
  have hch : ∀ i, Chg ma mv3 pt3 B sv' i → Chg ma mv2 pt2 B sv i ∨ wr.heap.size ≤ i := by
    rintro i (hi | hi | hi)
    · rcases hn i hi with h' | h'
      · exact .inl (.inl h')
      · exact .inr h'
    · exact .inl (.inr (.inl hi))
    · rcases hgs i hi with h' | h'
      · exact .inl (.inr (.inr h'))
      · exact .inr (by omega)
  have hsB : ∀ g, sv'.ownBlock = some g → g ≠ B := by
    rintro g hg rfl
    rcases hgs _ hg with h' | h'
    · exact (h.sB _ h').2.1 rfl
    · omega
  have keepB : ∀ {i : Nat} {o : Obj}, i ≠ B → w6.heap[i]? = some o → (((w6.setCell ⟨B, 0, none⟩ (.int .i64 (log.length : Nat))).setCell ⟨B, 1, none⟩ (str e.path)).drew).heap[i]? = some o := by
    intro i o hi ho
    show ((w6.setCell ⟨B, 0, none⟩ (.int .i64 (log.length : Nat))).setCell ⟨B, 1, none⟩ (str e.path)).heap[i]? = _
    rw [Below.heap_setCell _ _ _ _ hi, Below.heap_setCell _ _ _ _ hi]; exact ho
  have hbB6 : w6.heap[B]? = some (.cells #[.int .i64 (begun : Nat), str path] 179 (0, 0)) → (((w6.setCell ⟨B, 0, none⟩ (.int .i64 (log.length : Nat))).setCell ⟨B, 1, none⟩ (str e.path)).drew).heap[B]? = some (.cells #[.int .i64 (log.length : Nat), str e.path] 179 (0, 0)) := by
    intro hb
    show ((w6.setCell ⟨B, 0, none⟩ (.int .i64 (log.length : Nat))).setCell ⟨B, 1, none⟩ (str e.path)).heap[B]? = _
    rw [setCell_at (setCell_at hb)]; rfl
  have hnews6 := (Rep.keep (F' := fun i => ¬ Chg ma mv3 pt3 B sv' i) (w' := ((w6.setCell ⟨B, 0, none⟩ (.int .i64 (log.length : Nat))).setCell ⟨B, 1, none⟩ (str e.path)).drew) fun b o hf ho => ⟨fun e => by
    rcases hch b e with h' | h'
    · exact hf.1 h'
    · omega, keepB (fun e => hf.1 (.inr (.inl e))) (by rw [hb46.block b (lt_of_heap ho)]; exact ho)⟩).2 _ _ hnews
  have hevr := rep_next hb2 hch h.re
  have hents := ents_rep (m := log.length) (p := e.path) (reps_next hb2 hch hus) hevr ss.length (Nat.le_refl _)
  rw [List.take_of_length_le (by rw [ownFrom_length]; exact Nat.le_refl _)] at hents
  have hzw := h.but.size
  refine ⟨?_, rep_next hb2 hch hkb, ?_, ?_, ?_, ?_, ?_, ?_, ⟨h.bB.1, fun hi => hn3 _ hi rfl⟩, fun g' hg' => ⟨?_, hsB g' hg', fun hi => ?_⟩⟩
  · refine hms.but (m := fun i => sv.ownBlock = some i ∨ i = B) ?_ fun b hb e => ?_
    · exact (((hw1.weak fun i _ hi => .inl hi).setCell (p := ⟨B, 0, none⟩) (.inl (.inr rfl)) _).setCell (p := ⟨B, 1, none⟩) (.inl (.inr rfl)) _).drew
    · rcases e with e | e
      · exact hns b hb e
      · exact hn3 b hb e
  · rw [List.length_append, ownFrom_length, encCs_append]
    refine (hoe.keep fun g o hg ho => keepB (fun e => by have := (hge g hg).1; omega) ho).rep (fun g hg => ?_) (Reps.append hnews6 hents)
    obtain ⟨k1, k2⟩ := hge g hg
    rintro (hi | hi | hi)
    · have := hltM g hi; omega
    · omega
    · exact k2 hi
  · exact hos.keep fun g o hg ho => keepB (hsB g hg) ho
  · rw [List.reverse_cons, encFrs_append]
    refine Reps.append (reps_next hb2 hch h.rs) ?_
    simp only [encFrs, encFr, List.append_nil]
    exact Reps_cons.2 ⟨_, _, rfl, rep_next hb2 hch hy, Reps_cons.2 ⟨_, _, rfl, rep_next hb2 hch hnn, Reps_cons.2 ⟨_, _, rfl, hevr, Reps_cons.2 ⟨_, _, rfl, Rep_val.2 rfl, Reps_cons.2 ⟨_, _, rfl, Rep_val.2 rfl, Reps_nil.2 rfl⟩⟩⟩⟩⟩
  · exact hbB6 hB6
  · refine h.but.trans' hb2 fun i hi hh => ?_
    rcases hh with hh | hh | hh
    · rcases h.new i hh with h' | h'
      · exact h'
      · omega
    · subst hh; have := h.bB.1; omega
    · have := (h.sB i hh).1; omega
  · intro i hi
    rcases hn i hi with h' | h'
    · exact h.new i h'
    · exact .inr (by omega)
  · rcases hgs g' hg' with h' | h'
    · exact (h.sB g' h').1
    · omega
  · rcases hgs g' hg' with h' | h'
    · exact hns g' hi h'
    · have := hltM g' hi; omega

theorem Tryz.infoFr : (Tryz.prog.info? 186).map (fun i => (i.zero, i.size, i.bytes)) = some (some (.agg #[.pointer none, .pointer none, .slice none 0 0, .int .i64 0, str []]), 5, 64) := by kernel_rfl

end Go.Proofs.YtibnnbdpfkgfhaaGreatDoor

import Derived.Test.YtibnnbdpfkgfhaaGreatDoorA14

/- The walk of impl's text of bodies. -/
namespace Go.Proofs.YtibnnbdpfkgfhaaGreatDoor
open Go.RowKit

theorem decNat (n : Nat) : dec n = Lib.decDigits n := by
  induction n using Nat.strongRecOn with
  | _ n ih =>
    by_cases h : n < 10
    · rw [dec_small h, Lib.decDigits, dif_pos h]; rfl
    · rw [dec_great h, Lib.decDigits, dif_neg h, ih (n / 10) (Nat.div_lt_self (by omega) (by omega))]; rfl
theorem itoaNat (i : Nat) : Lib.itoa (i : Int) = dec i := by
  rw [decNat, Lib.itoa, if_neg (by omega)]; rfl

theorem lvBs_of : ∀ xs : List Bd, (∀ b ∈ xs, lvB b) → lvBs xs
  | [], _ => by rw [lvBs]; trivial
  | b :: bs, h => by rw [lvBs]; exact ⟨h b (by simp), lvBs_of bs fun x hx => h x (by simp [hx])⟩
/-- The levels of what fits are small. -/
theorem fit_lv (n : Nat) : ∀ (b : Bd) (h : List Ty), sizeB b ≤ n → fitB h b → (∀ t ∈ h, atomsT t ≤ 15) → h.length + 15 * n ≤ 10000 → lvB b := by
  induction n with
  | zero => intro b h hs; have := sizeB_pos b; omega
  | succ n ih =>
    intro b h hs hf ha hl
    cases b with
    | leaf c => rw [lvB]; trivial
    | ask v ss y no =>
      rw [fitB] at hf
      obtain ⟨t, ht, f1, f2, f3⟩ := hf
      rw [sizeB] at hs
      have hy := sizeB_pos y
      have hn := sizeB_pos no
      have hv := (List.getElem?_eq_some_iff.1 ht).1
      have ht15 := ha t (List.mem_of_getElem? ht)
      rw [lvB]
      refine ⟨by omega, lvBs_of ss fun b hb => ?_, ih y h (by omega) f2 ha (by omega), ih no h (by omega) f3 ha (by omega)⟩
      have hsz := mem_sizeBs hb
      obtain ⟨k, hk⟩ := List.mem_iff_getElem?.1 hb
      obtain ⟨x, hx, hxf⟩ := fitBs_at _ _ f1 k b hk
      simp only [hands, List.getElem?_map, Option.map_eq_some_iff] at hx
      obtain ⟨a, haa, rfl⟩ := hx
      have ha15 := (args_atoms ht15).1 a (List.mem_of_getElem? haa)
      have hal := args_atoms ha15
      refine ih b (h ++ a.args) (by omega) hxf (fun t ht => ?_) (by rw [List.length_append]; omega)
      rcases List.mem_append.1 ht with h | h
      · exact ha t h
      · exact hal.1 t h
theorem Good.lv {t : Ty} {b : Bd} (h : Good t b) : lvB b :=
  fit_lv 200 b t.args h.size h.fit (args_atoms h.atoms).1 (by have := (args_atoms h.atoms).2; omega)

theorem joinTail_textBs : ∀ bs : List Bd, Lib.joinTail [32] (bs.map textB) = textBs bs
  | [] => rfl
  | b :: bs => by
    have := joinTail_textBs bs
    simp only [Lib.joinTail, List.map_cons, List.flatten_cons] at this ⊢
    rw [this, textBs]
theorem textB_join (v : Nat) (ss : List Bd) (y n : Bd) : textB (.ask v ss y n) = [40] ++ Lib.join (dec v :: (ss ++ [y, n]).map textB) [32] ++ [41] := by
  rw [Lib.join_cons, joinTail_textBs, textBs_append, textB, textBs, textBs, textBs]; simp

def textSaid (b : Bd) : Prop := ∀ (F : Nat → Prop) (w : World) (v : Value), Glob w → Rep F w (encB b) v →
  Calls Tryz.prog 42 #[v] w fun en w' => en = .returned (str (textB b)) ∧ Below w.heap.size w w'

theorem Tryz.infoStrA : (Tryz.prog.info? 9).map (fun i => (i.zero, i.size, i.bytes)) = some (some (str []), 1, 16) := by kernel_rfl

theorem Own.strings {w : World} {e : TypeId} {v : Value} {n : Nat} {ts : List Bs} (h : Own w e 1 v n (ts.map str)) (hn : 0 < n) :
    ∃ g cap, v = .slice (some ⟨g, 0, none⟩) n cap ∧ n ≤ cap ∧ g < w.heap.size ∧ ts.length = n ∧ ∀ (j : Nat) (x : ByteArray), (ts.map fun t => (⟨t.toArray⟩ : ByteArray))[j]? = some x → w.cell? ⟨g, 0 + j, none⟩ = some (.string x) := by
  have hl := h.1
  rcases h.2 with ⟨_, h0⟩ | ⟨g, cap, cur, rfl, _, hg, hnc, _, hcs, ht⟩
  · omega
  · refine ⟨g, cap, rfl, hnc, lt_of_heap hg, by simpa using hl, fun j x hj => ?_⟩
    rw [List.getElem?_map, Option.map_eq_some_iff] at hj
    obtain ⟨t, ht1, rfl⟩ := hj
    have h1 : (ts.map str)[j]? = some (str t) := by rw [List.getElem?_map, ht1]; rfl
    rw [← ht, List.getElem?_take] at h1
    split at h1
    · rw [Nat.zero_add]; simp only [World.cell?, hg]; simpa using h1
    · simp at h1

/-- What holds at each round of text's loop. -/
structure TInv (lv : Nat) (ps : List Bd) (w w2 w4 : World) (k : Nat) (v : Value) (wr : World) : Prop where
  own : Own wr 9 1 v (k + 1) ((dec lv :: (ps.take k).map textB).map str)
  bel : Below w.heap.size w wr
  but : But (· = w2.heap.size) w4 wr
  fr : ∀ g, v.ownBlock = some g → g = w2.heap.size ∨ w4.heap.size ≤ g

set_option maxRecDepth 100000 in
set_option maxHeartbeats 2000000 in
theorem text_step (b : Bd) (hl : sizeB b ≤ 100000) (hlv : lvB b) (ih : ∀ t, sizeB t < sizeB b → lvB t → textSaid t) : textSaid b := by
  intro F w v hg hv
  have IH := Lib.hid ih; clear ih
  cases b with
  | leaf c =>
    obtain ⟨a0, sl, rfl, _, hblk, _⟩ := leaf_open hv
    have r0 : w.cell? ⟨a0, 0, none⟩ = some (str [c]) := by simp [World.cell?, hblk]
    have CL := Lib.hid (isList_leaf F w c _ hv)
    clear hblk hv
    go_enter Tryz.func42, Tryz.ntmps42
    go_wp2_with fail
    (with_reducible refine CL.out.mono ?_)
    rintro en w3 ⟨rfl, rfl⟩
    go_wp2_with fail
    go_ret
    exact ⟨by rw [textB]; rfl, Below.refl _ _⟩
  | ask lv ss y no =>
    obtain ⟨a0, sl, yv, nv, rfl, _, hblk, _⟩ := ask_open hv
    have r1 : w.cell? ⟨a0, 1, none⟩ = some (.int .i64 (lv : Nat)) := by simp [World.cell?, hblk]
    have ha0 := lt_of_heap hblk
    have CL := Lib.hid (isList_ask F w lv ss y no _ hv)
    have hlv' := hlv
    rw [lvB] at hlv'
    have hlv1 := hlv'.1
    have C1 : Calls Tryz.prog 73 #[.int .i64 (lv : Nat)] w fun en w' => en = .returned (str (dec lv)) ∧ Below w.heap.size w w' := by
      have := itoa_any (lv : Nat) w hg (by omega) (by omega)
      rwa [itoaNat] at this
    have C1 := Lib.hid C1
    have HP := Lib.hid (And.intro hv (And.intro hg (And.intro hlv hl))); clear hv hg hlv hl hblk hlv'
    go_enter Tryz.func42, Tryz.ntmps42
    go_wp2_with fail
    (with_reducible refine CL.out.mono ?_)
    rintro en w1 ⟨rfl, e⟩
    subst w1
    go_wp2_with fail
    (with_reducible refine C1.out.mono ?_)
    rintro en w2 ⟨rfl, hb2⟩
    have hbA : Below w.heap.size w (w2.alloc (.cells #[str (dec lv)] 9)) := hb2.alloc hb2.size _
    have hz2 := hb2.size
    have hvA : Rep (fun i => F i ∧ i < w.heap.size) (w2.alloc (.cells #[str (dec lv)] 9)) (encB (.ask lv ss y no)) (.pointer (some ⟨a0, 0, none⟩)) := Rep.below hbA (fun _ h => h) (Rep.low HP.out.1)
    have CP := Lib.hid (parts_any _ _ _ _ hvA (by have := HP.out.2.2.2; unfold Lim; omega))
    have hp : partsOf (.ask lv ss y no) = ss ++ [y, no] := rfl
    unfold PartsPost at CP
    rw [hp] at CP
    have hsz : sizeBs (ss ++ [y, no]) + 1 = sizeB (.ask lv ss y no) := by rw [sizeBs_append, sizeB, sizeBs, sizeBs, sizeBs]; omega
    have hall : ∀ b ∈ ss ++ [y, no], lvB b := by
      have := HP.out.2.2.1
      rw [lvB] at this
      intro b hb
      rcases List.mem_append.1 hb with h | h
      · obtain ⟨k, hk⟩ := List.mem_iff_getElem?.1 h
        exact lvBs_at _ this.2.1 k b hk
      · simp at h
        rcases h with rfl | rfl
        · exact this.2.2.1
        · exact this.2.2.2
    have hjoin := textB_join lv ss y no
    have hps : textBs (ss ++ [y, no]) = Lib.joinTail [32] ((ss ++ [y, no]).map textB) := (joinTail_textBs _).symm
    have hlvs := textBs_length (ss ++ [y, no]) (lvBs_of _ hall)
    have hdl : (dec lv).length ≤ 5 := dec_length 4 lv (by omega)
    have hb100 := HP.out.2.2.2
    have hown0 := Own.litAt (w := w2) (e := 9) (size := 1) #[str (dec lv)] 1 _ rfl (by decide) rfl
    generalize hpp : ss ++ [y, no] = ps at *
    have HQ := Lib.hid (And.intro hsz (And.intro hall (And.intro hjoin (And.intro hps (And.intro hlvs (And.intro hbA hown0)))))); clear hsz hall hjoin hps hlvs hbA hvA hb2 hown0 hp hpp
    go_wp2_with fail
    (with_reducible refine CP.out.mono ?_)
    rintro en w4 ⟨pv, rfl, hb4, hp4⟩
    obtain ⟨pa, pc, e, _, _, hat⟩ := Rep_sl1_open hp4
    subst e
    have hz4 := hb4.size
    rw [size_alloc] at hz4
    have hsp := HQ.out.1
    have hplen := length_le_sizeBs ps
    have HB4 := Lib.hid (And.intro hb4 hat); clear hb4 hp4 hat hsp
    have hpl : ps.length ≤ 100000 := by have := HQ.out.1; omega
    clear hplen
    go_wp2_with fail
    go_loopw [3, 22] (fun o i wr => ∃ k : Nat, k ≤ ps.length ∧ i = .int .i64 k ∧ TInv lv ps w w2 w4 k o wr) (fun _ i _ => ps.length - (intOf i).toNat)
    case atStart =>
      refine ⟨0, Nat.zero_le _, rfl, ?_, HQ.out.2.2.2.2.2.1.trans (HB4.out.1.mono (by rw [size_alloc]; omega)), But.refl _ _, fun g hg => .inl ?_⟩
      · exact HQ.out.2.2.2.2.2.2.keep fun g o hg hh => by rw [HB4.out.1.block g (lt_of_heap hh)]; exact hh
      · simp [Value.ownBlock] at hg; omega
    case round =>
      rename_i wr
      obtain ⟨k, hk, rfl, hinv⟩ := hrel
      obtain ⟨sa, sc, e⟩ := hinv.own.slice
      subst e
      have HI := Lib.hid hinv; clear hinv
      by_cases hlt : k < ps.length
      · obtain ⟨ba, oa, u, d, ea, hFb, hba, hd, hu, hr⟩ := HB4.out.2 k hlt
        subst ea
        rw [encBs_at, Option.map_eq_some_iff] at hd
        obtain ⟨t, ht, rfl⟩ := hd
        obtain ⟨ta, eu⟩ := encB_ptr hr
        subst eu
        have hne : ba ≠ w2.heap.size := by
          rcases hFb with h | h
          · have := h.2; omega
          · rw [size_alloc] at h; omega
        have hc : wr.cell? ⟨ba, oa + k, none⟩ = some (.pointer (some ⟨ta, 0, none⟩)) := (HI.out.but.cell hba hne).trans hu
        have hr' : Rep (fun _ => True) wr (encB t) (.pointer (some ⟨ta, 0, none⟩)) := by
          refine (Rep.keep fun b o hf hh => ⟨trivial, ?_⟩).1 _ _ hr
          rw [HI.out.but.block b (lt_of_heap hh) (fun e => ?_)]
          · exact hh
          · have e : b = w2.heap.size := e
            rcases hf with h | h
            · have := h.2; omega
            · rw [size_alloc] at h; omega
        have hmem := List.mem_of_getElem? ht
        have htlt : sizeB t < sizeB (.ask lv ss y no) := by have := mem_sizeBs hmem; have := HQ.out.1; omega
        have IH' := Lib.hid (IH.out t htlt (HQ.out.2.1 t hmem) _ wr _ (HP.out.2.1.below HI.out.bel) hr')
        have HT := Lib.hid ht
        clear ht hu hr hr' hmem
        go_wp2_with fail
        (with_reducible refine IH'.out.mono ?_)
        rintro en w5 ⟨rfl, hb5⟩
        have HB5 := Lib.hid hb5; clear hb5
        go_wp2_with (at_builtin; refine wpList_append_gen rfl _ _ 33 rfl 9 (str []) 1 16 Tryz.underlying33 Tryz.infoStrA rfl (by decide) (.slice sa (k + 1) sc) (k + 1) ((dec lv :: (ps.take k).map textB).map str) rfl ?c1 _ 1 [str (textB t)] rfl ?c2 ?c3 ?c4 ?_)
        case c1 => exact (HI.out.own.keep fun g o hg hh => by rw [HB5.out.block g (lt_of_heap hh)]; exact hh).alloc _
        case c2 => exact SrcSl.lit1 #[str (textB t)] rfl (by simp [Value.oneCell', str]) _ (by simp)
        case c3 => unfold maxLen; omega
        case c4 => omega
        intro a7 c7 w7 ho7 hb7 hg7
        have hz5 := HB5.out.size
        have hzb := HI.out.bel.size
        have hzr := HI.out.but.size
        have hN : TInv lv ps w w2 w4 (k + 1) (.slice a7 (k + 1 + 1) c7) w7 := by
          have hfr : ∀ g, (Value.slice sa (k + 1) sc).ownBlock = some g → w.heap.size ≤ g ∧ (g = w2.heap.size ∨ w4.heap.size ≤ g) := fun g hg => by
            have := HI.out.fr g hg
            exact ⟨by omega, this⟩
          refine ⟨?_, ?_, ?_, fun g hg => ?_⟩
          · have := ho7
            simpa [List.take_add_one, HT.out, List.map_take] using this
          · exact ((HI.out.bel.trans (HB5.out.mono hzb)).alloc (by omega) _).trans (hb7.toBelow (by rw [size_alloc]; omega) fun i hi e => by have := hfr i e; omega)
          · refine But.trans' ((HI.out.but.trans (But.ofBelow HB5.out)).alloc _) hb7 fun i hi e => ?_
            have h1 := (hfr i e).2
            rcases h1 with h | h
            · exact h
            · omega
          · rcases hg7 g hg with h | h
            · exact (hfr g h).2
            · exact .inr (by omega)
        have HN := Lib.hid hN; clear hN ho7 hb7 hg7
        go_wp2_with fail
        go_roundw
        case rel => exact ⟨k + 1, by omega, by go_num, HN.out⟩
        case measure => simp [intOf]; omega
      · obtain rfl : k = ps.length := by omega
        have ho := HI.out.own
        rw [List.take_length] at ho
        obtain ⟨g, cap, e, hcap, hglt, hlen, hcells⟩ := ho.strings (by omega)
        simp only [Value.slice.injEq] at e
        obtain ⟨rfl, _, rfl⟩ := e
        have hxl : ((dec lv :: ps.map textB).map fun t => (⟨t.toArray⟩ : ByteArray)).length = ps.length + 1 := by simp
        have hxm : (((dec lv :: ps.map textB).map fun t => (⟨t.toArray⟩ : ByteArray)).map (·.data.toList)) = dec lv :: ps.map textB := by simp [Function.comp_def]
        have hsep : (⟨#[32]⟩ : ByteArray).data.toList = [32] := rfl
        have CJ := Tryz.strings_Join g 0 sc ((dec lv :: ps.map textB).map fun t => (⟨t.toArray⟩ : ByteArray)) ⟨#[32]⟩ wr hcells hglt (by rw [hxl]; omega) (by rw [hxl]; omega) (by
          rw [hxm, hsep, Lib.join_cons, List.length_append, ← HQ.out.2.2.2.1]; have := HQ.out.2.2.2.2.1; have := HQ.out.1; omega)
        rw [hxl, hxm, hsep] at CJ
        have CJ := Lib.hid CJ
        have HJ := Lib.hid HQ.out.2.2.1
        have hjl : (Lib.join (dec lv :: ps.map textB) [32]).length ≤ 2000000 := by
          rw [Lib.join_cons, List.length_append, ← HQ.out.2.2.2.1]; have := HQ.out.2.2.2.2.1; have := HQ.out.1; omega
        clear ho hcells hxl hxm hsep
        generalize hjn : Lib.join (dec lv :: ps.map textB) [32] = jn at *
        go_wp2_with fail
        (with_reducible refine CJ.out.mono ?_)
        rintro en w8 ⟨rfl, hb8⟩
        have HB8 := Lib.hid (HI.out.bel.trans (hb8.mono HI.out.bel.size)); clear hb8
        go_wp2_with fail
        go_ret
        refine ⟨?_, HB8.out⟩
        rw [HJ.out]
        have e1 := str_add [40] jn
        have e2 := str_add ([40] ++ jn) [41]
        show Ending.returned (.string ((⟨([40] : Bs).toArray⟩ ++ ⟨jn.toArray⟩) ++ ⟨([41] : Bs).toArray⟩)) = _
        rw [e1, e2]

theorem text_any (n : Nat) : ∀ b, sizeB b ≤ n → n ≤ 100000 → lvB b → textSaid b := by
  induction n with
  | zero => intro b h _; have := sizeB_pos b; omega
  | succ n ih => exact fun b h hn hlv => text_step b (by omega) hlv (fun t h' hl' => ih t (by omega) (by omega) hl')

end Go.Proofs.YtibnnbdpfkgfhaaGreatDoor

/- The walks of impl's ApplyAll and ApplyOf. -/
namespace Go.Proofs.YtibnnbdpfkgfhaaGreatDoor
open Go.RowKit

/-- Texts, cell behind cell. -/
def TextsAt (w : World) (a : Option Addr) (xs : List Bs) : Prop := ∀ (k : Nat) (s : Bs), xs[k]? = some s → ∃ g o, a = some ⟨g, o, none⟩ ∧ w.cell? ⟨g, o + k, none⟩ = some (str s)

theorem applyMany_append : ∀ (xs ys : List Bs) (t : Ty) (m : Bd), applyMany t m (xs ++ ys) = (applyMany t m xs).bind fun x => applyMany x.1 x.2 ys
  | [], ys, t, m => rfl
  | l :: ls, ys, t, m => by
    simp only [List.cons_append, applyMany]
    cases h : applyOne t m l with
    | none => rfl
    | some x => simp only [Option.bind_some]; exact applyMany_append ls ys x.1 x.2
theorem applyMany_take {ls : List Bs} {k : Nat} {l : Bs} {t : Ty} {m : Bd} {x : Ty × Bd} (hl : ls[k]? = some l) (h : applyMany t m (ls.take k) = some x) : applyMany t m (ls.take (k + 1)) = applyOne x.1 x.2 l := by
  rw [List.take_add_one, hl, applyMany_append, h]
  simp only [Option.bind_some, Option.toList_some, applyMany]
  cases applyOne x.1 x.2 l with
  | none => rfl
  | some y => rfl
theorem applyMany_fail {ls : List Bs} {k : Nat} {t : Ty} {m : Bd} (h : applyMany t m (ls.take k) = none) : applyMany t m ls = none := by
  conv => lhs; rw [← List.take_append_drop k ls, applyMany_append, h]
  rfl
theorem rdTS_good {s l : Bs} {t : Ty} {b : Bd} (h : rdTS s l = some (t, b)) : Good t b := by
  unfold rdTS at h
  simp only [Option.bind_eq_bind, Option.bind_eq_some_iff] at h
  obtain ⟨t', h1, b', h2, h3⟩ := h
  simp at h3; obtain ⟨rfl, rfl⟩ := h3
  exact (rdStrat_good (rdKind_le h1) h2).1

/-- A text and whether there is one. -/
def TextPost (w : World) (o : Option Bs) (en : Ending) (w' : World) : Prop := en = .returned (.tuple #[str (o.getD []), .bool o.isSome]) ∧ Below w.heap.size w w'

/-- What holds at each round of ApplyAll's loop. -/
structure LInv (t0 : Ty) (m0 : Bd) (ls : List Bs) (w : World) (k : Nat) (kv mv : Value) (t : Ty) (m : Bd) (wr : World) : Prop where
  many : applyMany t0 m0 (ls.take k) = some (t, m)
  good : Good t m
  rk : Rep (w.heap.size ≤ ·) wr (encK t) kv
  rm : Rep (w.heap.size ≤ ·) wr (encB m) mv
  bel : Below w.heap.size w wr

set_option maxRecDepth 100000 in
set_option maxHeartbeats 4000000 in
theorem implAll_any (s m : Bs) (ls : List Bs) (sa : Option Addr) (sc : Nat) (w : World) (hg : Glob w) (he : GlobE w) (hs : Lim s.length) (hm : Lim m.length) (hls : ∀ l ∈ ls, Lim l.length) (hlen : Lim ls.length) (hat : TextsAt w sa ls) :
    Calls Tryz.prog 21 #[str s, str m, .slice sa ls.length sc] w (TextPost w (implAll s m ls)) := by
  have hll := hlen.le
  have C1 := Lib.hid (strategy_any s m w hg hs hm)
  have HP := Lib.hid (And.intro hg (And.intro he (And.intro hls hat))); clear hg he hls hat
  generalize hres : implAll s m ls = res at *
  unfold implAll at hres
  have HR := Lib.hid hres; clear hres
  go_enter Tryz.func21, Tryz.ntmps21
  go_wp2_with fail
  (with_reducible refine C1.out.mono ?_)
  rintro en w1 ⟨kv, bv, rfl, hb1, hn1, hy1⟩
  cases hq : rdTS s m with
  | none =>
    obtain rfl := hn1 hq
    have hr : res = none := by have := HR.out; rw [hq] at this; exact this.symm
    have HB := Lib.hid hb1; have HN := Lib.hid hr; clear hb1 hn1 hy1 hq hr
    go_wp2_with fail
    go_ret2
    rw [HN.out]
    exact ⟨rfl, HB.out⟩
  | some x =>
    obtain ⟨t0, m0⟩ := x
    obtain ⟨hrk, hrm⟩ := hy1 t0 m0 hq
    obtain ⟨kb, rfl⟩ := encK_ptr' hrk
    obtain ⟨mb, rfl⟩ := encB_ptr hrm
    have hres : res = (applyMany t0 m0 ls).map fun y => textB y.2 := by have := HR.out; rw [hq] at this; exact this.symm
    have HQ := Lib.hid (And.intro hres (rdTS_good hq))
    have HL0 := Lib.hid (show LInv t0 m0 ls w 0 (.pointer (some ⟨kb, 0, none⟩)) (.pointer (some ⟨mb, 0, none⟩)) t0 m0 w1 from ⟨rfl, rdTS_good hq, hrk, hrm, hb1⟩)
    clear hb1 hn1 hy1 hq hres hrk hrm
    go_wp2_with fail
    go_loopw [8, 9, 22] (fun kv mv i wr => ∃ (k : Nat) (t : Ty) (m : Bd), k ≤ ls.length ∧ i = .int .i64 k ∧ LInv t0 m0 ls w k kv mv t m wr) (fun _ _ i _ => ls.length - (intOf i).toNat)
    case atStart => exact ⟨0, t0, m0, Nat.zero_le _, rfl, HL0.out⟩
    case round =>
      rename_i wr
      obtain ⟨k, t, m, hk, rfl, hinv⟩ := hrel
      obtain ⟨tb, rfl⟩ := encK_ptr' hinv.rk
      obtain ⟨bb, rfl⟩ := encB_ptr hinv.rm
      have HI := Lib.hid hinv; clear hinv
      by_cases hlt : k < ls.length
      · obtain ⟨l, hl⟩ : ∃ l, ls[k]? = some l := ⟨_, List.getElem?_eq_getElem hlt⟩
        obtain ⟨g, o, e, hc⟩ := HP.out.2.2.2 k l hl
        subst e
        have q0 := (HI.out.bel.cell (World.block_lt_of_cell? w _ hc)).trans hc
        have C2 := Lib.hid (applyOf_any (w.heap.size ≤ ·) t m l _ _ wr (HP.out.1.below HI.out.bel) (HP.out.2.1.below HI.out.bel) HI.out.rk HI.out.rm HI.out.good (HP.out.2.2.1 l (List.mem_of_getElem? hl)))
        have HL := Lib.hid (applyMany_take hl HI.out.many); clear hc hl
        go_wp2_with fail
        (with_reducible refine C2.out.mono ?_)
        rintro en w2 ⟨kv2, bv2, rfl, hb2, hn2, hy2⟩
        cases hq : applyOne t m l with
        | none =>
          obtain rfl := hn2 hq
          have hr : res = none := by rw [HQ.out.1, applyMany_fail (k := k + 1) (HL.out.trans hq)]; rfl
          have HB := Lib.hid (HI.out.bel.trans (hb2.mono HI.out.bel.size)); have HN := Lib.hid hr; clear hb2 hn2 hy2 hq hr
          go_wp2_with fail
          go_ret2
          rw [HN.out]
          exact ⟨rfl, HB.out⟩
        | some x =>
          obtain ⟨hrk, hrm⟩ := hy2 x hq
          obtain ⟨kb2, rfl⟩ := encK_ptr' hrk
          obtain ⟨mb2, rfl⟩ := encB_ptr hrm
          have hzr := HI.out.bel.size
          have hN : LInv t0 m0 ls w (k + 1) (.pointer (some ⟨kb2, 0, none⟩)) (.pointer (some ⟨mb2, 0, none⟩)) x.1 x.2 w2 :=
            ⟨HL.out.trans hq, applyOne_good HI.out.good hq, hrk.weak fun i h => by rcases h with h | h <;> omega, hrm.weak fun i h => by rcases h with h | h <;> omega, HI.out.bel.trans (hb2.mono hzr)⟩
          have HN := Lib.hid hN; clear hN hb2 hn2 hy2 hq hrk hrm
          go_wp2_with fail
          go_roundw
          case rel => exact ⟨k + 1, x.1, x.2, by omega, by go_num, HN.out⟩
          case measure => simp [intOf]; omega
      · obtain rfl : k = ls.length := by omega
        have hmany := HI.out.many
        rw [List.take_length] at hmany
        have C3 := Lib.hid (text_any 200 m HI.out.good.size (by omega) HI.out.good.lv _ wr _ (HP.out.1.below HI.out.bel) HI.out.rm)
        have hr : res = some (textB m) := by rw [HQ.out.1, hmany]; rfl
        have HN := Lib.hid hr; clear hr hmany
        go_wp2_with fail
        (with_reducible refine C3.out.mono ?_)
        rintro en w3 ⟨rfl, hb3⟩
        have HB := Lib.hid (HI.out.bel.trans (hb3.mono HI.out.bel.size)); clear hb3
        go_wp2_with fail
        go_ret2
        rw [HN.out]
        exact ⟨rfl, HB.out⟩

set_option maxRecDepth 100000 in
theorem implOne_any (s m n : Bs) (w : World) (hg : Glob w) (he : GlobE w) (hs : Lim s.length) (hm : Lim m.length) (hn : Lim n.length) :
    Calls Tryz.prog 16 #[str s, str m, str n] w (TextPost w (implAll s m [n])) := by
  have hbA : Below w.heap.size w (w.alloc (.cells #[str n] 9)) := (Below.refl _ _).alloc (Nat.le_refl _) _
  have C : Calls Tryz.prog 21 #[str s, str m, .slice (some ⟨w.heap.size, 0, none⟩) 1 1] (w.alloc (.cells #[str n] 9)) (TextPost (w.alloc (.cells #[str n] 9)) (implAll s m [n])) := (implAll_any s m [n] (some ⟨w.heap.size, 0, none⟩) 1 (w.alloc (.cells #[str n] 9)) (hg.below hbA) (he.below hbA) hs hm (by simpa using hn) (by unfold Lim; simp) (fun k l h => by
    cases k with
    | zero => simp at h; subst h; exact ⟨_, _, rfl, by simp⟩
    | succ k => simp at h))
  have C := Lib.hid C
  have HB := Lib.hid hbA; clear hbA hg he
  generalize implAll s m [n] = r at *
  go_enter Tryz.func16, Tryz.ntmps16
  go_wp2_with fail
  (with_reducible refine C.out.mono ?_)
  rintro en w1 ⟨rfl, hb1⟩
  have HB1 := Lib.hid (HB.out.trans (hb1.mono HB.out.size)); clear hb1
  go_wp2_with fail
  go_ret2
  exact ⟨rfl, HB1.out⟩

end Go.Proofs.YtibnnbdpfkgfhaaGreatDoor

/- The walk of impl's reader of bodies where it reads a list. -/
import Derived.Test.YtmkgoacclgoidaaDoorW5
namespace Go.Proofs.YtmkgoacclgoidaaDoor
open Go.RowKit


set_option maxHeartbeats 4000000 in
theorem body_ask (d : Nat) (hd : d + 1 ≤ 1000) (ih : BodySaid d) (sr left : Nat) (levels : List Ty) (l : Bs) (lv : Value) (F : Nat → Prop) (w : World) (hg : Glob w) (hn : NotG sr)
    (hs : Scan sr [.int .i64 ((left + 1 : Nat) : Int)] 150 l w) (hl : left + 1 ≤ 1000) (hr : Lim l.length) (hh : HandOk (d + 1) levels)
    (hlv : Rep F w (.sl 64 1 levels.length (encKs levels)) lv) (hF : ∀ b, F b → b ≠ sr) (r1 : Bs) (v : Nat) (t : Ty) (h1 : Cut [40] l r1) (hlvl : lvl (wordOf r1) levels.length = some v) (ht : levels[v]? = some t) :
    Calls Tryd.prog 77 #[.pointer (some ⟨sr, 0, none⟩), lv, .int .i64 ((d : Int) + 1)] w (BPost sr w (rdB (d + 1) levels (left + 1) l)) := by
  have HM := Lib.hid (rdB_ask (d + 1) levels left h1.out)
  have hm : rdB (d + 1) levels (left + 1) l = rdAsk (rdB d) levels v t left (wordRest r1) := by rw [HM.out, hlvl]; simp only [ht]
  have HM := Lib.hid hm; clear hm
  rw [rdAsk_eq] at HM
  have IH := Lib.hid ih; clear ih
  obtain ⟨hvl, hok, hit⟩ := lvl_lt hlvl
  have hok' := Lib.hid hok; have hit' := Lib.hid hit; have hlvl' := Lib.hid hlvl; have HT := Lib.hid ht
  have c1 := hs.cell1
  have f1 := hs.free 1
  have lsr := scan_lt hs
  have lsr1 : sr < w.heap.size + 1 := by omega
  have lsr2 : sr < w.heap.size + 1 + 1 := by omega
  -- the levels, opened
  obtain ⟨a0, k0, elv, _, _, hat⟩ := Rep_sl1_open hlv
  obtain ⟨bl, ol, u, dv, ea, hFl, _, hdv, hcl, hru⟩ := hat v hvl
  rw [encKs_at, ht] at hdv
  simp only [Option.map_some, Option.some.injEq] at hdv
  subst hdv; subst ea; subst elv
  obtain ⟨bt, st, eu, hFt, hct, hst⟩ := encK_open hru
  subst eu
  obtain ⟨sa, ks, est, hks, _, hats⟩ := Rep_sl1_open hst
  subst est
  have hctc : w.cell? ⟨bt, 0, none⟩ = some (.slice sa t.args.length ks) := by simp [World.cell?, hct]
  have nl := hF bl hFl
  have nt := hF bt hFt
  have HF := Lib.hid hF; have HATS := Lib.hid hats
  have CL := Lib.hid hcl; have CT := Lib.hid hctc
  clear hok hit hlvl ht hat hru hct hst hF hats hcl hctc
  have hlen : levels.length ≤ 10000 := by have := hh.2; omega
  have hta : t.args.length ≤ 15 := by
    have h1 := hh.1 t (List.mem_of_getElem? HT.out)
    have h2 := atomsT_mk t
    have hlen : ∀ ts : List Ty, ts.length ≤ atomsTs ts := by
      intro ts
      induction ts with
      | nil => simp
      | cons x xs ih => simp [atomsTs]; omega
    have := hlen t.args; omega
  go_enter Tryd.func77, Tryd.ntmps77
  go_wp2_with fail
  obtain ⟨W0, hW0⟩ : ∃ W0, W0 = ((((w.setCell ⟨sr, 1, none⟩ (.int .i64 left)).alloc (.cells #[.pointer (some ⟨sr, 0, none⟩)] 148)).alloc (.cells #[.slice (some ⟨bl, ol, none⟩) levels.length k0] 94)).alloc (.cells #[.int .i64 ((d : Int) + 1)] 3)) := ⟨_, rfl⟩
  rw [← hW0]
  have hb0 : But (fun x => x = sr) w W0 := by subst hW0; exact ((((But.refl _ _).setS 1 _).alloc _).alloc _).alloc _
  have hs0 : Scan sr [.int .i64 left] 150 l W0 := by subst hW0; exact ((hs.put1).alloc _).alloc _ |>.alloc _
  have hx0 : Boxes w.heap.size sr (.slice (some ⟨bl, ol, none⟩) levels.length k0) (d + 1) W0 := by subst hW0; refine ⟨?_, ?_, ?_⟩ <;> go_simp
  have z0 : W0.heap.size = w.heap.size + 3 := by subst hW0; simp
  clear hW0 c1 f1
  refine (take_yes hs0 h1).mono ?_
  rintro en w1 ⟨rfl, hb1, hs1⟩
  have hx1 := hx0.but hb1 (fun i e => by subst e; omega)
  have hb := hb0.trans hb1
  have z1 := hb1.size
  clear hb0 hb1 hs0 hx0
  obtain ⟨x1, x2, x3⟩ := id hx1
  go_wp2_with fail
  refine (word_any _ _ _ _ _ hs1 (hr.mono h1.le)).mono ?_
  rintro en w2 ⟨rfl, hb2, hs2⟩
  have hr1 := hr.mono h1.le
  have hwl := hr1.mono (show (wordOf r1).length ≤ r1.length by have := word_le r1; omega)
  have hx2 := hx1.but hb2 (fun i e => by subst e; omega)
  have hb' := hb.trans hb2
  have z2 := hb2.size
  have hg2 := hg.but hb' (fun i e => by subst e; exact hn)
  clear x1 x2 x3 hb hb2 hs1 hx1
  go_wp2_with fail
  refine (atoi_ok _ _ hwl (v : Int) hok'.out).mono ?_
  rintro en w3 ⟨rfl, hb3⟩
  have z3 := hb3.size
  have hg3 := hg2.below hb3
  have hs3 := (hb3.block sr (by omega)).trans hs2
  have hx3 := hx2.but (But.ofBelow (m := fun _ => False) hb3) (fun i e => e.elim)
  have hb := hb'.trans (But.ofBelow hb3)
  clear hb' hb3 hs2 hx2 hg2
  go_wp2_with fail
  refine (itoa_of hok'.out w3 hg3).mono ?_
  rintro en w4 ⟨rfl, hb4⟩
  have z4 := hb4.size
  have hs4 := (hb4.block sr (by omega)).trans hs3
  have hg4 := hg3.below hb4
  have hx4 := hx3.but (But.ofBelow (m := fun _ => False) hb4) (fun i e => e.elim)
  obtain ⟨x1, x2, x3⟩ := id hx4
  have hb' := hb.trans (But.ofBelow hb4)
  have hq : (Lib.itoa (v : Int) == wordOf r1) = true := by rw [beq_iff_eq]; exact hit'.out
  have hv0 : decide ((v : Int) < 0) = false := by rw [decide_eq_false_iff_not]; omega
  have hv1 : decide (levels.length ≤ v) = false := by rw [decide_eq_false_iff_not]; omega
  have hd0 : (((d : Int) + 1) == 0) = false := by rw [beq_eq_false_iff_ne]; omega
  have s1 : w.heap.size + 1 < w4.heap.size := by omega
  have s2 : w.heap.size < w4.heap.size := by omega
  have s3 : w.heap.size + 1 + 1 < w4.heap.size := by omega
  have d1 : w4.cell? ⟨bl, ol + v, none⟩ = some (.pointer (some ⟨bt, 0, none⟩)) := by rw [hb'.cell (World.block_lt_of_cell? w _ CL.out) nl]; exact CL.out
  have d2 : w4.cell? ⟨bt, 0, none⟩ = some (.slice sa t.args.length ks) := by rw [hb'.cell (World.block_lt_of_cell? w _ CT.out) nt]; exact CT.out
  have d3 := World.block_lt_of_cell? w4 _ d1
  have d4 := World.block_lt_of_cell? w4 _ d2
  clear hb hb4 hs3 hx3 hg3
  go_wp2_with fail
  have hrel0 : BodyRel sr w.heap.size w4.heap.size (w4.heap.size + 1) v d (.slice (some ⟨bl, ol, none⟩) levels.length k0) levels t.args left (wordRest r1) w (rdB d) 0
      (w4.alloc (.cells #[.string ⟨#[]⟩, .int .i64 v, .slice none 0 0, .pointer none, .pointer none] 118)) := by
    refine ⟨[], wordRest r1, left, .slice none 0 0, [], by simp [hands, rdParts], hb'.alloc _, Scan.alloc hs4 _, heap_new _ _, World.ownsRow_nil _ _ _ _, fun g h => by simp [Value.ownBlock] at h, Reps_nil.2 rfl, hx4.but ((But.refl (fun _ => False) _).alloc _) (fun i e => e.elim), by simp⟩
  have hz4 : w.heap.size + 1 + 1 < w4.heap.size := s3
  clear x1 x2 x3 d1 d2 d3 d4 hx4 hs4 hb' hg4
  generalize hZ : w4.heap.size + 1 = Z at hrel0
  generalize hO : w4.heap.size = ob at *
  have HZ := Lib.hid hZ; clear hZ
  have HO := Lib.hid hO; clear hO
  go_loopw [93] (fun i wr => ∃ k : Nat, k ≤ t.args.length ∧ i = .int .i64 k ∧ BodyRel sr w.heap.size ob Z v d (.slice (some ⟨bl, ol, none⟩) levels.length k0) levels t.args left (wordRest r1) w (rdB d) k wr)
    (fun i _ => t.args.length - (intOf i).toNat)
  case atStart => exact ⟨0, Nat.zero_le _, rfl, hrel0⟩
  case round =>
    clear hrel0
    rename_i wr
    obtain ⟨k, hk, rfl, hrel⟩ := hrel
    obtain ⟨bs, lk, leftk, slv, vs, hp, hb, hsk, hnb, hown, hZb, hrs, hbx, hzr⟩ := hrel
    have hple := rdParts_le (rdB_le d) _ hp
    have hle1 : leftk ≤ 1000 := by omega
    have hwr := wordRest_le r1
    have hlimk : Lim lk.length := hr.mono (by have := h1.le; omega)
    have hgk : Glob wr := hg.but hb (fun i e => by subst e; exact hn)
    have hlvk : Rep F wr (.sl 64 1 levels.length (encKs levels)) (.slice (some ⟨bl, ol, none⟩) levels.length k0) := Rep.but hb (fun b hb => ⟨HF.out b hb, hb⟩) hlv
    have hp' := Lib.hid hp; have HZb := Lib.hid hZb; clear hp hZb hple
    by_cases hlt : k < t.args.length
    · obtain ⟨ba, oa, uk, dk, esa, hFa, _, hdk, hck, hrk⟩ := HATS.out k hlt
      subst esa
      rw [encKs_at, Option.map_eq_some_iff] at hdk
      obtain ⟨tk, htk, rfl⟩ := hdk
      obtain ⟨bk, sk, euk, hFk, hchk, hslk⟩ := encK_open hrk
      subst euk
      obtain ⟨ask, ksk, esk⟩ : ∃ a c, sk = .slice a tk.args.length c := by obtain ⟨a, c, e, _⟩ := Rep_sl1_open hslk; exact ⟨a, c, e⟩
      subst esk
      have e1 : wr.cell? ⟨ba, oa + k, none⟩ = some (.pointer (some ⟨bk, 0, none⟩)) := by rw [hb.cell (World.block_lt_of_cell? w _ hck) (HF.out ba hFa)]; exact hck
      have e2 : wr.cell? ⟨bk, 0, none⟩ = some (.slice ask tk.args.length ksk) := by
        have : w.cell? ⟨bk, 0, none⟩ = some (.slice ask tk.args.length ksk) := by simp [World.cell?, hchk]
        rw [hb.cell (World.block_lt_of_cell? w _ this) (HF.out bk hFk)]; exact this
      have hslk' : Rep F wr (.sl 64 1 tk.args.length (encKs tk.args)) (.slice ask tk.args.length ksk) := Rep.but hb (fun b hb => ⟨HF.out b hb, hb⟩) hslk
      have hhk : HandOk d (levels ++ tk.args) := hh.next HT.out (List.mem_of_getElem? htk)
      have HTK := Lib.hid htk
      clear htk hck hchk hrk hslk
      obtain ⟨y1, y2, y3⟩ := id hbx
      go_wp2_with fail
      refine (part_any d IH.out sr leftk levels tk.args lk _ _ F wr w.heap.size (w.heap.size + 1) (w.heap.size + 1 + 1) hgk hn hsk hle1 hlimk hhk (by omega) hlvk hslk' HF.out y1 y2 y3 (by omega) (by omega) (by omega)).mono ?_
      rintro en w5 ⟨vb, r', left', rfl, hb5, hs5, hn5, hy5⟩
      clear y1 y2 y3 e1 e2
      cases hq : rdPart (rdB d) (levels ++ tk.args) leftk lk with
      | none =>
        obtain rfl := hn5 hq
        have HQ := Lib.hid hq; clear hq hn5 hy5
        go_wp2_with fail
        go_ret
        refine BPost.no ?_ (hb.trans hb5) hs5
        rw [HM.out, hands_none (k + 1) (by rw [hands_next HTK.out hp'.out, HQ.out]; rfl)]; rfl
      | some x =>
        obtain ⟨b, rest, left2⟩ := x
        obtain ⟨rfl, rfl, hv5⟩ := hy5 b rest left2 hq
        have HQ := Lib.hid hq; clear hq hn5 hy5
        obtain ⟨ab, evb⟩ := encB_ptr hv5
        subst evb
        have hnb5 : NewB ob v slv (.pointer none) (.pointer none) w5 := (hb5.block ob (lt_of_heap hnb) (by have := HO.out; omega)).trans hnb
        obtain ⟨q1, _, _, q4, q5⟩ := hnb5.cells
        have q6 := q5 2
        have hown5 : Own w5 65 1 slv k vs := hown.keep fun g o hg' ho => by rw [hb5.block g (lt_of_heap ho) (by have := HZb.out g hg'; have := HZ.out; omega)]; exact ho
        clear q5
        go_wp2_with (at_builtin; refine wpList_append_gen rfl _ _ 97 rfl 65 (.pointer none) 1 8 Tryd.underlying97 Tryd.infoB rfl (by decide) slv k vs rfl ?c1 _ 1 [.pointer (some ⟨ab, 0, none⟩)] rfl ?c2 ?c3 ?c4 ?_)
        case c1 => exact hown5.keep fun g o hg' ho => heap_past ho
        case c2 => exact SrcSl.lit rfl
        case c3 => unfold maxLen; omega
        case c4 => omega
        intro a' c' w6 hown' hb6 hg'
        have hnb6 : NewB ob v slv (.pointer none) (.pointer none) w6 := by
          unfold NewB; rw [hb6.block ob (by simp; omega) (fun e => by have := HZb.out ob e; have := HZ.out; omega)]
          exact heap_past hnb5
        have hnext := BodyRel.next HTK.out hp'.out hb hnb HZb.out hown hrs hbx hzr HQ.out hb5 hs5 hv5 hown' hb6 (fun g h => (hg' g h).imp_right fun e => e.trans (by simp)) lsr (Nat.le_refl _) hz4 (by have := HZ.out; omega)
        obtain ⟨p1, _, _, p4, p5⟩ := hnb6.cells
        have p6 := p5 2
        have HG := Lib.hid hg'; clear hg' p5
        go_wp2_with fail
        go_roundw
        case rel => exact ⟨k + 1, by omega, by go_num, hnext⟩
        case measure => simp [intOf]; omega
    · obtain rfl : k = t.args.length := by omega
      have hp : rdParts (rdB d) (hands levels t.args) left (wordRest r1) = some (bs, lk, leftk) := by have := hp'.out; rwa [List.take_length] at this
      have HP := Lib.hid hp; clear hp hp' hlt hk
      have hnil : ∀ W : World, Rep F W (.sl 64 1 ([] : List Ty).length (encKs [])) (.slice none 0 0) := fun W => Rep_sl.2 ⟨rfl, none, 0, rfl, Nat.le_refl _, fun _ => rfl, .inl rfl⟩
      have hh0 := hh.same
      have HNIL := Lib.hid hnil; clear hnil
      obtain ⟨y1, y2, y3⟩ := id hbx
      go_wp2_with fail
      refine (part_any d IH.out sr leftk levels [] lk _ _ F wr w.heap.size (w.heap.size + 1) (w.heap.size + 1 + 1) hgk hn hsk hle1 hlimk hh0 (by omega) hlvk (HNIL.out wr) HF.out y1 y2 y3 (by omega) (by omega) (by omega)).mono ?_
      rw [List.append_nil] at *
      rintro en w5 ⟨vb, r', left', rfl, hb5, hs5, hn5, hy5⟩
      clear y1 y2 y3
      have hnb5 : NewB ob v slv (.pointer none) (.pointer none) w5 := (hb5.block ob (lt_of_heap hnb) (by have := HO.out; omega)).trans hnb
      have hbx5 := hbx.but hb5 (fun i e => by subst e; omega)
      have hbA := hb.trans hb5
      have z5 := hb5.size
      have zr := hb.size
      obtain ⟨_, q2, _, q4, q5⟩ := hnb5.cells
      have q6 := q5 3; clear q5
      cases hq : rdPart (rdB d) levels leftk lk with
      | none =>
        obtain rfl := hn5 hq
        have HQ := Lib.hid hq; clear hq hn5 hy5
        go_wp2_with fail
        go_ret
        refine BPost.no ?_ (hbA.setCell (p := ⟨ob, 3, none⟩) (.inr (by simp; omega)) _) (r := r') (left := left') ?_
        · rw [HM.out]; simp only [HP.out, Option.bind_eq_bind, Option.bind_some, HQ.out, Option.bind_none]
        · unfold Scan; rw [Below.heap_setCell _ _ _ _ (by simp; omega)]; exact hs5
      | some x =>
        obtain ⟨by1, rest1, left1⟩ := x
        obtain ⟨rfl, rfl, hv5⟩ := hy5 _ _ _ hq
        have hle5 := rdPart_le (rdB_le d) hq
        have HQ := Lib.hid hq; clear hq hn5 hy5
        obtain ⟨ab, evb⟩ := encB_ptr hv5
        subst evb
        have hnbA := hnb5.put3 (u := .pointer (some ⟨ab, 0, none⟩))
        obtain ⟨WA, hWA⟩ : ∃ WA, WA = w5.setCell ⟨ob, 3, none⟩ (.pointer (some ⟨ab, 0, none⟩)) := ⟨_, rfl⟩
        go_wp2_with fail
        rw [← hWA] at hnbA ⊢
        have hbB : But (fun x => x = sr) w WA := by subst hWA; exact hbA.setCell (p := ⟨ob, 3, none⟩) (.inr (by simp; omega)) _
        have kA : ∀ i x, w5.heap[i]? = some x → i ≠ ob → WA.heap[i]? = some x := by
          intro i x hx hne; subst hWA; rw [Below.heap_setCell _ _ _ _ (by simpa using hne)]; exact hx
        have zA : WA.heap.size = w5.heap.size := by subst hWA; simp [World.setCell]
        have hsA : Scan sr [.int .i64 (left1 : Nat)] 150 r' WA := kA _ _ hs5 (by omega)
        have hbxA : Boxes w.heap.size sr (.slice (some ⟨bl, ol, none⟩) levels.length k0) (d + 1) WA := by
          subst hWA
          exact hbx5.but (m := fun i => i = ob) ((But.refl (fun i => i = ob) w5).setCell (p := ⟨ob, 3, none⟩) (.inl rfl) _) (fun i e => by subst e; omega)
        have hrsA : Reps (fun b => Z ≤ b ∧ slv.ownBlock ≠ some b) WA (encBs bs) vs :=
          (Rep.keep fun i x hi hx => ⟨hi, kA i x (by rw [hb5.block i (lt_of_heap hx) (by have := HZ.out; omega)]; exact hx) (by have := HZ.out; omega)⟩).2 _ _ hrs
        have hownA : Own WA 65 1 slv t.args.length vs := hown.keep fun g o hg' ho => kA g o (by rw [hb5.block g (lt_of_heap ho) (by have := HZb.out g hg'; have := HZ.out; omega)]; exact ho) (by have := HZb.out g hg'; have := HZ.out; omega)
        have hv5A : Rep (wr.heap.size ≤ ·) WA (encB by1) (.pointer (some ⟨ab, 0, none⟩)) := (Rep.keep fun i x hi hx => ⟨hi, kA i x hx (by have := lt_of_heap hnb; have := hi; omega)⟩).1 _ _ hv5
        have hgA : Glob WA := hg.but hbB (fun i e => by subst e; exact hn)
        have hlvA : Rep F WA (.sl 64 1 levels.length (encKs levels)) (.slice (some ⟨bl, ol, none⟩) levels.length k0) := Rep.but hbB (fun b hb => ⟨HF.out b hb, hb⟩) hlv
        have KA := Lib.hid kA
        clear hWA kA q2 q4 q6 hnb5 hb5 hbx5 hs5 hrs hv5 hsk hbx hlvk hgk
        obtain ⟨y1, y2, y3⟩ := id hbxA
        refine (part_any d IH.out sr left1 levels [] r' _ _ F WA w.heap.size (w.heap.size + 1) (w.heap.size + 1 + 1) hgA hn hsA (by omega) (hlimk.mono (by omega)) (by rw [List.append_nil]; exact hh0) (by omega) hlvA (HNIL.out WA) HF.out y1 y2 y3 (by omega) (by omega) (by omega)).mono ?_
        rw [List.append_nil] at *
        rintro en w6 ⟨vn, r6, left6, rfl, hb6, hs6, hn6, hy6⟩
        clear y1 y2 y3
        have hnb6 : NewB ob v slv (.pointer (some ⟨ab, 0, none⟩)) (.pointer none) w6 := (hb6.block ob (lt_of_heap hnbA) (by have := HO.out; omega)).trans hnbA
        have hbx6 := hbxA.but hb6 (fun i e => by subst e; omega)
        obtain ⟨x1, _, _⟩ := id hbx6
        have hbC := hbB.trans hb6
        have z6 := hb6.size
        obtain ⟨_, _, q3, q4, q5⟩ := hnb6.cells
        have q6 := q5 4; clear q5
        cases hq2 : rdPart (rdB d) levels left1 r' with
        | none =>
          obtain rfl := hn6 hq2
          have HQ2 := Lib.hid hq2; clear hq2 hn6 hy6
          go_wp2_with fail
          go_ret
          refine BPost.no ?_ (hbC.setCell (p := ⟨ob, 4, none⟩) (.inr (by simp; omega)) _) (r := r6) (left := left6) ?_
          · rw [HM.out]; simp only [HP.out, Option.bind_eq_bind, Option.bind_some, HQ.out, HQ2.out, Option.bind_none]
          · unfold Scan; rw [Below.heap_setCell _ _ _ _ (by simp; omega)]; exact hs6
        | some x =>
          obtain ⟨bn, rest2, left2⟩ := x
          obtain ⟨rfl, rfl, hv6⟩ := hy6 _ _ _ hq2
          have hle6 := rdPart_le (rdB_le d) hq2
          have HQ2 := Lib.hid hq2; clear hq2 hn6 hy6
          obtain ⟨an, evn⟩ := encB_ptr hv6
          subst evn
          have hnbD := hnb6.put4 (u := .pointer (some ⟨an, 0, none⟩))
          have hbD : But (fun x => x = sr) w (w6.setCell ⟨ob, 4, none⟩ (.pointer (some ⟨an, 0, none⟩))) := hbC.setCell (p := ⟨ob, 4, none⟩) (.inr (by simp; omega)) _
          have hsD : Scan sr [.int .i64 (left2 : Nat)] 150 r6 (w6.setCell ⟨ob, 4, none⟩ (.pointer (some ⟨an, 0, none⟩))) := by
            unfold Scan; rw [Below.heap_setCell _ _ _ _ (by simp; omega)]; exact hs6
          go_wp2_with fail
          rcases cut_cases [41] r6 with h7 | ⟨r7, h7⟩
          · refine (take_no hsD h7).mono ?_
            rintro en w7 ⟨rfl, hb7, hs7⟩
            go_wp2_with fail
            go_ret
            refine BPost.no ?_ (hbD.trans hb7) hs7
            rw [HM.out]; simp only [HP.out, Option.bind_eq_bind, Option.bind_some, HQ.out, HQ2.out, h7.out, Option.bind_none]
          refine (take_yes hsD h7).mono ?_
          rintro en w7 ⟨rfl, hb7, hs7⟩
          go_wp2_with fail
          go_ret
          refine BPost.yes (b := .ask v bs by1 bn) (r := r7) (left := left2) ?_ (hbD.trans hb7) hs7 ?_
          · rw [HM.out]; simp only [HP.out, Option.bind_eq_bind, Option.bind_some, HQ.out, HQ2.out, h7.out]
          · have keep7 : ∀ i x, w6.heap[i]? = some x → i ≠ ob → i ≠ sr → w7.heap[i]? = some x := by
              intro i x hx hne hns
              rw [hb7.block i (by have := lt_of_heap hx; simpa [World.setCell] using this) hns, Below.heap_setCell _ _ _ _ (by simpa using hne)]; exact hx
            have keepA : ∀ i x, WA.heap[i]? = some x → i ≠ ob → i ≠ sr → w7.heap[i]? = some x := fun i x hx hne hns => keep7 i x (by rw [hb6.block i (lt_of_heap hx) hns]; exact hx) hne hns
            have hnb7 : NewB ob v slv (.pointer (some ⟨ab, 0, none⟩)) (.pointer (some ⟨an, 0, none⟩)) w7 := (hb7.block ob (lt_of_heap hnbD) (by omega)).trans hnbD
            have hZo := HZ.out
            have hbl : bs.length = t.args.length := by
              have := (rdParts_le (rdB_le d) _ HP.out).2.2; simpa [hands] using this
            rw [encB, Rep_ptr]
            refine ⟨ob, _, rfl, by omega, hnb7, ?_⟩
            refine Reps_cons.2 ⟨_, _, rfl, Rep_val.2 rfl, Reps_cons.2 ⟨_, _, rfl, Rep_val.2 rfl, Reps_cons.2 ⟨_, _, rfl, ?_, Reps_cons.2 ⟨_, _, rfl, ?_, Reps_cons.2 ⟨_, _, rfl, ?_, Reps_nil.2 rfl⟩⟩⟩⟩⟩
            · rw [hbl]
              refine (hownA.keep fun g o hg' ho => keepA g o ho (by have := HZb.out g hg'; omega) (by have := HZb.out g hg'; omega)).rep (fun g hg' => by have := HZb.out g hg'; omega) ?_
              exact (Rep.keep fun i x hi hx => ⟨by omega, keepA i x hx (by omega) (by omega)⟩).2 _ _ hrsA
            · exact (Rep.keep fun i x hi hx => ⟨by have := hi; omega, keepA i x hx (by have := hi; omega) (by have := hi; omega)⟩).1 _ _ hv5A
            · exact (Rep.keep fun i x hi hx => ⟨by have := hi; omega, keep7 i x hx (by have := hi; omega) (by have := hi; omega)⟩).1 _ _ hv6

end Go.Proofs.YtmkgoacclgoidaaDoor

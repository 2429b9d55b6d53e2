/- The walk of the reference's l5Is. -/
import Derived.Test.YtohepefbogngfaaDoorS29
namespace Go.Proofs.YtohepefbogngfaaDoor
open Go.RowKit

theorem AtTrs.some {F : Nat → Prop} {w : World} {bs : List Tr} {a : Option Addr} (h : AtTrs F w bs a) (hp : 0 < bs.length) : ∃ bb o, a = .some ⟨bb, o, none⟩ ∧ bb < w.heap.size := by
  obtain ⟨b, o, _, _, _, _, _, e, hb, _⟩ := h 0 hp
  exact ⟨b, o, e, hb⟩
theorem AtTrs.get {F : Nat → Prop} {w : World} {bs : List Tr} {bb o : Nat} (h : AtTrs F w bs (.some ⟨bb, o, none⟩)) {k : Nat} {t : Tr} (ht : bs[k]? = .some t) :
    ∃ a2 c2, w.cell? ⟨bb, o + k * 2, none⟩ = .some (str (atomTr t)) ∧ w.cell? ⟨bb, o + k * 2 + 1, none⟩ = .some (.slice a2 (kidsTr t).length c2) ∧ Reps F w (encTr t) [str (atomTr t), .slice a2 (kidsTr t).length c2] := by
  obtain ⟨b, o', s, a2, n2, c2, d, e, hb, hd, u0, u1, hr, es, en⟩ := h k (List.getElem?_eq_some_iff.1 ht).1
  simp only [Option.some.injEq, Addr.mk.injEq, and_true] at e
  obtain ⟨rfl, rfl⟩ := e
  rw [ht] at hd
  obtain rfl := Option.some.inj hd
  subst es; subst en
  exact ⟨a2, c2, u0, u1, hr⟩

theorem isTr_no3 {ps : List Tr} (h : headTr ps = appW) (hl : ps.length ≠ 3) : isTr (.ls ps) = false := by
  match ps with
  | [] => exact (isTr.eq_def _).trans rfl
  | [a] => exact (isTr.eq_def _).trans rfl
  | [a, b] => exact (isTr.eq_def _).trans rfl
  | [a, b, c] => simp at hl
  | [a, b, c, d] =>
    have h' : headTr [a] = appW := by cases a <;> exact h
    rw [isTr, h']; rfl
  | a :: b :: c :: d :: e :: ps => exact (isTr.eq_def _).trans rfl
theorem isTr_no4 {ps : List Tr} (h : headTr ps = lamW ∨ headTr ps = ifW) (hl : ps.length ≠ 4) : isTr (.ls ps) = false := by
  match ps with
  | [] => exact (isTr.eq_def _).trans rfl
  | [a] => exact (isTr.eq_def _).trans rfl
  | [a, b] => exact (isTr.eq_def _).trans rfl
  | [a, b, c] =>
    have h' : headTr [a] = lamW ∨ headTr [a] = ifW := by cases a <;> exact h
    rw [isTr]
    rcases h' with h' | h' <;> (rw [h']; rfl)
  | [a, b, c, d] => simp at hl
  | a :: b :: c :: d :: e :: ps => exact (isTr.eq_def _).trans rfl
theorem isTr_noW {ps : List Tr} (h1 : headTr ps ≠ lamW) (h2 : headTr ps ≠ appW) (h3 : headTr ps ≠ ifW) : isTr (.ls ps) = false := by
  match ps with
  | [] => exact (isTr.eq_def _).trans rfl
  | [a] => exact (isTr.eq_def _).trans rfl
  | [a, b] => exact (isTr.eq_def _).trans rfl
  | [a, b, c] =>
    have h' : headTr [a] ≠ appW := by cases a <;> exact h2
    rw [isTr, beq_false_of_ne h']; rfl
  | [a, b, c, d] =>
    have h' : headTr [a] ≠ lamW := by cases a <;> exact h1
    have h'' : headTr [a] ≠ ifW := by cases a <;> exact h3
    rw [isTr, beq_false_of_ne h', beq_false_of_ne h'']; rfl
  | a :: b :: c :: d :: e :: ps => exact (isTr.eq_def _).trans rfl
theorem isTr_lam {a b c d : Tr} (h : headTr [a, b, c, d] = lamW) : isTr (.ls [a, b, c, d]) = (nameB (atomTr b) && (specType (textTr c)).2 && isTr d) := by
  have h' : headTr [a] = lamW := by cases a <;> exact h
  rw [isTr, h']
  have e1 : (lamW == lamW) = true := by decide
  have e2 : (lamW == ifW) = false := by decide
  rw [e1, e2, Bool.true_and, Bool.false_and, Bool.or_false, Bool.and_assoc]
theorem isTr_if {a b c d : Tr} (h : headTr [a, b, c, d] = ifW) : isTr (.ls [a, b, c, d]) = (isTr b && isTr c && isTr d) := by
  have h' : headTr [a] = ifW := by cases a <;> exact h
  rw [isTr, h']
  have e1 : (ifW == lamW) = false := by decide
  have e2 : (ifW == ifW) = true := by decide
  rw [e1, e2, Bool.true_and, Bool.false_and, Bool.false_or]
theorem isTr_app {a b c : Tr} (h : headTr [a, b, c] = appW) : isTr (.ls [a, b, c]) = (isTr b && isTr c) := by
  have h' : headTr [a] = appW := by cases a <;> exact h
  rw [isTr, h']
  have e2 : (appW == appW) = true := by decide
  rw [e2, Bool.true_and]

def IsTrSaid (b : Tr) : Prop := ∀ (F : Nat → Prop) (w : World) (s v : Value), Reps F w (encTr b) [s, v] →
  Calls Tryd.prog 37 #[.agg #[s, v]] w fun en w' => en = .returned (.bool (isTr b)) ∧ Below w.heap.size w w'

/-- What is at hand of a part: its cells wherever nothing old has changed. -/
structure PartAt (F : Nat → Prop) (w : World) (bb o k : Nat) (t : Tr) (a2 : Option Addr) (c2 : Nat) : Prop where
  blk : bb < w.heap.size
  c0 : w.cell? ⟨bb, o + k, none⟩ = .some (str (atomTr t))
  c1 : w.cell? ⟨bb, o + (k + 1), none⟩ = .some (.slice a2 (kidsTr t).length c2)
  rp : Reps F w (encTr t) [str (atomTr t), .slice a2 (kidsTr t).length c2]
theorem PartAt.below {F : Nat → Prop} {w w' : World} {bb o k : Nat} {t : Tr} {a2 : Option Addr} {c2 : Nat} (h : PartAt F w bb o k t a2 c2) (hb : Below w.heap.size w w') : PartAt F w' bb o k t a2 c2 :=
  ⟨Nat.lt_of_lt_of_le h.blk hb.size, (hb.cell (by exact h.blk)).trans h.c0, (hb.cell (by exact h.blk)).trans h.c1, Reps.below hb (fun _ h => h) h.rp⟩
theorem AtTrs.part {F : Nat → Prop} {w : World} {bs : List Tr} {bb o : Nat} (h : AtTrs F w bs (.some ⟨bb, o, none⟩)) (hb : bb < w.heap.size) {k : Nat} {t : Tr} (ht : bs[k]? = .some t) : ∃ a2 c2, PartAt F w bb o (k * 2) t a2 c2 := by
  obtain ⟨a2, c2, u0, u1, hr⟩ := h.get ht
  exact ⟨a2, c2, hb, u0, u1, hr⟩

set_option maxRecDepth 100000 in
set_option maxHeartbeats 4000000 in
theorem l5Is_step (b : Tr) (ho : okTr b) (hl : Lim (textTr b).length) (ih : ∀ b', (textTr b').length < (textTr b).length → okTr b' → IsTrSaid b') : IsTrSaid b := by
  intro F w s v hv
  have hvv := Lib.hid hv
  have CH := Lib.hid (fun wz (hb : Below w.heap.size w wz) => l5Head_any b ho F wz s v (Reps.below hb (fun _ h => h) hvv.out))
  obtain ⟨a2, c2, e, hk⟩ := encTr_open hv
  simp only [List.cons.injEq, and_true] at e
  obtain ⟨rfl, rfl⟩ := e
  cases b with
  | am a =>
    have ha := am_ne ho
    have hla : Lim a.length := hl.mono (by rw [textTr]; exact Nat.le_refl _)
    have CN := Lib.hid (fun wz => l5Name_any a wz hla)
    have HI := Lib.hid (show isTr (.am a) = (leafW a || nameB a) by rw [isTr])
    clear hv hk ih hl hla CH hvv ho
    simp only [atomTr, kidsTr]
    by_cases h1 : a = [116]
    · subst h1
      go_enter Tryd.func37, Tryd.ntmps37
      go_wp2_with fail
      go_ret
      exact ⟨by rw [HI.out]; rfl, (Below.refl _ _).alloc (Nat.le_refl _) _⟩
    by_cases h2 : a = [102]
    · subst h2
      go_enter Tryd.func37, Tryd.ntmps37
      go_wp2_with fail
      go_ret
      exact ⟨by rw [HI.out]; rfl, (Below.refl _ _).alloc (Nat.le_refl _) _⟩
    by_cases h3 : a = [117]
    · subst h3
      go_enter Tryd.func37, Tryd.ntmps37
      go_wp2_with fail
      go_ret
      exact ⟨by rw [HI.out]; rfl, (Below.refl _ _).alloc (Nat.le_refl _) _⟩
    have n1 : (a == [116]) = false := by rw [beq_eq_false_iff_ne]; exact h1
    have n2 : (a == [102]) = false := by rw [beq_eq_false_iff_ne]; exact h2
    have n3 : (a == [117]) = false := by rw [beq_eq_false_iff_ne]; exact h3
    have HL := Lib.hid (show leafW a = false by simp [leafW, n1, n2, n3])
    clear h1 h2 h3
    go_enter Tryd.func37, Tryd.ntmps37
    go_wp2_with fail
    (with_reducible refine (CN.out _).mono ?_)
    rintro en w1 ⟨rfl, e⟩
    subst w1
    go_wp2_with fail
    go_ret
    exact ⟨by rw [HI.out, HL.out]; rfl, (Below.refl _ _).alloc (Nat.le_refl _) _⟩
  | ls kids =>
    simp only [atomTr, kidsTr] at hk CH hvv ⊢
    obtain ⟨_, _, ek, hatk⟩ := AtTrs.of hk
    simp only [Value.slice.injEq, true_and] at ek
    obtain ⟨rfl, rfl⟩ := ek
    rw [okTr] at ho
    have IH := Lib.hid ih; clear ih
    have hp0 : 0 < kids.length := List.length_pos_iff.2 ho.1
    obtain ⟨bb, o, rfl, hbb⟩ := hatk.some hp0
    have HO := Lib.hid ho
    have HT := Lib.hid (And.intro (text_ls_len kids) hl)
    have ATK := Lib.hid hatk
    have hkl : kids.length ≤ 16777216 := by have := kids_len kids ho.2; have := text_ls_len kids; have := hl.le; omega
    have sub : ∀ (t : Tr), t ∈ kids → okTr t ∧ Lim (textTr t).length ∧ IsTrSaid t := fun t ht => by
      obtain ⟨k, hk⟩ := List.getElem?_of_mem ht
      have h1 := okTrs_at kids HO.out.2 k t hk
      have h2 := part_len kids t ht
      have h3 := HT.out.1
      have h4 := HT.out.2.le
      exact ⟨h1, (show _ ≤ _ by omega), IH.out t (by omega) h1⟩
    have SUB := Lib.hid sub
    have hbx : BoxT w.heap.size [] (.slice (.some ⟨bb, o, none⟩) kids.length c2) (w.alloc (.cells #[str [], .slice (.some ⟨bb, o, none⟩) kids.length c2] 41)) := ⟨by simp, by simp⟩
    have HBX := Lib.hid hbx
    have HB0 : Hid (Below w.heap.size w (w.alloc (.cells #[str [], .slice (.some ⟨bb, o, none⟩) kids.length c2] 41))) := (Below.refl _ _).alloc (Nat.le_refl _) _
    clear hatk hk hv hvv ho hl sub hbx
    go_enter Tryd.func37, Tryd.ntmps37
    go_wp2_with fail
    (with_reducible refine (CH.out _ HB0.out).mono ?_)
    rintro en w1 ⟨rfl, hb1⟩
    have hb01 : Below w.heap.size w w1 := HB0.out.trans (hb1.mono HB0.out.size)
    have HX1 := Lib.hid (HBX.out.below hb1)
    have HB1 := Lib.hid hb01
    clear hb1 hb01 HBX HB0 CH
    obtain ⟨hd, hhd⟩ : ∃ x, x = headW (.ls kids) := ⟨_, rfl⟩
    rw [← hhd]
    have HD : Hid (headTr kids = hd) := hhd.symm
    clear hhd
    have nl : (4 : Int) = (kids.length : Int) ∨ ¬ (4 : Int) = (kids.length : Int) := by omega
    by_cases hlam : hd = lamW
    · have q0 : (hd == [108, 97, 109]) = true := by rw [beq_iff_eq]; exact hlam
      have HL := Lib.hid hlam; clear hlam
      obtain ⟨x0, x1⟩ := HX1.out
      by_cases h4 : kids.length = 4
      · obtain ⟨p0, p1, p2, p3, rfl⟩ : ∃ a b c d, kids = [a, b, c, d] := by
          match kids, h4 with
          | [a, b, c, d], _ => exact ⟨a, b, c, d, rfl⟩
        obtain ⟨a1, k1, P1⟩ := (ATK.out.part hbb (k := 1) (t := p1) rfl).imp fun _ h => h
        obtain ⟨a3, k3, P2⟩ := (ATK.out.part hbb (k := 2) (t := p2) rfl).imp fun _ h => h
        obtain ⟨a5, k5, P3⟩ := (ATK.out.part hbb (k := 3) (t := p3) rfl).imp fun _ h => h
        have HI := Lib.hid (isTr_lam (a := p0) (b := p1) (c := p2) (d := p3) (by rw [HD.out, HL.out]))
        have S1 := Lib.hid (SUB.out p1 (by simp)); have S2 := Lib.hid (SUB.out p2 (by simp)); have S3 := Lib.hid (SUB.out p3 (by simp))
        have PP := Lib.hid (And.intro P1 (And.intro P2 P3))
        have lat : Lim (atomTr p1).length := by
          cases p1 with
          | am a => have := S1.out.2.1; rw [textTr] at this; exact this
          | ls ps => exact Nat.zero_le _
        have CN := Lib.hid (fun wz => l5Name_any (atomTr p1) wz lat)
        obtain ⟨y0, y1⟩ := And.intro (P1.below HB1.out).c0 (P1.below HB1.out).c1
        have hbw := (P1.below HB1.out).blk
        have hl4 : (([p0, p1, p2, p3] : List Tr).length : Nat) = 4 := rfl
        rw [hl4] at x1 ⊢
        simp only [Nat.one_mul, Nat.reduceMul, Nat.reduceAdd] at y0 y1
        clear P1 P2 P3 h4 hl4 lat hkl hp0 nl
        go_wp2_with fail
        (with_reducible refine (CN.out _).mono ?_)
        rintro en w2 ⟨rfl, e⟩
        subst w2
        cases hn : nameB (atomTr p1) with
        | false =>
          have HN := Lib.hid hn; clear hn
          go_wp2_with fail
          go_ret
          exact ⟨by rw [HI.out, HN.out]; rfl, HB1.out⟩
        | true =>
          have HN := Lib.hid hn; clear hn
          have P2 := PP.out.2.1.below HB1.out
          have CT := Lib.hid (l5Text_any _ p2 (Nat.le_refl _) S2.out.2.1 S2.out.1 F w1 _ _ P2.rp)
          obtain ⟨y2, y3⟩ := And.intro P2.c0 P2.c1
          simp only [Nat.one_mul, Nat.reduceMul, Nat.reduceAdd] at y2 y3
          clear P2 y0 y1
          go_wp2_with fail
          (with_reducible refine CT.out.mono ?_)
          rintro en w2 ⟨rfl, hb2⟩
          have HB2 := Lib.hid (HB1.out.trans (hb2.mono HB1.out.size))
          have HX2 := Lib.hid (HX1.out.below hb2)
          have CV := Lib.hid (TypeValid_any (textTr p2) S2.out.2.1 w2)
          clear hb2 x0 x1 y2 y3 hbw
          go_wp2_with fail
          (with_reducible refine CV.out.mono ?_)
          rintro en w3 ⟨rfl, hb3⟩
          have HB3 := Lib.hid (HB2.out.trans (hb3.mono HB2.out.size))
          have HX3 := Lib.hid (HX2.out.below hb3)
          clear hb3
          cases hv : (specType (textTr p2)).2 with
          | false =>
            have HV := Lib.hid hv; clear hv
            go_wp2_with fail
            go_ret
            exact ⟨by rw [HI.out, HN.out, HV.out]; rfl, HB3.out⟩
          | true =>
            have HV := Lib.hid hv; clear hv
            have P3 := PP.out.2.2.below HB3.out
            have CI := Lib.hid (S3.out.2.2 F w3 _ _ P3.rp)
            obtain ⟨x0, x1⟩ := HX3.out
            obtain ⟨y2, y3⟩ := And.intro P3.c0 P3.c1
            have hbw := P3.blk
            have hl4 : (([p0, p1, p2, p3] : List Tr).length : Nat) = 4 := rfl
            rw [hl4] at x1
            simp only [Nat.one_mul, Nat.reduceMul, Nat.reduceAdd] at y2 y3
            clear P3 hl4
            go_wp2_with fail
            (with_reducible refine CI.out.mono ?_)
            rintro en w4 ⟨rfl, hb4⟩
            go_wp2_with fail
            go_ret
            exact ⟨by rw [HI.out, HN.out, HV.out]; rfl, HB3.out.trans (hb4.mono HB3.out.size)⟩
      · have hne : ((kids.length : Int) == 4) = false := by rw [beq_eq_false_iff_ne]; omega
        have HI := Lib.hid (isTr_no4 (.inl (by rw [HD.out, HL.out])) h4)
        clear h4
        go_wp2_with fail
        go_ret
        exact ⟨by rw [HI.out]; rfl, HB1.out⟩
    have q0 : (hd == [108, 97, 109]) = false := by rw [beq_eq_false_iff_ne]; exact hlam
    by_cases happ : hd = appW
    · have q1 : (hd == [97, 112, 112]) = true := by rw [beq_iff_eq]; exact happ
      have HL := Lib.hid happ; clear happ hlam
      obtain ⟨x0, x1⟩ := HX1.out
      by_cases h4 : kids.length = 3
      · obtain ⟨p0, p1, p2, rfl⟩ : ∃ a b c, kids = [a, b, c] := by
          match kids, h4 with
          | [a, b, c], _ => exact ⟨a, b, c, rfl⟩
        obtain ⟨a1, k1, P1⟩ := (ATK.out.part hbb (k := 1) (t := p1) rfl).imp fun _ h => h
        obtain ⟨a3, k3, P2⟩ := (ATK.out.part hbb (k := 2) (t := p2) rfl).imp fun _ h => h
        have HI := Lib.hid (isTr_app (a := p0) (b := p1) (c := p2) (by rw [HD.out, HL.out]))
        have S1 := Lib.hid (SUB.out p1 (by simp)); have S2 := Lib.hid (SUB.out p2 (by simp))
        have PP := Lib.hid (And.intro P1 P2)
        have CI1 := Lib.hid (S1.out.2.2 F w1 _ _ (P1.below HB1.out).rp)
        obtain ⟨y0, y1⟩ := And.intro (P1.below HB1.out).c0 (P1.below HB1.out).c1
        have hbw := (P1.below HB1.out).blk
        have hl4 : (([p0, p1, p2] : List Tr).length : Nat) = 3 := rfl
        rw [hl4] at x1 ⊢
        simp only [Nat.one_mul, Nat.reduceMul, Nat.reduceAdd] at y0 y1
        clear P1 P2 h4 hl4 hkl hp0 nl
        go_wp2_with fail
        (with_reducible refine CI1.out.mono ?_)
        rintro en w2 ⟨rfl, hb2⟩
        have HB2 := Lib.hid (HB1.out.trans (hb2.mono HB1.out.size))
        have HX2 := Lib.hid (HX1.out.below hb2)
        clear hb2 x0 x1 y0 y1 hbw
        cases hn : isTr p1 with
        | false =>
          have HN := Lib.hid hn; clear hn
          go_wp2_with fail
          go_ret
          exact ⟨by rw [HI.out, HN.out]; rfl, HB2.out⟩
        | true =>
          have HN := Lib.hid hn; clear hn
          have P2 := PP.out.2.below HB2.out
          have CI2 := Lib.hid (S2.out.2.2 F w2 _ _ P2.rp)
          obtain ⟨x0, x1⟩ := HX2.out
          obtain ⟨y2, y3⟩ := And.intro P2.c0 P2.c1
          have hbw := P2.blk
          have hl4 : (([p0, p1, p2] : List Tr).length : Nat) = 3 := rfl
          rw [hl4] at x1
          simp only [Nat.one_mul, Nat.reduceMul, Nat.reduceAdd] at y2 y3
          clear P2 hl4
          go_wp2_with fail
          (with_reducible refine CI2.out.mono ?_)
          rintro en w4 ⟨rfl, hb4⟩
          go_wp2_with fail
          go_ret
          exact ⟨by rw [HI.out, HN.out]; rfl, HB2.out.trans (hb4.mono HB2.out.size)⟩
      · have hne : ((kids.length : Int) == 3) = false := by rw [beq_eq_false_iff_ne]; omega
        have HI := Lib.hid (isTr_no3 (by rw [HD.out, HL.out]) h4)
        clear h4
        go_wp2_with fail
        go_ret
        exact ⟨by rw [HI.out]; rfl, HB1.out⟩
    have q1 : (hd == [97, 112, 112]) = false := by rw [beq_eq_false_iff_ne]; exact happ
    by_cases hif : hd = ifW
    · have q2 : (hd == [105, 102]) = true := by rw [beq_iff_eq]; exact hif
      have HL := Lib.hid hif; clear hif happ hlam
      obtain ⟨x0, x1⟩ := HX1.out
      by_cases h4 : kids.length = 4
      · obtain ⟨p0, p1, p2, p3, rfl⟩ : ∃ a b c d, kids = [a, b, c, d] := by
          match kids, h4 with
          | [a, b, c, d], _ => exact ⟨a, b, c, d, rfl⟩
        obtain ⟨a1, k1, P1⟩ := (ATK.out.part hbb (k := 1) (t := p1) rfl).imp fun _ h => h
        obtain ⟨a3, k3, P2⟩ := (ATK.out.part hbb (k := 2) (t := p2) rfl).imp fun _ h => h
        obtain ⟨a5, k5, P3⟩ := (ATK.out.part hbb (k := 3) (t := p3) rfl).imp fun _ h => h
        have HI := Lib.hid (isTr_if (a := p0) (b := p1) (c := p2) (d := p3) (by rw [HD.out, HL.out]))
        have S1 := Lib.hid (SUB.out p1 (by simp)); have S2 := Lib.hid (SUB.out p2 (by simp)); have S3 := Lib.hid (SUB.out p3 (by simp))
        have PP := Lib.hid (And.intro P1 (And.intro P2 P3))
        have CI1 := Lib.hid (S1.out.2.2 F w1 _ _ (P1.below HB1.out).rp)
        obtain ⟨y0, y1⟩ := And.intro (P1.below HB1.out).c0 (P1.below HB1.out).c1
        have hbw := (P1.below HB1.out).blk
        have hl4 : (([p0, p1, p2, p3] : List Tr).length : Nat) = 4 := rfl
        rw [hl4] at x1 ⊢
        simp only [Nat.one_mul, Nat.reduceMul, Nat.reduceAdd] at y0 y1
        clear P1 P2 P3 h4 hl4 hkl hp0 nl
        go_wp2_with fail
        (with_reducible refine CI1.out.mono ?_)
        rintro en w2 ⟨rfl, hb2⟩
        have HB2 := Lib.hid (HB1.out.trans (hb2.mono HB1.out.size))
        have HX2 := Lib.hid (HX1.out.below hb2)
        clear hb2 x0 x1 y0 y1 hbw
        cases hn : isTr p1 with
        | false =>
          have HN := Lib.hid hn; clear hn
          go_wp2_with fail
          go_ret
          exact ⟨by rw [HI.out, HN.out]; rfl, HB2.out⟩
        | true =>
          have HN := Lib.hid hn; clear hn
          have P2 := PP.out.2.1.below HB2.out
          have CI2 := Lib.hid (S2.out.2.2 F w2 _ _ P2.rp)
          obtain ⟨x0, x1⟩ := HX2.out
          obtain ⟨y2, y3⟩ := And.intro P2.c0 P2.c1
          have hbw := P2.blk
          have hl4 : (([p0, p1, p2, p3] : List Tr).length : Nat) = 4 := rfl
          rw [hl4] at x1
          simp only [Nat.one_mul, Nat.reduceMul, Nat.reduceAdd] at y2 y3
          clear P2 hl4
          go_wp2_with fail
          (with_reducible refine CI2.out.mono ?_)
          rintro en w4 ⟨rfl, hb4⟩
          have HB4 := Lib.hid (HB2.out.trans (hb4.mono HB2.out.size))
          have HX4 := Lib.hid (HX2.out.below hb4)
          clear hb4 x0 x1 y2 y3 hbw
          cases hn2 : isTr p2 with
          | false =>
            have HN2 := Lib.hid hn2; clear hn2
            go_wp2_with fail
            go_ret
            exact ⟨by rw [HI.out, HN.out, HN2.out]; rfl, HB4.out⟩
          | true =>
            have HN2 := Lib.hid hn2; clear hn2
            have P3 := PP.out.2.2.below HB4.out
            have CI3 := Lib.hid (S3.out.2.2 F w4 _ _ P3.rp)
            obtain ⟨x0, x1⟩ := HX4.out
            obtain ⟨y2, y3⟩ := And.intro P3.c0 P3.c1
            have hbw := P3.blk
            have hl4 : (([p0, p1, p2, p3] : List Tr).length : Nat) = 4 := rfl
            rw [hl4] at x1
            simp only [Nat.one_mul, Nat.reduceMul, Nat.reduceAdd] at y2 y3
            clear P3 hl4
            go_wp2_with fail
            (with_reducible refine CI3.out.mono ?_)
            rintro en w5 ⟨rfl, hb5⟩
            go_wp2_with fail
            go_ret
            exact ⟨by rw [HI.out, HN.out, HN2.out]; rfl, HB4.out.trans (hb5.mono HB4.out.size)⟩
      · have hne : ((kids.length : Int) == 4) = false := by rw [beq_eq_false_iff_ne]; omega
        have HI := Lib.hid (isTr_no4 (.inr (by rw [HD.out, HL.out])) h4)
        clear h4
        go_wp2_with fail
        go_ret
        exact ⟨by rw [HI.out]; rfl, HB1.out⟩
    have q2 : (hd == [105, 102]) = false := by rw [beq_eq_false_iff_ne]; exact hif
    have HI := Lib.hid (isTr_noW (by rw [HD.out]; exact hlam) (by rw [HD.out]; exact happ) (by rw [HD.out]; exact hif))
    clear hlam happ hif
    go_wp2_with fail
    go_ret
    exact ⟨by rw [HI.out]; rfl, HB1.out⟩
theorem l5Is_any (n : Nat) : ∀ b, (textTr b).length ≤ n → Lim n → okTr b → IsTrSaid b := by
  induction n with
  | zero => intro b h hn ho; exact l5Is_step b ho (hn.mono h) (fun b' h' _ => by omega)
  | succ n ih => exact fun b h hn ho => l5Is_step b ho (hn.mono h) (fun b' h' ho' => ih b' (by omega) (hn.mono (by omega)) ho')

end Go.Proofs.YtohepefbogngfaaDoor

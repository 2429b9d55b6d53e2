import Derived.Test.YtibnnbdpfkgfhaaGreatDoorW14
import Derived.Test.YtibnnbdpfkgfhaaGreatDoorA10
import Derived.Test.YtibnnbdpfkgfhaaGreatDoorW9a

/- impl's size of bodies (the same walk as in W11, which does not stand at this seat), fits, become. -/
namespace Go.Proofs.YtibnnbdpfkgfhaaGreatDoor
open Go.RowKit

theorem evSubs_size {d : Nat} (ih : ∀ (l : Nat) (b : Bd) (env : List Mn) (n : Nat) (st : List Gf) (r : Bd) (l' : Nat), Go.Proofs.YtibnnbdpfkgfhaaGreatDoor.ev d l b env n st = some (r, l') → sizeB r + l' ≤ l) {env : List Mn} {n : Nat} :
    ∀ (ts : List Ty) (ss : List Bd) (l : Nat) (xs : List Bd) (l' : Nat), evSubs (Go.Proofs.YtibnnbdpfkgfhaaGreatDoor.ev d) env n l ts ss = some (xs, l') → sizeBs xs + l' ≤ l
  | [], ss, l, xs, l', h => by simp [evSubs] at h; obtain ⟨rfl, rfl⟩ := h; simp [sizeBs]
  | t :: ts, [], l, xs, l', h => by simp [evSubs] at h; obtain ⟨rfl, rfl⟩ := h; simp [sizeBs]
  | t :: ts, s :: ss, l, xs, l', h => by
    simp only [evSubs, Option.bind_eq_bind, Option.bind_eq_some_iff, Prod.exists] at h
    obtain ⟨x, l1, h1, ys, l2, h2, h3⟩ := h
    simp at h3
    obtain ⟨rfl, rfl⟩ := h3
    have k1 := ih _ _ _ _ _ _ _ h1
    have k2 := evSubs_size ih ts ss _ _ _ h2
    rw [sizeBs]
    omega
theorem ev_size (d : Nat) : ∀ (l : Nat) (b : Bd) (env : List Mn) (n : Nat) (st : List Gf) (r : Bd) (l' : Nat), Go.Proofs.YtibnnbdpfkgfhaaGreatDoor.ev d l b env n st = some (r, l') → sizeB r + l' ≤ l := by
  induction d with
  | zero => intro l b env n st r l' h; simp [Go.Proofs.YtibnnbdpfkgfhaaGreatDoor.ev] at h
  | succ d ih =>
    intro l b env n st r l' h
    cases l with
    | zero => rw [ev.eq_def] at h; simp at h
    | succ l =>
      cases b with
      | leaf c =>
        by_cases hc : c = 117
        · subst hc; rw [ev_u] at h; simp at h; obtain ⟨rfl, rfl⟩ := h; rw [sizeB]; omega
        · cases st with
          | nil => rw [ev_end] at h; simp at h; obtain ⟨rfl, rfl⟩ := h; rw [sizeB]; omega
          | cons f st => rw [ev_back hc] at h; have := ih _ _ _ _ _ _ _ h; omega
      | ask v ss y no =>
        cases hv : env[v]? with
        | none => rw [ev.eq_def] at h; simp [hv] at h
        | some m =>
          cases m with
          | bd t b' e => rw [ev_bd hv] at h; have := ih _ _ _ _ _ _ _ h; omega
          | op o t =>
            rw [ev_op hv] at h
            simp only [Option.bind_eq_some_iff, Prod.exists] at h
            obtain ⟨xs, l1, h1, x, l2, h2, z, l3, h3, h4⟩ := h
            simp at h4
            obtain ⟨rfl, rfl⟩ := h4
            have k1 := evSubs_size ih _ _ _ _ _ h1
            have k2 := ih _ _ _ _ _ _ _ h2
            have k3 := ih _ _ _ _ _ _ _ h3
            rw [sizeB]
            omega

set_option maxHeartbeats 1000000 in
theorem fits_any (F : Nat → Prop) (w : World) (b : Bd) (v : Value) (hv : Rep F w (encB b) v) (hn : sizeB b ≤ 20000) :
    Calls Tryz.prog 47 #[v] w fun en w' => en = .returned (.bool (decide (sizeB b ≤ 200 ∧ depthB b ≤ 100))) ∧ Below w.heap.size w w' := by
  obtain ⟨vb, rfl⟩ := encB_ptr hv
  have hL : Lim 20000 := by unfold Lim; omega
  have C1 := Lib.hid (size_any 20000 b hn hL F w _ hv)
  go_enter Tryz.func47, Tryz.ntmps47
  go_wp2_with fail
  (with_reducible refine C1.out.mono ?_)
  rintro en w1 ⟨rfl, hb1⟩
  have C2 := Lib.hid (depth_any 20000 b hn hL F w1 _ (Rep.below hb1 (fun _ h => h) hv))
  have HB := Lib.hid hb1; clear hb1
  by_cases h200 : sizeB b ≤ 200
  · have h1 : decide ((sizeB b : Int) ≤ 200) = true := decide_eq_true (by omega)
    go_wp2_with fail
    (with_reducible refine C2.out.mono ?_)
    rintro en w2 ⟨rfl, hb2⟩
    have hb := HB.out.trans (hb2.mono HB.out.size)
    clear hb2
    by_cases h100 : depthB b ≤ 100
    · have h2 : decide ((depthB b : Int) ≤ 100) = true := decide_eq_true (by omega)
      have HE := Lib.hid (And.intro (show decide (sizeB b ≤ 200 ∧ depthB b ≤ 100) = true from decide_eq_true ⟨h200, h100⟩) hb); clear hb
      go_wp2_with fail
      go_ret
      rw [HE.out.1]
      exact ⟨rfl, HE.out.2⟩
    · have h2 : decide ((depthB b : Int) ≤ 100) = false := decide_eq_false (by omega)
      have HE := Lib.hid (And.intro (show decide (sizeB b ≤ 200 ∧ depthB b ≤ 100) = false from decide_eq_false (by omega)) hb); clear hb
      go_wp2_with fail
      go_ret
      rw [HE.out.1]
      exact ⟨rfl, HE.out.2⟩
  · have h1 : decide ((sizeB b : Int) ≤ 200) = false := decide_eq_false (by omega)
    have HE := Lib.hid (show decide (sizeB b ≤ 200 ∧ depthB b ≤ 100) = false from decide_eq_false (by omega))
    go_wp2_with fail
    go_ret
    rw [HE.out]
    exact ⟨rfl, HB.out⟩

end Go.Proofs.YtibnnbdpfkgfhaaGreatDoor

/- The walk of impl's become. -/
namespace Go.Proofs.YtibnnbdpfkgfhaaGreatDoor
open Go.RowKit

/-- A body or nil, made of what was there and of what is new. -/
def BecPost (F : Nat → Prop) (w : World) (o : Option Bd) (en : Ending) (w' : World) : Prop :=
  ∃ v, en = .returned v ∧ Below w.heap.size w w' ∧ (o = none → v = .pointer none) ∧ ∀ b, o = some b → Rep (fun i => F i ∨ w.heap.size ≤ i) w' (encB b) v

structure BecPre (F : Nat → Prop) (n : Nat) (H : List Ty) (b : Bd) (env : List Mn) (bv ev : Value) (w : World) : Prop where
  glob : GlobE w
  fit : EvFit H b env []
  hn : H.length = n
  nl : n ≤ 1000
  el : env.length ≤ 1000
  ok : okMs 1000 env
  rb : Rep F w (encB b) bv
  re : Rep F w (.sl 77 4 env.length (encMs env)) ev

set_option maxRecDepth 100000 in
set_option maxHeartbeats 2000000 in
theorem become_any (F : Nat → Prop) (n : Nat) (H : List Ty) (b : Bd) (env : List Mn) (bv ev : Value) (w : World) (h : BecPre F n H b env bv ev w) :
    Calls Tryz.prog 41 #[bv, ev, .int .i64 (n : Nat)] w (BecPost F w (become b env n)) := by
  obtain ⟨bb, rfl⟩ := encB_ptr h.rb
  obtain ⟨_, ea, ec, rfl, _⟩ := Rep_sl.1 h.re
  obtain ⟨a0, hc0⟩ := h.glob
  have hlt0 := World.block_lt_of_cell? w _ hc0
  have hlt1 : 0 < w.heap.size := hlt0
  have hbA : Below w.heap.size w (w.alloc (.cells #[.int .i64 20000] 125)) := (Below.refl _ _).alloc (Nat.le_refl _) _
  have hrbA := Rep.below hbA (fun _ h => h) h.rb
  have hreA := Rep.below hbA (fun _ h => h) h.re
  have hcA := (hbA.cell hlt0).trans hc0
  have kA : ∀ {dv : DV} {v : Value}, Rep F w dv v → Rep (fun i => F i ∧ i < w.heap.size) (w.alloc (.cells #[.int .i64 20000] 125)) dv v := fun h => (Rep.keep fun b o hf ho => ⟨⟨hf, lt_of_heap ho⟩, heap_past ho⟩).1 _ _ h
  have hnl := h.nl
  have hel := h.el
  have hE : EvalPre (fun i => F i ∧ i < w.heap.size) w.heap.size 20000 20000 n H b env [] (.pointer (some ⟨bb, 0, none⟩)) (.slice ea env.length ec) .nilFunc (w.alloc (.cells #[.int .i64 20000] 125)) :=
    { glob := ⟨a0, hcA⟩, hF := fun i hi e => by have := hi.2; omega, ng := by omega, apl := heap_new _ _, ld := Nat.le_refl _, d20 := Nat.le_refl _, fit := h.fit, hn := h.hn, el := by omega, nl := by omega,
      ok := okMs_mono (by omega) _ h.ok, okg := trivial, rb := kA h.rb, re := kA h.re, ro := rfl }
  have C := eval_any 20000 _ _ _ _ _ _ _ _ _ _ _ _ hE
  have CT := evalTell hcA C
  have hsz := ev_size 20000 20000 b env n []
  have hbec : (Go.Proofs.YtibnnbdpfkgfhaaGreatDoor.ev 20000 20000 b env n [] = none → become b env n = none) ∧ ∀ x, Go.Proofs.YtibnnbdpfkgfhaaGreatDoor.ev 20000 20000 b env n [] = some x → ((sizeB x.1 ≤ 200 ∧ depthB x.1 ≤ 100) → become b env n = some x.1) ∧ (¬ (sizeB x.1 ≤ 200 ∧ depthB x.1 ≤ 100) → become b env n = none) := by
    unfold become
    refine ⟨fun h => by rw [h], fun x h => ?_⟩
    rw [h]
    exact ⟨fun h => if_pos h, fun h => if_neg h⟩
  clear hE C kA hrbA hreA h
  generalize become b env n = r at *
  generalize Go.Proofs.YtibnnbdpfkgfhaaGreatDoor.ev 20000 20000 b env n [] = oo at *
  have HS := Lib.hid (And.intro hsz (And.intro hbA (And.intro hc0 hbec))); clear hsz hbA hc0 hcA hbec
  cases oo with
  | none =>
    have C := Lib.hid (CT.1 rfl); clear CT
    go_enter Tryz.func41, Tryz.ntmps41
    go_wp2_with fail
    (with_reducible refine C.out.mono ?_)
    rintro en w1 ⟨rfl, hb1⟩
    have hb2 : Below w.heap.size w w1 := HS.out.2.1.trans (hb1.toBelow (by rw [size_alloc]; omega) fun i hi e => by have e : i = w.heap.size := e; omega)
    have hc1 := (hb2.cell hlt0).trans HS.out.2.2.1
    have C2 := Lib.hid (is_same a0 w1)
    have HB := Lib.hid hb2; clear hb1 hb2
    go_wp2_with fail
    (with_reducible refine C2.out.mono ?_)
    rintro en w2 ⟨rfl, rfl⟩
    go_wp2_with fail
    go_ret
    exact ⟨_, rfl, HB.out, fun _ => rfl, fun b h => by have h0 : r = none := HS.out.2.2.2.1 (by simp); rw [h0] at h; simp at h⟩
  | some x =>
    have C := Lib.hid (CT.2 x rfl); clear CT
    go_enter Tryz.func41, Tryz.ntmps41
    go_wp2_with fail
    (with_reducible refine C.out.mono ?_)
    rintro en w1 ⟨vb, rfl, hb1, _, hr1⟩
    have hb2 : Below w.heap.size w w1 := HS.out.2.1.trans (hb1.toBelow (by rw [size_alloc]; omega) fun i hi e => by have e : i = w.heap.size := e; omega)
    have hc1 := (hb2.cell hlt0).trans HS.out.2.2.1
    have C2 := Lib.hid (is_nil a0 w1)
    have hz := HS.out.1 x.1 x.2 rfl
    have C3 := Lib.hid (fits_any _ w1 x.1 _ hr1 (by omega))
    have HB := Lib.hid (And.intro hb2 hr1); clear hb1 hb2 hr1 hz
    go_wp2_with fail
    (with_reducible refine C2.out.mono ?_)
    rintro en w2 ⟨rfl, rfl⟩
    by_cases hfit : sizeB x.1 ≤ 200 ∧ depthB x.1 ≤ 100
    · rw [decide_eq_true hfit] at C3
      have HF := Lib.hid hfit; clear hfit
      go_wp2_with fail
      (with_reducible refine C3.out.mono ?_)
      rintro en w3 ⟨rfl, hb3⟩
      have HB3 := Lib.hid hb3; clear hb3
      go_wp2_with fail
      go_ret
      have hr := (HS.out.2.2.2.2 x rfl).1 HF.out
      refine ⟨_, rfl, HB.out.1.trans (HB3.out.mono HB.out.1.size), fun h => ?_, fun b h => ?_⟩
      · rw [hr] at h; simp at h
      · rw [hr] at h
        obtain rfl := Option.some.inj h
        refine Rep.weak (Rep.below HB3.out (fun _ h => h) HB.out.2) fun i h => ?_
        rcases h with h | h
        · exact .inl h.1
        · rw [size_alloc] at h; exact .inr (by omega)
    · rw [decide_eq_false hfit] at C3
      have HF := Lib.hid hfit; clear hfit
      go_wp2_with fail
      (with_reducible refine C3.out.mono ?_)
      rintro en w3 ⟨rfl, hb3⟩
      have HB3 := Lib.hid hb3; clear hb3
      go_wp2_with fail
      go_ret
      exact ⟨_, rfl, HB.out.1.trans (HB3.out.mono HB.out.1.size), fun _ => rfl, fun b h => by rw [(HS.out.2.2.2.2 x rfl).2 HF.out] at h; simp at h⟩

end Go.Proofs.YtibnnbdpfkgfhaaGreatDoor

/- The walk of impl's apply. -/
namespace Go.Proofs.YtibnnbdpfkgfhaaGreatDoor
open Go.RowKit

/-- The levels of a body that is applied: those before, what it is applied to, those after. -/
def betweenEnv (bs : List Ty) (a : Ty) (n : Bd) (rest : List Ty) : List Mn := opens 0 bs ++ (.bd a n (opens 0 bs) :: opens bs.length rest)
theorem betweenEnv_nil (a : Ty) (n : Bd) (rest : List Ty) : betweenEnv [] a n rest = applyEnv a n rest := by
  unfold betweenEnv applyEnv; simp [opens]

structure AppPre (F : Nat → Prop) (bs rest : List Ty) (a : Ty) (m n : Bd) (mv nv bv rv : Value) (w : World) : Prop where
  glob : GlobE w
  fit : EvFit (bs ++ rest) m (betweenEnv bs a n rest) []
  a15 : atomsT a ≤ 15
  bl : bs.length ≤ 100
  rl : rest.length ≤ 100
  b15 : ∀ t ∈ bs, atomsT t ≤ 15
  r15 : ∀ t ∈ rest, atomsT t ≤ 15
  rm : Rep F w (encB m) mv
  rn : Rep F w (encB n) nv
  rb : Rep F w (.sl 65 1 bs.length (encKs bs)) bv
  rr : Rep F w (.sl 65 1 rest.length (encKs rest)) rv

set_option maxRecDepth 100000 in
set_option maxHeartbeats 4000000 in
theorem apply_any (F : Nat → Prop) (bs rest : List Ty) (a : Ty) (m n : Bd) (mv nv bv rv : Value) (w : World) (h : AppPre F bs rest a m n mv nv bv rv w) :
    Calls Tryz.prog 81 #[mv, nv, bv, rv] w (BecPost F w (become m (betweenEnv bs a n rest) (bs.length + rest.length))) := by
  obtain ⟨mb, rfl⟩ := encB_ptr h.rm
  obtain ⟨nb, rfl⟩ := encB_ptr h.rn
  obtain ⟨_, ba, bc, rfl, _⟩ := Rep_sl.1 h.rb
  obtain ⟨_, ra, rc, rfl, _⟩ := Rep_sl.1 h.rr
  have hbl := h.bl
  have hrl := h.rl
  have C1 : Calls Tryz.prog 40 #[.int .i64 0, .slice ba bs.length bc] w (FreshV w 77 4 bs.length fun w' xs => Reps F w' (encMs (opens 0 bs)) xs) := opens_any F 0 bs _ w h.rb (by omega) (by omega)
  have C1 := Lib.hid C1
  have HP := Lib.hid h; clear h
  go_enter Tryz.func81, Tryz.ntmps81
  go_wp2_with fail
  (with_reducible refine C1.out.mono ?_)
  rintro en w1 ⟨a1, c1, xs1, rfl, ho1, hr1, hb1, hf1⟩
  have hs1 := ho1.src (oneCell_encMs _ _ hr1)
  have H1 := Lib.hid (And.intro ho1 (And.intro hr1 (And.intro hb1 (And.intro hf1 hs1)))); clear ho1 hr1 hb1 hf1 hs1 C1
  go_wp2_with (at_builtin; refine wpList_append_gen rfl _ _ 71 rfl 77 (.agg #[.int .i64 0, .pointer none, .pointer none, .slice none 0 0]) 4 48 Tryz.underlying71 Tryz.infoMn rfl (by decide) (.slice none 0 0) 0 [] rfl ?a1 _ bs.length xs1 rfl ?a2 ?a3 ?a4 ?_)
  case a1 => exact World.ownsRow_nil _ _ _ _
  case a2 => exact H1.out.2.2.2.2
  case a3 => unfold maxLen; omega
  case a4 => omega
  intro a2 c2 w2 ho2 hb2 hg2
  have hbl2 : Below w1.heap.size w1 w2 := hb2.toBelow (Nat.le_refl _) (fun i _ e => by simp [Value.ownBlock] at e)
  have hf2 : ∀ g, (Value.slice a2 bs.length c2).ownBlock = some g → w1.heap.size ≤ g := fun g hg => by
    rcases hg2 g hg with h | h
    · simp [Value.ownBlock] at h
    · omega
  have H2 := Lib.hid (And.intro ho2 (And.intro hbl2 hf2)); clear ho2 hb2 hg2 hbl2 hf2
  go_wp2_with (at_builtin; refine wpList_append_gen rfl _ _ 71 rfl 77 (.agg #[.int .i64 0, .pointer none, .pointer none, .slice none 0 0]) 4 48 Tryz.underlying71 Tryz.infoMn rfl (by decide) (.slice a2 bs.length c2) bs.length xs1 rfl ?b1 _ 1 [.int .i64 0, .pointer none, .pointer (some ⟨nb, 0, none⟩), .slice a1 bs.length c1] rfl ?b2 ?b3 ?b4 ?_)
  case b1 => exact H2.out.1.alloc _
  case b2 => exact SrcSl.lit1 #[.int .i64 0, .pointer none, .pointer (some ⟨nb, 0, none⟩), .slice a1 bs.length c1] rfl (by simp [Value.oneCell']) _ (by simp)
  case b3 => unfold maxLen; omega
  case b4 => omega
  intro a3 c3 w3 ho3 hb3 hg3
  have hz2 := H2.out.2.1.size
  have hz1 := H1.out.2.2.1.size
  have hbl3 : Below w1.heap.size w1 w3 := (H2.out.2.1.alloc hz2 _).trans (hb3.toBelow (by rw [size_alloc]; omega) fun i hi e => by have := H2.out.2.2 i e; omega)
  have hf3 : ∀ g, (Value.slice a3 (bs.length + 1) c3).ownBlock = some g → w1.heap.size ≤ g := fun g hg => by
    rcases hg3 g hg with h | h
    · exact H2.out.2.2 g h
    · omega
  have hb03 : Below w.heap.size w w3 := H1.out.2.2.1.trans (hbl3.mono hz1)
  have C4 := Lib.hid (opens_any (fun i => F i ∧ i < w.heap.size) bs.length rest _ w3 (Rep.below hb03 (fun _ h => h) (Rep.low HP.out.rr)) (by omega) (by omega))
  have H3 := Lib.hid (And.intro ho3 (And.intro hbl3 (And.intro hf3 hb03))); clear ho3 hb3 hg3 hbl3 hf3 hb03
  go_wp2_with fail
  (with_reducible refine C4.out.mono ?_)
  rintro en w4 ⟨a4, c4, xs4, rfl, ho4, hr4, hb4, hf4⟩
  clear C4
  have hs4 := ho4.src (oneCell_encMs _ _ hr4)
  have ho34 : Own w4 77 4 (.slice a3 (bs.length + 1) c3) (bs.length + 1) (xs1 ++ [.int .i64 0, .pointer none, .pointer (some ⟨nb, 0, none⟩), .slice a1 bs.length c1]) := H3.out.1.keep fun g o hg hh => by rw [hb4.block g (lt_of_heap hh)]; exact hh
  have H4 := Lib.hid (And.intro ho34 (And.intro hs4 (And.intro hr4 (And.intro hb4 hf4)))); clear ho34 hs4 hr4 hb4 hf4 ho4
  go_wp2_with (at_builtin; refine wpList_append_gen rfl _ _ 71 rfl 77 (.agg #[.int .i64 0, .pointer none, .pointer none, .slice none 0 0]) 4 48 Tryz.underlying71 Tryz.infoMn rfl (by decide) (.slice a3 (bs.length + 1) c3) (bs.length + 1) (xs1 ++ [.int .i64 0, .pointer none, .pointer (some ⟨nb, 0, none⟩), .slice a1 bs.length c1]) rfl ?d1 _ rest.length xs4 rfl ?d2 ?d3 ?d4 ?_)
  case d1 => exact H4.out.1
  case d2 => exact H4.out.2.1
  case d3 => unfold maxLen; omega
  case d4 => omega
  intro a5 c5 w5 ho5 hb5 hg5
  have hz3 := H3.out.2.1.size
  have hz4 := H4.out.2.2.2.1.size
  have hbl5 : Below w1.heap.size w1 w5 := (H3.out.2.1.trans (H4.out.2.2.2.1.mono hz3)).trans (hb5.toBelow (by omega) fun i hi e => by have := H3.out.2.2.1 i e; omega)
  have hf5 : ∀ g, (Value.slice a5 (bs.length + 1 + rest.length) c5).ownBlock = some g → w1.heap.size ≤ g := fun g hg => by
    rcases hg5 g hg with h | h
    · exact H3.out.2.2.1 g h
    · omega
  have hb05 : Below w.heap.size w w5 := H1.out.2.2.1.trans (hbl5.mono hz1)
  have hlen : (betweenEnv bs a n rest).length = bs.length + 1 + rest.length := by unfold betweenEnv; simp [opens_length]; omega
  have hre5 : Rep (fun i => F i ∨ w.heap.size ≤ i) w5 (.sl 77 4 (betweenEnv bs a n rest).length (encMs (betweenEnv bs a n rest))) (.slice a5 (bs.length + 1 + rest.length) c5) := by
    rw [hlen]
    refine ho5.rep (fun g hg => .inr (by have := hf5 g hg; omega)) ?_
    have e : encMs (betweenEnv bs a n rest) = encMs (opens 0 bs) ++ (encM (.bd a n (opens 0 bs)) ++ encMs (opens bs.length rest)) := by unfold betweenEnv; rw [encMs_append, encMs]
    rw [e]
    have k1 : ∀ {ds : List DV} {us : List Value}, Reps F w1 ds us → Reps (fun i => F i ∨ w.heap.size ≤ i) w5 ds us := fun h => (Rep.keep fun b o hf hh => ⟨.inl hf, by rw [hbl5.block b (lt_of_heap hh)]; exact hh⟩).2 _ _ h
    refine Reps.append (k1 H1.out.2.1) (Reps.append (vs := [.int .i64 0, .pointer none, .pointer (some ⟨nb, 0, none⟩), .slice a1 bs.length c1]) (us := xs4) ?_ ?_)
    · rw [encM]
      have r1 : Rep (fun i => F i ∨ w.heap.size ≤ i) w5 (encB n) (.pointer (some ⟨nb, 0, none⟩)) := (Rep.below hb05 (fun _ h => h) HP.out.rn).weak fun i h => .inl h
      have r2 : Rep (fun i => F i ∨ w.heap.size ≤ i) w5 (.sl 77 4 (opens 0 bs).length (encMs (opens 0 bs))) (.slice a1 bs.length c1) := by
        rw [opens_length]
        refine (H1.out.1.keep fun g o hg hh => ?_).rep (fun g hg => .inr (H1.out.2.2.2.1 g hg)) (k1 H1.out.2.1)
        rw [hbl5.block g (lt_of_heap hh)]; exact hh
      exact Reps_cons.2 ⟨_, _, rfl, Rep_val.2 rfl, Reps_cons.2 ⟨_, _, rfl, Rep_val.2 rfl, Reps_cons.2 ⟨_, _, rfl, r1, Reps_cons.2 ⟨_, _, rfl, r2, Reps_nil.2 rfl⟩⟩⟩⟩
    · refine (Rep.keep fun b o hf hh => ⟨.inl hf.1, ?_⟩).2 _ _ H4.out.2.2.1
      have hlt := hf.2
      rw [hb5.block b (lt_of_heap hh) (fun e => by have := H3.out.2.2.1 b e; omega)]; exact hh
  have hE : BecPre (fun i => F i ∨ w.heap.size ≤ i) (bs.length + rest.length) (bs ++ rest) m (betweenEnv bs a n rest) (.pointer (some ⟨mb, 0, none⟩)) (.slice a5 (bs.length + 1 + rest.length) c5) w5 :=
    { glob := HP.out.glob.below hb05, fit := HP.out.fit, hn := List.length_append .., nl := by omega, el := by omega,
      ok := okMs_append _ _ (okMs_opens _ _ HP.out.b15 (by omega)) ⟨⟨HP.out.a15, by rw [opens_length]; omega, okMs_opens _ _ HP.out.b15 (by omega)⟩, okMs_opens _ _ HP.out.r15 (by omega)⟩,
      rb := (Rep.below hb05 (fun _ h => h) HP.out.rm).weak fun i h => .inl h, re := hre5 }
  have C6 := become_any _ _ _ _ _ _ _ w5 hE
  rw [Int.natCast_add] at C6
  generalize become m (betweenEnv bs a n rest) (bs.length + rest.length) = r at *
  have C6 := Lib.hid C6
  have HB := Lib.hid hb05; clear hre5 hE hlen hb05 hbl5 hf5 ho5 hb5 hg5
  go_wp2_with fail
  (with_reducible refine C6.out.mono ?_)
  rintro en w6 ⟨v, rfl, hb6, hn6, hy6⟩
  have H6 := Lib.hid (And.intro hb6 (And.intro hn6 hy6)); clear hb6 hn6 hy6
  go_wp2_with fail
  go_ret
  refine ⟨v, rfl, HB.out.trans (H6.out.1.mono HB.out.size), H6.out.2.1, fun b h => (H6.out.2.2 b h).weak fun i h => ?_⟩
  have hz := HB.out.size
  rcases h with (h | h) | h
  · exact .inl h
  · exact .inr h
  · exact .inr (by omega)

end Go.Proofs.YtibnnbdpfkgfhaaGreatDoor

/- The walk of impl's applyOf. -/
namespace Go.Proofs.YtibnnbdpfkgfhaaGreatDoor
open Go.RowKit

/-- A type and a body, or nil. -/
def TBPost (F : Nat → Prop) (w : World) (o : Option (Ty × Bd)) (en : Ending) (w' : World) : Prop :=
  ∃ kv bv, en = .returned (.tuple #[kv, bv]) ∧ Below w.heap.size w w' ∧ (o = none → bv = .pointer none) ∧
    ∀ x, o = some x → Rep (fun i => F i ∨ w.heap.size ≤ i) w' (encK x.1) kv ∧ Rep (fun i => F i ∨ w.heap.size ≤ i) w' (encB x.2) bv

/-- What is left of a slice behind its first element. -/
theorem Rep_sl1_tail {F : Nat → Prop} {w : World} {e : TypeId} {n b o cap : Nat} {d : DV} {ds : List DV} (h : Rep F w (.sl e 1 (n + 1) (d :: ds)) (.slice (some ⟨b, o, none⟩) (n + 1) cap)) :
    Rep F w (.sl e 1 n ds) (.slice (some ⟨b, o + 1, none⟩) n (cap - 1)) := by
  rw [Rep_sl] at h ⊢
  obtain ⟨hl, a, c, e1, hn, hz, h⟩ := h
  simp only [Value.slice.injEq] at e1
  obtain ⟨rfl, _, rfl⟩ := e1
  refine ⟨by simpa using hl, _, _, rfl, by omega, fun h => by simp at h, .inr ?_⟩
  rcases h with h0 | ⟨b', o', cs, fr, e2, hb, hcs, hr⟩
  · omega
  simp only [Option.some.injEq, Addr.mk.injEq, and_true] at e2
  obtain ⟨rfl, rfl⟩ := e2
  refine ⟨_, _, cs, fr, rfl, hb, hcs, ?_⟩
  have h2 := hr
  rw [Reps_cons] at h2
  obtain ⟨v, vs, e3, _, h4⟩ := h2
  have : vs = List.take (n * 1) (List.drop (o + 1) cs.toList) := by
    have h5 := congrArg (List.drop 1) e3
    rw [List.drop_take, List.drop_drop] at h5
    simpa using h5.symm
  rw [← this]; exact h4

set_option maxRecDepth 100000 in
set_option maxHeartbeats 4000000 in
theorem applyOf_any (F : Nat → Prop) (t : Ty) (m : Bd) (l : Bs) (kv mv : Value) (w : World) (hg : Glob w) (he : GlobE w) (hk : Rep F w (encK t) kv) (hm : Rep F w (encB m) mv) (hgood : Good t m) (hl : Lim l.length) :
    Calls Tryz.prog 54 #[kv, mv, str l] w (TBPost F w (applyOne t m l)) := by
  obtain ⟨kb, ks, rfl, hkF, hkb, hks⟩ := encK_open hk
  obtain ⟨mb, rfl⟩ := encB_ptr hm
  obtain ⟨ka, kc, e, hkc, _, hkat⟩ := Rep_sl1_open hks
  subst e
  have hkw := lt_of_heap hkb
  have hk0 : w.cell? ⟨kb, 0, none⟩ = some (.slice ka t.args.length kc) := by simp [World.cell?, hkb]
  cases hts : t.args with
  | nil =>
    have hone : applyOne t m l = none := by unfold applyOne; rw [hts]
    rw [hone]
    rw [hts] at hk0
    clear hkat hks hkb hone
    go_enter Tryz.func54, Tryz.ntmps54
    go_wp2_with fail
    go_ret2
    exact ⟨_, _, rfl, Below.refl _ _, fun _ => rfl, fun x h => by simp at h⟩
  | cons a rest =>
    have hone : applyOne t m l = (rdStrat a l).bind fun n => (become m (applyEnv a n rest) rest.length).map fun out => (.mk rest, out) := by unfold applyOne; rw [hts]
    generalize applyOne t m l = r2 at *
    have HR2 := Lib.hid hone
    rw [hts] at hk0 hkat hks
    obtain ⟨kb2, ko2, u, d1, e, _, hkw2, hd1, hc1, hru⟩ := hkat 0 (by simp)
    subst e
    simp only [encKs, List.getElem?_cons_zero, Option.some.injEq] at hd1
    subst hd1
    obtain ⟨ab, rfl⟩ := encK_ptr' hru
    have hat := Ty_atoms_cons hts
    have h15 := hgood.1
    have hrl : rest.length ≤ atomsT (.mk rest) := by have := atomsT_mk (.mk rest); have := length_le_atomsTs rest; simp only [Ty.args] at *; omega
    have hc1' : w.cell? ⟨kb2, ko2, none⟩ = some (.pointer (some ⟨ab, 0, none⟩)) := hc1
    have C1 := Lib.hid (readStrategy_any F a l _ w hg hru (by omega) hl)
    have HT := Lib.hid hts
    have HP := Lib.hid (And.intro hru (And.intro hks (And.intro hgood (And.intro he hm)))); clear hru hks hgood he hm hkat hkb hone hc1 hkF hk hts
    go_enter Tryz.func54, Tryz.ntmps54
    go_wp2_with fail
    (with_reducible refine C1.out.mono ?_)
    rintro en w1 ⟨v, rfl, hb1, hn1, hy1⟩
    cases hq : rdStrat a l with
    | none =>
      obtain rfl := hn1 hq
      have HB := Lib.hid hb1
      have HQ := Lib.hid hq; clear hb1 hn1 hy1 hq C1
      go_wp2_with fail
      go_ret2
      have h0 : r2 = none := by have := HR2.out; rw [HQ.out] at this; exact this
      exact ⟨_, _, rfl, HB.out, fun _ => rfl, fun x h => by rw [h0] at h; simp at h⟩
    | some n =>
      have hrn := hy1 n hq
      obtain ⟨nb, rfl⟩ := encB_ptr hrn
      have q0 := (hb1.cell hkw).trans hk0
      have KEY : ∀ (ra : Option Addr) (rc : Nat), Rep F w (.sl 65 1 rest.length (encKs rest)) (.slice ra rest.length rc) →
          Calls Tryz.prog 81 #[.pointer (some ⟨mb, 0, none⟩), .pointer (some ⟨nb, 0, none⟩), .slice none 0 0, .slice ra rest.length rc] (w1.alloc (.cells #[.slice ra rest.length rc] 75))
            (fun en w' => ∃ v, en = .returned v ∧ Below w.heap.size w w' ∧ w'.heap[w1.heap.size]? = some (.cells #[.slice ra rest.length rc] 75 (0, 0)) ∧ r2 = (become m (applyEnv a n rest) rest.length).map (fun out => (.mk rest, out)) ∧
              (become m (applyEnv a n rest) rest.length = none → v = .pointer none) ∧ ∀ b, become m (applyEnv a n rest) rest.length = some b → Rep (fun i => F i ∨ w.heap.size ≤ i) w' (encB b) v ∧ Rep (fun i => F i ∨ w.heap.size ≤ i) w' (encK (.mk rest)) (.pointer (some ⟨w1.heap.size, 0, none⟩))) := by
        intro ra rc hrr
        obtain ⟨hru, hks, hgood, he, hm⟩ := HP.out
        have hb1a : Below w.heap.size w (w1.alloc (.cells #[.slice ra rest.length rc] 75)) := hb1.alloc hb1.size _
        have hz1 := hb1.size
        have kk : ∀ {dv : DV} {v : Value}, Rep F w dv v → Rep (fun i => F i ∨ w.heap.size ≤ i) (w1.alloc (.cells #[.slice ra rest.length rc] 75)) dv v := fun h => (Rep.below hb1a (fun _ h => h) h).weak fun i h => .inl h
        have hn2 : Rep (fun i => F i ∨ w.heap.size ≤ i) (w1.alloc (.cells #[.slice ra rest.length rc] 75)) (encB n) (.pointer (some ⟨nb, 0, none⟩)) := (Rep.keep fun b o hf ho => ⟨.inr hf, heap_past ho⟩).1 _ _ hrn
        have hgn : Good a n := (rdStrat_good (by omega) hq).1
        have hfit := applyEnv_fit (a := a) (rest := rest) hgn.fit (m := m) (by have := hgood.fit; rwa [HT.out] at this)
        have hr15 : ∀ t ∈ rest, atomsT t ≤ 15 := (args_atoms (t := .mk rest) (by omega)).1
        have hE : AppPre (fun i => F i ∨ w.heap.size ≤ i) [] rest a m n (.pointer (some ⟨mb, 0, none⟩)) (.pointer (some ⟨nb, 0, none⟩)) (.slice none 0 0) (.slice ra rest.length rc) (w1.alloc (.cells #[.slice ra rest.length rc] 75)) :=
          { glob := he.below hb1a, fit := by rw [betweenEnv_nil]; exact hfit, a15 := by omega, bl := by simp, rl := by omega, b15 := by simp, r15 := hr15, rm := kk hm, rn := hn2, rb := Rep_sl.2 ⟨by simp [encKs], none, 0, rfl, Nat.le_refl _, fun _ => rfl, .inl rfl⟩, rr := kk hrr }
        have C := apply_any _ _ _ _ _ _ _ _ _ _ _ hE
        rw [betweenEnv_nil, List.length_nil, Nat.zero_add] at C
        refine C.mono ?_
        rintro en w2 ⟨v, rfl, hb2, hn2', hy2⟩
        have hblk : w2.heap[w1.heap.size]? = some (.cells #[.slice ra rest.length rc] 75 (0, 0)) := by rw [hb2.block _ (by rw [size_alloc]; omega)]; exact heap_new _ _
        have hb02 : Below w.heap.size w w2 := hb1a.trans (hb2.mono hb1a.size)
        have hw : ∀ {dv : DV} {v : Value}, Rep (fun i => (F i ∨ w.heap.size ≤ i) ∨ (w1.alloc (.cells #[.slice ra rest.length rc] 75)).heap.size ≤ i) w2 dv v → Rep (fun i => F i ∨ w.heap.size ≤ i) w2 dv v := fun h => h.weak fun i h => by
          rcases h with h | h
          · exact h
          · rw [size_alloc] at h; exact .inr (by omega)
        refine ⟨v, rfl, hb02, hblk, by have := HR2.out; rw [hq] at this; exact this, hn2', fun b hb => ⟨hw (hy2 b hb), ?_⟩⟩
        rw [encK, Rep_ptr]
        exact ⟨_, _, rfl, .inr hz1, hblk, Reps.one ((Rep.below hb02 (fun _ h => h) hrr).weak fun i h => .inl h)⟩
      have hT2 : ¬ kc = 1 → Rep F w (.sl 65 1 rest.length (encKs rest)) (.slice (some ⟨kb2, ko2 + 1, none⟩) rest.length (kc - 1)) := fun _ => Rep_sl1_tail (d := encK a) HP.out.2.1
      have hT1 : kc = 1 → Rep F w (.sl 65 1 rest.length (encKs rest)) (.slice (some ⟨kb2, ko2, none⟩) rest.length 0) := fun h => by
        obtain rfl : rest = [] := by
          rw [HT.out, h] at hkc
          simp at hkc; exact hkc
        exact Rep_sl.2 ⟨by simp [encKs], _, _, rfl, by simp, fun h => by simp at h, .inl rfl⟩
      have HB := Lib.hid hq; clear hb1 hn1 hy1 hrn hq C1
      by_cases hkc1 : kc = 1
      · have K := Lib.hid (KEY _ _ (hT1 hkc1))
        clear KEY hT1 hT2
        generalize hr : become m (applyEnv a n rest) rest.length = r at *
        go_wp2_with fail
        (with_reducible refine K.out.mono ?_)
        rintro en w2 ⟨v, rfl, h2⟩
        have H2 := Lib.hid h2; clear h2
        go_wp2_with fail
        go_ret2
        obtain ⟨hb2, hblk, hr2, hn2, hy2⟩ := H2.out
        rw [hr2]
        refine ⟨_, _, rfl, hb2, fun h => ?_, fun x h => ?_⟩
        · cases r with
          | none => exact hn2 rfl
          | some b => simp at h
        · cases r with
          | none => simp at h
          | some b =>
            simp only [Option.map_some, Option.some.injEq] at h
            subst h
            exact ⟨(hy2 b rfl).2, (hy2 b rfl).1⟩
      · have K := Lib.hid (KEY _ _ (hT2 hkc1))
        clear KEY hT1 hT2
        generalize hr : become m (applyEnv a n rest) rest.length = r at *
        go_wp2_with fail
        (with_reducible refine K.out.mono ?_)
        rintro en w2 ⟨v, rfl, h2⟩
        have H2 := Lib.hid h2; clear h2
        go_wp2_with fail
        go_ret2
        obtain ⟨hb2, hblk, hr2, hn2, hy2⟩ := H2.out
        rw [hr2]
        refine ⟨_, _, rfl, hb2, fun h => ?_, fun x h => ?_⟩
        · cases r with
          | none => exact hn2 rfl
          | some b => simp at h
        · cases r with
          | none => simp at h
          | some b =>
            simp only [Option.map_some, Option.some.injEq] at h
            subst h
            exact ⟨(hy2 b rfl).2, (hy2 b rfl).1⟩

end Go.Proofs.YtibnnbdpfkgfhaaGreatDoor

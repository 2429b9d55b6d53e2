import Derived.Test.YtibnnbdpfkgfhaaGreatDoorS13
import Derived.Test.YtibnnbdpfkgfhaaGreatDoorP15
import Derived.Test.YtibnnbdpfkgfhaaGreatDoorS16
import Derived.Test.YtibnnbdpfkgfhaaGreatDoorD3

/- What stands for a level for the reference, in memory; the walk of l4Hand. -/
namespace Go.Proofs.YtibnnbdpfkgfhaaGreatDoor
open Go.RowKit

mutual
def encSC : SC → List DV
  | .mk b t env bg i => [.val (.int .i64 (-1))] ++ (encN b ++ [encS t, .sl 60 9 env.length (encSCs env), .val (.int .i64 (bg : Nat)), .val (.int .i64 (i : Nat))])
def encSCs : List SC → List DV
  | [] => []
  | x :: xs => encSC x ++ encSCs xs
end
theorem encSC_length (x : SC) : (encSC x).length = 9 := by cases x; simp [encSC, encN_length]
theorem encSCs_length : ∀ xs : List SC, (encSCs xs).length = xs.length * 9
  | [] => by simp [encSCs]
  | x :: xs => by rw [encSCs, List.length_append, encSC_length, encSCs_length xs]; simp; omega
theorem encSCs_append : ∀ (xs ys : List SC), encSCs (xs ++ ys) = encSCs xs ++ encSCs ys
  | [], ys => by simp [encSCs]
  | x :: xs, ys => by simp [encSCs, encSCs_append xs ys]
theorem ownS_at (env : List SC) (m : Nat) : ∀ (ts : List Ty) (ss : List Bd) (i k : Nat) (t : Ty) (s : Bd), ts[k]? = some t → ss[k]? = some s → (ownS env m i ts ss)[k]? = some (.mk s t env m (i + k))
  | [], ss, i, k, t, s, h, _ => by simp at h
  | t' :: ts, [], i, k, t, s, _, h => by simp at h
  | t' :: ts, s' :: ss, i, k, t, s, h1, h2 => by
    rw [ownS]
    cases k with
    | zero => simp at h1 h2; subst h1; subst h2; simp
    | succ k => simp only [List.getElem?_cons_succ] at *; rw [ownS_at env m ts ss (i + 1) k t s h1 h2, show i + 1 + k = i + (k + 1) from by omega]
theorem ownS_length (env : List SC) (m : Nat) : ∀ (ts : List Ty) (ss : List Bd) (i : Nat), ts.length = ss.length → (ownS env m i ts ss).length = ss.length
  | [], [], i, _ => by rw [ownS]; · rfl
                       · intros; contradiction
  | [], s :: ss, i, h => by simp at h
  | t :: ts, [], i, h => by simp at h
  | t :: ts, s :: ss, i, h => by rw [ownS]; simp [ownS_length env m ts ss (i + 1) (by simpa using h)]
theorem oneCell_encSCs {F : Nat → Prop} {w : World} : ∀ (xs : List SC) (us : List Value), Reps F w (encSCs xs) us → ∀ u ∈ us, u.oneCell' = true
  | [], us, h, u, hu => by rw [encSCs, Reps_nil] at h; subst h; simp at hu
  | .mk b t env bg i :: xs, us, h, u, hu => by
    rw [encSCs] at h
    obtain ⟨h1, h2⟩ := h.split
    rw [encSC_length] at h1 h2
    rw [← List.take_append_drop 9 us] at hu
    rcases List.mem_append.1 hu with hu | hu
    · rw [encSC] at h1
      obtain ⟨k1, k2⟩ := h1.split
      obtain ⟨k3, k4⟩ := k2.split
      rw [← List.take_append_drop 1 (us.take 9)] at hu
      rcases List.mem_append.1 hu with hu | hu
      · simp only [List.length_singleton, Reps_cons, Reps_nil, Rep_val] at k1
        obtain ⟨_, _, e, rfl, rfl⟩ := k1
        rw [e] at hu; simp at hu; subst hu; rfl
      · rw [encN_length] at k3 k4
        simp only [List.length_singleton] at k3 k4
        rw [← List.take_append_drop 4 (List.drop 1 (us.take 9))] at hu
        rcases List.mem_append.1 hu with hu | hu
        · exact oneCell_encN k3 u hu
        · simp only [Reps_cons, Reps_nil, Rep_val] at k4
          obtain ⟨x0, _, e, q1, x1, _, rfl, q2, _, _, rfl, rfl, _, _, rfl, rfl, rfl⟩ := k4
          rw [e] at hu
          obtain ⟨sa, sc, rfl⟩ := encS_slice q1
          rw [Rep_sl] at q2
          obtain ⟨_, a, c, rfl, _⟩ := q2
          simp only [List.mem_cons, List.not_mem_nil, or_false] at hu
          rcases hu with rfl | rfl | rfl | rfl <;> rfl
    · exact oneCell_encSCs xs _ h2 u hu

def HandSPost (F : Nat → Prop) (hand : List SC) (own : List SC) (w : World) (en : Ending) (w' : World) : Prop :=
  ∃ a c, en = .returned (.slice a (hand.length + own.length) c) ∧ Below w.heap.size w w' ∧ Rep (fun i => F i ∨ w.heap.size ≤ i) w' (.sl 60 9 (hand.length + own.length) (encSCs (hand ++ own))) (.slice a (hand.length + own.length) c)

set_option maxRecDepth 100000 in
set_option maxHeartbeats 2000000 in
theorem l4HandR_any (F : Nat → Prop) (hand env : List SC) (ss : List Bd) (t : Ty) (begun : Nat) (hv kv tv ev : Value) (w : World) (hh : Rep F w (.sl 60 9 hand.length (encSCs hand)) hv) (hk : Rep F w (.sl 51 4 ss.length (encNs ss)) kv)
    (ht : Rep F w (encS t) tv) (he : Rep F w (.sl 60 9 env.length (encSCs env)) ev) (hl : hand.length ≤ 10000000) (hs : ss.length = t.args.length) (hs16 : ss.length ≤ 16) :
    Calls Tryz.prog 66 #[hv, kv, .agg #[tv], ev, .int .i64 (begun : Nat)] w (HandSPost F hand (ownS env begun 0 t.args ss) w) := by
  obtain ⟨xs1, hx1, g1⟩ := SrcSl.ofRep hh (oneCell_encSCs _)
  obtain ⟨a1, c1, e1⟩ := g1.slice
  subst e1
  obtain ⟨ka, kc, e, hka⟩ := AtNs.of hk
  subst e
  have ht' := ht
  rw [encS_eq] at ht'
  obtain ⟨ta, tc, e, _, _, hta⟩ := Rep_sl1_open ht'
  subst e
  obtain ⟨ea, ec, e⟩ : ∃ a c, ev = .slice a env.length c := by have h := he; rw [Rep_sl] at h; obtain ⟨_, a, c, e, _⟩ := h; exact ⟨a, c, e⟩
  subst e
  have H := Lib.hid (And.intro hx1 (And.intro g1 (And.intro hka (And.intro hta (And.intro he hs)))))
  clear hx1 g1 hka hta he hs hh hk ht ht'
  have hol : (ownS env begun 0 t.args ss).length = ss.length := ownS_length _ _ _ _ _ H.out.2.2.2.2.2.symm
  have HOL := Lib.hid hol; clear hol
  go_enter Tryz.func66, Tryz.ntmps66
  go_wp2_with (at_builtin; refine wpList_append_gen rfl _ _ 58 rfl 60 (.agg #[.int .i64 0, str [], .int .i64 0, .slice none 0 0, .slice none 0 0, .slice none 0 0, .slice none 0 0, .int .i64 0, .int .i64 0]) 9 144 Tryz.underlying58 Tryz.infoBo rfl (by decide) (.slice (some ⟨w.heap.size + 1, 0, none⟩) 0 0) 0 [] rfl ?c1 _ hand.length xs1 rfl ?c2 ?c3 ?c4 ?_)
  case c1 => exact Own.litAt #[] 0 _ (by simp) (by decide) rfl
  case c2 => exact (H.out.2.1.alloc _).alloc _
  case c3 => unfold maxLen; omega
  case c4 => omega
  intro ax cx wx hox hbx hgx
  obtain ⟨hbX, hfx⟩ := fresh_append (w := w.alloc (.cells #[.slice ta t.args.length tc] 46)) ((Below.refl _ _).alloc (Nat.le_refl _) _) (own_some (by simp)) hbx (fun g h => by have := hgx g h; simpa only [size_alloc] using this)
  have hbA : Below w.heap.size w (w.alloc (.cells #[.slice ta t.args.length tc] 46)) := (Below.refl _ _).alloc (Nat.le_refl _) _
  have hbx0 : Below w.heap.size w wx := hbA.trans (hbX.mono (by rw [size_alloc]; omega))
  have hcx : wx.cell? ⟨w.heap.size, 0, none⟩ = some (.slice ta t.args.length tc) := by rw [hbX.cell (p := ⟨w.heap.size, 0, none⟩) (by rw [size_alloc]; simp)]; simp
  have hfx' : ∀ g, (Value.slice ax hand.length cx).ownBlock = some g → w.heap.size + 1 ≤ g := fun g hg => by have := hfx g hg; rwa [size_alloc] at this
  have HX := Lib.hid (And.intro hox (And.intro hbx0 (And.intro hcx hfx'))); clear hox hbx hgx hbX hfx hbA hbx0 hcx hfx'
  go_wp2_with fail
  go_loopw [12, 11] (fun i o wr => ∃ (k : Nat) (a' : Option Addr) (c' : Nat) (cells : List Value), k ≤ ss.length ∧ i = .int .i64 k ∧ o = .slice a' (hand.length + k) c' ∧ Own wr 60 9 (.slice a' (hand.length + k) c') (hand.length + k) cells ∧
      Reps (fun i => F i ∧ (Value.slice a' (hand.length + k) c').ownBlock ≠ some i) wr (encSCs (hand ++ (ownS env begun 0 t.args ss).take k)) cells ∧ Below w.heap.size w wr ∧ wr.cell? ⟨w.heap.size, 0, none⟩ = some (.slice ta t.args.length tc) ∧ (∀ g, (Value.slice a' (hand.length + k) c').ownBlock = some g → w.heap.size + 1 ≤ g)) (fun i _ _ => ss.length - (intOf i).toNat)
  case atStart =>
    refine ⟨0, ax, cx, xs1, Nat.zero_le _, rfl, rfl, HX.out.1, ?_, HX.out.2.1, HX.out.2.2.1, HX.out.2.2.2⟩
    rw [List.take_zero, List.append_nil]
    exact (Rep.keep fun b o hf ho => ⟨⟨hf, fun e => by have h1 : w.heap.size + 1 ≤ b := HX.out.2.2.2 b e; have := lt_of_heap ho; omega⟩, by rw [HX.out.2.1.block b (lt_of_heap ho)]; exact ho⟩).2 _ _ H.out.1
  case round =>
    obtain ⟨k, a', c', cells, hk, rfl, rfl, ho, hr, hb, hc, hf⟩ := hrel
    have HR := Lib.hid (And.intro ho (And.intro hr (And.intro hb hf))); clear ho hr hb hf
    by_cases hlt : k < ss.length
    · obtain ⟨kb, ko, s', v', a2, n2, c2, a3, n3, c3, d, e, hkb, hd, k0, k1, k2, k3, hrd⟩ := H.out.2.2.1 k hlt
      subst e
      have hkt : k < t.args.length := by have := H.out.2.2.2.2.2; omega
      obtain ⟨bt, ot, ut, dt, e, _, hbt, hdt, hct, hrt⟩ := H.out.2.2.2.1 k hkt
      subst e
      rw [encSs_at, Option.map_eq_some_iff] at hdt
      obtain ⟨tk, htk, rfl⟩ := hdt
      obtain ⟨ua, uc, rfl⟩ := encS_slice hrt
      have q0 := (HR.out.2.2.1.cell (p := ⟨kb, ko + k * 4, none⟩) hkb).trans k0
      have q1 := (HR.out.2.2.1.cell (p := ⟨kb, ko + k * 4 + 1, none⟩) hkb).trans k1
      have q2 := (HR.out.2.2.1.cell (p := ⟨kb, ko + k * 4 + 2, none⟩) hkb).trans k2
      have q3 := (HR.out.2.2.1.cell (p := ⟨kb, ko + k * 4 + 3, none⟩) hkb).trans k3
      have q4 := (HR.out.2.2.1.cell (p := ⟨bt, ot + k, none⟩) hbt).trans hct
      have HK := Lib.hid (And.intro hd (And.intro hrd (And.intro htk hrt))); clear hd hrd htk hrt k0 k1 k2 k3 hct
      have hlt' : (k : Int) < (ss.length : Int) := by omega
      have hkt' : (k : Int) < (t.args.length : Int) := by omega
      have h09 : 0 < 9 := by omega
      have hmx : hand.length + k + 1 ≤ maxLen := by unfold maxLen; omega
      have hby : (hand.length + k + 1) * 144 ≤ 140737488355328 := by omega
      have hlit := (SrcSl.litk (w := wr) (e := 60) #[.int .i64 (-1), str s', .int .i64 v', .slice a2 n2 c2, .slice a3 n3 c3, .slice ua tk.args.length uc, .slice ea env.length ec, .int .i64 (begun : Nat), .int .i64 (k : Nat)] rfl (by simp [str, Value.oneCell']) _ rfl).drew
      have HL := Lib.hid hlit; clear hlit
      have hrw : ∀ g, (Value.slice a' (hand.length + k) c').ownBlock = some g → g < wr.heap.size := fun g hg => HR.out.1.lt hg
      have SIX : Hid (∀ w7 : World, But (fun b => (Value.slice a' (hand.length + k) c').ownBlock = some b) (wr.alloc (.cells #[.int .i64 (-1), str s', .int .i64 v', .slice a2 n2 c2, .slice a3 n3 c3, .slice ua tk.args.length uc, .slice ea env.length ec, .int .i64 (begun : Nat), .int .i64 (k : Nat)] 60)).drew w7 →
          w7.cell? ⟨kb, ko + k * 4, none⟩ = some (str s') ∧ w7.cell? ⟨kb, ko + k * 4 + 1, none⟩ = some (.int .i64 v') ∧ w7.cell? ⟨kb, ko + k * 4 + 2, none⟩ = some (.slice a2 n2 c2) ∧ w7.cell? ⟨kb, ko + k * 4 + 3, none⟩ = some (.slice a3 n3 c3) ∧ w7.cell? ⟨bt, ot + k, none⟩ = some (.slice ua tk.args.length uc) ∧ w7.cell? ⟨w.heap.size, 0, none⟩ = some (.slice (some ⟨bt, ot, none⟩) t.args.length tc)) := by
        show ∀ w7 : World, _ → _
        intro w7 hb7
        have hz := HR.out.2.2.1.size
        have key : ∀ (p : Addr) (u : Value), p.block < w.heap.size + 1 → wr.cell? p = some u → w7.cell? p = some u := by
          intro p u hp hu
          have h1 : (wr.alloc (.cells #[.int .i64 (-1), str s', .int .i64 v', .slice a2 n2 c2, .slice a3 n3 c3, .slice ua tk.args.length uc, .slice ea env.length ec, .int .i64 (begun : Nat), .int .i64 (k : Nat)] 60)).drew.cell? p = some u := cell_alloc hu
          exact (hb7.cell (World.block_lt_of_cell? _ _ h1) (fun e => by have := HR.out.2.2.2 _ e; omega)).trans h1
        exact ⟨key _ _ (by simp only; omega) q0, key _ _ (by simp only; omega) q1, key _ _ (by simp only; omega) q2, key _ _ (by simp only; omega) q3, key _ _ (by simp only; omega) q4, key _ _ (by simp only; omega) hc⟩
      go_wp2_with fail
      go_region_held3 (fun w' => w'.cell? ⟨kb, ko + k * 4, none⟩ = some (str s') ∧ w'.cell? ⟨kb, ko + k * 4 + 1, none⟩ = some (.int .i64 v') ∧ w'.cell? ⟨kb, ko + k * 4 + 2, none⟩ = some (.slice a2 n2 c2) ∧ w'.cell? ⟨kb, ko + k * 4 + 3, none⟩ = some (.slice a3 n3 c3) ∧ w'.cell? ⟨bt, ot + k, none⟩ = some (.slice ua tk.args.length uc) ∧ w'.cell? ⟨w.heap.size, 0, none⟩ = some (.slice (some ⟨bt, ot, none⟩) t.args.length tc))
        (first
          | exact ⟨q0, q1, q2, q3, q4, hc⟩
          | exact hS7
          | go_keep)
        (first
          | (refine step_append_gen (by rfl) _ _ _ (by rfl) 60 (.agg #[.int .i64 0, str [], .int .i64 0, .slice none 0 0, .slice none 0 0, .slice none 0 0, .slice none 0 0, .int .i64 0, .int .i64 0]) 9 144 Tryz.underlying58 Tryz.infoBo rfl h09 (.slice a' (hand.length + k) c') (hand.length + k) cells (by rfl) (HR.out.1.alloc _).drew _ 1 [.int .i64 (-1), str s', .int .i64 v', .slice a2 n2 c2, .slice a3 n3 c3, .slice ua tk.args.length uc, .slice ea env.length ec, .int .i64 (begun : Nat), .int .i64 (k : Nat)] (by rfl) HL.out hmx hby ?_; intro a7 c7 w7 ho7 hb7 hg7; have hS7 := SIX.out w7 hb7))
      have hz := HR.out.2.2.1.size
      have hg7' : ∀ g, (Value.slice a7 (hand.length + k + 1) c7).ownBlock = some g → (Value.slice a' (hand.length + k) c').ownBlock = some g ∨ g = wr.heap.size + 1 := by
        intro g hg
        rcases hg7 g hg with h | h
        · exact .inl h
        · exact .inr (by rw [h]; exact size_alloc _ _)
      have hb17 : Below w.heap.size w w7 := by
        refine ((HR.out.2.2.1.alloc hz _).drew).trans (hb7.toBelow (by show _ ≤ (wr.alloc _).heap.size; rw [size_alloc]; omega) fun i hi e => ?_)
        have := HR.out.2.2.2 i e; omega
      have keep7 : ∀ (b : Nat) (o : Obj), (Value.slice a' (hand.length + k) c').ownBlock ≠ some b → wr.heap[b]? = some o → w7.heap[b]? = some o := by
        intro b o hf ho
        have h2 := lt_of_heap ho
        have h3 : (wr.alloc (.cells #[.int .i64 (-1), str s', .int .i64 v', .slice a2 n2 c2, .slice a3 n3 c3, .slice ua tk.args.length uc, .slice ea env.length ec, .int .i64 (begun : Nat), .int .i64 (k : Nat)] 60)).drew.heap[b]? = some o := heap_past ho
        rw [hb7.block b (lt_of_heap h3) hf]; exact h3
      have hr7 : Reps (fun i => F i ∧ (Value.slice a7 (hand.length + k + 1) c7).ownBlock ≠ some i) w7 (encSCs (hand ++ (ownS env begun 0 t.args ss).take (k + 1))) (cells ++ [.int .i64 (-1), str s', .int .i64 v', .slice a2 n2 c2, .slice a3 n3 c3, .slice ua tk.args.length uc, .slice ea env.length ec, .int .i64 (begun : Nat), .int .i64 (k : Nat)]) := by
        have how := ownS_at env begun t.args ss 0 k tk d HK.out.2.2.1 HK.out.1
        rw [Nat.zero_add] at how
        rw [List.take_add_one, how]
        simp only [Option.toList_some]
        rw [← List.append_assoc, encSCs_append]
        have hnf : ∀ (b : Nat) (o : Obj), F b → w.heap[b]? = some o → (F b ∧ (Value.slice a7 (hand.length + k + 1) c7).ownBlock ≠ some b) ∧ w7.heap[b]? = some o := by
          intro b o hf ho
          have h1 := lt_of_heap ho
          refine ⟨⟨hf, fun e => ?_⟩, by rw [hb17.block b h1]; exact ho⟩
          rcases hg7' b e with h | h
          · have := HR.out.2.2.2 b h; omega
          · omega
        refine Reps.append ?_ ?_
        · exact (Rep.keep fun b o hf ho => ⟨⟨hf.1, fun e => by
            have := lt_of_heap ho
            rcases hg7' b e with h | h
            · exact hf.2 h
            · omega⟩, keep7 b o hf.2 ho⟩).2 _ _ HR.out.2.1
        · simp only [encSCs, encSC, List.append_nil, List.cons_append, List.nil_append]
          refine Reps_cons.2 ⟨_, _, rfl, Rep_val.2 rfl, ?_⟩
          have h4 := (Rep.keep hnf).2 _ _ HK.out.2.1
          have h5 := (Rep.keep hnf).1 _ _ HK.out.2.2.2
          have h6 := (Rep.keep hnf).1 _ _ H.out.2.2.2.2.1
          exact Reps.append h4 (Reps_cons.2 ⟨_, _, rfl, h5, Reps_cons.2 ⟨_, _, rfl, h6, Reps_cons.2 ⟨_, _, rfl, Rep_val.2 rfl, Reps_cons.2 ⟨_, _, rfl, Rep_val.2 rfl, Reps_nil.2 rfl⟩⟩⟩⟩)
      have hf7 : ∀ g, (Value.slice a7 (hand.length + k + 1) c7).ownBlock = some g → w.heap.size + 1 ≤ g := by
        intro g hg
        rcases hg7' g hg with h | h
        · exact HR.out.2.2.2 g h
        · omega
      have H7 := Lib.hid (And.intro ho7 (And.intro hr7 (And.intro hb17 (And.intro hS7.2.2.2.2.2 hf7)))); clear ho7 hr7 hb17 hS7 hf7 hb7 hg7 hg7' keep7 q0 q1 q2 q3 q4 hc
      go_wp2_with fail
      go_roundw
      case rel => exact ⟨k + 1, a7, c7, _, by omega, by go_num, rfl, H7.out.1, H7.out.2.1, H7.out.2.2.1, H7.out.2.2.2.1, H7.out.2.2.2.2⟩
      case measure => simp [intOf]; omega
    · obtain rfl : k = ss.length := by omega
      have hnlt : ¬ (ss.length : Int) < (ss.length : Int) := by omega
      clear hc
      go_wp2_with fail
      go_ret
      have hr := HR.out.2.1
      rw [List.take_of_length_le (by rw [HOL.out]; exact Nat.le_refl _)] at hr
      unfold HandSPost
      rw [HOL.out]
      refine ⟨a', c', rfl, HR.out.2.2.1, HR.out.1.rep (fun g hg => .inr (by have := HR.out.2.2.2 g hg; omega)) ((Rep.keep fun b o hf ho => ⟨.inl hf.1, ho⟩).2 _ _ hr)⟩

end Go.Proofs.YtibnnbdpfkgfhaaGreatDoor

/- The reference's runner: its block, its frames, what holds at each round of l4Go. -/
namespace Go.Proofs.YtibnnbdpfkgfhaaGreatDoor
open Go.RowKit

/-- The runner's block, and the rows of its play. -/
structure RS (keep : Bool) (most ra : Nat) (log : List (Bs × Int)) (mv pt : Value) (w : World) : Prop where
  blk : w.heap[ra]? = some (.cells #[mv, pt, .int .i64 (log.length : Nat), .int .i64 (most : Nat), .bool keep, .bool (decide (most < log.length))] 150 (0, 0))
  sls : ∃ a n k a' n' k', mv = .slice a n k ∧ pt = .slice a' n' k'
  rows : keep = true → log.length ≤ most → Own w 9 1 mv log.length (logM log) ∧ Own w 3 1 pt log.length (logP log)
  ne : ∀ g, mv.ownBlock = some g ∨ pt.ownBlock = some g → g ≠ ra ∧ g < w.heap.size
theorem RS.but {keep : Bool} {most ra : Nat} {log : List (Bs × Int)} {mv pt : Value} {m : Nat → Prop} {w w' : World} (h : RS keep most ra log mv pt w) (hb : But m w w') (hm : ∀ b, MBk ra mv pt b → ¬ m b) : RS keep most ra log mv pt w' :=
  ⟨by rw [hb.block ra (lt_of_heap h.blk) (hm ra (.inl rfl))]; exact h.blk, h.sls,
   fun hk hl => ⟨(h.rows hk hl).1.keep fun g o hg ho => by rw [hb.block g (lt_of_heap ho) (hm g (.inr (.inl hg)))]; exact ho, (h.rows hk hl).2.keep fun g o hg ho => by rw [hb.block g (lt_of_heap ho) (hm g (.inr (.inr hg)))]; exact ho⟩,
   fun g hg => ⟨(h.ne g hg).1, Nat.lt_of_lt_of_le (h.ne g hg).2 hb.size⟩⟩
theorem RS.below {keep : Bool} {most ra : Nat} {log : List (Bs × Int)} {mv pt : Value} {w w' : World} (h : RS keep most ra log mv pt w) (hb : Below w.heap.size w w') : RS keep most ra log mv pt w' :=
  h.but (m := fun _ => False) (But.ofBelow hb) fun _ _ h => h
theorem RS.drew {keep : Bool} {most ra : Nat} {log : List (Bs × Int)} {mv pt : Value} {w : World} (h : RS keep most ra log mv pt w) : RS keep most ra log mv pt w.drew := h.but (m := fun _ => False) (But.refl _ _).drew fun _ _ h => h
theorem RS.lt {keep : Bool} {most ra : Nat} {log : List (Bs × Int)} {mv pt : Value} {w : World} (h : RS keep most ra log mv pt w) {b : Nat} (hb : MBk ra mv pt b) : b < w.heap.size := by
  rcases hb with rfl | hb | hb
  · exact lt_of_heap h.blk
  · exact (h.ne b (.inl hb)).2
  · exact (h.ne b (.inr hb)).2
theorem RS.bad {keep : Bool} {most ra : Nat} {log : List (Bs × Int)} {mv pt : Value} {w : World} (h : RS keep most ra log mv pt w) : w.cell? ⟨ra, 5, none⟩ = some (.bool (decide (most < log.length))) := by simp [World.cell?, h.blk]

def MakeSaid (keep : Bool) : Prop := ∀ (most ra : Nat) (log : List (Bs × Int)) (mv pt : Value) (s : Bs) (p : Int) (w : World), RS keep most ra log mv pt w → log.length ≤ most → most ≤ 100000 → s.length ≤ 1000000 →
  Calls Tryz.prog 85 #[.pointer (some ⟨ra, 0, none⟩), str s, .int .i64 p] w fun en w' => ∃ mv' pt', en = .returned (.int .i64 (log.length : Nat)) ∧ But (MBk ra mv pt) w w' ∧ RS keep most ra (log ++ [(s, p)]) mv' pt' w' ∧ (∀ b, MBk ra mv' pt' b → MBk ra mv pt b ∨ w.heap.size ≤ b)
def PathSaid (keep : Bool) : Prop := ∀ (most ra : Nat) (log : List (Bs × Int)) (mv pt : Value) (i : Nat) (w : World), RS keep most ra log mv pt w → log.length ≤ most → most ≤ 100000 → (∃ q p, log[i]? = some (q, p) ∧ 1 ≤ q.length ∧ q.length ≤ 1000000) →
  Calls Tryz.prog 110 #[.pointer (some ⟨ra, 0, none⟩), .int .i64 (i : Nat)] w fun en w' => en = .returned (str (pthS keep log i)) ∧ w' = w

theorem make_none : MakeSaid false := by
  intro most ra log mv pt s p w h hl hm _
  have hd : decide (most < log.length) = false := by rw [decide_eq_false_iff_not]; omega
  have hb := h.blk
  rw [hd] at hb
  refine (l4Make_any ra mv pt log.length most false s p w hb (by omega)).mono ?_
  rintro en w' ⟨rfl, hb', hr⟩
  have hlen : (log ++ [(s, p)]).length = log.length + 1 := by simp
  refine ⟨mv, pt, rfl, hb'.weak fun i _ hi => .inl hi, ⟨?_, h.sls, fun hk => Bool.noConfusion hk, fun g hg => ⟨(h.ne g hg).1, Nat.lt_of_lt_of_le (h.ne g hg).2 hb'.size⟩⟩, fun b hb => .inl hb⟩
  rw [hlen]
  exact hr
theorem path_none : PathSaid false := by
  intro most ra log mv pt i w h hl hm _
  have hb := h.blk
  refine (l4Path_any ra mv pt log.length most _ (i : Int) w hb).mono ?_
  rintro en w' ⟨rfl, e⟩
  exact ⟨rfl, e⟩

/-- A node's four cells, and where they read as a body. -/
structure BoxS (F : Nat → Prop) (B : Nat) (b : Bd) (v : Int) (x2 x3 : Value) (w : World) : Prop where
  blk : w.heap[B]? = some (.cells #[str (atomOf b), .int .i64 v, x2, x3] 51 (0, 0))
  rep : Reps F w (encN b) [str (atomOf b), .int .i64 v, x2, x3]

def encSF (x : SF) : List DV := encN (.ask x.v x.ss x.yes x.no) ++ [.sl 60 9 x.env.length (encSCs x.env), .val (.int .i64 (x.opens : Nat))]
def encSFs : List SF → List DV
  | [] => []
  | x :: xs => encSF x ++ encSFs xs
theorem encSF_length (x : SF) : (encSF x).length = 6 := by simp [encSF, encN_length]
theorem encSFs_append : ∀ (xs ys : List SF), encSFs (xs ++ ys) = encSFs xs ++ encSFs ys
  | [], ys => by simp [encSFs]
  | x :: xs, ys => by simp [encSFs, encSFs_append xs ys]
theorem encSFs_length : ∀ fs : List SF, (encSFs fs).length = fs.length * 6
  | [] => by simp [encSFs]
  | f :: fs => by rw [encSFs, List.length_append, encSFs_length fs, encSF_length]; simp; omega

mutual
/-- What stands for a level is not great. -/
def okN (n : Nat) : SC → Prop
  | .mk b _ e bg i => nB b ∧ okNs n e ∧ e.length ≤ 16 * n ∧ bg < n ∧ i ≤ 15
def okNs (n : Nat) : List SC → Prop
  | [] => True
  | c :: cs => okN n c ∧ okNs n cs
end
mutual
theorem okN_mono {n m : Nat} (h : n ≤ m) : ∀ c, okN n c → okN m c
  | .mk b _ e bg i, k => by
    rw [okN] at *
    exact ⟨k.1, okNs_mono h e k.2.1, by have := k.2.2.1; omega, by have := k.2.2.2.1; omega, k.2.2.2.2⟩
theorem okNs_mono {n m : Nat} (h : n ≤ m) : ∀ cs, okNs n cs → okNs m cs
  | [], k => by rw [okNs] at *; trivial
  | c :: cs, k => by rw [okNs] at *; exact ⟨okN_mono h c k.1, okNs_mono h cs k.2⟩
end
theorem okNs_at {n : Nat} : ∀ (cs : List SC), okNs n cs → ∀ (i : Nat) (c : SC), cs[i]? = some c → okN n c
  | [], _, i, c, h => by simp at h
  | x :: cs, k, i, c, h => by
    rw [okNs] at k
    cases i with
    | zero => simp at h; subst h; exact k.1
    | succ i => exact okNs_at cs k.2 i c (by simpa using h)
theorem okNs_append {n : Nat} : ∀ (xs ys : List SC), okNs n xs → okNs n ys → okNs n (xs ++ ys)
  | [], ys, _, h => h
  | x :: xs, ys, h, k => by rw [okNs] at h; exact ⟨h.1, okNs_append xs ys h.2 k⟩
theorem ownS_okN {n m : Nat} {env : List SC} (he : okNs n env) (hl : env.length ≤ 16 * n) (hm : m < n) : ∀ (ts : List Ty) (ss : List Bd) (i : Nat), i + ss.length ≤ 16 → nBs ss → okNs n (ownS env m i ts ss)
  | [], ss, i, _, _ => by
    rw [ownS]
    · rw [okNs]; trivial
    · intros; contradiction
  | t :: ts, [], i, _, _ => by
    rw [ownS]
    · rw [okNs]; trivial
    · intros; contradiction
  | t :: ts, s :: ss, i, hi, h => by
    rw [nBs] at h
    simp only [List.length_cons] at hi
    rw [ownS, okNs]
    refine ⟨?_, ownS_okN he hl hm ts ss (i + 1) (by omega) h.2⟩
    rw [okN]
    exact ⟨h.1, he, hl, hm, by omega⟩

structure SFOk (n : Nat) (x : SF) : Prop where
  ok : okF x
  yes : nB x.yes
  no : nB x.no
  env : okNs n x.env
  len : x.env.length ≤ 16 * n
  opens : x.opens < n
theorem SFOk.mono {n m : Nat} {x : SF} (h : SFOk n x) (k : n ≤ m) : SFOk m x := ⟨h.ok, h.yes, h.no, okNs_mono k _ h.env, by have := h.len; omega, by have := h.opens; omega⟩
def LogOk (log : List (Bs × Int)) : Prop := ∀ (i : Nat) (q : Bs) (p : Int), log[i]? = some (q, p) → 1 ≤ q.length ∧ q.length ≤ 2 * log.length + 1
theorem LogOk.snoc {log : List (Bs × Int)} (h : LogOk log) {s : Bs} {p : Int} (h1 : 1 ≤ s.length) (h2 : s.length ≤ 2 * log.length + 3) : LogOk (log ++ [(s, p)]) := by
  intro i q p' hi
  have hl : (log ++ [(s, p)]).length = log.length + 1 := by simp
  rw [hl]
  rcases Nat.lt_or_ge i log.length with hlt | hge
  · rw [List.getElem?_append_left hlt] at hi
    have := h i q p' hi
    omega
  · rw [List.getElem?_append_right hge] at hi
    rcases Nat.eq_zero_or_pos (i - log.length) with h0 | h0
    · rw [h0] at hi; simp at hi; obtain ⟨rfl, rfl⟩ := hi; omega
    · rw [List.getElem?_eq_none (by simp; omega)] at hi; simp at hi
theorem pthS_length (keep : Bool) {log : List (Bs × Int)} (h : LogOk log) (i : Nat) : (pthS keep log i).length ≤ 2 * log.length := by
  unfold pthS
  split
  · cases hi : log[i]? with
    | none => simp
    | some x => obtain ⟨q, p⟩ := x; have := h i q p hi; simp; omega
  · simp

/-- What holds at each round: of the words. -/
structure GoPl (keep : Bool) (R : Option (UInt8 × List (Bs × Int))) (most : Nat) (b : Bd) (env : List SC) (opens : Nat) (st : List SF) (log : List (Bs × Int)) : Prop where
  goes : (log.length ≤ most ∧ R = runS keep (most - log.length) log b env opens st) ∨ (most < log.length ∧ log.length ≤ most + 1 ∧ R = none)
  wf : wfB b
  oks : okSs env
  fit : fitB (env.map SC.kind) b
  nb : nB b
  oke : okNs log.length env
  len : env.length ≤ 16 * log.length
  opn : opens < log.length
  frs : ∀ f ∈ st, SFOk log.length f
  stl : st.length ≤ log.length
  lok : LogOk log
/-- What holds at each round: of memory. -/
structure GoAt (keep : Bool) (most ra : Nat) (mv0 pt0 : Value) (w : World) (B : Nat) (b : Bd) (env : List SC) (opens : Nat) (st : List SF) (log : List (Bs × Int)) (mv pt : Value) (v : Int) (x2 x3 ev sv : Value) (cells : List Value) (wr : World) : Prop where
  rs : RS keep most ra log mv pt wr
  box : BoxS (fun i => ¬ Chg ra mv pt B sv i) B b v x2 x3 wr
  re : Rep (fun i => ¬ Chg ra mv pt B sv i) wr (.sl 60 9 env.length (encSCs env)) ev
  own : Own wr 112 6 sv st.length cells
  rf : Reps (fun i => ¬ Chg ra mv pt B sv i) wr (encSFs st.reverse) cells
  but : But (MBk ra mv0 pt0) w wr
  new : ∀ i, MBk ra mv pt i → MBk ra mv0 pt0 i ∨ w.heap.size ≤ i
  bB : w.heap.size ≤ B ∧ ¬ MBk ra mv pt B
  sB : ∀ g, sv.ownBlock = some g → w.heap.size ≤ g ∧ g ≠ B ∧ ¬ MBk ra mv pt g

theorem gopl_back {keep : Bool} {R : Option (UInt8 × List (Bs × Int))} {most : Nat} {c : UInt8} {env : List SC} {opens : Nat} {x : SF} {st : List SF} {log : List (Bs × Int)} (h : GoPl keep R most (.leaf c) env opens (x :: st) log) (hc : c ≠ 117) (hm : log.length ≤ most) :
    GoPl keep R most (if c = 102 then x.no else x.yes) x.env x.opens st (log ++ [(c :: pthS keep log opens, (opens : Int))]) := by
  obtain ⟨hgo, hwf, hoks, hfit, hnb, hoke, hlen, hopn, hfrs, hstl, hlok⟩ := h
  have hl : (log ++ [(c :: pthS keep log opens, (opens : Int))]).length = log.length + 1 := by simp
  have k := hfrs x (by simp)
  have hf := k.ok.fits
  have hp := pthS_length keep hlok opens
  refine ⟨?_, by split; exact k.ok.no; exact k.ok.yes, k.ok.env, by split; exact hf.2; exact hf.1, by split; exact k.no; exact k.yes, by rw [hl]; exact okNs_mono (by omega) _ k.env, by rw [hl]; have := k.len; omega, by rw [hl]; have := k.opens; omega, fun g hg => by rw [hl]; exact (hfrs g (by simp [hg])).mono (by omega), by rw [hl]; simp at hstl; omega, hlok.snoc (by simp) (by simp; omega)⟩
  rw [hl]
  rcases hgo with ⟨_, hgo⟩ | ⟨h1, _⟩
  · rcases Nat.lt_or_ge log.length most with h2 | h2
    · refine .inl ⟨by omega, ?_⟩
      obtain ⟨d, hd⟩ : ∃ d, most - log.length = d + 1 := ⟨most - log.length - 1, by omega⟩
      rw [hgo, hd, show most - (log.length + 1) = d from by omega]
      simp only [runS, if_neg hc]
    · refine .inr ⟨by omega, by omega, ?_⟩
      rw [hgo, show most - log.length = 0 from by omega]
      simp only [runS, if_neg hc]
  · omega
theorem gopl_ask {keep : Bool} {R : Option (UInt8 × List (Bs × Int))} {most : Nat} {v : Nat} {ss : List Bd} {y n : Bd} {env : List SC} {opens : Nat} {st : List SF} {log : List (Bs × Int)} (h : GoPl keep R most (.ask v ss y n) env opens st log) (hm : log.length ≤ most) {e : SC} (he : env[v]? = some e) :
    GoPl keep R most e.body (e.env ++ ownS env log.length 0 e.kind.args ss) log.length (⟨v, ss, y, n, env, opens⟩ :: st) (log ++ [(113 :: (pthS keep log e.begun ++ dec e.arg), (e.begun : Int))]) := by
  obtain ⟨hgo, hwf, hoks, hfit, hnb, hoke, hlen, hopn, hfrs, hstl, hlok⟩ := h
  have hl : (log ++ [(113 :: (pthS keep log e.begun ++ dec e.arg), (e.begun : Int))]).length = log.length + 1 := by simp
  obtain ⟨k1, k2, k3⟩ := ask_ok hoks hfit hwf he log.length
  obtain ⟨e', he', _, hsl, _⟩ := ask_find hoks hfit
  rw [he] at he'; simp at he'; subst he'
  have hp := pthS_length keep hlok e.begun
  have hke := okNs_at _ hoke _ _ he
  have hnb' := hnb
  rw [nB] at hnb
  have hdl : (dec e.arg).length ≤ 2 := dec_length 1 _ (by obtain ⟨_, _, _, _, _⟩ := e; rw [okN] at hke; have := hke.2.2.2.2; simp only [SC.arg]; omega)
  obtain ⟨eb, et, ee, eg, ei⟩ := e
  rw [okN] at hke
  simp only [SC.body, SC.kind, SC.env, SC.begun, SC.arg] at *
  have hok : okNs (log.length + 1) (ownS env log.length 0 et.args ss) := ownS_okN (okNs_mono (by omega) _ hoke) (by omega) (by omega) et.args ss 0 (by omega) hnb.2.1
  have hw := hwf
  rw [wfB] at hw
  refine ⟨?_, k1, k2, k3, hke.1, ?_, ?_, by rw [hl]; omega, ?_, by rw [hl]; simp only [List.length_cons]; omega, hlok.snoc (by simp) (by simp only [List.length_cons, List.length_append]; omega)⟩
  · rw [hl]
    rcases hgo with ⟨_, hgo⟩ | ⟨h1, _⟩
    · rcases Nat.lt_or_ge log.length most with h2 | h2
      · refine .inl ⟨by omega, ?_⟩
        obtain ⟨d, hd⟩ : ∃ d, most - log.length = d + 1 := ⟨most - log.length - 1, by omega⟩
        rw [hgo, hd, show most - (log.length + 1) = d from by omega]
        simp only [runS, he, SC.body, SC.kind, SC.env, SC.begun, SC.arg]
      · refine .inr ⟨by omega, by omega, ?_⟩
        rw [hgo, show most - log.length = 0 from by omega]
        simp only [runS]
    · omega
  · rw [hl]; exact okNs_append _ _ (okNs_mono (by omega) _ hke.2.1) hok
  · rw [hl, List.length_append, ownS_length _ _ _ _ _ hsl.symm]; have := hke.2.2.1; omega
  · intro f hf
    rw [hl]
    rcases List.mem_cons.1 hf with rfl | hf
    · exact ⟨⟨hw.2.1, hw.2.2, hoks, hfit⟩, hnb.2.2.1, hnb.2.2.2, okNs_mono (by omega) _ hoke, by simp only; omega, by simp only; omega⟩
    · exact (hfrs f hf).mono (by omega)

end Go.Proofs.YtibnnbdpfkgfhaaGreatDoor

/- The reference's runner: what a round leaves in memory. -/
namespace Go.Proofs.YtibnnbdpfkgfhaaGreatDoor
open Go.RowKit

/-- One of a slice's elements, found. -/
theorem rep_sl_at {F : Nat → Prop} {w : World} {T : TypeId} {sz n : Nat} {pre mid post : List DV} {v : Value} (h : Rep F w (.sl T sz n (pre ++ (mid ++ post))) v) {k : Nat} (hp : pre.length = k * sz) (hm : mid.length = sz) (hk : k < n) :
    ∃ b o cap vs, v = .slice (some ⟨b, o, none⟩) n cap ∧ F b ∧ b < w.heap.size ∧ Reps F w mid vs ∧ ∀ (j : Nat) (u : Value), vs[j]? = some u → w.cell? ⟨b, o + k * sz + j, none⟩ = some u := by
  rw [Rep_sl] at h
  obtain ⟨hl, a, cap, rfl, hn, hz, h⟩ := h
  rcases h with h0 | ⟨b, o, cs, fr, rfl, hb, hcs, hr⟩
  · omega
  have h2 := hr.split.2
  rw [hp] at h2
  have h3 := h2.split.1
  rw [hm] at h3
  refine ⟨b, o, cap, _, rfl, hb, lt_of_heap hcs, h3, fun j u hj => ?_⟩
  have hj2 : j < sz := by
    have := (List.getElem?_eq_some_iff.1 hj).1
    rw [← h3.length, hm] at this; exact this
  rw [List.getElem?_take, if_pos hj2, List.getElem?_drop, List.getElem?_take] at hj
  split at hj
  · rw [List.getElem?_drop] at hj
    simp only [World.cell?, hcs]
    simpa [Nat.add_assoc] using hj
  · simp at hj
theorem encSCs_split {env : List SC} {v : Nat} {e : SC} (h : env[v]? = some e) : encSCs env = encSCs (env.take v) ++ (encSC e ++ encSCs (env.drop (v + 1))) := by
  have e2 : env = env.take v ++ e :: env.drop (v + 1) := by
    have hv := (List.getElem?_eq_some_iff.1 h).1
    have : env[v] = e := (List.getElem?_eq_some_iff.1 h).2
    rw [← this, List.getElem_cons_drop, List.take_append_drop]
  conv => lhs; rw [e2]
  rw [encSCs_append, encSCs]

/-- What stands for a level, found. -/
theorem boundR_at {F : Nat → Prop} {w : World} {env : List SC} {ev : Value} (h : Rep F w (.sl 60 9 env.length (encSCs env)) ev) {v : Nat} {e : SC} (he : env[v]? = some e) :
    ∃ b o cap bv a2 c2 a3 c3 ta tc ea ec, ev = .slice (some ⟨b, o, none⟩) env.length cap ∧ F b ∧ b < w.heap.size ∧ w.cell? ⟨b, o + v * 9, none⟩ = some (.int .i64 (-1)) ∧ w.cell? ⟨b, o + v * 9 + 1, none⟩ = some (str (atomOf e.body)) ∧ w.cell? ⟨b, o + v * 9 + 2, none⟩ = some (.int .i64 bv) ∧
      w.cell? ⟨b, o + v * 9 + 3, none⟩ = some (.slice a2 (kidsOf e.body).length c2) ∧ w.cell? ⟨b, o + v * 9 + 4, none⟩ = some (.slice a3 (yesOf e.body).length c3) ∧ w.cell? ⟨b, o + v * 9 + 5, none⟩ = some (.slice ta e.kind.args.length tc) ∧
      w.cell? ⟨b, o + v * 9 + 6, none⟩ = some (.slice ea e.env.length ec) ∧ w.cell? ⟨b, o + v * 9 + 7, none⟩ = some (.int .i64 (e.begun : Nat)) ∧ w.cell? ⟨b, o + v * 9 + 8, none⟩ = some (.int .i64 (e.arg : Nat)) ∧
      Reps F w (encN e.body) [str (atomOf e.body), .int .i64 bv, .slice a2 (kidsOf e.body).length c2, .slice a3 (yesOf e.body).length c3] ∧ Rep F w (encS e.kind) (.slice ta e.kind.args.length tc) ∧ Rep F w (.sl 60 9 e.env.length (encSCs e.env)) (.slice ea e.env.length ec) := by
  have hv := (List.getElem?_eq_some_iff.1 he).1
  rw [encSCs_split he] at h
  obtain ⟨b, o, cap, vs, rfl, hF, hlt, hr, hat⟩ := rep_sl_at h (k := v) (by rw [encSCs_length, List.length_take, Nat.min_eq_left (by omega)]) (encSC_length e) hv
  obtain ⟨eb, et, ee, eg, ei⟩ := e
  rw [encSC] at hr
  obtain ⟨k1, k2⟩ := hr.split
  obtain ⟨k3, k4⟩ := k2.split
  rw [encN_length] at k3 k4
  simp only [List.length_singleton, List.length_cons, List.length_nil, Nat.zero_add] at k1 k3 k4
  obtain ⟨bv, a2, c2, a3, c3, e3, _⟩ := encN_open k3
  simp only [Reps_cons, Reps_nil, Rep_val] at k1 k4
  obtain ⟨_, _, e1, rfl, rfl⟩ := k1
  obtain ⟨x0, _, e4, q1, x1, _, rfl, q2, _, _, rfl, rfl, _, _, rfl, rfl, rfl⟩ := k4
  obtain ⟨ta, tc, rfl⟩ := encS_slice q1
  obtain ⟨ea, ec, rfl⟩ : ∃ a c, x1 = .slice a ee.length c := by
    have h := q2; rw [Rep_sl] at h; obtain ⟨_, a, c, e, _⟩ := h; exact ⟨a, c, e⟩
  have hvs : vs = [.int .i64 (-1)] ++ ([str (atomOf eb), .int .i64 bv, .slice a2 (kidsOf eb).length c2, .slice a3 (yesOf eb).length c3] ++ [.slice ta et.args.length tc, .slice ea ee.length ec, .int .i64 (eg : Nat), .int .i64 (ei : Nat)]) := by
    rw [← e3, ← e4, ← e1, List.take_append_drop, List.take_append_drop]
  rw [e3] at k3
  subst hvs
  exact ⟨b, o, cap, bv, a2, c2, a3, c3, ta, tc, ea, ec, rfl, hF, hlt, hat 0 _ rfl, hat 1 _ rfl, hat 2 _ rfl, hat 3 _ rfl, hat 4 _ rfl, hat 5 _ rfl, hat 6 _ rfl, hat 7 _ rfl, hat 8 _ rfl, k3, q1, q2⟩

/-- One of two nodes, found. -/
theorem pair_at {F : Nat → Prop} {w : World} {y n : Bd} {v : Value} (h : Rep F w (.sl 51 4 2 (encNs [y, n])) v) (k : Nat) (hk : k < 2) :
    ∃ b o cap bv a2 c2 a3 c3, v = .slice (some ⟨b, o, none⟩) 2 cap ∧ F b ∧ b < w.heap.size ∧ w.cell? ⟨b, o + k * 4, none⟩ = some (str (atomOf (if k = 1 then n else y))) ∧ w.cell? ⟨b, o + k * 4 + 1, none⟩ = some (.int .i64 bv) ∧
      w.cell? ⟨b, o + k * 4 + 2, none⟩ = some (.slice a2 (kidsOf (if k = 1 then n else y)).length c2) ∧ w.cell? ⟨b, o + k * 4 + 3, none⟩ = some (.slice a3 (yesOf (if k = 1 then n else y)).length c3) ∧
      Reps F w (encN (if k = 1 then n else y)) [str (atomOf (if k = 1 then n else y)), .int .i64 bv, .slice a2 (kidsOf (if k = 1 then n else y)).length c2, .slice a3 (yesOf (if k = 1 then n else y)).length c3] := by
  have hs : encNs [y, n] = encNs ([y, n].take k) ++ (encN (if k = 1 then n else y) ++ encNs ([y, n].drop (k + 1))) := by
    rcases (by omega : k = 0 ∨ k = 1) with rfl | rfl <;> simp [encNs]
  rw [hs] at h
  obtain ⟨b, o, cap, vs, rfl, hF, hlt, hr, hat⟩ := rep_sl_at h (k := k) (by rw [encNs_length, List.length_take]; simp; omega) (encN_length _) hk
  obtain ⟨bv, a2, c2, a3, c3, rfl, _⟩ := encN_open hr
  exact ⟨b, o, cap, bv, a2, c2, a3, c3, rfl, hF, hlt, hat 0 _ rfl, hat 1 _ rfl, hat 2 _ rfl, hat 3 _ rfl, hr⟩

/-- The top of the stack. -/
theorem top_at {F : Nat → Prop} {w : World} {sv : Value} {x : SF} {st : List SF} {cells : List Value} (ho : Own w 112 6 sv (st.length + 1) cells) (hr : Reps F w (encSFs (x :: st).reverse) cells) :
    ∃ g c bv a2 c2 yv ea ec cells1 tl, sv = .slice (some ⟨g, 0, none⟩) (st.length + 1) c ∧ st.length + 1 ≤ c ∧ w.cell? ⟨g, st.length * 6, none⟩ = some (str []) ∧ w.cell? ⟨g, st.length * 6 + 1, none⟩ = some (.int .i64 bv) ∧ w.cell? ⟨g, st.length * 6 + 2, none⟩ = some (.slice a2 x.ss.length c2) ∧
      w.cell? ⟨g, st.length * 6 + 3, none⟩ = some yv ∧ w.cell? ⟨g, st.length * 6 + 4, none⟩ = some (.slice ea x.env.length ec) ∧ w.cell? ⟨g, st.length * 6 + 5, none⟩ = some (.int .i64 (x.opens : Nat)) ∧ cells = cells1 ++ tl ∧ cells1.length = st.length * 6 ∧
      Reps F w (encSFs st.reverse) cells1 ∧ Rep F w (.sl 51 4 2 (encNs [x.yes, x.no])) yv ∧ Rep F w (.sl 60 9 x.env.length (encSCs x.env)) (.slice ea x.env.length ec) := by
  rw [List.reverse_cons, encSFs_append] at hr
  have hs := hr.split
  rw [encSFs_length, List.length_reverse] at hs
  obtain ⟨h1, h2⟩ := hs
  simp only [encSFs, List.append_nil] at h2
  rw [encSF] at h2
  obtain ⟨k1, k2⟩ := h2.split
  rw [encN_length] at k1 k2
  have k1' := k1
  obtain ⟨bv, a2, c2, a3, c3, e1, _, hyy⟩ := encN_open k1
  simp only [Reps_cons, Reps_nil, Rep_val] at k2
  obtain ⟨x1, _, e2, q2, _, _, rfl, rfl, rfl⟩ := k2
  obtain ⟨ea, ec, rfl⟩ : ∃ a c, x1 = .slice a x.env.length c := by
    have h := q2; rw [Rep_sl] at h; obtain ⟨_, a, c, e, _⟩ := h; exact ⟨a, c, e⟩
  have htl : cells.drop (st.length * 6) = [str [], .int .i64 bv, .slice a2 x.ss.length c2, .slice a3 2 c3] ++ [.slice ea x.env.length ec, .int .i64 (x.opens : Nat)] := by
    have e1' : List.take 4 (cells.drop (st.length * 6)) = [str [], .int .i64 bv, .slice a2 x.ss.length c2, .slice a3 2 c3] := e1
    rw [← e1', ← e2, List.take_append_drop]
  have hcl : cells = cells.take (st.length * 6) ++ cells.drop (st.length * 6) := (List.take_append_drop _ _).symm
  have hl : (cells.take (st.length * 6)).length = st.length * 6 := by
    have := ho.1; rw [List.length_take]; omega
  have at6 : ∀ (j : Nat) (u : Value), ([str [], .int .i64 bv, .slice a2 x.ss.length c2, .slice a3 2 c3] ++ [.slice ea x.env.length ec, .int .i64 (x.opens : Nat)])[j]? = some u → cells[st.length * 6 + j]? = some u := by
    intro j u hj
    rw [hcl, List.getElem?_append_right (by omega), hl, Nat.add_sub_cancel_left, htl]; exact hj
  obtain ⟨g, c, es, hc0⟩ := ho.at (at6 0 _ rfl)
  subst es
  have get : ∀ (j : Nat) (u : Value), ([str [], .int .i64 bv, .slice a2 x.ss.length c2, .slice a3 2 c3] ++ [.slice ea x.env.length ec, .int .i64 (x.opens : Nat)])[j]? = some u → w.cell? ⟨g, st.length * 6 + j, none⟩ = some u := by
    intro j u hj
    obtain ⟨g', c', es, hc⟩ := ho.at (at6 j u hj)
    simp only [Value.slice.injEq, Option.some.injEq, Addr.mk.injEq, and_true, true_and] at es
    obtain ⟨rfl, rfl⟩ := es
    exact hc
  have hcap : st.length + 1 ≤ c := by
    rcases ho.2 with ⟨e, _⟩ | ⟨g', cap, cur, e, _, _, hnc, _⟩
    · simp at e
    · simp only [Value.slice.injEq, true_and] at e
      rw [e.2]; exact hnc
  exact ⟨g, c, bv, a2, c2, _, ea, ec, _, _, rfl, hcap, get 0 _ rfl, get 1 _ rfl, get 2 _ rfl, get 3 _ rfl, get 4 _ rfl, get 5 _ rfl, hcl, hl, h1, hyy, q2⟩

/-- A node stored in its box. -/
def boxPut (B : Nat) (x0 x1 x2 x3 : Value) (w : World) : World := (((w.setCell ⟨B, 0, none⟩ x0).setCell ⟨B, 1, none⟩ x1).setCell ⟨B, 2, none⟩ x2).setCell ⟨B, 3, none⟩ x3
theorem boxPut_at {B : Nat} {y0 y1 y2 y3 : Value} {T : TypeId} {w : World} (h : w.heap[B]? = some (.cells #[y0, y1, y2, y3] T (0, 0))) (x0 x1 x2 x3 : Value) : (boxPut B x0 x1 x2 x3 w).heap[B]? = some (.cells #[x0, x1, x2, x3] T (0, 0)) := by
  unfold boxPut; rw [setCell_at (setCell_at (setCell_at (setCell_at h)))]; rfl
theorem boxPut_but {m : Nat → Prop} {B : Nat} {w w' : World} (h : But m w w') (hB : m B) (x0 x1 x2 x3 : Value) : But m w (boxPut B x0 x1 x2 x3 w') :=
  (((h.setCell (p := ⟨B, 0, none⟩) (.inl hB) _).setCell (p := ⟨B, 1, none⟩) (.inl hB) _).setCell (p := ⟨B, 2, none⟩) (.inl hB) _).setCell (p := ⟨B, 3, none⟩) (.inl hB) _

/-- The next round, behind whatever has changed: the box is stored last. -/
theorem goat_next {keep : Bool} {most ra : Nat} {mv0 pt0 : Value} {w : World} {B : Nat} {b b' : Bd} {env env' : List SC} {opens opens' : Nat} {st st' : List SF} {log log' : List (Bs × Int)} {mv pt mv' pt' : Value} {v v' : Int} {x2 x3 x2' x3' ev ev' sv sv' : Value} {cells cells' : List Value} {wr w1 w6 : World} {y0 y1 y2 y3 : Value}
    (h : GoAt keep most ra mv0 pt0 w B b env opens st log mv pt v x2 x3 ev sv cells wr)
    (hbC : But (Chg ra mv pt B sv) wr w6) (hw1 : But (fun b => sv.ownBlock = some b) w1 w6) (hrs : RS keep most ra log' mv' pt' w1) (hz : wr.heap.size ≤ w1.heap.size)
    (hn : ∀ i, MBk ra mv' pt' i → MBk ra mv pt i ∨ wr.heap.size ≤ i) (hB6 : w6.heap[B]? = some (.cells #[y0, y1, y2, y3] 51 (0, 0)))
    (hos : Own w6 112 6 sv' st'.length cells') (hgs : ∀ g, sv'.ownBlock = some g → sv.ownBlock = some g ∨ w1.heap.size ≤ g)
    {F6 : Nat → Prop} (hF6 : ∀ i, F6 i → i < w6.heap.size → ¬ Chg ra mv' pt' B sv' i)
    (hrb : Reps F6 w6 (encN b') [str (atomOf b'), .int .i64 v', x2', x3']) (hre : Rep F6 w6 (.sl 60 9 env'.length (encSCs env')) ev') (hrf : Reps F6 w6 (encSFs st'.reverse) cells') :
    GoAt keep most ra mv0 pt0 w B b' env' opens' st' log' mv' pt' v' x2' x3' ev' sv' cells' (boxPut B (str (atomOf b')) (.int .i64 v') x2' x3' w6) := by
  have hzB := lt_of_heap h.box.blk
  have hsl : ∀ g, sv.ownBlock = some g → g < wr.heap.size := fun g hg => h.own.lt hg
  have hltM : ∀ i, MBk ra mv' pt' i → i < w1.heap.size := fun i hi => hrs.lt hi
  have hn3 : ∀ i, MBk ra mv' pt' i → i ≠ B := by
    rintro i hi rfl
    rcases hn _ hi with h' | h'
    · exact h.bB.2 h'
    · omega
  have hns : ∀ i, MBk ra mv' pt' i → sv.ownBlock ≠ some i := by
    intro i hi hs
    rcases hn _ hi with h' | h'
    · exact (h.sB i hs).2.2 h'
    · have := hsl i hs; omega
  have hsB : ∀ g, sv'.ownBlock = some g → g ≠ B := by
    rintro g hg rfl
    rcases hgs _ hg with h' | h'
    · exact (h.sB _ h').2.1 rfl
    · omega
  have keepB : ∀ {i : Nat} {o : Obj}, i ≠ B → w6.heap[i]? = some o → (boxPut B (str (atomOf b')) (.int .i64 v') x2' x3' w6).heap[i]? = some o := by
    intro i o hi ho
    have := (boxPut_but (But.refl (fun i => i = B) w6) rfl (str (atomOf b')) (.int .i64 v') x2' x3').block i (lt_of_heap ho) hi
    rw [this]; exact ho
  have hkeep : ∀ (i : Nat) (o : Obj), F6 i → w6.heap[i]? = some o → ¬ Chg ra mv' pt' B sv' i ∧ (boxPut B (str (atomOf b')) (.int .i64 v') x2' x3' w6).heap[i]? = some o := by
    intro i o hi ho
    have hnc := hF6 i hi (lt_of_heap ho)
    exact ⟨hnc, keepB (fun e => hnc (.inr (.inl e))) ho⟩
  have hb2 : But (Chg ra mv pt B sv) wr (boxPut B (str (atomOf b')) (.int .i64 v') x2' x3' w6) := boxPut_but hbC (.inr (.inl rfl)) _ _ _ _
  have hzw := h.but.size
  refine ⟨?_, ⟨boxPut_at hB6 _ _ _ _, (Rep.keep hkeep).2 _ _ hrb⟩, (Rep.keep hkeep).1 _ _ hre, hos.keep fun g o hg ho => keepB (hsB g hg) ho, (Rep.keep hkeep).2 _ _ hrf, ?_, ?_, ⟨h.bB.1, fun hi => hn3 _ hi rfl⟩, fun g' hg' => ⟨?_, hsB g' hg', fun hi => ?_⟩⟩
  · refine hrs.but (m := fun i => sv.ownBlock = some i ∨ i = B) (boxPut_but (hw1.weak fun i _ hi => .inl hi) (.inr rfl) _ _ _ _) fun b hb e => ?_
    rcases e with e | e
    · exact hns b hb e
    · exact hn3 b hb e
  · refine h.but.trans' hb2 fun i hi hh => ?_
    rcases hh with hh | hh | hh
    · rcases h.new i hh with h' | h'
      · exact h'
      · omega
    · subst hh; have := h.bB.1; omega
    · have := (h.sB i hh).1; omega
  · intro i hi
    rcases hn i hi with h' | h'
    · exact h.new i h'
    · exact .inr (by omega)
  · rcases hgs g' hg' with h' | h'
    · exact (h.sB g' h').1
    · omega
  · rcases hgs g' hg' with h' | h'
    · exact hns g' hi h'
    · have := hltM g' hi; omega
theorem GoAt.drew {keep : Bool} {most ra : Nat} {mv0 pt0 : Value} {w : World} {B : Nat} {b : Bd} {env : List SC} {opens : Nat} {st : List SF} {log : List (Bs × Int)} {mv pt : Value} {v : Int} {x2 x3 ev sv : Value} {cells : List Value} {wr : World} (h : GoAt keep most ra mv0 pt0 w B b env opens st log mv pt v x2 x3 ev sv cells wr) :
    GoAt keep most ra mv0 pt0 w B b env opens st log mv pt v x2 x3 ev sv cells wr.drew :=
  ⟨h.rs.drew, ⟨h.box.blk, h.box.rep.drew⟩, h.re.drew, h.own.drew, h.rf.drew, h.but.drew, h.new, h.bB, h.sB⟩

end Go.Proofs.YtibnnbdpfkgfhaaGreatDoor

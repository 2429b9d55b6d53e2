import Derived.Test.YtibnnbdpfkgfhaaGreatDoorW9a
import Derived.Lib.SliceRun
import Derived.Deep.RegionHeld3

/- The walks of a body's parts, its depth and its size. -/
namespace Go.Proofs.YtibnnbdpfkgfhaaGreatDoor
open Go.RowKit

set_option maxHeartbeats 400000 in
theorem cloneB_any (n : Nat) (s : Value) (xs : List Value) (w : World) (h : SrcSl 1 s n xs w) (hn : Lim n) :
    Calls Tryz.prog 101 #[s] w fun en w' =>
      ∃ a c, en = .returned (.slice a n c) ∧ Own w' 69 1 (.slice a n c) n xs ∧ Below w.heap.size w w' ∧ (∀ g, (Value.slice a n c).ownBlock = some g → w.heap.size ≤ g) := by
  have hl := hn.le
  obtain ⟨a, c, e⟩ := h.slice
  subst e
  cases a with
  | none =>
    have h0 : n = 0 ∧ c = 0 := by
      obtain ⟨_, _, ⟨a', c', e, _⟩ | ⟨e, h0⟩⟩ := h
      · simp at e
      · simp at e; exact e
    obtain ⟨rfl, rfl⟩ := h0
    have hx : xs = [] := List.eq_nil_of_length_eq_zero (by simpa using h.1)
    subst hx
    have q := fun w => Lib.run_eql_slice_nil (P := Tryz.prog) w 131 69 none 0 0 0 0 Tryz.underlying131
    go_enter Tryz.func101, Tryz.ntmps101
    go_wp2_with fail
    go_ret
    exact ⟨none, 0, rfl, World.ownsRow_nil _ _ _ _, Below.refl _ _, fun g h => by simp [Value.ownBlock] at h⟩
  | some a =>
    have q := fun w => Lib.run_eql_slice_nil (P := Tryz.prog) w 131 69 (some a) n c 0 0 Tryz.underlying131
    go_enter Tryz.func101, Tryz.ntmps101
    go_wp2_with (at_builtin; refine wpList_append_gen rfl _ _ 131 rfl 69 (.pointer none) 1 8 Tryz.underlying131 Tryz.infoB rfl (by decide) _ 0 [] rfl ?c1 _ n xs rfl ?c2 ?c3 ?c4 ?_)
    case c1 => exact Own.lit #[] 0 (by decide) rfl
    case c2 => exact h.keep fun _ _ h => cell_alloc h
    case c3 => unfold maxLen; omega
    case c4 => omega
    intro a' c' w' ho hb hg
    go_wp2_with fail
    go_ret
    refine ⟨a', c', rfl, ho, ((Below.refl w.heap.size w).alloc (Nat.le_refl _) _).trans (hb.toBelow (by simp) (fun i hi e => by simp [Value.ownBlock] at e; omega)), fun g h => ?_⟩
    rcases hg g h with h | h
    · simp [Value.ownBlock] at h; omega
    · omega

def PartsPost (F : Nat → Prop) (w : World) (b : Bd) (en : Ending) (w' : World) : Prop :=
  ∃ v, en = .returned v ∧ Below w.heap.size w w' ∧ Rep (fun k => F k ∨ w.heap.size ≤ k) w' (.sl 69 1 (partsOf b).length (encBs (partsOf b))) v

theorem parts_leaf (F : Nat → Prop) (w : World) (c : UInt8) (v : Value) (h : Rep F w (encB (.leaf c)) v) :
    Calls Tryz.prog 74 #[v] w (PartsPost F w (.leaf c)) := by
  obtain ⟨a, e⟩ := encB_ptr h
  subst e
  go_enter Tryz.func74, Tryz.ntmps74
  go_wp2_with fail
  refine (isList_leaf F w c _ h).mono ?_
  rintro en w' ⟨rfl, e⟩
  subst e
  go_wp2_with fail
  go_ret
  exact ⟨_, rfl, Below.refl _ _, Rep_sl.2 ⟨rfl, none, 0, rfl, Nat.le_refl _, fun _ => rfl, .inl rfl⟩⟩

theorem but_below {w wc w6 : World} {o : Obj} {v : Value} (hbb : Below w.heap.size w wc) (hb6 : But (fun b => v.ownBlock = some b) (wc.alloc o) w6)
    (hfc : ∀ g, v.ownBlock = some g → w.heap.size ≤ g) : Below w.heap.size w w6 := by
  refine (hbb.alloc hbb.size _).trans (hb6.toBelow ?_ ?_)
  · have := hbb.size
    show w.heap.size ≤ (wc.heap.push o).size
    rw [Array.size_push]; omega
  · intro i hi e
    have h : w.heap.size ≤ i := hfc i e
    omega
theorem but_below2 {w wc w6 : World} {v : Value} (hbb : Below w.heap.size w wc) (hb6 : But (fun b => v.ownBlock = some b) wc w6)
    (hfc : ∀ g, v.ownBlock = some g → w.heap.size ≤ g) : Below w.heap.size w w6 := by
  refine hbb.trans (hb6.toBelow hbb.size ?_)
  intro i hi e
  have h : w.heap.size ≤ i := hfc i e
  omega
theorem own_1 {w wc : World} {o : Obj} {v v' : Value} (hbb : Below w.heap.size w wc) (hfc : ∀ g, v.ownBlock = some g → w.heap.size ≤ g)
    (hg : ∀ g, v'.ownBlock = some g → v.ownBlock = some g ∨ g = (wc.alloc o).heap.size) : ∀ g, v'.ownBlock = some g → w.heap.size ≤ g := by
  intro g h
  rcases hg g h with h | h
  · exact hfc g h
  · have := hbb.size
    rw [h, size_alloc]; omega
theorem own_2 {w wc : World} {v v' : Value} (hbb : Below w.heap.size w wc) (hfc : ∀ g, v.ownBlock = some g → w.heap.size ≤ g)
    (hg : ∀ g, v'.ownBlock = some g → v.ownBlock = some g ∨ g = wc.heap.size) : ∀ g, v'.ownBlock = some g → w.heap.size ≤ g := by
  intro g h
  rcases hg g h with h | h
  · exact hfc g h
  · have := hbb.size
    rw [h]; omega
theorem own_ad {w : World} {o : Obj} {v : Value} (h : ∀ g, v.ownBlock = some g → (w.alloc o).drew.heap.size ≤ g) : ∀ g, v.ownBlock = some g → w.heap.size ≤ g := by
  intro g hg
  have := h g hg
  have h2 : (w.alloc o).drew.heap.size = w.heap.size + 1 := size_alloc w o
  omega

set_option maxRecDepth 100000 in
set_option maxHeartbeats 1000000 in
theorem parts_ask (F : Nat → Prop) (w : World) (v : Nat) (ss : List Bd) (y n : Bd) (p : Value) (h : Rep F w (encB (.ask v ss y n)) p) (hn : Lim (ss.length + 2)) :
    Calls Tryz.prog 74 #[p] w (PartsPost F w (.ask v ss y n)) := by
  obtain ⟨b, sl, yv, nv, e, hFb, hc, hsl, hy, hnn⟩ := ask_open h
  subst e
  obtain ⟨xs, hxs, hsrc⟩ := SrcSl.ofRep hsl (oneCell_encBs _)
  obtain ⟨sa, sc, esl⟩ := hsrc.slice
  subst esl
  obtain ⟨ya, ey⟩ := encB_ptr hy
  obtain ⟨na, ena⟩ := encB_ptr hnn
  subst ey; subst ena
  have c2 : w.cell? ⟨b, 2, none⟩ = some (.slice sa ss.length sc) := by simp [World.cell?, hc]
  have c3 : w.cell? ⟨b, 3, none⟩ = some (.pointer (some ⟨ya, 0, none⟩)) := by simp [World.cell?, hc]
  have c4 : w.cell? ⟨b, 4, none⟩ = some (.pointer (some ⟨na, 0, none⟩)) := by simp [World.cell?, hc]
  have lb := lt_of_heap hc
  have hl := hn.le
  clear hc
  go_enter Tryz.func74, Tryz.ntmps74
  go_wp2_with fail
  refine (isList_ask F w v ss y n _ h).mono ?_
  rintro en w' ⟨rfl, e⟩
  obtain rfl : w = w' := e.symm
  go_wp2_with fail
  have hn0 : Lim ss.length := hn.mono (by omega)
  have hm : ss.length + 2 ≤ maxLen := by unfold maxLen; omega
  have hby : (ss.length + 2) * 8 ≤ 140737488355328 := by omega
  have h01 : 0 < 1 := by omega
  have hone : ∀ u ∈ (#[.pointer (some ⟨ya, 0, none⟩), .pointer (some ⟨na, 0, none⟩)] : Array Value).toList, u.oneCell' = true := by simp [Value.oneCell']
  have HO := Lib.hid hone; clear hone
  go_region_held3 (fun w' => w'.cell? ⟨b, 2, none⟩ = some (.slice sa ss.length sc) ∧ w'.cell? ⟨b, 3, none⟩ = some (.pointer (some ⟨ya, 0, none⟩)) ∧ w'.cell? ⟨b, 4, none⟩ = some (.pointer (some ⟨na, 0, none⟩)))
    (first
      | exact ⟨(hbg.cell lb).trans c2, (hbg.cell lb).trans c3, (hbg.cell lb).trans c4⟩
      | exact ⟨(hbb.cell lb).trans c2, (hbb.cell lb).trans c3, (hbb.cell lb).trans c4⟩
      | go_keep)
    (first
      | (go_at_call 101; refine (cloneB_any ss.length _ xs _ hsrc.drew hn0).mono ?_; rintro en wc ⟨ac, kc, rfl, hoc, hbc, hfc'⟩; have hbb : Below w.heap.size w wc := (Below.refl w.heap.size w).drew.trans hbc; have hfc : ∀ g, (Value.slice ac ss.length kc).ownBlock = some g → w.heap.size ≤ g := hfc')
      | (go_at_call 101; refine (cloneB_any ss.length _ xs _ (hsrc.alloc _).drew hn0).mono ?_; rintro en wc ⟨ac, kc, rfl, hoc, hbc, hfc'⟩; have hlit := (SrcSl.lits #[.pointer (some ⟨ya, 0, none⟩), .pointer (some ⟨na, 0, none⟩)] 2 rfl HO.out _ rfl).drew.below hbc; have hbb : Below w.heap.size w wc := below_ad hbc; have hfc := own_ad hfc')
      | (refine step_append_gen (by rfl) _ _ _ (by rfl) 69 (.pointer none) 1 8 Tryz.underlying131 Tryz.infoB rfl h01 (.slice ac ss.length kc) ss.length xs (by rfl) hoc _ 2 [.pointer (some ⟨ya, 0, none⟩), .pointer (some ⟨na, 0, none⟩)] (by rfl) hlit hm hby ?_; intro a' c' w6 hown' hb6 hg'; have hbg : Below w.heap.size w w6 := but_below2 hbb hb6 hfc; have hFg := own_2 hbb hfc hg')
      | (refine step_append_gen (by rfl) _ _ _ (by rfl) 69 (.pointer none) 1 8 Tryz.underlying131 Tryz.infoB rfl h01 (.slice ac ss.length kc) ss.length xs (by rfl) (hoc.alloc _) _ 2 [.pointer (some ⟨ya, 0, none⟩), .pointer (some ⟨na, 0, none⟩)] (by rfl) (SrcSl.lits #[.pointer (some ⟨ya, 0, none⟩), .pointer (some ⟨na, 0, none⟩)] 2 rfl HO.out _ rfl) hm hby ?_; intro a' c' w6 hown' hb6 hg'; have hbg : Below w.heap.size w w6 := but_below hbb hb6 hfc; have hFg := own_1 hbb hfc hg'))
  all_goals
    go_wp2_with fail
    go_ret
    refine ⟨_, rfl, hbg, ?_⟩
    have : (partsOf (.ask v ss y n)).length = ss.length + 2 := by simp [partsOf]
    rw [this]
    refine hown'.rep (fun g h => .inr (hFg g h)) ?_
    show Reps _ _ (encBs (ss ++ [y, n])) _
    rw [encBs_append]
    refine Reps.append (Reps.below hbg (fun _ h => .inl h) hxs) ?_
    exact Reps_cons.2 ⟨_, _, rfl, Rep.below hbg (fun _ h => .inl h) hy, Reps.one (Rep.below hbg (fun _ h => .inl h) hnn)⟩

end Go.Proofs.YtibnnbdpfkgfhaaGreatDoor

/- The walks of a body's depth and size. -/
namespace Go.Proofs.YtibnnbdpfkgfhaaGreatDoor
open Go.RowKit

theorem parts_any (F : Nat → Prop) (w : World) (b : Bd) (v : Value) (h : Rep F w (encB b) v) (hn : Lim (sizeB b)) :
    Calls Tryz.prog 74 #[v] w (PartsPost F w b) := by
  cases b with
  | leaf c => exact parts_leaf F w c v h
  | ask u ss y n => exact parts_ask F w u ss y n v h (hn.mono (by
      have := length_le_sizeBs ss; have := sizeB_pos y; have := sizeB_pos n; simp [sizeB]; omega))


def depthSaid (b : Bd) : Prop := ∀ (F : Nat → Prop) (w : World) (v : Value), Rep F w (encB b) v →
  Calls Tryz.prog 78 #[v] w fun en w' => en = .returned (.int .i64 (depthB b : Nat)) ∧ Below w.heap.size w w'

set_option maxHeartbeats 1000000 in
theorem depth_step (b : Bd) (hl : Lim (sizeB b)) (ih : ∀ t, sizeB t < sizeB b → depthSaid t) : depthSaid b := by
  intro F w v hv
  have IH := Lib.hid ih; clear ih
  have hl' := hl.le
  obtain ⟨a0, e⟩ := encB_ptr hv
  subst e
  have hsz := sizeB_parts b
  have hdl := depthB_lt _ b (Nat.le_refl _)
  go_enter Tryz.func78, Tryz.ntmps78
  go_wp2_with fail
  refine (parts_any F w b _ hv hl).mono ?_
  rintro en w1 ⟨pv, rfl, hb1, hp⟩
  obtain ⟨pa, pc, e, _, _, hat⟩ := Rep_sl1_open hp
  subst e
  have AT := Lib.hid hat; clear hat hp
  have hlen := length_le_sizeBs (partsOf b)
  have HS := Lib.hid hsz; clear hsz
  have hlen' : (partsOf b).length ≤ 16777216 := by have := HS.out; omega
  go_wp2_with fail
  go_loopw [3, 9] (fun n i wr => ∃ k : Nat, k ≤ (partsOf b).length ∧ i = .int .i64 k ∧ n = .int .i64 (( depthBs ((partsOf b).take k) : Nat) : Int) ∧ Below w1.heap.size w1 wr) (fun _ i _ => (partsOf b).length - (intOf i).toNat)
  case atStart => exact ⟨0, Nat.zero_le _, rfl, by simp [depthBs], Below.refl _ _⟩
  case round =>
    rename_i wr
    obtain ⟨k, hk, rfl, rfl, hb⟩ := hrel
    by_cases hlt : k < (partsOf b).length
    · obtain ⟨ba, oa, u, d, ea, _, hba, hd, hu, hr⟩ := AT.out k hlt
      subst ea
      rw [encBs_at, Option.map_eq_some_iff] at hd
      obtain ⟨t, ht, rfl⟩ := hd
      obtain ⟨ta, eu⟩ := encB_ptr hr
      subst eu
      have hc : wr.cell? ⟨ba, oa + k, none⟩ = some (.pointer (some ⟨ta, 0, none⟩)) := by rw [hb.cell hba]; exact hu
      have hst := depthBs_take ht
      have hss := sizeBs_take ht
      have hle := sizeBs_take_le (partsOf b) (k + 1)
      have hr' : Rep _ wr (encB t) (.pointer (some ⟨ta, 0, none⟩)) := Rep.below hb (fun _ h => h) hr
      have hsz := HS.out
      have htlt : sizeB t < sizeB b := by omega
      have hdt := depthB_lt _ t (Nat.le_refl _)
      have IH' := Lib.hid (IH.out t htlt)
      have hkd : depthBs ((partsOf b).take k) ≤ 16777216 := by have h := depthBs_lt (ts := (partsOf b).take k) (fun t _ => depthB_lt _ t (Nat.le_refl _)); have := sizeBs_take_le (partsOf b) k; omega
      have htd : depthB t ≤ 16777216 := by omega
      have HT := Lib.hid hst
      clear hst hss hsz ht hu hr
      go_wp2_with fail
      refine (IH'.out _ _ _ hr').mono ?_
      rintro en w2 ⟨rfl, hb2⟩
      have hb3 := hb.trans (hb2.mono hb.size)
      go_wp2_with fail
      all_goals
        go_roundw
        case rel => exact ⟨k + 1, by omega, by go_num, by rw [HT.out]; congr 1; omega, hb3⟩
        case measure => simp [intOf]; omega
    · obtain rfl : k = (partsOf b).length := by omega
      go_wp2_with fail
      go_ret
      refine ⟨ret_i64 ?_, hb1.trans (hb.mono hb1.size)⟩
      rw [List.take_length, depthB_parts b]

theorem depth_any (n : Nat) : ∀ b, sizeB b ≤ n → Lim n → depthSaid b := by
  induction n with
  | zero => intro b h _; have := sizeB_pos b; omega
  | succ n ih => exact fun b h hn => depth_step b (hn.mono h) (fun t h' => ih t (by omega) (hn.mono (by omega)))

end Go.Proofs.YtibnnbdpfkgfhaaGreatDoor

/- The walk of impl's size of bodies. -/
namespace Go.Proofs.YtibnnbdpfkgfhaaGreatDoor
open Go.RowKit

def sizeSaid (b : Bd) : Prop := ∀ (F : Nat → Prop) (w : World) (v : Value), Rep F w (encB b) v →
  Calls Tryz.prog 77 #[v] w fun en w' => en = .returned (.int .i64 (sizeB b : Nat)) ∧ Below w.heap.size w w'
set_option maxHeartbeats 1000000 in
theorem size_step (b : Bd) (hl : Lim (sizeB b)) (ih : ∀ t, sizeB t < sizeB b → sizeSaid t) : sizeSaid b := by
  intro F w v hv
  have IH := Lib.hid ih; clear ih
  have hl' := hl.le
  obtain ⟨a0, e⟩ := encB_ptr hv
  subst e
  have hsz := sizeB_parts b
  go_enter Tryz.func77, Tryz.ntmps77
  go_wp2_with fail
  refine (parts_any F w b _ hv hl).mono ?_
  rintro en w1 ⟨pv, rfl, hb1, hp⟩
  obtain ⟨pa, pc, e, _, _, hat⟩ := Rep_sl1_open hp
  subst e
  have AT := Lib.hid hat; clear hat hp
  have hlen := length_le_sizeBs (partsOf b)
  have HS := Lib.hid hsz; clear hsz
  have hlen' : (partsOf b).length ≤ 16777216 := by have := HS.out; omega
  go_wp2_with fail
  go_loopw [3, 9] (fun n i wr => ∃ k : Nat, k ≤ (partsOf b).length ∧ i = .int .i64 k ∧ n = .int .i64 ((1 + sizeBs ((partsOf b).take k) : Nat) : Int) ∧ Below w1.heap.size w1 wr) (fun _ i _ => (partsOf b).length - (intOf i).toNat)
  case atStart => exact ⟨0, Nat.zero_le _, rfl, by simp [sizeBs], Below.refl _ _⟩
  case round =>
    rename_i wr
    obtain ⟨k, hk, rfl, rfl, hb⟩ := hrel
    by_cases hlt : k < (partsOf b).length
    · obtain ⟨ba, oa, u, d, ea, _, hba, hd, hu, hr⟩ := AT.out k hlt
      subst ea
      rw [encBs_at, Option.map_eq_some_iff] at hd
      obtain ⟨t, ht, rfl⟩ := hd
      obtain ⟨ta, eu⟩ := encB_ptr hr
      subst eu
      have hc : wr.cell? ⟨ba, oa + k, none⟩ = some (.pointer (some ⟨ta, 0, none⟩)) := by rw [hb.cell hba]; exact hu
      have hss := sizeBs_take ht
      have hle := sizeBs_take_le (partsOf b) (k + 1)
      have hr' : Rep _ wr (encB t) (.pointer (some ⟨ta, 0, none⟩)) := Rep.below hb (fun _ h => h) hr
      have hsz := HS.out
      have htlt : sizeB t < sizeB b := by omega
      have IH' := Lib.hid (IH.out t htlt)
      have hkd : 1 + sizeBs ((partsOf b).take k) ≤ 16777216 := by omega
      have htd : sizeB t ≤ 16777216 := by omega
      have hsum : 1 + sizeBs ((partsOf b).take k) + sizeB t ≤ 16777216 := by omega
      have HT := Lib.hid hss
      clear hss hsz ht hu hr
      go_wp2_with fail
      refine (IH'.out _ _ _ hr').mono ?_
      rintro en w2 ⟨rfl, hb2⟩
      have hb3 := hb.trans (hb2.mono hb.size)
      go_wp2_with fail
      all_goals
        go_roundw
        case rel => exact ⟨k + 1, by omega, by go_num, by rw [HT.out]; congr 1; omega, hb3⟩
        case measure => simp [intOf]; omega
    · obtain rfl : k = (partsOf b).length := by omega
      have hkd : 1 + sizeBs (partsOf b) ≤ 16777216 := by have := HS.out; omega
      rw [List.take_length]
      go_wp2_with fail
      go_ret
      exact ⟨ret_i64 (by rw [HS.out]), hb1.trans (hb.mono hb1.size)⟩
theorem size_any (n : Nat) : ∀ b, sizeB b ≤ n → Lim n → sizeSaid b := by
  induction n with
  | zero => intro b h _; have := sizeB_pos b; omega
  | succ n ih => exact fun b h hn => size_step b (hn.mono h) (fun t h' => ih t (by omega) (hn.mono (by omega)))

end Go.Proofs.YtibnnbdpfkgfhaaGreatDoor

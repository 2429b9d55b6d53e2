/- The walks of impl's readTerm and of what counts a term's atoms. -/
import Derived.Test.YtohepefbogngfaaDoorW18
namespace Go.Proofs.YtohepefbogngfaaDoor
open Go.RowKit

def tmWord : Tm → Bs
  | .nm _ => []
  | .wd w => w
  | .lam _ _ _ => lamW
  | .app _ _ => appW
  | .ite _ _ _ => ifW
def tmName : Tm → Bs
  | .nm x => x
  | .lam x _ _ => x
  | _ => []
def tmKind : Tm → Option Ty
  | .lam _ k _ => some k
  | _ => none
def tmParts : Tm → List Tm
  | .nm _ => []
  | .wd _ => []
  | .lam _ _ t => [t]
  | .app m n => [m, n]
  | .ite l m n => [l, m, n]
def sumTm (ts : List Tm) : Nat := (ts.map sizeTm).sum
def kindN : Option Ty → Nat
  | some k => 1 + atomsT k
  | none => 0
theorem sizeTm_mk (t : Tm) : sizeTm t = 1 + kindN (tmKind t) + sumTm (tmParts t) := by
  cases t <;> simp [sizeTm, tmKind, tmParts, kindN, sumTm] <;> omega
theorem sumTm_take {ts : List Tm} {k : Nat} {t : Tm} (h : ts[k]? = some t) : sumTm (ts.take (k + 1)) = sumTm (ts.take k) + sizeTm t := by
  unfold sumTm
  rw [List.take_add_one, h]
  simp
theorem sumTm_take_le (ts : List Tm) (k : Nat) : sumTm (ts.take k) ≤ sumTm ts := by
  unfold sumTm
  conv => rhs; rw [← List.take_append_drop k ts, List.map_append, List.sum_append]
  omega
theorem sumTm_mem {ts : List Tm} {t : Tm} (h : t ∈ ts) : sizeTm t ≤ sumTm ts := by
  induction ts with
  | nil => simp at h
  | cons x xs ih =>
    unfold sumTm at *
    simp only [List.map_cons, List.sum_cons]
    rcases List.mem_cons.1 h with rfl | h
    · omega
    · have := ih h; omega
theorem tmParts_len (t : Tm) : (tmParts t).length ≤ 3 := by cases t <;> simp [tmParts]
/-- A term's pointer, opened. -/
theorem encTm_open {F : Nat → Prop} {w : World} {t : Tm} {v : Value} (h : Rep F w (encTm t) v) :
    ∃ b kv slv, v = .pointer (some ⟨b, 0, none⟩) ∧ F b ∧ w.heap[b]? = some (.cells #[str (tmWord t), str (tmName t), kv, slv] 131 (0, 0)) ∧ (tmKind t = none → kv = .pointer none) ∧ (∀ k, tmKind t = some k → Rep F w (encK k) kv) ∧
      Rep F w (.sl 50 1 (tmParts t).length ((tmParts t).map encTm)) slv := by
  have key : ∀ (wd nm : Bs) (kd : DV) (n : Nat) (ds : List DV), Rep F w (.ptr 131 [.val (str wd), .val (str nm), kd, .sl 50 1 n ds]) v →
      ∃ b kv slv, v = .pointer (some ⟨b, 0, none⟩) ∧ F b ∧ w.heap[b]? = some (.cells #[str wd, str nm, kv, slv] 131 (0, 0)) ∧ Rep F w kd kv ∧ Rep F w (.sl 50 1 n ds) slv := by
    intro wd nm kd n ds h
    rw [Rep_ptr] at h
    obtain ⟨b, c, rfl, hb, hc, hr⟩ := h
    simp only [Reps_cons, Reps_nil, Rep_val] at hr
    obtain ⟨_, _, e1, rfl, _, _, rfl, rfl, kv, _, rfl, h1, slv, _, rfl, h2, rfl⟩ := hr
    have : c = #[str wd, str nm, kv, slv] := by apply Array.ext'; simpa using e1
    subst this
    exact ⟨b, kv, slv, rfl, hb, hc, h1, h2⟩
  cases t with
  | nm x =>
    obtain ⟨b, kv, slv, h1, h2, h3, h4, h5⟩ := key _ _ _ _ _ h
    exact ⟨b, kv, slv, h1, h2, h3, fun _ => Rep_val.1 h4, fun k e => by simp [tmKind] at e, h5⟩
  | wd x =>
    obtain ⟨b, kv, slv, h1, h2, h3, h4, h5⟩ := key _ _ _ _ _ h
    exact ⟨b, kv, slv, h1, h2, h3, fun _ => Rep_val.1 h4, fun k e => by simp [tmKind] at e, h5⟩
  | lam x k t =>
    obtain ⟨b, kv, slv, h1, h2, h3, h4, h5⟩ := key _ _ _ _ _ h
    exact ⟨b, kv, slv, h1, h2, h3, fun e => by simp [tmKind] at e, fun k e => by simp [tmKind] at e; subst e; exact h4, h5⟩
  | app m n =>
    obtain ⟨b, kv, slv, h1, h2, h3, h4, h5⟩ := key _ _ _ _ _ h
    exact ⟨b, kv, slv, h1, h2, h3, fun _ => Rep_val.1 h4, fun k e => by simp [tmKind] at e, h5⟩
  | ite l m n =>
    obtain ⟨b, kv, slv, h1, h2, h3, h4, h5⟩ := key _ _ _ _ _ h
    exact ⟨b, kv, slv, h1, h2, h3, fun _ => Rep_val.1 h4, fun k e => by simp [tmKind] at e, h5⟩

def TmAtoms (F : Nat → Prop) (w : World) (t : Tm) : Prop := ∀ v, Rep F w (encTm t) v →
  Calls Tryd.prog 45 #[v] w fun en w' => en = .returned (.int .i64 (sizeTm t)) ∧ w' = w

set_option maxRecDepth 20000 in
set_option maxHeartbeats 1000000 in
theorem tmAtoms_step (F : Nat → Prop) (w : World) (t : Tm) (hl : Lim (sizeTm t)) (ih : ∀ t', sizeTm t' < sizeTm t → TmAtoms F w t') : TmAtoms F w t := by
  intro v hv
  obtain ⟨b, kv, slv, rfl, hb, hc, hkn, hks, hs⟩ := encTm_open hv
  have c1 : w.cell? ⟨b, 2, none⟩ = some kv := by simp [World.cell?, hc]
  have c2 : w.cell? ⟨b, 3, none⟩ = some slv := by simp [World.cell?, hc]
  obtain ⟨a, cap, rfl, hn, hlen, hat⟩ := Rep_sl1_open hs
  have e1 := sizeTm_mk t
  have IH := Lib.hid ih; clear ih hc hv hs
  have E1 := Lib.hid e1; clear e1
  have hl' := hl.le
  have hp3 := tmParts_len t
  have HL := Lib.hid hlen; clear hlen
  have AT := Lib.hid hat; clear hat
  have base : Calls Tryd.prog 45 #[.pointer (some ⟨b, 0, none⟩)] w fun en w' => en = .returned (.int .i64 (1 + kindN (tmKind t) + sumTm (tmParts t) : Nat)) ∧ w' = w := by
    have hbd : 1 + kindN (tmKind t) + sumTm (tmParts t) ≤ 16777216 := by have := E1.out; omega
    cases hk : tmKind t with
    | none =>
      obtain rfl := hkn hk
      rw [hk] at hbd
      clear hk hkn hks
      simp only [kindN] at hbd ⊢
      go_enter Tryd.func45, Tryd.ntmps45
      go_wp2_with fail
      go_loop [3, 24] (fun n i => ∃ k : Nat, k ≤ (tmParts t).length ∧ i = .int .i64 k ∧ n = .int .i64 ((1 + sumTm ((tmParts t).take k) : Nat) : Int)) (fun _ i => (tmParts t).length - (intOf i).toNat)
      case atStart => exact ⟨0, Nat.zero_le _, rfl, by simp [sumTm]⟩
      case round =>
        obtain ⟨k, hk, rfl, rfl⟩ := hrel
        by_cases hlt : k < (tmParts t).length
        · obtain ⟨b', o, u, d, rfl, _, hb', hd, hu, hr⟩ := AT.out k hlt
          rw [List.getElem?_map, Option.map_eq_some_iff] at hd
          obtain ⟨t', ht', rfl⟩ := hd
          have hs := sumTm_take ht'
          have hle := sumTm_take_le (tmParts t) (k + 1)
          have hat' := E1.out
          have hmem := sumTm_mem (List.mem_of_getElem? ht')
          have IH' := Lib.hid (IH.out t' (by omega))
          have HS := Lib.hid hs
          have b1 : 1 + sumTm ((tmParts t).take k) + sizeTm t' ≤ 16777216 := by omega
          clear hs ht' hat' hle hmem
          obtain ⟨bu, eu⟩ := encTm_ptr hr
          subst eu
          go_wp2_with fail
          refine (IH'.out _ hr).mono ?_
          rintro en w' ⟨rfl, ew⟩
          subst ew
          go_wp2_with fail
          go_round
          case rel => exact ⟨k + 1, by omega, by go_num, by rw [HS.out]; go_num⟩
          case measure => simp [intOf]; omega
        · go_wp2_with fail
          go_ret
          have : k = (tmParts t).length := by omega
          subst this
          exact ⟨ret_i64 (by rw [List.take_length]), rfl⟩
    | some kk =>
      have hkr := hks kk hk
      rw [hk] at hbd
      clear hk hkn hks
      simp only [kindN] at hbd ⊢
      obtain ⟨kb, ek⟩ : ∃ ba, kv = .pointer (some ⟨ba, 0, none⟩) := by obtain ⟨ba, _, h, _⟩ := encK_open hkr; exact ⟨ba, h⟩
      subst ek
      have CK := Lib.hid (atoms_any F w (atomsT kk) kk (Nat.le_refl _) (show _ ≤ _ by omega) _ hkr)
      clear hkr
      go_enter Tryd.func45, Tryd.ntmps45
      go_wp2_with fail
      refine CK.out.mono ?_
      rintro en w' ⟨rfl, ew⟩
      subst w'
      go_wp2_with fail
      go_loop [3, 24] (fun n i => ∃ k : Nat, k ≤ (tmParts t).length ∧ i = .int .i64 k ∧ n = .int .i64 ((1 + (1 + atomsT kk) + sumTm ((tmParts t).take k) : Nat) : Int)) (fun _ i => (tmParts t).length - (intOf i).toNat)
      case atStart => exact ⟨0, Nat.zero_le _, rfl, by simp [sumTm]⟩
      case round =>
        obtain ⟨k, hk, rfl, rfl⟩ := hrel
        by_cases hlt : k < (tmParts t).length
        · obtain ⟨b', o, u, d, rfl, _, hb', hd, hu, hr⟩ := AT.out k hlt
          rw [List.getElem?_map, Option.map_eq_some_iff] at hd
          obtain ⟨t', ht', rfl⟩ := hd
          have hs := sumTm_take ht'
          have hle := sumTm_take_le (tmParts t) (k + 1)
          have hat' := E1.out
          have hmem := sumTm_mem (List.mem_of_getElem? ht')
          have IH' := Lib.hid (IH.out t' (by omega))
          have HS := Lib.hid hs
          have b1 : 1 + (1 + atomsT kk) + sumTm ((tmParts t).take k) + sizeTm t' ≤ 16777216 := by omega
          clear hs ht' hat' hle hmem
          obtain ⟨bu, eu⟩ := encTm_ptr hr
          subst eu
          go_wp2_with fail
          refine (IH'.out _ hr).mono ?_
          rintro en w' ⟨rfl, ew⟩
          subst ew
          go_wp2_with fail
          go_round
          case rel => exact ⟨k + 1, by omega, by go_num, by rw [HS.out]; go_num⟩
          case measure => simp [intOf]; omega
        · go_wp2_with fail
          go_ret
          have : k = (tmParts t).length := by omega
          subst this
          exact ⟨ret_i64 (by rw [List.take_length]), rfl⟩
  rw [E1.out]
  exact base
theorem tmAtoms_any (F : Nat → Prop) (w : World) (n : Nat) : ∀ t, sizeTm t ≤ n → Lim n → TmAtoms F w t := by
  induction n with
  | zero => intro t h _; have := sizeTm_mk t; omega
  | succ n ih => exact fun t h hn => tmAtoms_step F w t (hn.mono h) (fun t' h' => ih t' (by omega) (hn.mono (by omega)))

theorem textT_atoms (k : Ty) : atomsT k ≤ (textT k).length := by
  have h1 := rdK_text (atomsT k) k [] (by omega)
  have h2 := rdK_atoms _ h1
  simpa using h2
theorem sizeTm_len : ∀ t : Tm, okTm t → sizeTm t ≤ (textTm t).length
  | .nm x, h => by
    rw [show textTm (.nm x) = x from by unfold textTm; rw [trTm, textTr], sizeTm]
    exact List.length_pos_iff.2 (name_sep h).1
  | .wd x, h => by
    rw [show textTm (.wd x) = x from by unfold textTm; rw [trTm, textTr], sizeTm]
    exact List.length_pos_iff.2 (leaf_sep h).1
  | .lam x k t, h => by
    have h1 := sizeTm_len t h.2
    have h2 := textT_atoms k
    rw [textTm_lam, sizeTm]; simp; omega
  | .app m n, h => by
    have h1 := sizeTm_len m h.1
    have h2 := sizeTm_len n h.2
    rw [textTm_app, sizeTm]; simp; omega
  | .ite l m n, h => by
    have h0 := sizeTm_len l h.1
    have h1 := sizeTm_len m h.2.1
    have h2 := sizeTm_len n h.2.2
    rw [textTm_ite, sizeTm]; simp; omega

def RTPost (w : World) (o : Option Tm) (en : Ending) (w' : World) : Prop :=
  ∃ v, en = .returned v ∧ Below w.heap.size w w' ∧ (o = none → v = .pointer none) ∧ (∀ t, o = some t → Rep (w.heap.size ≤ ·) w' (encTm t) v)

set_option maxRecDepth 20000 in
set_option maxHeartbeats 1000000 in
theorem readTerm_any (l : Bs) (w : World) (hl : Lim l.length) :
    Calls Tryd.prog 18 #[str l] w (RTPost w (implTerm l)) := by
  have hl' := hl.le
  go_enter Tryd.func18, Tryd.ntmps18
  go_wp2_with fail
  have hs0 : Scan w.heap.size [] 97 l (w.alloc (.cells #[str l] 97)) := heap_new _ _
  refine (term_any _ _ _ 60 (by omega) l _ hs0 hl).mono ?_
  rintro en w1 ⟨v, r1, rfl, hb1, hs1, hn1, hy1⟩
  have hb : Below w.heap.size w w1 := ((Below.refl w.heap.size w).alloc (Nat.le_refl _) _).trans (hb1.toBelow (by simp) (fun i hi e => by omega))
  rcases ha : rdTm 60 l with _ | ⟨t, r1'⟩
  · obtain rfl := hn1 ha
    have Ha := Lib.hid ha; clear ha hn1 hy1
    go_wp2_with fail
    go_ret
    exact ⟨_, rfl, hb, fun _ => rfl, fun t h => by simp [implTerm, Ha.out] at h⟩
  obtain ⟨rfl, hra⟩ := hy1 _ _ ha
  obtain ⟨ba, rfl⟩ := encTm_ptr hra
  obtain ⟨etx, hok, _⟩ := rdTm_canon _ _ _ _ ha
  have hsz := sizeTm_len t hok
  have hlen := congrArg List.length etx
  rw [List.length_append] at hlen
  have hst : sizeTm t ≤ l.length := by omega
  have Ha := Lib.hid ha; clear ha hn1 hy1 etx hok hsz hlen
  have hc1 := hs1.cell
  have hz : w.heap.size < w1.heap.size := scan_lt hs1
  cases r1 with
  | cons x xs =>
    have hne : (!(x :: xs).isEmpty) = true := rfl
    go_wp2_with fail
    go_ret
    exact ⟨_, rfl, hb, fun _ => rfl, fun t h => by simp [implTerm, Ha.out] at h⟩
  | nil =>
    go_wp2_with fail
    refine (tmAtoms_any _ w1 (sizeTm t) t (Nat.le_refl _) (hl.mono hst) _ hra).mono ?_
    rintro en w2 ⟨rfl, e2⟩
    subst e2
    by_cases h60 : sizeTm t ≤ 60
    · go_wp2_with fail
      go_ret
      have HM : implTerm l = some t := by simp [implTerm, Ha.out, h60]
      exact ⟨_, rfl, hb, fun h => by simp [HM] at h, fun t' h => by rw [HM] at h; simp at h; subst h; exact (Rep.keep fun b o h ho => ⟨by have := h; simp at this; omega, ho⟩).1 _ _ hra⟩
    · go_wp2_with fail
      go_ret
      have HM : implTerm l = none := by simp [implTerm, Ha.out, h60]
      exact ⟨_, rfl, hb, fun _ => rfl, fun t' h => by rw [HM] at h; simp at h⟩

end Go.Proofs.YtohepefbogngfaaDoor
